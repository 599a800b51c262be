import Derived.Test.YtkkdhgibaimboaaDoorDBase
import Derived.IntWalk
set_option linter.unusedSimpArgs false
namespace Go.Av.Tryd
open Go.Proofs

/-- fix.Check -/
def L_fix_Check : LCode :=
  .seq (.reg [⟨some 2, .asg (.k (.d .nil)), none⟩]) (.seq (.seq (.reg [⟨some 3, .val (.cp (.t 0)), none⟩, ⟨some 4, .val (.bin .lss (.t 3) (.k (.d (.int .i64 (-1000000000))))), none⟩, 
  ⟨some 5, .val (.cp (.t 4)), none⟩, ⟨some 6, .val (.cp (.t 0)), some (5, false)⟩, ⟨some 7, .val (.bin .gtr (.t 6) (.k (.d (.int .i64 1000000000)))), some (5, false)⟩, ⟨some 8, 
  .val (.pick (.t 5) (.k (.d (.bool true))) (.t 7)), none⟩]) (.cond (.t 8) (.seq (.reg [⟨some 9, .val (.mkI 42 (.k (.d (.int .i64 1)))), none⟩, ⟨some 2, .asg (.t 9), none⟩]) .ret) 
  .skip)) (.seq (.reg [⟨some 2, .asg (.k (.d .nil)), none⟩]) .ret))
def R_fix_Check : List LRes := [.tmp 2]
theorem lift_fix_Check : Lifts Tryd.prog 26 10 L_fix_Check R_fix_Check := ⟨_, _, Tryd.func26, rfl, by kernel_rfl, by kernel_rfl, rfl⟩

/-- fix.floor -/
def L_fix_floor : LCode :=
  .seq (.reg [⟨some 2, .asg (.k (.d (.int .i64 0))), none⟩]) (.seq (.reg [⟨some 4, .val (.cp (.t 0)), none⟩, ⟨some 5, .val (.bin .quo (.t 4) (.k (.d (.int .i64 1000)))), none⟩, ⟨some 
  3, .asg (.t 5), none⟩]) (.seq (.seq (.reg [⟨some 6, .val (.cp (.t 0)), none⟩, ⟨some 7, .val (.bin .rem (.t 6) (.k (.d (.int .i64 1000)))), none⟩, ⟨some 8, .val (.bin .lss (.t 7) 
  (.k (.d (.int .i64 0)))), none⟩]) (.cond (.t 8) (.reg [⟨some 9, .val (.cp (.t 3)), none⟩, ⟨some 10, .val (.bin .sub (.t 9) (.k (.d (.int .i64 1)))), none⟩, ⟨some 3, .asg (.t 10), 
  none⟩]) .skip)) (.seq (.reg [⟨some 11, .val (.cp (.t 3)), none⟩, ⟨some 2, .asg (.t 11), none⟩]) .ret)))
def R_fix_floor : List LRes := [.tmp 2]
theorem lift_fix_floor : Lifts Tryd.prog 76 12 L_fix_floor R_fix_floor := ⟨_, _, Tryd.func76, rfl, by kernel_rfl, by kernel_rfl, rfl⟩

/-- fix.ok -/
def L_fix_ok : LCode :=
  .seq (.reg [⟨some 2, .asg (.k (.d (.int .i64 0))), none⟩, ⟨some 3, .asg (.k (.d .nil)), none⟩]) (.seq (.reg [⟨some 5, .val (.cp (.t 0)), none⟩, ⟨some 6, .call 26 [.t 5], none⟩, 
  ⟨some 4, .asg (.t 6), none⟩]) (.seq (.seq (.reg [⟨some 7, .val (.cp (.t 4)), none⟩, ⟨some 8, .val (.eqN 0 true (.t 7)), none⟩]) (.cond (.t 8) (.seq (.reg [⟨some 9, .val (.cp (.t 
  4)), none⟩, ⟨some 2, .asg (.k (.d (.int .i64 0))), none⟩, ⟨some 3, .asg (.t 9), none⟩]) .ret) .skip)) (.seq (.reg [⟨some 10, .val (.cp (.t 0)), none⟩, ⟨some 2, .asg (.t 10), 
  none⟩, ⟨some 3, .asg (.k (.d .nil)), none⟩]) .ret)))
def R_fix_ok : List LRes := [.tmp 2, .tmp 3]
theorem lift_fix_ok : Lifts Tryd.prog 77 11 L_fix_ok R_fix_ok := ⟨_, _, Tryd.func77, rfl, by kernel_rfl, by kernel_rfl, rfl⟩

/-- fix.two -/
def L_fix_two : LCode :=
  .seq (.reg [⟨some 10, .asg (.k (.d (.int .i64 0))), none⟩, ⟨some 11, .asg (.k (.d .nil)), none⟩]) (.seq (.seq (.reg [⟨some 14, .val (.cp (.t 0)), none⟩, ⟨some 15, .val (.cp (.t 
  1)), none⟩, ⟨some 16, .val (.cp (.t 2)), none⟩, ⟨some 17, .val (.cp (.t 3)), none⟩, ⟨some 18, .val (.cp (.t 4)), none⟩, ⟨some 19, .bsl 3 1 [.t 14, .t 15, .t 16, .t 17, .t 18], 
  none⟩, ⟨some 20, .val (.len false (.t 19)), none⟩, ⟨some 21, .val (.cp (.k (.d (.int .i64 0)))), none⟩]) (.block 0 (.loop (.seq (.reg [⟨some 22, .val (.bin .lss (.t 21) (.t 20)), 
  none⟩]) (.seq (.cond (.t 22) .skip (.exit 0)) (.seq (.block 1 (.seq (.reg [⟨some 23, .val (.ia 1 (.t 19) (.t 21)), none⟩, ⟨some 24, .val (.ld false 1 (.t 23)), none⟩, ⟨some 13, 
  .asg (.t 24), none⟩]) (.seq (.reg [⟨some 25, .val (.cp (.t 13)), none⟩, ⟨some 26, .call 26 [.t 25], none⟩, ⟨some 27, .val (.eqN 0 true (.t 26)), none⟩]) (.cond (.t 27) (.seq 
  (.reg [⟨some 28, .val (.mkI 42 (.k (.d (.int .i64 1)))), none⟩, ⟨some 10, .asg (.k (.d (.int .i64 0))), none⟩, ⟨some 11, .asg (.t 28), none⟩]) .ret) .skip)))) (.reg [⟨some 29, 
  .val (.bin .add (.t 21) (.k (.d (.int .i64 1)))), none⟩, ⟨some 21, .val (.cp (.t 29)), none⟩]))))))) (.seq (.reg [⟨some 30, .val (.cp (.t 0)), none⟩, ⟨some 31, .val (.cp (.t 1)), 
  none⟩, ⟨some 32, .val (.bin .mul (.t 30) (.t 31)), none⟩, ⟨some 33, .val (.cp (.t 2)), none⟩, ⟨some 34, .val (.cp (.t 3)), none⟩, ⟨some 35, .val (.bin .mul (.t 33) (.t 34)), 
  none⟩, ⟨some 36, .val (.bin .add (.t 32) (.t 35)), none⟩, ⟨some 37, .call 76 [.t 36], none⟩, ⟨some 38, .val (.cp (.t 4)), none⟩, ⟨some 39, .val (.bin .add (.t 37) (.t 38)), 
  none⟩, ⟨some 40, .call 77 [.t 39], none⟩, ⟨some 41, .val (.ext 0 (.t 40)), none⟩, ⟨some 42, .val (.ext 1 (.t 40)), none⟩, ⟨some 10, .asg (.t 41), none⟩, ⟨some 11, .asg (.t 42), 
  none⟩]) .ret))
def R_fix_two : List LRes := [.tmp 10, .tmp 11]
theorem lift_fix_two : Lifts Tryd.prog 79 43 L_fix_two R_fix_two := ⟨_, _, Tryd.func79, rfl, by kernel_rfl, by kernel_rfl, rfl⟩


/-! ### What they say -/
def err (k : Int) : D := .iface 42 (.int .i64 k)
def Lim (n : Int) : Prop := -1000000000 ≤ n ∧ n ≤ 1000000000
instance (n : Int) : Decidable (Lim n) := inferInstanceAs (Decidable (_ ∧ _))
def I (n : Int) : D := .int .i64 n
def i64 (n : Int) : Prop := -9223372036854775808 ≤ n ∧ n ≤ 9223372036854775807
def intE : Option Int → Res
  | some n => .tup [I n, .nil]
  | none => .tup [I 0, err 1]
def okF (n : Int) : Option Int := if Lim n then some n else none
def twoF (a x b y c : Int) : Option Int :=
  if Lim a ∧ Lim x ∧ Lim b ∧ Lim y ∧ Lim c then okF ((a * x + b * y) / 1000 + c) else none

theorem mul_bd {a b A B : Int} (h1 : -A ≤ a) (h2 : a ≤ A) (h3 : -B ≤ b) (h4 : b ≤ B) : -(A * B) ≤ a * b ∧ a * b ≤ A * B := by
  have e1 := Int.mul_nonneg (show 0 ≤ A - a by omega) (show 0 ≤ B - b by omega)
  have e2 := Int.mul_nonneg (show 0 ≤ A + a by omega) (show 0 ≤ B + b by omega)
  have e3 := Int.mul_nonneg (show 0 ≤ A - a by omega) (show 0 ≤ B + b by omega)
  have e4 := Int.mul_nonneg (show 0 ≤ A + a by omega) (show 0 ≤ B - b by omega)
  simp only [Int.sub_mul, Int.add_mul, Int.mul_sub, Int.mul_add] at e1 e2 e3 e4
  omega

theorem check_ok {n : Int} (h : Lim n) : PCall Tryd.prog 26 [.int .i64 n] (fun r => r = .one .nil) := by
  refine lift_fix_Check.call rfl ?_
  simp (maxSteps := 2000000) only [go_sem, Nat.reduceEqDiff, Nat.reduceBEq, Nat.reduceLT, Nat.reduceLeDiff, Nat.reduceAdd, Nat.reduceSub, Nat.reduceMul, ↓reduceIte, reduceCtorEq, Nat.reduceBNe, Nat.reduceSubDiff, Int.reduceLT, Int.reduceLE, Int.reduceEq, Int.reduceNeg, Int.reduceAdd, Int.reduceMul, Int.reduceSub, Int.reduceToNat, L_fix_Check, R_fix_Check]
  unfold Lim at h
  refine ⟨fun a b => ?_, fun a => ?_⟩ <;> exfalso <;> omega

theorem check_bad {n : Int} (h : ¬ Lim n) : PCall Tryd.prog 26 [.int .i64 n] (fun r => r = .one (err 1)) := by
  refine lift_fix_Check.call rfl ?_
  simp (maxSteps := 2000000) only [go_sem, Nat.reduceEqDiff, Nat.reduceBEq, Nat.reduceLT, Nat.reduceLeDiff, Nat.reduceAdd, Nat.reduceSub, Nat.reduceMul, ↓reduceIte, reduceCtorEq, Nat.reduceBNe, Nat.reduceSubDiff, Int.reduceLT, Int.reduceLE, Int.reduceEq, Int.reduceNeg, Int.reduceAdd, Int.reduceMul, Int.reduceSub, Int.reduceToNat, L_fix_Check, R_fix_Check]
  unfold Lim at h
  refine ⟨fun a => ⟨fun b => ?_, fun b => ?_⟩, fun a => ?_⟩ <;> first | rfl | (exfalso; omega)

theorem floor_call {n : Int} (h : i64 n) : PCall Tryd.prog 76 [.int .i64 n] (fun r => r = .one (I (n / 1000))) := by
  refine lift_fix_floor.call rfl ?_
  simp (maxSteps := 2000000) only [go_sem, Nat.reduceEqDiff, Nat.reduceBEq, Nat.reduceLT, Nat.reduceLeDiff, Nat.reduceAdd, Nat.reduceSub, Nat.reduceMul, ↓reduceIte, reduceCtorEq, Nat.reduceBNe, Nat.reduceSubDiff, Int.reduceLT, Int.reduceLE, Int.reduceEq, Int.reduceNeg, Int.reduceAdd, Int.reduceMul, Int.reduceSub, Int.reduceToNat, L_fix_floor, R_fix_floor]
  unfold i64 at h
  unfold I
  rw [Int.tmod_eq_emod, Int.tdiv_eq_ediv]
  have h1 : ((1000 : Int).natAbs : Int) = 1000 := rfl
  have h2 : (1000 : Int).sign = 1 := rfl
  by_cases hd : 0 ≤ n ∨ (1000 : Int) ∣ n
  · rw [if_pos hd, if_pos hd]
    refine ⟨fun a => ?_, fun a => ?_⟩
    · exfalso; omega
    · rw [IntWalk.i64_in _ (by omega)]; congr 2; omega
  · rw [if_neg hd, if_neg hd, h1, h2]
    refine ⟨fun a => ?_, fun a => ?_⟩
    · rw [IntWalk.i64_in (n / 1000 + 1) (by omega), IntWalk.i64_in _ (by omega)]; congr 2; omega
    · exfalso; omega

theorem ok_call (n : Int) : PCall Tryd.prog 77 [.int .i64 n] (fun r => r = intE (okF n)) := by
  refine lift_fix_ok.call rfl ?_
  simp (maxSteps := 2000000) only [go_sem, Nat.reduceEqDiff, Nat.reduceBEq, Nat.reduceLT, Nat.reduceLeDiff, Nat.reduceAdd, Nat.reduceSub, Nat.reduceMul, ↓reduceIte, reduceCtorEq, Nat.reduceBNe, Nat.reduceSubDiff, Int.reduceLT, Int.reduceLE, Int.reduceEq, Int.reduceNeg, Int.reduceAdd, Int.reduceMul, Int.reduceSub, Int.reduceToNat, L_fix_ok, R_fix_ok]
  unfold okF
  by_cases h : Lim n
  · refine CallG.of (check_ok h) ?_
    simp (maxSteps := 2000000) only [go_sem, Nat.reduceEqDiff, Nat.reduceBEq, Nat.reduceLT, Nat.reduceLeDiff, Nat.reduceAdd, Nat.reduceSub, Nat.reduceMul, ↓reduceIte, reduceCtorEq, Nat.reduceBNe, Nat.reduceSubDiff, Int.reduceLT, Int.reduceLE, Int.reduceEq, Int.reduceNeg, Int.reduceAdd, Int.reduceMul, Int.reduceSub, Int.reduceToNat, if_pos h]
    rfl
  · refine CallG.of (check_bad h) ?_
    simp (maxSteps := 2000000) only [go_sem, Nat.reduceEqDiff, Nat.reduceBEq, Nat.reduceLT, Nat.reduceLeDiff, Nat.reduceAdd, Nat.reduceSub, Nat.reduceMul, ↓reduceIte, reduceCtorEq, Nat.reduceBNe, Nat.reduceSubDiff, Int.reduceLT, Int.reduceLE, Int.reduceEq, Int.reduceNeg, Int.reduceAdd, Int.reduceMul, Int.reduceSub, Int.reduceToNat, if_neg h, err]
    rfl

theorem two_call {a x b y c : Int} : PCall Tryd.prog 79 [.int .i64 a, .int .i64 x, .int .i64 b, .int .i64 y, .int .i64 c] (fun r => r = intE (twoF a x b y c)) := by
  refine lift_fix_two.call rfl ?_
  unfold twoF
  simp (maxSteps := 2000000) only [go_sem, Nat.reduceEqDiff, Nat.reduceBEq, Nat.reduceLT, Nat.reduceLeDiff, Nat.reduceAdd, Nat.reduceSub, Nat.reduceMul, ↓reduceIte, reduceCtorEq, Nat.reduceBNe, Nat.reduceSubDiff, Int.reduceLT, Int.reduceLE, Int.reduceEq, Int.reduceNeg, Int.reduceAdd, Int.reduceMul, Int.reduceSub, Int.reduceToNat, L_fix_two, R_fix_two]
  refine run_unroll ?_
  simp (maxSteps := 2000000) only [go_sem, Nat.reduceEqDiff, Nat.reduceBEq, Nat.reduceLT, Nat.reduceLeDiff, Nat.reduceAdd, Nat.reduceSub, Nat.reduceMul, ↓reduceIte, reduceCtorEq, Nat.reduceBNe, Nat.reduceSubDiff, Int.reduceLT, Int.reduceLE, Int.reduceEq, Int.reduceNeg, Int.reduceAdd, Int.reduceMul, Int.reduceSub, Int.reduceToNat, getI]
  by_cases ha : Lim a
  rotate_left
  · refine CallG.of (check_bad ha) ?_
    simp (maxSteps := 2000000) only [go_sem, Nat.reduceEqDiff, Nat.reduceBEq, Nat.reduceLT, Nat.reduceLeDiff, Nat.reduceAdd, Nat.reduceSub, Nat.reduceMul, ↓reduceIte, reduceCtorEq, Nat.reduceBNe, Nat.reduceSubDiff, Int.reduceLT, Int.reduceLE, Int.reduceEq, Int.reduceNeg, Int.reduceAdd, Int.reduceMul, Int.reduceSub, Int.reduceToNat, err, ha]
    rfl
  refine CallG.of (check_ok ha) ?_
  simp (maxSteps := 2000000) only [go_sem, Nat.reduceEqDiff, Nat.reduceBEq, Nat.reduceLT, Nat.reduceLeDiff, Nat.reduceAdd, Nat.reduceSub, Nat.reduceMul, ↓reduceIte, reduceCtorEq, Nat.reduceBNe, Nat.reduceSubDiff, Int.reduceLT, Int.reduceLE, Int.reduceEq, Int.reduceNeg, Int.reduceAdd, Int.reduceMul, Int.reduceSub, Int.reduceToNat]
  refine run_unroll ?_
  simp (maxSteps := 2000000) only [go_sem, Nat.reduceEqDiff, Nat.reduceBEq, Nat.reduceLT, Nat.reduceLeDiff, Nat.reduceAdd, Nat.reduceSub, Nat.reduceMul, ↓reduceIte, reduceCtorEq, Nat.reduceBNe, Nat.reduceSubDiff, Int.reduceLT, Int.reduceLE, Int.reduceEq, Int.reduceNeg, Int.reduceAdd, Int.reduceMul, Int.reduceSub, Int.reduceToNat, getI]
  by_cases hx : Lim x
  rotate_left
  · refine CallG.of (check_bad hx) ?_
    simp (maxSteps := 2000000) only [go_sem, Nat.reduceEqDiff, Nat.reduceBEq, Nat.reduceLT, Nat.reduceLeDiff, Nat.reduceAdd, Nat.reduceSub, Nat.reduceMul, ↓reduceIte, reduceCtorEq, Nat.reduceBNe, Nat.reduceSubDiff, Int.reduceLT, Int.reduceLE, Int.reduceEq, Int.reduceNeg, Int.reduceAdd, Int.reduceMul, Int.reduceSub, Int.reduceToNat, err, hx]
    rfl
  refine CallG.of (check_ok hx) ?_
  simp (maxSteps := 2000000) only [go_sem, Nat.reduceEqDiff, Nat.reduceBEq, Nat.reduceLT, Nat.reduceLeDiff, Nat.reduceAdd, Nat.reduceSub, Nat.reduceMul, ↓reduceIte, reduceCtorEq, Nat.reduceBNe, Nat.reduceSubDiff, Int.reduceLT, Int.reduceLE, Int.reduceEq, Int.reduceNeg, Int.reduceAdd, Int.reduceMul, Int.reduceSub, Int.reduceToNat]
  refine run_unroll ?_
  simp (maxSteps := 2000000) only [go_sem, Nat.reduceEqDiff, Nat.reduceBEq, Nat.reduceLT, Nat.reduceLeDiff, Nat.reduceAdd, Nat.reduceSub, Nat.reduceMul, ↓reduceIte, reduceCtorEq, Nat.reduceBNe, Nat.reduceSubDiff, Int.reduceLT, Int.reduceLE, Int.reduceEq, Int.reduceNeg, Int.reduceAdd, Int.reduceMul, Int.reduceSub, Int.reduceToNat, getI]
  by_cases hb : Lim b
  rotate_left
  · refine CallG.of (check_bad hb) ?_
    simp (maxSteps := 2000000) only [go_sem, Nat.reduceEqDiff, Nat.reduceBEq, Nat.reduceLT, Nat.reduceLeDiff, Nat.reduceAdd, Nat.reduceSub, Nat.reduceMul, ↓reduceIte, reduceCtorEq, Nat.reduceBNe, Nat.reduceSubDiff, Int.reduceLT, Int.reduceLE, Int.reduceEq, Int.reduceNeg, Int.reduceAdd, Int.reduceMul, Int.reduceSub, Int.reduceToNat, err, hb]
    rfl
  refine CallG.of (check_ok hb) ?_
  simp (maxSteps := 2000000) only [go_sem, Nat.reduceEqDiff, Nat.reduceBEq, Nat.reduceLT, Nat.reduceLeDiff, Nat.reduceAdd, Nat.reduceSub, Nat.reduceMul, ↓reduceIte, reduceCtorEq, Nat.reduceBNe, Nat.reduceSubDiff, Int.reduceLT, Int.reduceLE, Int.reduceEq, Int.reduceNeg, Int.reduceAdd, Int.reduceMul, Int.reduceSub, Int.reduceToNat]
  refine run_unroll ?_
  simp (maxSteps := 2000000) only [go_sem, Nat.reduceEqDiff, Nat.reduceBEq, Nat.reduceLT, Nat.reduceLeDiff, Nat.reduceAdd, Nat.reduceSub, Nat.reduceMul, ↓reduceIte, reduceCtorEq, Nat.reduceBNe, Nat.reduceSubDiff, Int.reduceLT, Int.reduceLE, Int.reduceEq, Int.reduceNeg, Int.reduceAdd, Int.reduceMul, Int.reduceSub, Int.reduceToNat, getI]
  by_cases hy : Lim y
  rotate_left
  · refine CallG.of (check_bad hy) ?_
    simp (maxSteps := 2000000) only [go_sem, Nat.reduceEqDiff, Nat.reduceBEq, Nat.reduceLT, Nat.reduceLeDiff, Nat.reduceAdd, Nat.reduceSub, Nat.reduceMul, ↓reduceIte, reduceCtorEq, Nat.reduceBNe, Nat.reduceSubDiff, Int.reduceLT, Int.reduceLE, Int.reduceEq, Int.reduceNeg, Int.reduceAdd, Int.reduceMul, Int.reduceSub, Int.reduceToNat, err, hy]
    rfl
  refine CallG.of (check_ok hy) ?_
  simp (maxSteps := 2000000) only [go_sem, Nat.reduceEqDiff, Nat.reduceBEq, Nat.reduceLT, Nat.reduceLeDiff, Nat.reduceAdd, Nat.reduceSub, Nat.reduceMul, ↓reduceIte, reduceCtorEq, Nat.reduceBNe, Nat.reduceSubDiff, Int.reduceLT, Int.reduceLE, Int.reduceEq, Int.reduceNeg, Int.reduceAdd, Int.reduceMul, Int.reduceSub, Int.reduceToNat]
  refine run_unroll ?_
  simp (maxSteps := 2000000) only [go_sem, Nat.reduceEqDiff, Nat.reduceBEq, Nat.reduceLT, Nat.reduceLeDiff, Nat.reduceAdd, Nat.reduceSub, Nat.reduceMul, ↓reduceIte, reduceCtorEq, Nat.reduceBNe, Nat.reduceSubDiff, Int.reduceLT, Int.reduceLE, Int.reduceEq, Int.reduceNeg, Int.reduceAdd, Int.reduceMul, Int.reduceSub, Int.reduceToNat, getI]
  by_cases hc : Lim c
  rotate_left
  · refine CallG.of (check_bad hc) ?_
    simp (maxSteps := 2000000) only [go_sem, Nat.reduceEqDiff, Nat.reduceBEq, Nat.reduceLT, Nat.reduceLeDiff, Nat.reduceAdd, Nat.reduceSub, Nat.reduceMul, ↓reduceIte, reduceCtorEq, Nat.reduceBNe, Nat.reduceSubDiff, Int.reduceLT, Int.reduceLE, Int.reduceEq, Int.reduceNeg, Int.reduceAdd, Int.reduceMul, Int.reduceSub, Int.reduceToNat, err, hc]
    rfl
  refine CallG.of (check_ok hc) ?_
  simp (maxSteps := 2000000) only [go_sem, Nat.reduceEqDiff, Nat.reduceBEq, Nat.reduceLT, Nat.reduceLeDiff, Nat.reduceAdd, Nat.reduceSub, Nat.reduceMul, ↓reduceIte, reduceCtorEq, Nat.reduceBNe, Nat.reduceSubDiff, Int.reduceLT, Int.reduceLE, Int.reduceEq, Int.reduceNeg, Int.reduceAdd, Int.reduceMul, Int.reduceSub, Int.reduceToNat]
  refine run_unroll ?_
  have b1 := mul_bd ha.1 ha.2 hx.1 hx.2
  have b2 := mul_bd hb.1 hb.2 hy.1 hy.2
  have w1 : IntKind.i64.wrap (a * x) = a * x := IntWalk.i64_in _ (by omega)
  have w2 : IntKind.i64.wrap (b * y) = b * y := IntWalk.i64_in _ (by omega)
  have w3 : IntKind.i64.wrap (a * x + b * y) = a * x + b * y := IntWalk.i64_in _ (by omega)
  have w4 : IntKind.i64.wrap ((a * x + b * y) / 1000 + c) = (a * x + b * y) / 1000 + c := IntWalk.i64_in _ (by unfold Lim at hc; omega)
  simp (maxSteps := 2000000) only [go_sem, Nat.reduceEqDiff, Nat.reduceBEq, Nat.reduceLT, Nat.reduceLeDiff, Nat.reduceAdd, Nat.reduceSub, Nat.reduceMul, ↓reduceIte, reduceCtorEq, Nat.reduceBNe, Nat.reduceSubDiff, Int.reduceLT, Int.reduceLE, Int.reduceEq, Int.reduceNeg, Int.reduceAdd, Int.reduceMul, Int.reduceSub, Int.reduceToNat, w1, w2, w3]
  refine CallG.of (floor_call (by unfold i64; omega)) ?_
  simp (maxSteps := 2000000) only [go_sem, Nat.reduceEqDiff, Nat.reduceBEq, Nat.reduceLT, Nat.reduceLeDiff, Nat.reduceAdd, Nat.reduceSub, Nat.reduceMul, ↓reduceIte, reduceCtorEq, Nat.reduceBNe, Nat.reduceSubDiff, Int.reduceLT, Int.reduceLE, Int.reduceEq, Int.reduceNeg, Int.reduceAdd, Int.reduceMul, Int.reduceSub, Int.reduceToNat, I, w4]
  refine CallG.of (ok_call _) ?_
  cases hr : okF ((a * x + b * y) / 1000 + c) with
  | none =>
    simp (maxSteps := 2000000) only [go_sem, Nat.reduceEqDiff, Nat.reduceBEq, Nat.reduceLT, Nat.reduceLeDiff, Nat.reduceAdd, Nat.reduceSub, Nat.reduceMul, ↓reduceIte, reduceCtorEq, Nat.reduceBNe, Nat.reduceSubDiff, Int.reduceLT, Int.reduceLE, Int.reduceEq, Int.reduceNeg, Int.reduceAdd, Int.reduceMul, Int.reduceSub, Int.reduceToNat, intE, I, err, ha, hx, hb, hy, hc, hr]
  | some n =>
    simp (maxSteps := 2000000) only [go_sem, Nat.reduceEqDiff, Nat.reduceBEq, Nat.reduceLT, Nat.reduceLeDiff, Nat.reduceAdd, Nat.reduceSub, Nat.reduceMul, ↓reduceIte, reduceCtorEq, Nat.reduceBNe, Nat.reduceSubDiff, Int.reduceLT, Int.reduceLE, Int.reduceEq, Int.reduceNeg, Int.reduceAdd, Int.reduceMul, Int.reduceSub, Int.reduceToNat, intE, I, err, ha, hx, hb, hy, hc, hr]

/-- fix.Unit -/
def L_fix_Unit : LCode :=
  .seq (.reg [⟨some 0, .allo [.int .i64 0, .int .i64 0, .int .i64 0, .int .i64 0, .int .i64 0, .int .i64 0], none⟩]) (.seq (.reg [⟨some 1, .val (.bld [(0, 1), (1, 1), (2, 1), (3, 1), 
  (4, 1), (5, 1)] [.int .i64 0, .int .i64 0, .int .i64 0, .int .i64 0, .int .i64 0, .int .i64 0] [(0, .k (.d (.int .i64 1000))), (3, .k (.d (.int .i64 1000)))]), none⟩, ⟨none, .st 
  6 (.t 0) (.t 1), none⟩]) .ret)
def R_fix_Unit : List LRes := [.cell 0 true 6]
theorem lift_fix_Unit : Lifts Tryd.prog 34 2 L_fix_Unit R_fix_Unit := ⟨_, _, Tryd.func34, rfl, by kernel_rfl, by kernel_rfl, rfl⟩

/-- fix.Apply -/
def L_fix_Apply : LCode :=
  .seq (.reg [⟨some 2, .box (.t 0), none⟩, ⟨some 3, .box (.t 1), none⟩, ⟨some 4, .allo [.int .i64 0, .int .i64 0], none⟩, ⟨some 5, .asg (.k (.d .nil)), none⟩]) (.seq (.reg [⟨some 10, 
  .val (.fa 0 (.t 2)), none⟩, ⟨some 11, .val (.ld false 1 (.t 10)), none⟩, ⟨some 12, .val (.fa 0 (.t 3)), none⟩, ⟨some 13, .val (.ld false 1 (.t 12)), none⟩, ⟨some 14, .val (.fa 2 
  (.t 2)), none⟩, ⟨some 15, .val (.ld false 1 (.t 14)), none⟩, ⟨some 16, .val (.fa 1 (.t 3)), none⟩, ⟨some 17, .val (.ld false 1 (.t 16)), none⟩, ⟨some 18, .val (.fa 4 (.t 2)), 
  none⟩, ⟨some 19, .val (.ld false 1 (.t 18)), none⟩, ⟨some 20, .call 79 [.t 11, .t 13, .t 15, .t 17, .t 19], none⟩, ⟨some 9, .val (.cp (.t 20)), none⟩, ⟨some 21, .val (.ext 0 (.t 
  9)), none⟩, ⟨some 22, .val (.ext 1 (.t 9)), none⟩, ⟨some 6, .asg (.t 21), none⟩, ⟨some 7, .asg (.t 22), none⟩]) (.seq (.seq (.reg [⟨some 23, .val (.cp (.t 7)), none⟩, ⟨some 24, 
  .val (.eqN 0 true (.t 23)), none⟩]) (.cond (.t 24) (.seq (.reg [⟨some 25, .val (.bld [(0, 1), (1, 1)] [.int .i64 0, .int .i64 0] []), none⟩, ⟨some 26, .val (.cp (.t 7)), none⟩, 
  ⟨none, .st 2 (.t 4) (.t 25), none⟩, ⟨some 5, .asg (.t 26), none⟩]) .ret) .skip)) (.seq (.reg [⟨some 28, .val (.fa 1 (.t 2)), none⟩, ⟨some 29, .val (.ld false 1 (.t 28)), none⟩, 
  ⟨some 30, .val (.fa 0 (.t 3)), none⟩, ⟨some 31, .val (.ld false 1 (.t 30)), none⟩, ⟨some 32, .val (.fa 3 (.t 2)), none⟩, ⟨some 33, .val (.ld false 1 (.t 32)), none⟩, ⟨some 34, 
  .val (.fa 1 (.t 3)), none⟩, ⟨some 35, .val (.ld false 1 (.t 34)), none⟩, ⟨some 36, .val (.fa 5 (.t 2)), none⟩, ⟨some 37, .val (.ld false 1 (.t 36)), none⟩, ⟨some 38, .call 79 [.t 
  29, .t 31, .t 33, .t 35, .t 37], none⟩, ⟨some 27, .val (.cp (.t 38)), none⟩, ⟨some 39, .val (.ext 0 (.t 27)), none⟩, ⟨some 40, .val (.ext 1 (.t 27)), none⟩, ⟨some 8, .asg (.t 
  39), none⟩, ⟨some 7, .asg (.t 40), none⟩]) (.seq (.seq (.reg [⟨some 41, .val (.cp (.t 7)), none⟩, ⟨some 42, .val (.eqN 0 true (.t 41)), none⟩]) (.cond (.t 42) (.seq (.reg [⟨some 
  43, .val (.bld [(0, 1), (1, 1)] [.int .i64 0, .int .i64 0] []), none⟩, ⟨some 44, .val (.cp (.t 7)), none⟩, ⟨none, .st 2 (.t 4) (.t 43), none⟩, ⟨some 5, .asg (.t 44), none⟩]) 
  .ret) .skip)) (.seq (.reg [⟨some 45, .val (.cp (.t 6)), none⟩, ⟨some 46, .val (.cp (.t 8)), none⟩, ⟨some 47, .val (.bld [(0, 1), (1, 1)] [.int .i64 0, .int .i64 0] [(0, .t 45), 
  (1, .t 46)]), none⟩, ⟨none, .st 2 (.t 4) (.t 47), none⟩, ⟨some 5, .asg (.k (.d .nil)), none⟩]) .ret)))))
def R_fix_Apply : List LRes := [.cell 4 true 2, .tmp 5]
theorem lift_fix_Apply : Lifts Tryd.prog 39 48 L_fix_Apply R_fix_Apply := ⟨_, _, Tryd.func39, rfl, by kernel_rfl, by kernel_rfl, rfl⟩

/-- fix.Concat -/
def L_fix_Concat : LCode :=
  .seq (.reg [⟨some 2, .box (.t 0), none⟩, ⟨some 3, .box (.t 1), none⟩, ⟨some 4, .allo [.int .i64 0, .int .i64 0, .int .i64 0, .int .i64 0, .int .i64 0, .int .i64 0], none⟩, ⟨some 5, 
  .asg (.k (.d .nil)), none⟩]) (.seq (.reg [⟨some 6, .allo [.int .i64 0, .int .i64 0, .int .i64 0, .int .i64 0, .int .i64 0, .int .i64 0], none⟩]) (.seq (.dead [13, 14, 15, 16, 17, 
  18, 19, 20, 21, 22, 23, 24, 25, 26, 27, 28] (.reg [⟨some 13, .val (.fa 0 (.t 2)), none⟩, ⟨some 14, .val (.ld false 1 (.t 13)), none⟩, ⟨some 15, .val (.fa 1 (.t 2)), none⟩, ⟨some 
  16, .val (.ld false 1 (.t 15)), none⟩, ⟨some 17, .val (.bld [(0, 1), (1, 1), (2, 1)] [.int .i64 0, .int .i64 0, .int .i64 0] [(0, .t 14), (1, .t 16), (2, .k (.d (.int .i64 
  0)))]), none⟩, ⟨some 18, .val (.fa 2 (.t 2)), none⟩, ⟨some 19, .val (.ld false 1 (.t 18)), none⟩, ⟨some 20, .val (.fa 3 (.t 2)), none⟩, ⟨some 21, .val (.ld false 1 (.t 20)), 
  none⟩, ⟨some 22, .val (.bld [(0, 1), (1, 1), (2, 1)] [.int .i64 0, .int .i64 0, .int .i64 0] [(0, .t 19), (1, .t 21), (2, .k (.d (.int .i64 0)))]), none⟩, ⟨some 23, .val (.fa 4 
  (.t 2)), none⟩, ⟨some 24, .val (.ld false 1 (.t 23)), none⟩, ⟨some 25, .val (.fa 5 (.t 2)), none⟩, ⟨some 26, .val (.ld false 1 (.t 25)), none⟩, ⟨some 27, .val (.bld [(0, 1), (1, 
  1), (2, 1)] [.int .i64 0, .int .i64 0, .int .i64 0] [(0, .t 24), (1, .t 26), (2, .k (.d (.int .i64 1)))]), none⟩, ⟨some 28, .bsl 122 3 [.t 17, .t 22, .t 27], none⟩, ⟨some 7, .asg 
  (.t 28), none⟩])) (.seq (.seq (.reg [⟨some 29, .val (.cp (.t 7)), none⟩, ⟨some 30, .val (.len false (.t 29)), none⟩, ⟨some 31, .val (.cp (.k (.d (.int .i64 0)))), none⟩]) (.block 
  0 (.loop (.seq (.reg [⟨some 32, .val (.bin .lss (.t 31) (.t 30)), none⟩]) (.seq (.cond (.t 32) .skip (.exit 0)) (.seq (.block 1 (.seq (.dead [33, 34, 35] (.reg [⟨some 33, .val 
  (.cp (.t 31)), none⟩, ⟨some 34, .val (.ia 3 (.t 29) (.t 31)), none⟩, ⟨some 35, .val (.ld true 3 (.t 34)), none⟩, ⟨some 9, .allo [.int .i64 0, .int .i64 0, .int .i64 0], none⟩, 
  ⟨some 8, .asg (.t 33), none⟩, ⟨none, .st 3 (.t 9) (.t 35), none⟩])) (.seq (.dead [36, 37, 38, 39, 40, 41, 42, 43, 44, 45, 46, 47, 48, 49, 50, 51, 52] (.reg [⟨some 37, .val (.iaA 
  3 1 (.t 9) (.k (.d (.int .i64 0)))), none⟩, ⟨some 38, .val (.ld false 1 (.t 37)), none⟩, ⟨some 39, .val (.fa 0 (.t 3)), none⟩, ⟨some 40, .val (.ld false 1 (.t 39)), none⟩, ⟨some 
  41, .val (.iaA 3 1 (.t 9) (.k (.d (.int .i64 1)))), none⟩, ⟨some 42, .val (.ld false 1 (.t 41)), none⟩, ⟨some 43, .val (.fa 2 (.t 3)), none⟩, ⟨some 44, .val (.ld false 1 (.t 
  43)), none⟩, ⟨some 45, .val (.iaA 3 1 (.t 9) (.k (.d (.int .i64 2)))), none⟩, ⟨some 46, .val (.ld false 1 (.t 45)), none⟩, ⟨some 47, .val (.fa 4 (.t 3)), none⟩, ⟨some 48, .val 
  (.ld false 1 (.t 47)), none⟩, ⟨some 49, .val (.bin .mul (.t 46) (.t 48)), none⟩, ⟨some 50, .call 79 [.t 38, .t 40, .t 42, .t 44, .t 49], none⟩, ⟨some 36, .val (.cp (.t 50)), 
  none⟩, ⟨some 51, .val (.ext 0 (.t 36)), none⟩, ⟨some 52, .val (.ext 1 (.t 36)), none⟩, ⟨some 10, .asg (.t 51), none⟩, ⟨some 11, .asg (.t 52), none⟩])) (.seq (.seq (.dead [53] 
  (.reg [⟨some 53, .val (.cp (.t 11)), none⟩, ⟨some 54, .val (.eqN 0 true (.t 53)), none⟩])) (.cond (.t 54) (.seq (.dead [55, 56] (.reg [⟨some 55, .val (.bld [(0, 1), (1, 1), (2, 
  1), (3, 1), (4, 1), (5, 1)] [.int .i64 0, .int .i64 0, .int .i64 0, .int .i64 0, .int .i64 0, .int .i64 0] []), none⟩, ⟨some 56, .val (.cp (.t 11)), none⟩, ⟨none, .st 6 (.t 4) 
  (.t 55), none⟩, ⟨some 5, .asg (.t 56), none⟩])) .ret) .skip)) (.seq (.dead [57, 58, 59, 60, 61, 62, 63, 64, 65, 66, 67, 68, 69, 70, 71, 72, 73] (.reg [⟨some 58, .val (.iaA 3 1 
  (.t 9) (.k (.d (.int .i64 0)))), none⟩, ⟨some 59, .val (.ld false 1 (.t 58)), none⟩, ⟨some 60, .val (.fa 1 (.t 3)), none⟩, ⟨some 61, .val (.ld false 1 (.t 60)), none⟩, ⟨some 62, 
  .val (.iaA 3 1 (.t 9) (.k (.d (.int .i64 1)))), none⟩, ⟨some 63, .val (.ld false 1 (.t 62)), none⟩, ⟨some 64, .val (.fa 3 (.t 3)), none⟩, ⟨some 65, .val (.ld false 1 (.t 64)), 
  none⟩, ⟨some 66, .val (.iaA 3 1 (.t 9) (.k (.d (.int .i64 2)))), none⟩, ⟨some 67, .val (.ld false 1 (.t 66)), none⟩, ⟨some 68, .val (.fa 5 (.t 3)), none⟩, ⟨some 69, .val (.ld 
  false 1 (.t 68)), none⟩, ⟨some 70, .val (.bin .mul (.t 67) (.t 69)), none⟩, ⟨some 71, .call 79 [.t 59, .t 61, .t 63, .t 65, .t 70], none⟩, ⟨some 57, .val (.cp (.t 71)), none⟩, 
  ⟨some 72, .val (.ext 0 (.t 57)), none⟩, ⟨some 73, .val (.ext 1 (.t 57)), none⟩, ⟨some 12, .asg (.t 72), none⟩, ⟨some 11, .asg (.t 73), none⟩])) (.seq (.seq (.dead [74] (.reg 
  [⟨some 74, .val (.cp (.t 11)), none⟩, ⟨some 75, .val (.eqN 0 true (.t 74)), none⟩])) (.cond (.t 75) (.seq (.dead [76, 77] (.reg [⟨some 76, .val (.bld [(0, 1), (1, 1), (2, 1), (3, 
  1), (4, 1), (5, 1)] [.int .i64 0, .int .i64 0, .int .i64 0, .int .i64 0, .int .i64 0, .int .i64 0] []), none⟩, ⟨some 77, .val (.cp (.t 11)), none⟩, ⟨none, .st 6 (.t 4) (.t 76), 
  none⟩, ⟨some 5, .asg (.t 77), none⟩])) .ret) .skip)) (.dead [78, 79, 80, 81, 82, 83, 84, 85, 86] (.reg [⟨some 78, .val (.cp (.t 8)), none⟩, ⟨some 79, .val (.bin .mul (.k (.d 
  (.int .i64 2))) (.t 78)), none⟩, ⟨some 80, .val (.cp (.t 8)), none⟩, ⟨some 81, .val (.bin .mul (.k (.d (.int .i64 2))) (.t 80)), none⟩, ⟨some 82, .val (.bin .add (.t 81) (.k (.d 
  (.int .i64 1)))), none⟩, ⟨some 83, .val (.cp (.t 10)), none⟩, ⟨some 84, .val (.cp (.t 12)), none⟩, ⟨some 85, .val (.iaA 6 1 (.t 6) (.t 79)), none⟩, ⟨none, .st 1 (.t 85) (.t 83), 
  none⟩, ⟨some 86, .val (.iaA 6 1 (.t 6) (.t 82)), none⟩, ⟨none, .st 1 (.t 86) (.t 84), none⟩])))))))) (.dead [87] (.reg [⟨some 87, .val (.bin .add (.t 31) (.k (.d (.int .i64 
  1)))), none⟩, ⟨some 31, .val (.cp (.t 87)), none⟩])))))))) (.seq (.dead [88, 89, 90, 91, 92, 93, 94, 95, 96, 97, 98, 99, 100] (.reg [⟨some 88, .val (.iaA 6 1 (.t 6) (.k (.d (.int 
  .i64 0)))), none⟩, ⟨some 89, .val (.ld false 1 (.t 88)), none⟩, ⟨some 90, .val (.iaA 6 1 (.t 6) (.k (.d (.int .i64 1)))), none⟩, ⟨some 91, .val (.ld false 1 (.t 90)), none⟩, 
  ⟨some 92, .val (.iaA 6 1 (.t 6) (.k (.d (.int .i64 2)))), none⟩, ⟨some 93, .val (.ld false 1 (.t 92)), none⟩, ⟨some 94, .val (.iaA 6 1 (.t 6) (.k (.d (.int .i64 3)))), none⟩, 
  ⟨some 95, .val (.ld false 1 (.t 94)), none⟩, ⟨some 96, .val (.iaA 6 1 (.t 6) (.k (.d (.int .i64 4)))), none⟩, ⟨some 97, .val (.ld false 1 (.t 96)), none⟩, ⟨some 98, .val (.iaA 6 
  1 (.t 6) (.k (.d (.int .i64 5)))), none⟩, ⟨some 99, .val (.ld false 1 (.t 98)), none⟩, ⟨some 100, .val (.bld [(0, 1), (1, 1), (2, 1), (3, 1), (4, 1), (5, 1)] [.int .i64 0, .int 
  .i64 0, .int .i64 0, .int .i64 0, .int .i64 0, .int .i64 0] [(0, .t 89), (1, .t 91), (2, .t 93), (3, .t 95), (4, .t 97), (5, .t 99)]), none⟩, ⟨none, .st 6 (.t 4) (.t 100), none⟩, 
  ⟨some 5, .asg (.k (.d .nil)), none⟩])) .ret))))
def R_fix_Concat : List LRes := [.cell 4 true 6, .tmp 5]
theorem lift_fix_Concat : Lifts Tryd.prog 35 101 L_fix_Concat R_fix_Concat := ⟨_, _, Tryd.func35, rfl, by kernel_rfl, by kernel_rfl, rfl⟩


def mat (a b c d e f : Int) : D := .agg [I a, I b, I c, I d, I e, I f]
def pt (x y : Int) : D := .agg [I x, I y]

theorem unit_call : PCall Tryd.prog 34 [] (fun r => r = .one (mat 1000 0 0 1000 0 0)) := by
  refine lift_fix_Unit.call rfl ?_
  simp (maxSteps := 2000000) only [go_sem, Nat.reduceEqDiff, Nat.reduceBEq, Nat.reduceLT, Nat.reduceLeDiff, Nat.reduceAdd, Nat.reduceSub, Nat.reduceMul, ↓reduceIte, reduceCtorEq, Nat.reduceBNe, Nat.reduceSubDiff, Int.reduceLT, Int.reduceLE, Int.reduceEq, Int.reduceNeg, Int.reduceAdd, Int.reduceMul, Int.reduceSub, Int.reduceToNat, L_fix_Unit, R_fix_Unit, mat, I]

def ptE : Option (Int × Int) → Res
  | some (x, y) => .tup [pt x y, .nil]
  | none => .tup [pt 0 0, err 1]
def applyF (a b c d e f x y : Int) : Option (Int × Int) :=
  match twoF a x c y e, twoF b x d y f with
  | some x, some y => some (x, y)
  | _, _ => none

theorem apply_call {a b c d e f x y : Int} : PCall Tryd.prog 39 [mat a b c d e f, pt x y] (fun r => r = ptE (applyF a b c d e f x y)) := by
  refine lift_fix_Apply.call rfl ?_
  unfold applyF
  simp (maxSteps := 2000000) only [go_sem, Nat.reduceEqDiff, Nat.reduceBEq, Nat.reduceLT, Nat.reduceLeDiff, Nat.reduceAdd, Nat.reduceSub, Nat.reduceMul, ↓reduceIte, reduceCtorEq, Nat.reduceBNe, Nat.reduceSubDiff, Int.reduceLT, Int.reduceLE, Int.reduceEq, Int.reduceNeg, Int.reduceAdd, Int.reduceMul, Int.reduceSub, Int.reduceToNat, L_fix_Apply, R_fix_Apply, mat, pt, I]
  refine CallG.of two_call ?_
  cases h1 : twoF a x c y e with
  | none =>
    simp (maxSteps := 2000000) only [go_sem, Nat.reduceEqDiff, Nat.reduceBEq, Nat.reduceLT, Nat.reduceLeDiff, Nat.reduceAdd, Nat.reduceSub, Nat.reduceMul, ↓reduceIte, reduceCtorEq, Nat.reduceBNe, Nat.reduceSubDiff, Int.reduceLT, Int.reduceLE, Int.reduceEq, Int.reduceNeg, Int.reduceAdd, Int.reduceMul, Int.reduceSub, Int.reduceToNat, intE, I, err]
    rfl
  | some u =>
    simp (maxSteps := 2000000) only [go_sem, Nat.reduceEqDiff, Nat.reduceBEq, Nat.reduceLT, Nat.reduceLeDiff, Nat.reduceAdd, Nat.reduceSub, Nat.reduceMul, ↓reduceIte, reduceCtorEq, Nat.reduceBNe, Nat.reduceSubDiff, Int.reduceLT, Int.reduceLE, Int.reduceEq, Int.reduceNeg, Int.reduceAdd, Int.reduceMul, Int.reduceSub, Int.reduceToNat, intE, I]
    refine CallG.of two_call ?_
    cases h2 : twoF b x d y f with
    | none =>
      simp (maxSteps := 2000000) only [go_sem, Nat.reduceEqDiff, Nat.reduceBEq, Nat.reduceLT, Nat.reduceLeDiff, Nat.reduceAdd, Nat.reduceSub, Nat.reduceMul, ↓reduceIte, reduceCtorEq, Nat.reduceBNe, Nat.reduceSubDiff, Int.reduceLT, Int.reduceLE, Int.reduceEq, Int.reduceNeg, Int.reduceAdd, Int.reduceMul, Int.reduceSub, Int.reduceToNat, intE, I, err]
      rfl
    | some v =>
      simp (maxSteps := 2000000) only [go_sem, Nat.reduceEqDiff, Nat.reduceBEq, Nat.reduceLT, Nat.reduceLeDiff, Nat.reduceAdd, Nat.reduceSub, Nat.reduceMul, ↓reduceIte, reduceCtorEq, Nat.reduceBNe, Nat.reduceSubDiff, Int.reduceLT, Int.reduceLE, Int.reduceEq, Int.reduceNeg, Int.reduceAdd, Int.reduceMul, Int.reduceSub, Int.reduceToNat, intE, I]
      rfl

def matE : Option (Int × Int × Int × Int × Int × Int) → Res
  | some (a, b, c, d, e, f) => .tup [mat a b c d e f, .nil]
  | none => .tup [mat 0 0 0 0 0 0, err 1]
def rowF (a b c p q r s t u : Int) : Option (Int × Int) :=
  match twoF a p b r (IntKind.i64.wrap (c * t)), twoF a q b s (IntKind.i64.wrap (c * u)) with
  | some x, some y => some (x, y)
  | _, _ => none
def concatF (a b c d e f p q r s t u : Int) : Option (Int × Int × Int × Int × Int × Int) :=
  match rowF a b 0 p q r s t u, rowF c d 0 p q r s t u, rowF e f 1 p q r s t u with
  | some (x, y), some (z, k), some (v, w) => some (x, y, z, k, v, w)
  | _, _, _ => none

theorem concat_call {a b c d e f p q r s t u : Int} : PCall Tryd.prog 35 [mat a b c d e f, mat p q r s t u] (fun x => x = matE (concatF a b c d e f p q r s t u)) := by
  refine lift_fix_Concat.call rfl ?_
  unfold concatF rowF
  simp (maxSteps := 2000000) only [go_sem, Nat.reduceEqDiff, Nat.reduceBEq, Nat.reduceLT, Nat.reduceLeDiff, Nat.reduceAdd, Nat.reduceSub, Nat.reduceMul, ↓reduceIte, reduceCtorEq, Nat.reduceBNe, Nat.reduceSubDiff, Int.reduceLT, Int.reduceLE, Int.reduceEq, Int.reduceNeg, Int.reduceAdd, Int.reduceMul, Int.reduceSub, Int.reduceToNat, L_fix_Concat, R_fix_Concat, mat, pt, I]
  refine run_unroll ?_
  simp (maxSteps := 2000000) only [go_sem, Nat.reduceEqDiff, Nat.reduceBEq, Nat.reduceLT, Nat.reduceLeDiff, Nat.reduceAdd, Nat.reduceSub, Nat.reduceMul, ↓reduceIte, reduceCtorEq, Nat.reduceBNe, Nat.reduceSubDiff, Int.reduceLT, Int.reduceLE, Int.reduceEq, Int.reduceNeg, Int.reduceAdd, Int.reduceMul, Int.reduceSub, Int.reduceToNat, getI]
  refine CallG.of two_call ?_
  cases h1 : twoF a p b r (IntKind.i64.wrap (0 * t)) with
  | none =>
    simp (maxSteps := 2000000) only [go_sem, Nat.reduceEqDiff, Nat.reduceBEq, Nat.reduceLT, Nat.reduceLeDiff, Nat.reduceAdd, Nat.reduceSub, Nat.reduceMul, ↓reduceIte, reduceCtorEq, Nat.reduceBNe, Nat.reduceSubDiff, Int.reduceLT, Int.reduceLE, Int.reduceEq, Int.reduceNeg, Int.reduceAdd, Int.reduceMul, Int.reduceSub, Int.reduceToNat, intE, I, err]
    rfl
  | some x0 =>
    simp (maxSteps := 2000000) only [go_sem, Nat.reduceEqDiff, Nat.reduceBEq, Nat.reduceLT, Nat.reduceLeDiff, Nat.reduceAdd, Nat.reduceSub, Nat.reduceMul, ↓reduceIte, reduceCtorEq, Nat.reduceBNe, Nat.reduceSubDiff, Int.reduceLT, Int.reduceLE, Int.reduceEq, Int.reduceNeg, Int.reduceAdd, Int.reduceMul, Int.reduceSub, Int.reduceToNat, intE, I]
    refine CallG.of two_call ?_
    cases h2 : twoF a q b s (IntKind.i64.wrap (0 * u)) with
    | none =>
      simp (maxSteps := 2000000) only [go_sem, Nat.reduceEqDiff, Nat.reduceBEq, Nat.reduceLT, Nat.reduceLeDiff, Nat.reduceAdd, Nat.reduceSub, Nat.reduceMul, ↓reduceIte, reduceCtorEq, Nat.reduceBNe, Nat.reduceSubDiff, Int.reduceLT, Int.reduceLE, Int.reduceEq, Int.reduceNeg, Int.reduceAdd, Int.reduceMul, Int.reduceSub, Int.reduceToNat, intE, I, err]
      rfl
    | some y0 =>
      simp (maxSteps := 2000000) only [go_sem, Nat.reduceEqDiff, Nat.reduceBEq, Nat.reduceLT, Nat.reduceLeDiff, Nat.reduceAdd, Nat.reduceSub, Nat.reduceMul, ↓reduceIte, reduceCtorEq, Nat.reduceBNe, Nat.reduceSubDiff, Int.reduceLT, Int.reduceLE, Int.reduceEq, Int.reduceNeg, Int.reduceAdd, Int.reduceMul, Int.reduceSub, Int.reduceToNat, intE, I]
      refine run_unroll ?_
      simp (maxSteps := 2000000) only [go_sem, Nat.reduceEqDiff, Nat.reduceBEq, Nat.reduceLT, Nat.reduceLeDiff, Nat.reduceAdd, Nat.reduceSub, Nat.reduceMul, ↓reduceIte, reduceCtorEq, Nat.reduceBNe, Nat.reduceSubDiff, Int.reduceLT, Int.reduceLE, Int.reduceEq, Int.reduceNeg, Int.reduceAdd, Int.reduceMul, Int.reduceSub, Int.reduceToNat, getI]
      refine CallG.of two_call ?_
      cases h3 : twoF c p d r (IntKind.i64.wrap (0 * t)) with
      | none =>
        simp (maxSteps := 2000000) only [go_sem, Nat.reduceEqDiff, Nat.reduceBEq, Nat.reduceLT, Nat.reduceLeDiff, Nat.reduceAdd, Nat.reduceSub, Nat.reduceMul, ↓reduceIte, reduceCtorEq, Nat.reduceBNe, Nat.reduceSubDiff, Int.reduceLT, Int.reduceLE, Int.reduceEq, Int.reduceNeg, Int.reduceAdd, Int.reduceMul, Int.reduceSub, Int.reduceToNat, intE, I, err]
        rfl
      | some x1 =>
        simp (maxSteps := 2000000) only [go_sem, Nat.reduceEqDiff, Nat.reduceBEq, Nat.reduceLT, Nat.reduceLeDiff, Nat.reduceAdd, Nat.reduceSub, Nat.reduceMul, ↓reduceIte, reduceCtorEq, Nat.reduceBNe, Nat.reduceSubDiff, Int.reduceLT, Int.reduceLE, Int.reduceEq, Int.reduceNeg, Int.reduceAdd, Int.reduceMul, Int.reduceSub, Int.reduceToNat, intE, I]
        refine CallG.of two_call ?_
        cases h4 : twoF c q d s (IntKind.i64.wrap (0 * u)) with
        | none =>
          simp (maxSteps := 2000000) only [go_sem, Nat.reduceEqDiff, Nat.reduceBEq, Nat.reduceLT, Nat.reduceLeDiff, Nat.reduceAdd, Nat.reduceSub, Nat.reduceMul, ↓reduceIte, reduceCtorEq, Nat.reduceBNe, Nat.reduceSubDiff, Int.reduceLT, Int.reduceLE, Int.reduceEq, Int.reduceNeg, Int.reduceAdd, Int.reduceMul, Int.reduceSub, Int.reduceToNat, intE, I, err]
          rfl
        | some y1 =>
          simp (maxSteps := 2000000) only [go_sem, Nat.reduceEqDiff, Nat.reduceBEq, Nat.reduceLT, Nat.reduceLeDiff, Nat.reduceAdd, Nat.reduceSub, Nat.reduceMul, ↓reduceIte, reduceCtorEq, Nat.reduceBNe, Nat.reduceSubDiff, Int.reduceLT, Int.reduceLE, Int.reduceEq, Int.reduceNeg, Int.reduceAdd, Int.reduceMul, Int.reduceSub, Int.reduceToNat, intE, I]
          refine run_unroll ?_
          simp (maxSteps := 2000000) only [go_sem, Nat.reduceEqDiff, Nat.reduceBEq, Nat.reduceLT, Nat.reduceLeDiff, Nat.reduceAdd, Nat.reduceSub, Nat.reduceMul, ↓reduceIte, reduceCtorEq, Nat.reduceBNe, Nat.reduceSubDiff, Int.reduceLT, Int.reduceLE, Int.reduceEq, Int.reduceNeg, Int.reduceAdd, Int.reduceMul, Int.reduceSub, Int.reduceToNat, getI]
          refine CallG.of two_call ?_
          cases h5 : twoF e p f r (IntKind.i64.wrap (1 * t)) with
          | none =>
            simp (maxSteps := 2000000) only [go_sem, Nat.reduceEqDiff, Nat.reduceBEq, Nat.reduceLT, Nat.reduceLeDiff, Nat.reduceAdd, Nat.reduceSub, Nat.reduceMul, ↓reduceIte, reduceCtorEq, Nat.reduceBNe, Nat.reduceSubDiff, Int.reduceLT, Int.reduceLE, Int.reduceEq, Int.reduceNeg, Int.reduceAdd, Int.reduceMul, Int.reduceSub, Int.reduceToNat, intE, I, err]
            rfl
          | some x2 =>
            simp (maxSteps := 2000000) only [go_sem, Nat.reduceEqDiff, Nat.reduceBEq, Nat.reduceLT, Nat.reduceLeDiff, Nat.reduceAdd, Nat.reduceSub, Nat.reduceMul, ↓reduceIte, reduceCtorEq, Nat.reduceBNe, Nat.reduceSubDiff, Int.reduceLT, Int.reduceLE, Int.reduceEq, Int.reduceNeg, Int.reduceAdd, Int.reduceMul, Int.reduceSub, Int.reduceToNat, intE, I]
            refine CallG.of two_call ?_
            cases h6 : twoF e q f s (IntKind.i64.wrap (1 * u)) with
            | none =>
              simp (maxSteps := 2000000) only [go_sem, Nat.reduceEqDiff, Nat.reduceBEq, Nat.reduceLT, Nat.reduceLeDiff, Nat.reduceAdd, Nat.reduceSub, Nat.reduceMul, ↓reduceIte, reduceCtorEq, Nat.reduceBNe, Nat.reduceSubDiff, Int.reduceLT, Int.reduceLE, Int.reduceEq, Int.reduceNeg, Int.reduceAdd, Int.reduceMul, Int.reduceSub, Int.reduceToNat, intE, I, err]
              rfl
            | some y2 =>
              simp (maxSteps := 2000000) only [go_sem, Nat.reduceEqDiff, Nat.reduceBEq, Nat.reduceLT, Nat.reduceLeDiff, Nat.reduceAdd, Nat.reduceSub, Nat.reduceMul, ↓reduceIte, reduceCtorEq, Nat.reduceBNe, Nat.reduceSubDiff, Int.reduceLT, Int.reduceLE, Int.reduceEq, Int.reduceNeg, Int.reduceAdd, Int.reduceMul, Int.reduceSub, Int.reduceToNat, intE, I]
              refine run_unroll ?_
              simp (maxSteps := 2000000) only [go_sem, Nat.reduceEqDiff, Nat.reduceBEq, Nat.reduceLT, Nat.reduceLeDiff, Nat.reduceAdd, Nat.reduceSub, Nat.reduceMul, ↓reduceIte, reduceCtorEq, Nat.reduceBNe, Nat.reduceSubDiff, Int.reduceLT, Int.reduceLE, Int.reduceEq, Int.reduceNeg, Int.reduceAdd, Int.reduceMul, Int.reduceSub, Int.reduceToNat]
              rfl

end Go.Av.Tryd
