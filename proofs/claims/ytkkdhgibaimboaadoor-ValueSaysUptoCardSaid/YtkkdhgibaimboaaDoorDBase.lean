import Derived.Test.YtkkdhgibaimboaaDoorDItoa
set_option linter.unusedSimpArgs false
namespace Go.Av.Tryd
open Go.Proofs
def errD (n : Nat) : D := if n = 0 then .nil else .iface 42 (.int .i64 n)
theorem errD_ne {n : Nat} (h : n ≠ 0) : errD n = .iface 42 (.int .i64 n) := by simp [errD, h]

/-- foliowrightlaw.same -/
def L_foliowrightlaw_same : LCode :=
  .seq (.reg [⟨some 4, .asg (.k (.d (.bool false))), none⟩]) (.seq (.seq (.reg [⟨some 7, .val (.cp (.t 0)), none⟩, ⟨some 8, .val (.eqN 0 false (.t 7)), none⟩]) (.cond (.t 8) (.seq 
  (.reg [⟨some 9, .val (.cp (.t 1)), none⟩, ⟨some 10, .val (.bin .eql (.t 9) (.k (.d (.int .i64 0)))), none⟩, ⟨some 4, .asg (.t 10), none⟩]) .ret) .skip)) (.seq (.reg [⟨some 12, 
  .val (.cp (.t 0)), none⟩, ⟨some 13, .val (.asT 42 (.int .i64 0) (.t 12)), none⟩, ⟨some 11, .val (.cp (.t 13)), none⟩, ⟨some 14, .val (.ext 0 (.t 11)), none⟩, ⟨some 15, .val (.ext 
  1 (.t 11)), none⟩, ⟨some 5, .asg (.t 14), none⟩, ⟨some 6, .asg (.t 15), none⟩]) (.seq (.reg [⟨some 16, .val (.cp (.t 6)), none⟩, ⟨some 17, .val (.cp (.t 16)), none⟩, ⟨some 18, 
  .val (.cp (.t 1)), some (17, true)⟩, ⟨some 19, .val (.bin .gtr (.t 18) (.k (.d (.int .i64 0)))), some (17, true)⟩, ⟨some 20, .val (.pick (.t 17) (.t 19) (.k (.d (.bool false)))), 
  none⟩, ⟨some 21, .val (.cp (.t 20)), none⟩, ⟨some 22, .val (.cp (.t 5)), some (21, true)⟩, ⟨some 23, .val (.cp (.t 1)), some (21, true)⟩, ⟨some 24, .val (.bin .eql (.t 22) (.t 
  23)), some (21, true)⟩, ⟨some 25, .val (.pick (.t 21) (.t 24) (.k (.d (.bool false)))), none⟩, ⟨some 4, .asg (.t 25), none⟩]) .ret)))
def R_foliowrightlaw_same : List LRes := [.tmp 4]
theorem lift_foliowrightlaw_same : Lifts Tryd.prog 19 26 L_foliowrightlaw_same R_foliowrightlaw_same := ⟨_, _, Tryd.func19, rfl, by kernel_rfl, by kernel_rfl, rfl⟩

theorem same_law (e f : Nat) : PCall Tryd.prog 19 [errD e, .int .i64 f] (fun r => r = .one (.bool (decide (e = f)))) := by
  refine lift_foliowrightlaw_same.call rfl ?_
  by_cases h : e = 0
  · subst h
    have he : errD 0 = .nil := rfl
    rw [he]
    simp (maxSteps := 2000000) only [go_sem, Nat.reduceEqDiff, Nat.reduceBEq, Nat.reduceLT, Nat.reduceLeDiff, Nat.reduceAdd, Nat.reduceSub, Nat.reduceMul, ↓reduceIte, reduceCtorEq, Nat.reduceBNe, Nat.reduceSubDiff, Int.reduceLT, Int.reduceLE, Int.reduceEq, Int.reduceNeg, Int.reduceAdd, Int.reduceMul, Int.reduceSub, Int.reduceToNat, L_foliowrightlaw_same, R_foliowrightlaw_same]
    congr 2
    have : ((f : Int) = 0) = (0 = f) := by apply propext; omega
    simp only [this]
  · rw [errD_ne h]
    simp (maxSteps := 2000000) only [go_sem, Nat.reduceEqDiff, Nat.reduceBEq, Nat.reduceLT, Nat.reduceLeDiff, Nat.reduceAdd, Nat.reduceSub, Nat.reduceMul, ↓reduceIte, reduceCtorEq, Nat.reduceBNe, Nat.reduceSubDiff, Int.reduceLT, Int.reduceLE, Int.reduceEq, Int.reduceNeg, Int.reduceAdd, Int.reduceMul, Int.reduceSub, Int.reduceToNat, L_foliowrightlaw_same, R_foliowrightlaw_same]
    refine ⟨fun _ => ?_, fun q => ?_⟩
    · congr 2
      simp only [Int.ofNat_inj]
    · have : ¬ e = f := by omega
      simp [this]

def intsD (l : List Int) : List D := l.map fun n => D.int .i64 n
theorem intsD_length (l : List Int) : (intsD l).length = l.length := by simp [intsD]
theorem intsD_get (l : List Int) (j : Nat) : (intsD l)[j]? = (l[j]?).map fun n => D.int .i64 n := by simp [intsD]

/-- foliowrightref.SameNumbers -/
def L_foliowrightref_SameNumbers : LCode :=
  .seq (.reg [⟨some 4, .asg (.k (.d (.bool false))), none⟩]) (.seq (.seq (.reg [⟨some 6, .val (.cp (.t 0)), none⟩, ⟨some 7, .val (.len false (.t 6)), none⟩, ⟨some 8, .val (.cp (.t 
  1)), none⟩, ⟨some 9, .val (.len false (.t 8)), none⟩, ⟨some 10, .val (.bin .neq (.t 7) (.t 9)), none⟩]) (.cond (.t 10) (.seq (.reg [⟨some 4, .asg (.k (.d (.bool false))), none⟩]) 
  .ret) .skip)) (.seq (.seq (.reg [⟨some 5, .asg (.k (.d (.int .i64 0))), none⟩]) (.block 0 (.loop (.seq (.seq (.reg [⟨some 11, .val (.cp (.t 5)), none⟩, ⟨some 12, .val (.cp (.t 
  0)), none⟩, ⟨some 13, .val (.len false (.t 12)), none⟩, ⟨some 14, .val (.bin .lss (.t 11) (.t 13)), none⟩]) (.cond (.t 14) .skip (.exit 0))) (.seq (.block 1 (.seq (.dreg [⟨some 
  17, .val (.cp (.t 0)), none⟩, ⟨some 18, .val (.cp (.t 5)), none⟩, ⟨some 19, .val (.ia 1 (.t 17) (.t 18)), none⟩, ⟨some 20, .val (.ld false 1 (.t 19)), none⟩, ⟨some 21, .val (.cp 
  (.t 1)), none⟩, ⟨some 22, .val (.cp (.t 5)), none⟩, ⟨some 23, .val (.ia 1 (.t 21) (.t 22)), none⟩, ⟨some 24, .val (.ld false 1 (.t 23)), none⟩, ⟨some 25, .val (.bin .neq (.t 20) 
  (.t 24)), none⟩]) (.cond (.t 25) (.seq (.reg [⟨some 4, .asg (.k (.d (.bool false))), none⟩]) .ret) .skip))) (.reg [⟨some 15, .val (.cp (.t 5)), none⟩, ⟨some 16, .val (.bin .add 
  (.t 15) (.k (.d (.int .i64 1)))), none⟩, ⟨some 5, .asg (.t 16), none⟩])))))) (.seq (.reg [⟨some 4, .asg (.k (.d (.bool true))), none⟩]) .ret)))
def R_foliowrightref_SameNumbers : List LRes := [.tmp 4]
theorem lift_foliowrightref_SameNumbers : Lifts Tryd.prog 21 26 L_foliowrightref_SameNumbers R_foliowrightref_SameNumbers := ⟨_, _, Tryd.func21, rfl, by kernel_rfl, by kernel_rfl, rfl⟩

theorem sameNumbers_call (a : List Int) (h : a.length ≤ 1000000000) : PCall Tryd.prog 21 [.list (intsD a), .list (intsD a)] (fun r => r = .one (.bool true)) := by
  refine lift_foliowrightref_SameNumbers.call rfl ?_
  have hI : ((intsD a).length : Int) = (a.length : Int) := by rw [intsD_length]
  simp (maxSteps := 2000000) only [go_sem, Nat.reduceEqDiff, Nat.reduceBEq, Nat.reduceLT, Nat.reduceLeDiff, Nat.reduceAdd, Nat.reduceSub, Nat.reduceMul, ↓reduceIte, reduceCtorEq, Nat.reduceBNe, Nat.reduceSubDiff, Int.reduceLT, Int.reduceLE, Int.reduceEq, Int.reduceNeg, Int.reduceAdd, Int.reduceMul, Int.reduceSub, Int.reduceToNat, L_foliowrightref_SameNumbers, R_foliowrightref_SameNumbers, hI]
  refine run_loop (fun i : Nat => ⟨[(0, .d (.list (intsD a))), (1, .d (.list (intsD a))), (5, .d (.int .i64 i))], [], []⟩)
    (fun i => i ≤ a.length) (fun i => a.length - i) 0 ?_ ?_ ?_
  · refine weak_mk ?_ trivial
    simp (maxSteps := 2000000) only [go_sem, Nat.reduceEqDiff, Nat.reduceBEq, Nat.reduceLT, Nat.reduceLeDiff, Nat.reduceAdd, Nat.reduceSub, Nat.reduceMul, ↓reduceIte, reduceCtorEq, Nat.reduceBNe, Nat.reduceSubDiff, Int.reduceLT, Int.reduceLE, Int.reduceEq, Int.reduceNeg, Int.reduceAdd, Int.reduceMul, Int.reduceSub, Int.reduceToNat, Sub, Int.natCast_add, Int.natCast_mul]
  · omega
  · intro i hi
    simp (maxSteps := 2000000) only [go_sem, Nat.reduceEqDiff, Nat.reduceBEq, Nat.reduceLT, Nat.reduceLeDiff, Nat.reduceAdd, Nat.reduceSub, Nat.reduceMul, ↓reduceIte, reduceCtorEq, Nat.reduceBNe, Nat.reduceSubDiff, Int.reduceLT, Int.reduceLE, Int.reduceEq, Int.reduceNeg, Int.reduceAdd, Int.reduceMul, Int.reduceSub, Int.reduceToNat, hI]
    intro q
    obtain ⟨x, hx⟩ := get_some (l := a) (i := i) (by omega)
    simp (maxSteps := 2000000) (disch := omega) only [go_sem, Nat.reduceEqDiff, Nat.reduceBEq, Nat.reduceLT, Nat.reduceLeDiff, Nat.reduceAdd, Nat.reduceSub, Nat.reduceMul, ↓reduceIte, reduceCtorEq, Nat.reduceBNe, Nat.reduceSubDiff, Int.reduceLT, Int.reduceLE, Int.reduceEq, Int.reduceNeg, Int.reduceAdd, Int.reduceMul, Int.reduceSub, Int.reduceToNat, getI_nat, intsD_get, hx]
    refine ⟨i + 1, ?_, by omega, by omega⟩
    refine weak_mk ?_ trivial
    simp (maxSteps := 2000000) only [go_sem, Nat.reduceEqDiff, Nat.reduceBEq, Nat.reduceLT, Nat.reduceLeDiff, Nat.reduceAdd, Nat.reduceSub, Nat.reduceMul, ↓reduceIte, reduceCtorEq, Nat.reduceBNe, Nat.reduceSubDiff, Int.reduceLT, Int.reduceLE, Int.reduceEq, Int.reduceNeg, Int.reduceAdd, Int.reduceMul, Int.reduceSub, Int.reduceToNat, Sub, Int.natCast_add, Int.natCast_mul]
end Go.Av.Tryd
