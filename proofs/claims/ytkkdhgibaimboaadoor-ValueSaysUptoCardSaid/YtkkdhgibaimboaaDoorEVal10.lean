import Derived.Test.YtkkdhgibaimboaaDoorEVal9
import Derived.Test.YtkkdhgibaimboaaDoorDDec
/- Values of a file: the texts of them, by the document. -/
set_option linter.unusedSimpArgs false
namespace Go.Av.Tryd
open Go.Proofs

/-- foliowrightref.StrText -/
def L_foliowrightref_StrText : LCode :=
  .seq (.reg [⟨some 2, .asg (.k (.d (.str []))), none⟩]) (.seq (.reg [⟨some 3, .asg (.k (.d (.str [40]))), none⟩]) (.seq (.seq (.reg [⟨some 4, .asg (.k (.d (.int .i64 0))), none⟩]) 
  (.block 0 (.loop (.seq (.seq (.reg [⟨some 6, .val (.cp (.t 4)), none⟩, ⟨some 7, .val (.cp (.t 0)), none⟩, ⟨some 8, .val (.len true (.t 7)), none⟩, ⟨some 9, .val (.bin .lss (.t 6) 
  (.t 8)), none⟩]) (.cond (.t 9) .skip (.exit 0))) (.seq (.block 1 (.seq (.reg [⟨some 12, .val (.cp (.t 0)), none⟩, ⟨some 13, .val (.cp (.t 4)), none⟩, ⟨some 14, .val (.idxS (.t 
  12) (.t 13)), none⟩, ⟨some 5, .asg (.t 14), none⟩]) (.seq (.reg [⟨some 15, .val (.cp (.t 5)), none⟩, ⟨some 16, .val (.bin .eql (.t 15) (.k (.d (.int .u8 40)))), none⟩, ⟨some 17, 
  .val (.cp (.t 16)), none⟩, ⟨some 18, .val (.cp (.t 5)), some (17, false)⟩, ⟨some 19, .val (.bin .eql (.t 18) (.k (.d (.int .u8 41)))), some (17, false)⟩, ⟨some 20, .val (.pick 
  (.t 17) (.k (.d (.bool true))) (.t 19)), none⟩, ⟨some 21, .val (.cp (.t 20)), none⟩, ⟨some 22, .val (.cp (.t 5)), some (21, false)⟩, ⟨some 23, .val (.bin .eql (.t 22) (.k (.d 
  (.int .u8 92)))), some (21, false)⟩, ⟨some 24, .val (.pick (.t 21) (.k (.d (.bool true))) (.t 23)), none⟩]) (.cond (.t 24) (.reg [⟨some 25, .val (.cp (.t 3)), none⟩, ⟨some 26, 
  .val (.cp (.t 5)), none⟩, ⟨some 27, .bsl 5 1 [.k (.d (.int .u8 92)), .t 26], none⟩, ⟨some 28, .val (.b2s (.t 27)), none⟩, ⟨some 29, .val (.bin .add (.t 25) (.t 28)), none⟩, ⟨some 
  3, .asg (.t 29), none⟩]) (.seq (.reg [⟨some 30, .val (.cp (.t 5)), none⟩, ⟨some 31, .val (.bin .geq (.t 30) (.k (.d (.int .u8 32)))), none⟩, ⟨some 32, .val (.cp (.t 31)), none⟩, 
  ⟨some 33, .val (.cp (.t 5)), some (32, true)⟩, ⟨some 34, .val (.bin .lss (.t 33) (.k (.d (.int .u8 127)))), some (32, true)⟩, ⟨some 35, .val (.pick (.t 32) (.t 34) (.k (.d (.bool 
  false)))), none⟩]) (.cond (.t 35) (.reg [⟨some 36, .val (.cp (.t 3)), none⟩, ⟨some 37, .val (.cp (.t 5)), none⟩, ⟨some 38, .bsl 5 1 [.t 37], none⟩, ⟨some 39, .val (.b2s (.t 38)), 
  none⟩, ⟨some 40, .val (.bin .add (.t 36) (.t 39)), none⟩, ⟨some 3, .asg (.t 40), none⟩]) (.reg [⟨some 41, .val (.cp (.t 3)), none⟩, ⟨some 42, .val (.cp (.t 5)), none⟩, ⟨some 43, 
  .val (.bin .quo (.t 42) (.k (.d (.int .u8 64)))), none⟩, ⟨some 44, .val (.bin .add (.k (.d (.int .u8 48))) (.t 43)), none⟩, ⟨some 45, .val (.cp (.t 5)), none⟩, ⟨some 46, .val 
  (.bin .quo (.t 45) (.k (.d (.int .u8 8)))), none⟩, ⟨some 47, .val (.bin .rem (.t 46) (.k (.d (.int .u8 8)))), none⟩, ⟨some 48, .val (.bin .add (.k (.d (.int .u8 48))) (.t 47)), 
  none⟩, ⟨some 49, .val (.cp (.t 5)), none⟩, ⟨some 50, .val (.bin .rem (.t 49) (.k (.d (.int .u8 8)))), none⟩, ⟨some 51, .val (.bin .add (.k (.d (.int .u8 48))) (.t 50)), none⟩, 
  ⟨some 52, .bsl 5 1 [.k (.d (.int .u8 92)), .t 44, .t 48, .t 51], none⟩, ⟨some 53, .val (.b2s (.t 52)), none⟩, ⟨some 54, .val (.bin .add (.t 41) (.t 53)), none⟩, ⟨some 3, .asg (.t 
  54), none⟩]))))))) (.reg [⟨some 10, .val (.cp (.t 4)), none⟩, ⟨some 11, .val (.bin .add (.t 10) (.k (.d (.int .i64 1)))), none⟩, ⟨some 4, .asg (.t 11), none⟩])))))) (.seq (.reg 
  [⟨some 55, .val (.cp (.t 3)), none⟩, ⟨some 56, .val (.bin .add (.t 55) (.k (.d (.str [41])))), none⟩, ⟨some 2, .asg (.t 56), none⟩]) .ret)))
def R_foliowrightref_StrText : List LRes := [.tmp 2]
theorem lift_foliowrightref_StrText : Lifts Tryd.prog 110 57 L_foliowrightref_StrText R_foliowrightref_StrText := ⟨_, _, Tryd.func110, rfl, by kernel_rfl, by kernel_rfl, rfl⟩

theorem strText_call (s : List UInt8) (hl : 4 * s.length + 2 ≤ 1000000000) : PCall Tryd.prog 110 [.str s] (fun r => r = .one (.str ([40] ++ strP s ++ [41]))) := by
  refine lift_foliowrightref_StrText.call rfl ?_
  simp (maxSteps := 2000000) only [go_sem, Nat.reduceEqDiff, Nat.reduceBEq, Nat.reduceLT, Nat.reduceLeDiff, Nat.reduceAdd, Nat.reduceSub, Nat.reduceMul, ↓reduceIte, reduceCtorEq, Nat.reduceBNe, Nat.reduceSubDiff, Int.reduceLT, Int.reduceLE, Int.reduceEq, Int.reduceNeg, Int.reduceAdd, Int.reduceMul, Int.reduceSub, Int.reduceToNat, L_foliowrightref_StrText, R_foliowrightref_StrText]
  refine run_loop (fun i : Nat => ⟨[(0, .d (.str s)), (3, .d (.str ([40] ++ strP (s.take i)))), (4, .d (.int .i64 i))], [], []⟩)
    (fun i => i ≤ s.length) (fun i => s.length - i) 0 ?_ ?_ ?_
  · refine Weak.mk ?_ ?_ ?_ <;> simp (maxSteps := 2000000) only [go_sem, Nat.reduceEqDiff, Nat.reduceBEq, Nat.reduceLT, Nat.reduceLeDiff, Nat.reduceAdd, Nat.reduceSub, Nat.reduceMul, ↓reduceIte, reduceCtorEq, Nat.reduceBNe, Nat.reduceSubDiff, Int.reduceLT, Int.reduceLE, Int.reduceEq, Int.reduceNeg, Int.reduceAdd, Int.reduceMul, Int.reduceSub, Int.reduceToNat, Sub, Int.natCast_add, Int.natCast_mul, List.take_zero, strP, List.flatMap_nil]
  · omega
  · intro i hi
    have hle := strP_length (s.take i)
    rw [List.length_take] at hle
    simp (maxSteps := 2000000) only [go_sem, Nat.reduceEqDiff, Nat.reduceBEq, Nat.reduceLT, Nat.reduceLeDiff, Nat.reduceAdd, Nat.reduceSub, Nat.reduceMul, ↓reduceIte, reduceCtorEq, Nat.reduceBNe, Nat.reduceSubDiff, Int.reduceLT, Int.reduceLE, Int.reduceEq, Int.reduceNeg, Int.reduceAdd, Int.reduceMul, Int.reduceSub, Int.reduceToNat]
    refine ⟨fun hlt => ?_, fun hge => ?_⟩
    · obtain ⟨c, hc⟩ := get_some (l := s) (i := i) (by omega)
      have hc8 := u8_lt c
      have cc : ∀ k : Nat, c.toNat = k → c = UInt8.ofNat k := fun k h => by rw [← h]; simp
      rcases (by omega : c.toNat = 40 ∨ c.toNat = 41 ∨ c.toNat = 92 ∨ (c.toNat ≠ 40 ∧ c.toNat ≠ 41 ∧ c.toNat ≠ 92 ∧ 32 ≤ c.toNat ∧ c.toNat < 127) ∨ (c.toNat ≠ 40 ∧ c.toNat ≠ 41 ∧ c.toNat ≠ 92 ∧ ¬ (32 ≤ c.toNat ∧ c.toNat ≤ 126))) with q | q | q | q | q
      · have b2 := bytesOf2 92 c
        have z92 : ((UInt8.toNat 92 : Nat) : Int) = 92 := rfl
        rw [z92] at b2
        have n40 : ((c.toNat : Int) = 40) = True := by simp only [eq_iff_iff, iff_true]; omega
        have n41 : ((c.toNat : Int) = 41) = False := by simp only [eq_iff_iff, iff_false]; omega
        have n92 : ((c.toNat : Int) = 92) = False := by simp only [eq_iff_iff, iff_false]; omega
        simp (maxSteps := 2000000) (disch := omega) only [go_sem, Nat.reduceEqDiff, Nat.reduceBEq, Nat.reduceLT, Nat.reduceLeDiff, Nat.reduceAdd, Nat.reduceSub, Nat.reduceMul, ↓reduceIte, reduceCtorEq, Nat.reduceBNe, Nat.reduceSubDiff, Int.reduceLT, Int.reduceLE, Int.reduceEq, Int.reduceNeg, Int.reduceAdd, Int.reduceMul, Int.reduceSub, Int.reduceToNat, getI_nat s, hc, n40, n41, n92, b2]
        refine ⟨by omega, i + 1, ?_, by omega, by omega⟩
        have hb : strB c = [92, c] := by rw [cc _ q]; rfl
        refine Weak.mk ?_ ?_ ?_ <;> simp (maxSteps := 2000000) only [go_sem, Nat.reduceEqDiff, Nat.reduceBEq, Nat.reduceLT, Nat.reduceLeDiff, Nat.reduceAdd, Nat.reduceSub, Nat.reduceMul, ↓reduceIte, reduceCtorEq, Nat.reduceBNe, Nat.reduceSubDiff, Int.reduceLT, Int.reduceLE, Int.reduceEq, Int.reduceNeg, Int.reduceAdd, Int.reduceMul, Int.reduceSub, Int.reduceToNat, Sub, Int.natCast_add, Int.natCast_mul, strP_next hc, hb, List.append_assoc]
      · have b2 := bytesOf2 92 c
        have z92 : ((UInt8.toNat 92 : Nat) : Int) = 92 := rfl
        rw [z92] at b2
        have n40 : ((c.toNat : Int) = 40) = False := by simp only [eq_iff_iff, iff_false]; omega
        have n41 : ((c.toNat : Int) = 41) = True := by simp only [eq_iff_iff, iff_true]; omega
        have n92 : ((c.toNat : Int) = 92) = False := by simp only [eq_iff_iff, iff_false]; omega
        simp (maxSteps := 2000000) (disch := omega) only [go_sem, Nat.reduceEqDiff, Nat.reduceBEq, Nat.reduceLT, Nat.reduceLeDiff, Nat.reduceAdd, Nat.reduceSub, Nat.reduceMul, ↓reduceIte, reduceCtorEq, Nat.reduceBNe, Nat.reduceSubDiff, Int.reduceLT, Int.reduceLE, Int.reduceEq, Int.reduceNeg, Int.reduceAdd, Int.reduceMul, Int.reduceSub, Int.reduceToNat, getI_nat s, hc, n40, n41, n92, b2]
        refine ⟨by omega, i + 1, ?_, by omega, by omega⟩
        have hb : strB c = [92, c] := by rw [cc _ q]; rfl
        refine Weak.mk ?_ ?_ ?_ <;> simp (maxSteps := 2000000) only [go_sem, Nat.reduceEqDiff, Nat.reduceBEq, Nat.reduceLT, Nat.reduceLeDiff, Nat.reduceAdd, Nat.reduceSub, Nat.reduceMul, ↓reduceIte, reduceCtorEq, Nat.reduceBNe, Nat.reduceSubDiff, Int.reduceLT, Int.reduceLE, Int.reduceEq, Int.reduceNeg, Int.reduceAdd, Int.reduceMul, Int.reduceSub, Int.reduceToNat, Sub, Int.natCast_add, Int.natCast_mul, strP_next hc, hb, List.append_assoc]
      · have b2 := bytesOf2 92 c
        have z92 : ((UInt8.toNat 92 : Nat) : Int) = 92 := rfl
        rw [z92] at b2
        have n40 : ((c.toNat : Int) = 40) = False := by simp only [eq_iff_iff, iff_false]; omega
        have n41 : ((c.toNat : Int) = 41) = False := by simp only [eq_iff_iff, iff_false]; omega
        have n92 : ((c.toNat : Int) = 92) = True := by simp only [eq_iff_iff, iff_true]; omega
        simp (maxSteps := 2000000) (disch := omega) only [go_sem, Nat.reduceEqDiff, Nat.reduceBEq, Nat.reduceLT, Nat.reduceLeDiff, Nat.reduceAdd, Nat.reduceSub, Nat.reduceMul, ↓reduceIte, reduceCtorEq, Nat.reduceBNe, Nat.reduceSubDiff, Int.reduceLT, Int.reduceLE, Int.reduceEq, Int.reduceNeg, Int.reduceAdd, Int.reduceMul, Int.reduceSub, Int.reduceToNat, getI_nat s, hc, n40, n41, n92, b2]
        refine ⟨by omega, i + 1, ?_, by omega, by omega⟩
        have hb : strB c = [92, c] := by rw [cc _ q]; rfl
        refine Weak.mk ?_ ?_ ?_ <;> simp (maxSteps := 2000000) only [go_sem, Nat.reduceEqDiff, Nat.reduceBEq, Nat.reduceLT, Nat.reduceLeDiff, Nat.reduceAdd, Nat.reduceSub, Nat.reduceMul, ↓reduceIte, reduceCtorEq, Nat.reduceBNe, Nat.reduceSubDiff, Int.reduceLT, Int.reduceLE, Int.reduceEq, Int.reduceNeg, Int.reduceAdd, Int.reduceMul, Int.reduceSub, Int.reduceToNat, Sub, Int.natCast_add, Int.natCast_mul, strP_next hc, hb, List.append_assoc]
      · obtain ⟨q1, q2, q3, q4, q5⟩ := q
        have b1 : bytesOf [.int .u8 (c.toNat : Int)] = some [c] := bytesOf_bytesD [c]
        have n40 : ((c.toNat : Int) = 40) = False := by simp only [eq_iff_iff, iff_false]; omega
        have n41 : ((c.toNat : Int) = 41) = False := by simp only [eq_iff_iff, iff_false]; omega
        have n92 : ((c.toNat : Int) = 92) = False := by simp only [eq_iff_iff, iff_false]; omega
        have L32 : ((32 : Int) ≤ c.toNat) = True := by simp only [eq_iff_iff, iff_true]; omega
        have g127 : ((c.toNat : Int) < 127) = True := by simp only [eq_iff_iff, iff_true]; omega
        simp (maxSteps := 2000000) (disch := omega) only [go_sem, Nat.reduceEqDiff, Nat.reduceBEq, Nat.reduceLT, Nat.reduceLeDiff, Nat.reduceAdd, Nat.reduceSub, Nat.reduceMul, ↓reduceIte, reduceCtorEq, Nat.reduceBNe, Nat.reduceSubDiff, Int.reduceLT, Int.reduceLE, Int.reduceEq, Int.reduceNeg, Int.reduceAdd, Int.reduceMul, Int.reduceSub, Int.reduceToNat, getI_nat s, hc, n40, n41, n92, L32, g127, b1]
        refine ⟨by omega, i + 1, ?_, by omega, by omega⟩
        have hb : strB c = [c] := by
          have z : ¬ (c = 40 ∨ c = 41 ∨ c = 92) := by
            rintro (rfl | rfl | rfl)
            · exact q1 rfl
            · exact q2 rfl
            · exact q3 rfl
          have q6 : c.toNat ≤ 126 := by omega
          simp [strB, z, q4, q6]
        refine Weak.mk ?_ ?_ ?_ <;> simp (maxSteps := 2000000) only [go_sem, Nat.reduceEqDiff, Nat.reduceBEq, Nat.reduceLT, Nat.reduceLeDiff, Nat.reduceAdd, Nat.reduceSub, Nat.reduceMul, ↓reduceIte, reduceCtorEq, Nat.reduceBNe, Nat.reduceSubDiff, Int.reduceLT, Int.reduceLE, Int.reduceEq, Int.reduceNeg, Int.reduceAdd, Int.reduceMul, Int.reduceSub, Int.reduceToNat, Sub, Int.natCast_add, Int.natCast_mul, strP_next hc, hb, List.append_assoc]
      · obtain ⟨q1, q2, q3, q4⟩ := q
        have hb : strB c = [92, UInt8.ofNat (48 + c.toNat / 64), UInt8.ofNat (48 + c.toNat / 8 % 8), UInt8.ofNat (48 + c.toNat % 8)] := by
          have z : ¬ (c = 40 ∨ c = 41 ∨ c = 92) := by
            rintro (rfl | rfl | rfl)
            · exact q1 rfl
            · exact q2 rfl
            · exact q3 rfl
          unfold strB
          rw [if_neg z, if_neg q4]
        have e1 : Int.tdiv (c.toNat : Int) 64 = ((c.toNat / 64 : Nat) : Int) := rfl
        have e2 : Int.tdiv (c.toNat : Int) 8 = ((c.toNat / 8 : Nat) : Int) := rfl
        have e3 : Int.tmod ((c.toNat / 8 : Nat) : Int) 8 = ((c.toNat / 8 % 8 : Nat) : Int) := rfl
        have e4 : Int.tmod (c.toNat : Int) 8 = ((c.toNat % 8 : Nat) : Int) := rfl
        have b4 := bytesOf4n 92 (c.toNat / 64) (c.toNat / 8 % 8) (c.toNat % 8)
        have z92 : ((UInt8.toNat 92 : Nat) : Int) = 92 := rfl
        rw [z92] at b4
        rcases (by omega : ¬ 32 ≤ c.toNat ∨ (32 ≤ c.toNat ∧ ¬ c.toNat < 127)) with r | r
        · skip
          have n40 : ((c.toNat : Int) = 40) = False := by simp only [eq_iff_iff, iff_false]; omega
          have n41 : ((c.toNat : Int) = 41) = False := by simp only [eq_iff_iff, iff_false]; omega
          have n92 : ((c.toNat : Int) = 92) = False := by simp only [eq_iff_iff, iff_false]; omega
          have L32 : ((32 : Int) ≤ c.toNat) = False := by simp only [eq_iff_iff, iff_false]; omega
          simp (maxSteps := 2000000) (disch := omega) only [go_sem, Nat.reduceEqDiff, Nat.reduceBEq, Nat.reduceLT, Nat.reduceLeDiff, Nat.reduceAdd, Nat.reduceSub, Nat.reduceMul, ↓reduceIte, reduceCtorEq, Nat.reduceBNe, Nat.reduceSubDiff, Int.reduceLT, Int.reduceLE, Int.reduceEq, Int.reduceNeg, Int.reduceAdd, Int.reduceMul, Int.reduceSub, Int.reduceToNat, getI_nat s, hc, n40, n41, n92, L32, e1, e2, e3, e4, b4]
          refine ⟨by omega, i + 1, ?_, by omega, by omega⟩
          refine Weak.mk ?_ ?_ ?_ <;> simp (maxSteps := 2000000) only [go_sem, Nat.reduceEqDiff, Nat.reduceBEq, Nat.reduceLT, Nat.reduceLeDiff, Nat.reduceAdd, Nat.reduceSub, Nat.reduceMul, ↓reduceIte, reduceCtorEq, Nat.reduceBNe, Nat.reduceSubDiff, Int.reduceLT, Int.reduceLE, Int.reduceEq, Int.reduceNeg, Int.reduceAdd, Int.reduceMul, Int.reduceSub, Int.reduceToNat, Sub, Int.natCast_add, Int.natCast_mul, strP_next hc, hb, List.append_assoc]
        · skip
          have n40 : ((c.toNat : Int) = 40) = False := by simp only [eq_iff_iff, iff_false]; omega
          have n41 : ((c.toNat : Int) = 41) = False := by simp only [eq_iff_iff, iff_false]; omega
          have n92 : ((c.toNat : Int) = 92) = False := by simp only [eq_iff_iff, iff_false]; omega
          have L32 : ((32 : Int) ≤ c.toNat) = True := by simp only [eq_iff_iff, iff_true]; omega
          have g127 : ((c.toNat : Int) < 127) = False := by simp only [eq_iff_iff, iff_false]; omega
          simp (maxSteps := 2000000) (disch := omega) only [go_sem, Nat.reduceEqDiff, Nat.reduceBEq, Nat.reduceLT, Nat.reduceLeDiff, Nat.reduceAdd, Nat.reduceSub, Nat.reduceMul, ↓reduceIte, reduceCtorEq, Nat.reduceBNe, Nat.reduceSubDiff, Int.reduceLT, Int.reduceLE, Int.reduceEq, Int.reduceNeg, Int.reduceAdd, Int.reduceMul, Int.reduceSub, Int.reduceToNat, getI_nat s, hc, n40, n41, n92, L32, g127, e1, e2, e3, e4, b4]
          refine ⟨by omega, i + 1, ?_, by omega, by omega⟩
          refine Weak.mk ?_ ?_ ?_ <;> simp (maxSteps := 2000000) only [go_sem, Nat.reduceEqDiff, Nat.reduceBEq, Nat.reduceLT, Nat.reduceLeDiff, Nat.reduceAdd, Nat.reduceSub, Nat.reduceMul, ↓reduceIte, reduceCtorEq, Nat.reduceBNe, Nat.reduceSubDiff, Int.reduceLT, Int.reduceLE, Int.reduceEq, Int.reduceNeg, Int.reduceAdd, Int.reduceMul, Int.reduceSub, Int.reduceToNat, Sub, Int.natCast_add, Int.natCast_mul, strP_next hc, hb, List.append_assoc]
    · have hll := strP_length s
      rw [List.take_of_length_le (by omega)]
      simp (maxSteps := 2000000) only [go_sem, Nat.reduceEqDiff, Nat.reduceBEq, Nat.reduceLT, Nat.reduceLeDiff, Nat.reduceAdd, Nat.reduceSub, Nat.reduceMul, ↓reduceIte, reduceCtorEq, Nat.reduceBNe, Nat.reduceSubDiff, Int.reduceLT, Int.reduceLE, Int.reduceEq, Int.reduceNeg, Int.reduceAdd, Int.reduceMul, Int.reduceSub, Int.reduceToNat]
      omega

mutual
/-- The text of a value that is well. -/
def textV : Val → List UInt8
  | .mk k n s l f =>
    if k = 1 then (if n = 1 then [116, 114, 117, 101] else [102, 97, 108, 115, 101])
    else if k = 2 then textF n
    else if k = 3 then [40] ++ strP s ++ [41]
    else if k = 4 then [47] ++ nameP s
    else if k = 5 then [91] ++ textL false l ++ [93]
    else if k = 6 then [60, 60] ++ textX f ++ [32, 62, 62]
    else if k = 7 then Lib.decDigits n.toNat ++ [32, 48, 32, 82]
    else [110, 117, 108, 108]
def textL (sep : Bool) : List Val → List UInt8
  | [] => []
  | v :: r => (if sep then [32] else []) ++ textV v ++ textL true r
def textX : List Fld → List UInt8
  | [] => []
  | .mk nm v :: r => [32, 47] ++ nameP nm ++ [32] ++ textV v ++ textX r
end
theorem textV_eq (v : Val) : textV v =
    if v.kind = 1 then (if v.n = 1 then [116, 114, 117, 101] else [102, 97, 108, 115, 101])
    else if v.kind = 2 then textF v.n
    else if v.kind = 3 then [40] ++ strP v.s ++ [41]
    else if v.kind = 4 then [47] ++ nameP v.s
    else if v.kind = 5 then [91] ++ textL false v.l ++ [93]
    else if v.kind = 6 then [60, 60] ++ textX v.f ++ [32, 62, 62]
    else if v.kind = 7 then Lib.decDigits v.n.toNat ++ [32, 48, 32, 82]
    else [110, 117, 108, 108] := by cases v; simp only [textV]; rfl
theorem textL_append (sep : Bool) (a b : List Val) : textL sep (a ++ b) = textL sep a ++ textL (sep || decide (a ≠ [])) b := by
  induction a generalizing sep with
  | nil => simp [textL]
  | cons v r ih => simp [textL, ih, List.append_assoc]
theorem textL_next {l : List Val} {i : Nat} {x : Val} (hx : l[i]? = some x) : textL false (l.take (i + 1)) = textL false (l.take i) ++ (if 0 < i then [32] else []) ++ textV x := by
  rw [take_snoc hx, textL_append]
  have hl : i < l.length := (List.getElem?_eq_some_iff.1 hx).1
  by_cases h : 0 < i
  · have : l.take i ≠ [] := fun e => by
      have h2 : (l.take i).length = 0 := by rw [e]; rfl
      rw [List.length_take] at h2; omega
    simp [textL, h, this]
  · obtain rfl : i = 0 := by omega
    simp [textL]
theorem textL_take_le {l : List Val} {i : Nat} : (textL false (l.take i)).length ≤ (textL false l).length := by
  have h := textL_append false (l.take i) (l.drop i)
  rw [List.take_append_drop] at h
  rw [h, List.length_append]; omega
def textG (x : Fld) : List UInt8 := [32, 47] ++ nameP x.name ++ [32] ++ textV x.v
theorem textX_append (a b : List Fld) : textX (a ++ b) = textX a ++ textX b := by
  induction a with
  | nil => simp [textX]
  | cons x r ih => cases x; simp [textX, ih, List.append_assoc]
theorem textX_next {l : List Fld} {i : Nat} {x : Fld} (hx : l[i]? = some x) : textX (l.take (i + 1)) = textX (l.take i) ++ textG x := by
  rw [take_snoc hx, textX_append]
  cases x; simp [textX, textG, Fld.name, Fld.v]
theorem textX_take_le {l : List Fld} {i : Nat} : (textX (l.take i)).length ≤ (textX l).length := by
  have h := textX_append (l.take i) (l.drop i)
  rw [List.take_append_drop] at h
  rw [h, List.length_append]; omega

/-! ### What is well, part by part -/
theorem wellV_1 {v : Val} (h : wellV v = true) (hk : v.kind = 1) : v.n = 0 ∨ v.n = 1 := by rw [wellV_eq, hk] at h; simp at h; exact h.1
theorem wellV_2 {v : Val} (h : wellV v = true) (hk : v.kind = 2) : Lim v.n := by rw [wellV_eq, hk] at h; simp at h; exact h.1
theorem wellV_5 {v x : Val} (h : wellV v = true) (hk : v.kind = 5) (hx : x ∈ v.l) : wellV x = true := by
  rw [wellV_eq, hk] at h; simp at h
  have h1 := h.2.2.1
  rw [wellL_eq] at h1
  simp only [Bool.not_eq_true'] at h1
  rw [List.any_eq_false] at h1
  simpa using h1 x hx
theorem wellF_mem : ∀ {p : Option (List UInt8)} {l : List Fld} {x : Fld}, wellF p l = true → x ∈ l → nameMay x.name = true ∧ wellV x.v = true
  | p, .mk nm v :: r, x, h, hx => by
    simp only [wellF, Bool.and_eq_true] at h
    rcases List.mem_cons.1 hx with rfl | hx
    · exact ⟨h.1.1, h.1.2.1⟩
    · exact wellF_mem h.2 hx
theorem wellV_6 {v : Val} {x : Fld} (h : wellV v = true) (hk : v.kind = 6) (hx : x ∈ v.f) : wellV x.v = true := by
  rw [wellV_eq, hk] at h; simp at h
  exact (wellF_mem h.2.2.2 hx).2
theorem wellV_7 {v : Val} (h : wellV v = true) (hk : v.kind = 7) : 1 ≤ v.n ∧ v.n ≤ 60 := by rw [wellV_eq, hk] at h; simp at h; exact h.1
theorem wellV_k {v : Val} (h : wellV v = true) : v.kind = 0 ∨ v.kind = 1 ∨ v.kind = 2 ∨ v.kind = 3 ∨ v.kind = 4 ∨ v.kind = 5 ∨ v.kind = 6 ∨ v.kind = 7 := by
  rcases kinds v.kind with k | k | k | k | k | k | k | k | ⟨k0, k1, k2, k3, k4, k5, k6, k7⟩
  · exact .inl k
  · exact .inr (.inl k)
  · exact .inr (.inr (.inl k))
  · exact .inr (.inr (.inr (.inl k)))
  · exact .inr (.inr (.inr (.inr (.inl k))))
  · exact .inr (.inr (.inr (.inr (.inr (.inl k)))))
  · exact .inr (.inr (.inr (.inr (.inr (.inr (.inl k))))))
  · exact .inr (.inr (.inr (.inr (.inr (.inr (.inr k))))))
  · rw [wellV_eq, if_neg k0, if_neg k1, if_neg k2, if_neg k3, if_neg k4, if_neg k5, if_neg k6, if_neg k7] at h; cases h

/-- foliowrightref.ValueText -/
def L_foliowrightref_ValueText : LCode :=
  .seq (.reg [⟨some 1, .box (.t 0), none⟩, ⟨some 2, .asg (.k (.d (.str []))), none⟩]) (.seq (.seq (.reg [⟨some 7, .val (.fa 0 (.t 1)), none⟩, ⟨some 8, .val (.ld false 1 (.t 7)), 
  none⟩]) (.block 0 (.seq (.reg [⟨some 10, .val (.bin .eql (.t 8) (.k (.d (.int .i64 1)))), none⟩, ⟨some 9, .asg (.t 10), none⟩]) (.cond (.t 9) (.seq (.seq (.reg [⟨some 11, .val 
  (.fa 1 (.t 1)), none⟩, ⟨some 12, .val (.ld false 1 (.t 11)), none⟩, ⟨some 13, .val (.bin .eql (.t 12) (.k (.d (.int .i64 1)))), none⟩]) (.cond (.t 13) (.seq (.reg [⟨some 2, .asg 
  (.k (.d (.str [116, 114, 117, 101]))), none⟩]) .ret) .skip)) (.seq (.reg [⟨some 2, .asg (.k (.d (.str [102, 97, 108, 115, 101]))), none⟩]) .ret)) (.seq (.reg [⟨some 15, .val 
  (.bin .eql (.t 8) (.k (.d (.int .i64 2)))), none⟩, ⟨some 14, .asg (.t 15), none⟩]) (.cond (.t 14) (.seq (.reg [⟨some 16, .val (.fa 1 (.t 1)), none⟩, ⟨some 17, .val (.ld false 1 
  (.t 16)), none⟩, ⟨some 18, .call 27 [.t 17], none⟩, ⟨some 2, .asg (.t 18), none⟩]) .ret) (.seq (.reg [⟨some 20, .val (.bin .eql (.t 8) (.k (.d (.int .i64 3)))), none⟩, ⟨some 19, 
  .asg (.t 20), none⟩]) (.cond (.t 19) (.seq (.reg [⟨some 21, .val (.fa 2 (.t 1)), none⟩, ⟨some 22, .val (.ld false 1 (.t 21)), none⟩, ⟨some 23, .call 110 [.t 22], none⟩, ⟨some 2, 
  .asg (.t 23), none⟩]) .ret) (.seq (.reg [⟨some 25, .val (.bin .eql (.t 8) (.k (.d (.int .i64 4)))), none⟩, ⟨some 24, .asg (.t 25), none⟩]) (.cond (.t 24) (.seq (.reg [⟨some 26, 
  .val (.fa 2 (.t 1)), none⟩, ⟨some 27, .val (.ld false 1 (.t 26)), none⟩, ⟨some 28, .call 111 [.t 27], none⟩, ⟨some 2, .asg (.t 28), none⟩]) .ret) (.seq (.reg [⟨some 30, .val 
  (.bin .eql (.t 8) (.k (.d (.int .i64 5)))), none⟩, ⟨some 29, .asg (.t 30), none⟩]) (.cond (.t 29) (.seq (.reg [⟨some 3, .asg (.k (.d (.str [91]))), none⟩]) (.seq (.seq (.reg 
  [⟨some 4, .asg (.k (.d (.int .i64 0))), none⟩]) (.block 1 (.loop (.seq (.seq (.reg [⟨some 31, .val (.cp (.t 4)), none⟩, ⟨some 32, .val (.fa 3 (.t 1)), none⟩, ⟨some 33, .val (.ld 
  false 1 (.t 32)), none⟩, ⟨some 34, .val (.len false (.t 33)), none⟩, ⟨some 35, .val (.bin .lss (.t 31) (.t 34)), none⟩]) (.cond (.t 35) .skip (.exit 1))) (.seq (.block 2 (.seq 
  (.seq (.reg [⟨some 38, .val (.cp (.t 4)), none⟩, ⟨some 39, .val (.bin .gtr (.t 38) (.k (.d (.int .i64 0)))), none⟩]) (.cond (.t 39) (.reg [⟨some 40, .val (.cp (.t 3)), none⟩, 
  ⟨some 41, .val (.bin .add (.t 40) (.k (.d (.str [32])))), none⟩, ⟨some 3, .asg (.t 41), none⟩]) .skip)) (.reg [⟨some 42, .val (.cp (.t 3)), none⟩, ⟨some 43, .val (.fa 3 (.t 1)), 
  none⟩, ⟨some 44, .val (.ld false 1 (.t 43)), none⟩, ⟨some 45, .val (.cp (.t 4)), none⟩, ⟨some 46, .val (.ia 5 (.t 44) (.t 45)), none⟩, ⟨some 47, .val (.ld true 5 (.t 46)), none⟩, 
  ⟨some 48, .call 57 [.t 47], none⟩, ⟨some 49, .val (.bin .add (.t 42) (.t 48)), none⟩, ⟨some 3, .asg (.t 49), none⟩]))) (.reg [⟨some 36, .val (.cp (.t 4)), none⟩, ⟨some 37, .val 
  (.bin .add (.t 36) (.k (.d (.int .i64 1)))), none⟩, ⟨some 4, .asg (.t 37), none⟩])))))) (.seq (.reg [⟨some 50, .val (.cp (.t 3)), none⟩, ⟨some 51, .val (.bin .add (.t 50) (.k (.d 
  (.str [93])))), none⟩, ⟨some 2, .asg (.t 51), none⟩]) .ret))) (.seq (.reg [⟨some 53, .val (.bin .eql (.t 8) (.k (.d (.int .i64 6)))), none⟩, ⟨some 52, .asg (.t 53), none⟩]) 
  (.cond (.t 52) (.seq (.reg [⟨some 5, .asg (.k (.d (.str [60, 60]))), none⟩]) (.seq (.seq (.reg [⟨some 6, .asg (.k (.d (.int .i64 0))), none⟩]) (.block 3 (.loop (.seq (.seq (.reg 
  [⟨some 54, .val (.cp (.t 6)), none⟩, ⟨some 55, .val (.fa 4 (.t 1)), none⟩, ⟨some 56, .val (.ld false 1 (.t 55)), none⟩, ⟨some 57, .val (.len false (.t 56)), none⟩, ⟨some 58, .val 
  (.bin .lss (.t 54) (.t 57)), none⟩]) (.cond (.t 58) .skip (.exit 3))) (.seq (.block 4 (.dreg [⟨some 61, .val (.cp (.t 5)), none⟩, ⟨some 62, .val (.bin .add (.t 61) (.k (.d (.str 
  [32])))), none⟩, ⟨some 63, .val (.fa 4 (.t 1)), none⟩, ⟨some 64, .val (.ld false 1 (.t 63)), none⟩, ⟨some 65, .val (.cp (.t 6)), none⟩, ⟨some 66, .val (.ia 6 (.t 64) (.t 65)), 
  none⟩, ⟨some 67, .val (.fa 0 (.t 66)), none⟩, ⟨some 68, .val (.ld false 1 (.t 67)), none⟩, ⟨some 69, .call 111 [.t 68], none⟩, ⟨some 70, .val (.bin .add (.t 62) (.t 69)), none⟩, 
  ⟨some 71, .val (.bin .add (.t 70) (.k (.d (.str [32])))), none⟩, ⟨some 72, .val (.fa 4 (.t 1)), none⟩, ⟨some 73, .val (.ld false 1 (.t 72)), none⟩, ⟨some 74, .val (.cp (.t 6)), 
  none⟩, ⟨some 75, .val (.ia 6 (.t 73) (.t 74)), none⟩, ⟨some 76, .val (.fa 1 (.t 75)), none⟩, ⟨some 77, .val (.ld true 5 (.t 76)), none⟩, ⟨some 78, .call 57 [.t 77], none⟩, ⟨some 
  79, .val (.bin .add (.t 71) (.t 78)), none⟩, ⟨some 5, .asg (.t 79), none⟩])) (.reg [⟨some 59, .val (.cp (.t 6)), none⟩, ⟨some 60, .val (.bin .add (.t 59) (.k (.d (.int .i64 
  1)))), none⟩, ⟨some 6, .asg (.t 60), none⟩])))))) (.seq (.reg [⟨some 80, .val (.cp (.t 5)), none⟩, ⟨some 81, .val (.bin .add (.t 80) (.k (.d (.str [32, 62, 62])))), none⟩, ⟨some 
  2, .asg (.t 81), none⟩]) .ret))) (.seq (.reg [⟨some 83, .val (.bin .eql (.t 8) (.k (.d (.int .i64 7)))), none⟩, ⟨some 82, .asg (.t 83), none⟩]) (.cond (.t 82) (.seq (.reg [⟨some 
  84, .val (.fa 1 (.t 1)), none⟩, ⟨some 85, .val (.ld false 1 (.t 84)), none⟩, ⟨some 86, .call 75 [.t 85], none⟩, ⟨some 87, .val (.bin .add (.t 86) (.k (.d (.str [32, 48, 32, 
  82])))), none⟩, ⟨some 2, .asg (.t 87), none⟩]) .ret) .skip)))))))))))))))) (.seq (.reg [⟨some 2, .asg (.k (.d (.str [110, 117, 108, 108]))), none⟩]) .ret))
def R_foliowrightref_ValueText : List LRes := [.tmp 2]
theorem lift_foliowrightref_ValueText : Lifts Tryd.prog 57 88 L_foliowrightref_ValueText R_foliowrightref_ValueText := ⟨_, _, Tryd.func57, rfl, by kernel_rfl, by kernel_rfl, rfl⟩

theorem valueText_call : ∀ (m : Nat) (v : Val), SizeOf.sizeOf v ≤ m → v.sm 1048576 = true → wellV v = true → (textV v).length ≤ 900000000 → PCall Tryd.prog 57 [v.d] (fun r => r = .one (.str (textV v))) := by
  intro m
  induction m with
  | zero => intro v h; cases v; simp at h
  | succ m ih =>
    intro v hv hsm hw htl
    obtain ⟨hsl0, hll, hfl, hsl, hsf⟩ := Val.sm_iff.1 hsm
    have hvl := valsD_length v.l
    have hfl' := fldsD_length v.f
    generalize hR : textV v = R at htl ⊢
    rw [textV_eq] at hR
    rw [Val.d_eq]
    rcases wellV_k hw with hk | hk | hk | hk | hk | hk | hk | hk
    · refine lift_foliowrightref_ValueText.call rfl ?_
      rw [hk] at hR
      simp only [Int.reduceEq, ↓reduceIte] at hR
      simp (maxSteps := 2000000) only [go_sem, Nat.reduceEqDiff, Nat.reduceBEq, Nat.reduceLT, Nat.reduceLeDiff, Nat.reduceAdd, Nat.reduceSub, Nat.reduceMul, ↓reduceIte, reduceCtorEq, Nat.reduceBNe, Nat.reduceSubDiff, Int.reduceLT, Int.reduceLE, Int.reduceEq, Int.reduceNeg, Int.reduceAdd, Int.reduceMul, Int.reduceSub, Int.reduceToNat, L_foliowrightref_ValueText, R_foliowrightref_ValueText, hk, hvl, hfl']
      rw [hR]
    · refine lift_foliowrightref_ValueText.call rfl ?_
      rw [hk] at hR
      simp only [Int.reduceEq, ↓reduceIte] at hR
      simp (maxSteps := 2000000) only [go_sem, Nat.reduceEqDiff, Nat.reduceBEq, Nat.reduceLT, Nat.reduceLeDiff, Nat.reduceAdd, Nat.reduceSub, Nat.reduceMul, ↓reduceIte, reduceCtorEq, Nat.reduceBNe, Nat.reduceSubDiff, Int.reduceLT, Int.reduceLE, Int.reduceEq, Int.reduceNeg, Int.reduceAdd, Int.reduceMul, Int.reduceSub, Int.reduceToNat, L_foliowrightref_ValueText, R_foliowrightref_ValueText, hk, hvl, hfl']
      refine ⟨fun h => ?_, fun h => ?_⟩
      · rw [← hR, if_pos h]
      · rw [← hR, if_neg h]
    · refine lift_foliowrightref_ValueText.call rfl ?_
      have hL := wellV_2 hw hk
      rw [hk] at hR
      simp only [Int.reduceEq, ↓reduceIte] at hR
      simp (maxSteps := 2000000) only [go_sem, Nat.reduceEqDiff, Nat.reduceBEq, Nat.reduceLT, Nat.reduceLeDiff, Nat.reduceAdd, Nat.reduceSub, Nat.reduceMul, ↓reduceIte, reduceCtorEq, Nat.reduceBNe, Nat.reduceSubDiff, Int.reduceLT, Int.reduceLE, Int.reduceEq, Int.reduceNeg, Int.reduceAdd, Int.reduceMul, Int.reduceSub, Int.reduceToNat, L_foliowrightref_ValueText, R_foliowrightref_ValueText, hk, hvl, hfl']
      refine CallG.of (fixText_call _ hL) ?_
      simp (maxSteps := 2000000) only [go_sem, Nat.reduceEqDiff, Nat.reduceBEq, Nat.reduceLT, Nat.reduceLeDiff, Nat.reduceAdd, Nat.reduceSub, Nat.reduceMul, ↓reduceIte, reduceCtorEq, Nat.reduceBNe, Nat.reduceSubDiff, Int.reduceLT, Int.reduceLE, Int.reduceEq, Int.reduceNeg, Int.reduceAdd, Int.reduceMul, Int.reduceSub, Int.reduceToNat, hR]
    · refine lift_foliowrightref_ValueText.call rfl ?_
      rw [hk] at hR
      simp only [Int.reduceEq, ↓reduceIte] at hR
      simp (maxSteps := 2000000) only [go_sem, Nat.reduceEqDiff, Nat.reduceBEq, Nat.reduceLT, Nat.reduceLeDiff, Nat.reduceAdd, Nat.reduceSub, Nat.reduceMul, ↓reduceIte, reduceCtorEq, Nat.reduceBNe, Nat.reduceSubDiff, Int.reduceLT, Int.reduceLE, Int.reduceEq, Int.reduceNeg, Int.reduceAdd, Int.reduceMul, Int.reduceSub, Int.reduceToNat, L_foliowrightref_ValueText, R_foliowrightref_ValueText, hk, hvl, hfl']
      refine CallG.of (strText_call _ (by omega)) ?_
      rw [hR]
      simp (maxSteps := 2000000) only [go_sem, Nat.reduceEqDiff, Nat.reduceBEq, Nat.reduceLT, Nat.reduceLeDiff, Nat.reduceAdd, Nat.reduceSub, Nat.reduceMul, ↓reduceIte, reduceCtorEq, Nat.reduceBNe, Nat.reduceSubDiff, Int.reduceLT, Int.reduceLE, Int.reduceEq, Int.reduceNeg, Int.reduceAdd, Int.reduceMul, Int.reduceSub, Int.reduceToNat]
    · refine lift_foliowrightref_ValueText.call rfl ?_
      rw [hk] at hR
      simp only [Int.reduceEq, ↓reduceIte] at hR
      simp (maxSteps := 2000000) only [go_sem, Nat.reduceEqDiff, Nat.reduceBEq, Nat.reduceLT, Nat.reduceLeDiff, Nat.reduceAdd, Nat.reduceSub, Nat.reduceMul, ↓reduceIte, reduceCtorEq, Nat.reduceBNe, Nat.reduceSubDiff, Int.reduceLT, Int.reduceLE, Int.reduceEq, Int.reduceNeg, Int.reduceAdd, Int.reduceMul, Int.reduceSub, Int.reduceToNat, L_foliowrightref_ValueText, R_foliowrightref_ValueText, hk, hvl, hfl']
      refine CallG.of (nameText_call _ (by omega)) ?_
      rw [hR]
      simp (maxSteps := 2000000) only [go_sem, Nat.reduceEqDiff, Nat.reduceBEq, Nat.reduceLT, Nat.reduceLeDiff, Nat.reduceAdd, Nat.reduceSub, Nat.reduceMul, ↓reduceIte, reduceCtorEq, Nat.reduceBNe, Nat.reduceSubDiff, Int.reduceLT, Int.reduceLE, Int.reduceEq, Int.reduceNeg, Int.reduceAdd, Int.reduceMul, Int.reduceSub, Int.reduceToNat]
    · refine lift_foliowrightref_ValueText.call rfl ?_
      rw [hk] at hR
      simp only [Int.reduceEq, ↓reduceIte] at hR
      simp (maxSteps := 2000000) only [go_sem, Nat.reduceEqDiff, Nat.reduceBEq, Nat.reduceLT, Nat.reduceLeDiff, Nat.reduceAdd, Nat.reduceSub, Nat.reduceMul, ↓reduceIte, reduceCtorEq, Nat.reduceBNe, Nat.reduceSubDiff, Int.reduceLT, Int.reduceLE, Int.reduceEq, Int.reduceNeg, Int.reduceAdd, Int.reduceMul, Int.reduceSub, Int.reduceToNat, L_foliowrightref_ValueText, R_foliowrightref_ValueText, hk, hvl, hfl']
      have hRl := congrArg List.length hR
      simp only [List.length_append, List.length_cons, List.length_nil] at hRl
      refine run_loop (fun i : Nat => ⟨[(1, .ptr (.l 1) 0), (3, .d (.str ([91] ++ textL false (v.l.take i)))), (4, .d (.int .i64 i))],
          [(1, .cells [.d (.int .i64 5), .d (.int .i64 v.n), .d (.str v.s), .d (.list (valsD v.l)), .d (.list (fldsD v.f))])], []⟩)
        (fun i => i ≤ v.l.length) (fun i => v.l.length - i) 0 ?_ ?_ ?_
      · refine Weak.mk ?_ ?_ ?_ <;> simp (maxSteps := 2000000) only [go_sem, Nat.reduceEqDiff, Nat.reduceBEq, Nat.reduceLT, Nat.reduceLeDiff, Nat.reduceAdd, Nat.reduceSub, Nat.reduceMul, ↓reduceIte, reduceCtorEq, Nat.reduceBNe, Nat.reduceSubDiff, Int.reduceLT, Int.reduceLE, Int.reduceEq, Int.reduceNeg, Int.reduceAdd, Int.reduceMul, Int.reduceSub, Int.reduceToNat, Sub, Int.natCast_add, Int.natCast_mul, List.take_zero, textL]
      · omega
      · intro i hi
        simp (maxSteps := 2000000) only [go_sem, Nat.reduceEqDiff, Nat.reduceBEq, Nat.reduceLT, Nat.reduceLeDiff, Nat.reduceAdd, Nat.reduceSub, Nat.reduceMul, ↓reduceIte, reduceCtorEq, Nat.reduceBNe, Nat.reduceSubDiff, Int.reduceLT, Int.reduceLE, Int.reduceEq, Int.reduceNeg, Int.reduceAdd, Int.reduceMul, Int.reduceSub, Int.reduceToNat, hvl]
        refine ⟨fun hlt => ?_, fun hge => ?_⟩
        · obtain ⟨x, hx⟩ := get_some (l := v.l) (i := i) (by omega)
          have hm := List.mem_of_getElem? hx
          have hn := textL_next hx
          have hle := textL_take_le (l := v.l) (i := i + 1)
          have hnl := congrArg List.length hn
          simp only [List.length_append] at hnl
          have hc := ih x (by have := size_l hm; omega) (hsl x hm) (wellV_5 hw hk hm) (by omega)
          rw [Val.d_eq] at hc
          by_cases i0 : 0 < i
          · rw [if_pos i0] at hn hnl
            have i0' : ((0 : Int) < (i : Int)) = True := by simp only [eq_iff_iff, iff_true]; omega
            simp only [List.length_cons, List.length_nil] at hnl
            simp (maxSteps := 2000000) (disch := omega) only [go_sem, Nat.reduceEqDiff, Nat.reduceBEq, Nat.reduceLT, Nat.reduceLeDiff, Nat.reduceAdd, Nat.reduceSub, Nat.reduceMul, ↓reduceIte, reduceCtorEq, Nat.reduceBNe, Nat.reduceSubDiff, Int.reduceLT, Int.reduceLE, Int.reduceEq, Int.reduceNeg, Int.reduceAdd, Int.reduceMul, Int.reduceSub, Int.reduceToNat, getI_nat, valsD_get, hx, Val.d_eq, i0']
            refine ⟨by omega, ?_⟩
            refine CallG.of hc ?_
            simp (maxSteps := 2000000) (disch := omega) only [go_sem, Nat.reduceEqDiff, Nat.reduceBEq, Nat.reduceLT, Nat.reduceLeDiff, Nat.reduceAdd, Nat.reduceSub, Nat.reduceMul, ↓reduceIte, reduceCtorEq, Nat.reduceBNe, Nat.reduceSubDiff, Int.reduceLT, Int.reduceLE, Int.reduceEq, Int.reduceNeg, Int.reduceAdd, Int.reduceMul, Int.reduceSub, Int.reduceToNat]
            refine ⟨by simp only [List.length_append, List.length_cons, List.length_nil]; omega, i + 1, ?_, by omega, by omega⟩
            refine Weak.mk ?_ ?_ ?_ <;> simp (maxSteps := 2000000) only [go_sem, Nat.reduceEqDiff, Nat.reduceBEq, Nat.reduceLT, Nat.reduceLeDiff, Nat.reduceAdd, Nat.reduceSub, Nat.reduceMul, ↓reduceIte, reduceCtorEq, Nat.reduceBNe, Nat.reduceSubDiff, Int.reduceLT, Int.reduceLE, Int.reduceEq, Int.reduceNeg, Int.reduceAdd, Int.reduceMul, Int.reduceSub, Int.reduceToNat, Sub, Int.natCast_add, Int.natCast_mul, hn, List.append_assoc]
          · rw [if_neg i0] at hn hnl
            have i0' : ((0 : Int) < (i : Int)) = False := by simp only [eq_iff_iff, iff_false]; omega
            simp only [List.length_nil] at hnl
            simp (maxSteps := 2000000) (disch := omega) only [go_sem, Nat.reduceEqDiff, Nat.reduceBEq, Nat.reduceLT, Nat.reduceLeDiff, Nat.reduceAdd, Nat.reduceSub, Nat.reduceMul, ↓reduceIte, reduceCtorEq, Nat.reduceBNe, Nat.reduceSubDiff, Int.reduceLT, Int.reduceLE, Int.reduceEq, Int.reduceNeg, Int.reduceAdd, Int.reduceMul, Int.reduceSub, Int.reduceToNat, getI_nat, valsD_get, hx, Val.d_eq, i0']
            refine CallG.of hc ?_
            simp (maxSteps := 2000000) (disch := omega) only [go_sem, Nat.reduceEqDiff, Nat.reduceBEq, Nat.reduceLT, Nat.reduceLeDiff, Nat.reduceAdd, Nat.reduceSub, Nat.reduceMul, ↓reduceIte, reduceCtorEq, Nat.reduceBNe, Nat.reduceSubDiff, Int.reduceLT, Int.reduceLE, Int.reduceEq, Int.reduceNeg, Int.reduceAdd, Int.reduceMul, Int.reduceSub, Int.reduceToNat]
            refine ⟨by omega, i + 1, ?_, by omega, by omega⟩
            refine Weak.mk ?_ ?_ ?_ <;> simp (maxSteps := 2000000) only [go_sem, Nat.reduceEqDiff, Nat.reduceBEq, Nat.reduceLT, Nat.reduceLeDiff, Nat.reduceAdd, Nat.reduceSub, Nat.reduceMul, ↓reduceIte, reduceCtorEq, Nat.reduceBNe, Nat.reduceSubDiff, Int.reduceLT, Int.reduceLE, Int.reduceEq, Int.reduceNeg, Int.reduceAdd, Int.reduceMul, Int.reduceSub, Int.reduceToNat, Sub, Int.natCast_add, Int.natCast_mul, hn, List.append_assoc]
        · rw [List.take_of_length_le (by omega)]
          refine ⟨by omega, ?_⟩
          rw [← hR]; rfl
    · refine lift_foliowrightref_ValueText.call rfl ?_
      rw [hk] at hR
      simp only [Int.reduceEq, ↓reduceIte] at hR
      simp (maxSteps := 2000000) only [go_sem, Nat.reduceEqDiff, Nat.reduceBEq, Nat.reduceLT, Nat.reduceLeDiff, Nat.reduceAdd, Nat.reduceSub, Nat.reduceMul, ↓reduceIte, reduceCtorEq, Nat.reduceBNe, Nat.reduceSubDiff, Int.reduceLT, Int.reduceLE, Int.reduceEq, Int.reduceNeg, Int.reduceAdd, Int.reduceMul, Int.reduceSub, Int.reduceToNat, L_foliowrightref_ValueText, R_foliowrightref_ValueText, hk, hvl, hfl']
      have hRl := congrArg List.length hR
      simp only [List.length_append, List.length_cons, List.length_nil] at hRl
      refine run_loop (fun i : Nat => ⟨[(1, .ptr (.l 1) 0), (5, .d (.str ([60, 60] ++ textX (v.f.take i)))), (6, .d (.int .i64 i))],
          [(1, .cells [.d (.int .i64 6), .d (.int .i64 v.n), .d (.str v.s), .d (.list (valsD v.l)), .d (.list (fldsD v.f))])], []⟩)
        (fun i => i ≤ v.f.length) (fun i => v.f.length - i) 0 ?_ ?_ ?_
      · refine Weak.mk ?_ ?_ ?_ <;> simp (maxSteps := 2000000) only [go_sem, Nat.reduceEqDiff, Nat.reduceBEq, Nat.reduceLT, Nat.reduceLeDiff, Nat.reduceAdd, Nat.reduceSub, Nat.reduceMul, ↓reduceIte, reduceCtorEq, Nat.reduceBNe, Nat.reduceSubDiff, Int.reduceLT, Int.reduceLE, Int.reduceEq, Int.reduceNeg, Int.reduceAdd, Int.reduceMul, Int.reduceSub, Int.reduceToNat, Sub, Int.natCast_add, Int.natCast_mul, List.take_zero, textX]
      · omega
      · intro i hi
        simp (maxSteps := 2000000) only [go_sem, Nat.reduceEqDiff, Nat.reduceBEq, Nat.reduceLT, Nat.reduceLeDiff, Nat.reduceAdd, Nat.reduceSub, Nat.reduceMul, ↓reduceIte, reduceCtorEq, Nat.reduceBNe, Nat.reduceSubDiff, Int.reduceLT, Int.reduceLE, Int.reduceEq, Int.reduceNeg, Int.reduceAdd, Int.reduceMul, Int.reduceSub, Int.reduceToNat, hfl']
        refine ⟨fun hlt => ?_, fun hge => ?_⟩
        · obtain ⟨x, hx⟩ := get_some (l := v.f) (i := i) (by omega)
          have hm := List.mem_of_getElem? hx
          have hn := textX_next hx
          have hle := textX_take_le (l := v.f) (i := i + 1)
          have hnl := congrArg List.length hn
          simp only [textG, List.length_append, List.length_cons, List.length_nil] at hnl
          have hsx := Fld.sm_iff.1 (hsf x hm)
          have hc := ih x.v (by have := size_f hm; omega) hsx.2 (wellV_6 hw hk hm) (by omega)
          rw [Val.d_eq] at hc
          simp (maxSteps := 2000000) (disch := omega) only [go_sem, Nat.reduceEqDiff, Nat.reduceBEq, Nat.reduceLT, Nat.reduceLeDiff, Nat.reduceAdd, Nat.reduceSub, Nat.reduceMul, ↓reduceIte, reduceCtorEq, Nat.reduceBNe, Nat.reduceSubDiff, Int.reduceLT, Int.reduceLE, Int.reduceEq, Int.reduceNeg, Int.reduceAdd, Int.reduceMul, Int.reduceSub, Int.reduceToNat, getI_nat, fldsD_get, hx, Fld.d_eq]
          refine ⟨by omega, ?_⟩
          refine CallD.of (nameText_call _ (by have := hsx.1; omega)) ?_
          simp (maxSteps := 2000000) (disch := omega) only [go_sem, Nat.reduceEqDiff, Nat.reduceBEq, Nat.reduceLT, Nat.reduceLeDiff, Nat.reduceAdd, Nat.reduceSub, Nat.reduceMul, ↓reduceIte, reduceCtorEq, Nat.reduceBNe, Nat.reduceSubDiff, Int.reduceLT, Int.reduceLE, Int.reduceEq, Int.reduceNeg, Int.reduceAdd, Int.reduceMul, Int.reduceSub, Int.reduceToNat, getI_nat, fldsD_get, hx, Fld.d_eq]
          refine ⟨by simp only [List.length_append, List.length_cons, List.length_nil]; omega, by simp only [List.length_append, List.length_cons, List.length_nil]; omega, ?_⟩
          refine CallD.of hc ?_
          simp (maxSteps := 2000000) (disch := omega) only [go_sem, Nat.reduceEqDiff, Nat.reduceBEq, Nat.reduceLT, Nat.reduceLeDiff, Nat.reduceAdd, Nat.reduceSub, Nat.reduceMul, ↓reduceIte, reduceCtorEq, Nat.reduceBNe, Nat.reduceSubDiff, Int.reduceLT, Int.reduceLE, Int.reduceEq, Int.reduceNeg, Int.reduceAdd, Int.reduceMul, Int.reduceSub, Int.reduceToNat]
          refine ⟨by simp only [List.length_append, List.length_cons, List.length_nil]; omega, i + 1, ?_, by omega, by omega⟩
          refine Weak.mk ?_ ?_ ?_ <;> simp (maxSteps := 2000000) only [go_sem, Nat.reduceEqDiff, Nat.reduceBEq, Nat.reduceLT, Nat.reduceLeDiff, Nat.reduceAdd, Nat.reduceSub, Nat.reduceMul, ↓reduceIte, reduceCtorEq, Nat.reduceBNe, Nat.reduceSubDiff, Int.reduceLT, Int.reduceLE, Int.reduceEq, Int.reduceNeg, Int.reduceAdd, Int.reduceMul, Int.reduceSub, Int.reduceToNat, Sub, Int.natCast_add, Int.natCast_mul, hn, textG, List.append_assoc]
        · rw [List.take_of_length_le (by omega)]
          refine ⟨by omega, ?_⟩
          rw [← hR]; rfl
    · refine lift_foliowrightref_ValueText.call rfl ?_
      have hL := wellV_7 hw hk
      rw [hk] at hR
      simp only [Int.reduceEq, ↓reduceIte] at hR
      simp (maxSteps := 2000000) only [go_sem, Nat.reduceEqDiff, Nat.reduceBEq, Nat.reduceLT, Nat.reduceLeDiff, Nat.reduceAdd, Nat.reduceSub, Nat.reduceMul, ↓reduceIte, reduceCtorEq, Nat.reduceBNe, Nat.reduceSubDiff, Int.reduceLT, Int.reduceLE, Int.reduceEq, Int.reduceNeg, Int.reduceAdd, Int.reduceMul, Int.reduceSub, Int.reduceToNat, L_foliowrightref_ValueText, R_foliowrightref_ValueText, hk, hvl, hfl']
      have hc := decimal_call v.n.toNat (by omega)
      have hz : ((v.n.toNat : Nat) : Int) = v.n := by omega
      rw [hz] at hc
      have hRl := congrArg List.length hR
      simp only [List.length_append, List.length_cons, List.length_nil] at hRl
      refine CallG.of hc ?_
      simp (maxSteps := 2000000) only [go_sem, Nat.reduceEqDiff, Nat.reduceBEq, Nat.reduceLT, Nat.reduceLeDiff, Nat.reduceAdd, Nat.reduceSub, Nat.reduceMul, ↓reduceIte, reduceCtorEq, Nat.reduceBNe, Nat.reduceSubDiff, Int.reduceLT, Int.reduceLE, Int.reduceEq, Int.reduceNeg, Int.reduceAdd, Int.reduceMul, Int.reduceSub, Int.reduceToNat, hR]
      omega
end Go.Av.Tryd
