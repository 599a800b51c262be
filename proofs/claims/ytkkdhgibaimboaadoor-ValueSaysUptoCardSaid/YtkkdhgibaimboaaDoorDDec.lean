import Derived.Test.YtkkdhgibaimboaaDoorDText
set_option linter.unusedSimpArgs false
namespace Go.Av.Tryd
open Go.Proofs
theorem bytes_one (k : Nat) : bytesOf [.int .u8 (k : Nat)] = some [UInt8.ofNat k] := rfl
/-- foliowrightref.Decimal -/
def L_foliowrightref_Decimal : LCode :=
  .seq (.reg [⟨some 2, .asg (.k (.d (.str []))), none⟩]) (.seq (.seq (.reg [⟨some 3, .val (.cp (.t 0)), none⟩, ⟨some 4, .val (.bin .lss (.t 3) (.k (.d (.int .i64 0)))), none⟩]) 
  (.cond (.t 4) (.seq (.reg [⟨some 5, .val (.cp (.t 0)), none⟩, ⟨some 6, .val (.neg (.t 5)), none⟩, ⟨some 7, .call 75 [.t 6], none⟩, ⟨some 8, .val (.bin .add (.k (.d (.str [45]))) 
  (.t 7)), none⟩, ⟨some 2, .asg (.t 8), none⟩]) .ret) .skip)) (.seq (.seq (.reg [⟨some 9, .val (.cp (.t 0)), none⟩, ⟨some 10, .val (.bin .lss (.t 9) (.k (.d (.int .i64 10)))), 
  none⟩]) (.cond (.t 10) (.seq (.reg [⟨some 11, .val (.cp (.t 0)), none⟩, ⟨some 12, .val (.bin .add (.k (.d (.int .i64 48))) (.t 11)), none⟩, ⟨some 13, .val (.cvI .u8 (.t 12)), 
  none⟩, ⟨some 14, .bsl 5 1 [.t 13], none⟩, ⟨some 15, .val (.b2s (.t 14)), none⟩, ⟨some 2, .asg (.t 15), none⟩]) .ret) .skip)) (.seq (.dreg [⟨some 16, .val (.cp (.t 0)), none⟩, 
  ⟨some 17, .val (.bin .quo (.t 16) (.k (.d (.int .i64 10)))), none⟩, ⟨some 18, .call 75 [.t 17], none⟩, ⟨some 19, .val (.cp (.t 0)), none⟩, ⟨some 20, .val (.bin .rem (.t 19) (.k 
  (.d (.int .i64 10)))), none⟩, ⟨some 21, .val (.bin .add (.k (.d (.int .i64 48))) (.t 20)), none⟩, ⟨some 22, .val (.cvI .u8 (.t 21)), none⟩, ⟨some 23, .bsl 5 1 [.t 22], none⟩, 
  ⟨some 24, .val (.b2s (.t 23)), none⟩, ⟨some 25, .val (.bin .add (.t 18) (.t 24)), none⟩, ⟨some 2, .asg (.t 25), none⟩]) .ret)))
def R_foliowrightref_Decimal : List LRes := [.tmp 2]
theorem lift_foliowrightref_Decimal : Lifts Tryd.prog 75 26 L_foliowrightref_Decimal R_foliowrightref_Decimal := ⟨_, _, Tryd.func75, rfl, by kernel_rfl, by kernel_rfl, rfl⟩

theorem decimal_call (n : Nat) : n ≤ 1000000000 → PCall Tryd.prog 75 [.int .i64 n] (fun r => r = .one (.str (Lib.decDigits n))) := by
  induction n using Nat.strongRecOn with
  | _ n ih =>
    intro hn
    refine lift_foliowrightref_Decimal.call rfl ?_
    have q0 : ¬ ((n : Int) < 0) := by omega
    simp (maxSteps := 2000000) only [go_sem, Nat.reduceEqDiff, Nat.reduceBEq, Nat.reduceLT, Nat.reduceLeDiff, Nat.reduceAdd, Nat.reduceSub, Nat.reduceMul, ↓reduceIte, reduceCtorEq, Nat.reduceBNe, Nat.reduceSubDiff, Int.reduceLT, Int.reduceLE, Int.reduceEq, Int.reduceNeg, Int.reduceAdd, Int.reduceMul, Int.reduceSub, Int.reduceToNat, L_foliowrightref_Decimal, R_foliowrightref_Decimal, q0]
    rw [Lib.decDigits]
    refine ⟨fun q1 => ?_, fun q1 => ?_⟩
    · rw [dif_pos (by omega)]
      have e : (48 : Int) + n = ((48 + n : Nat) : Int) := by omega
      simp (maxSteps := 2000000) (disch := omega) only [go_sem, Nat.reduceEqDiff, Nat.reduceBEq, Nat.reduceLT, Nat.reduceLeDiff, Nat.reduceAdd, Nat.reduceSub, Nat.reduceMul, ↓reduceIte, reduceCtorEq, Nat.reduceBNe, Nat.reduceSubDiff, Int.reduceLT, Int.reduceLE, Int.reduceEq, Int.reduceNeg, Int.reduceAdd, Int.reduceMul, Int.reduceSub, Int.reduceToNat, e, bytes_one]
    · rw [dif_neg (by omega)]
      have e2 : Int.tdiv (n : Int) 10 = ((n / 10 : Nat) : Int) := rfl
      have e3 : Int.tmod (n : Int) 10 = ((n % 10 : Nat) : Int) := rfl
      have e4 : (48 : Int) + (n % 10 : Nat) = ((48 + n % 10 : Nat) : Int) := by omega
      have hl := nDigits_le (n / 10) 9 (by omega)
      simp (maxSteps := 2000000) (disch := omega) only [go_sem, Nat.reduceEqDiff, Nat.reduceBEq, Nat.reduceLT, Nat.reduceLeDiff, Nat.reduceAdd, Nat.reduceSub, Nat.reduceMul, ↓reduceIte, reduceCtorEq, Nat.reduceBNe, Nat.reduceSubDiff, Int.reduceLT, Int.reduceLE, Int.reduceEq, Int.reduceNeg, Int.reduceAdd, Int.reduceMul, Int.reduceSub, Int.reduceToNat, e2, e3]
      refine CallD.of (ih (n / 10) (by omega) (by omega)) ?_
      simp (maxSteps := 2000000) (disch := omega) only [go_sem, Nat.reduceEqDiff, Nat.reduceBEq, Nat.reduceLT, Nat.reduceLeDiff, Nat.reduceAdd, Nat.reduceSub, Nat.reduceMul, ↓reduceIte, reduceCtorEq, Nat.reduceBNe, Nat.reduceSubDiff, Int.reduceLT, Int.reduceLE, Int.reduceEq, Int.reduceNeg, Int.reduceAdd, Int.reduceMul, Int.reduceSub, Int.reduceToNat, e3, e4, bytes_one]
      try omega
theorem tail_step : ∀ i : Fin 1000, 0 < i.val → trimR (fracD i.val) = UInt8.ofNat (48 + i.val / 100) :: trimR (fracD (i.val % 100 * 10)) := by decide +kernel
theorem tail_next {r : Nat} (h : r < 1000) (h0 : 0 < r) : trimR (fracD r) = UInt8.ofNat (48 + r / 100) :: trimR (fracD (r % 100 * 10)) := tail_step ⟨r, h⟩ h0
theorem tail_le (r : Nat) : (trimR (fracD r)).length ≤ 3 := by
  unfold trimR; rw [List.length_reverse]
  exact Nat.le_trans (List.dropWhile_sublist _).length_le (by rw [List.length_reverse]; exact Nat.le_refl 3)
def msr (n : Nat) : Nat := if n = 0 then 0 else if n % 100 = 0 then 1 else if n % 10 = 0 then 2 else 3
theorem msr_lt : ∀ i : Fin 1000, 0 < i.val → msr (i.val % 100 * 10) < msr i.val := by decide +kernel
theorem textF_nat (m : Nat) : textF m = Lib.decDigits (m / 1000) ++ fracT (m % 1000) := by
  unfold textF
  rw [if_neg (by omega)]; rfl
theorem textF_neg (m : Nat) (h : 0 < m) : textF (-(m : Int)) = 45 :: textF m := by
  unfold textF
  rw [if_pos (by omega), if_neg (by omega)]
  simp
/-- foliowrightref.FixText -/
def L_foliowrightref_FixText : LCode :=
  .seq (.reg [⟨some 2, .asg (.k (.d (.str []))), none⟩]) (.seq (.seq (.reg [⟨some 4, .val (.cp (.t 0)), none⟩, ⟨some 5, .val (.bin .lss (.t 4) (.k (.d (.int .i64 0)))), none⟩]) 
  (.cond (.t 5) (.seq (.reg [⟨some 6, .val (.cp (.t 0)), none⟩, ⟨some 7, .val (.neg (.t 6)), none⟩, ⟨some 8, .call 27 [.t 7], none⟩, ⟨some 9, .val (.bin .add (.k (.d (.str [45]))) 
  (.t 8)), none⟩, ⟨some 2, .asg (.t 9), none⟩]) .ret) .skip)) (.seq (.reg [⟨some 10, .val (.cp (.t 0)), none⟩, ⟨some 11, .val (.bin .quo (.t 10) (.k (.d (.int .i64 1000)))), none⟩, 
  ⟨some 12, .call 75 [.t 11], none⟩, ⟨some 3, .asg (.t 12), none⟩]) (.seq (.reg [⟨some 13, .val (.cp (.t 0)), none⟩, ⟨some 14, .val (.bin .rem (.t 13) (.k (.d (.int .i64 1000)))), 
  none⟩, ⟨some 0, .asg (.t 14), none⟩]) (.seq (.seq (.reg [⟨some 15, .val (.cp (.t 0)), none⟩, ⟨some 16, .val (.bin .eql (.t 15) (.k (.d (.int .i64 0)))), none⟩]) (.cond (.t 16) 
  (.seq (.reg [⟨some 17, .val (.cp (.t 3)), none⟩, ⟨some 2, .asg (.t 17), none⟩]) .ret) .skip)) (.seq (.reg [⟨some 18, .val (.cp (.t 3)), none⟩, ⟨some 19, .val (.bin .add (.t 18) 
  (.k (.d (.str [46])))), none⟩, ⟨some 3, .asg (.t 19), none⟩]) (.seq (.block 0 (.loop (.seq (.seq (.reg [⟨some 20, .val (.cp (.t 0)), none⟩, ⟨some 21, .val (.bin .gtr (.t 20) (.k 
  (.d (.int .i64 0)))), none⟩]) (.cond (.t 21) .skip (.exit 0))) (.block 1 (.seq (.reg [⟨some 22, .val (.cp (.t 3)), none⟩, ⟨some 23, .val (.cp (.t 0)), none⟩, ⟨some 24, .val (.bin 
  .quo (.t 23) (.k (.d (.int .i64 100)))), none⟩, ⟨some 25, .call 75 [.t 24], none⟩, ⟨some 26, .val (.bin .add (.t 22) (.t 25)), none⟩, ⟨some 3, .asg (.t 26), none⟩]) (.reg [⟨some 
  27, .val (.cp (.t 0)), none⟩, ⟨some 28, .val (.bin .rem (.t 27) (.k (.d (.int .i64 100)))), none⟩, ⟨some 29, .val (.bin .mul (.t 28) (.k (.d (.int .i64 10)))), none⟩, ⟨some 0, 
  .asg (.t 29), none⟩])))))) (.seq (.reg [⟨some 30, .val (.cp (.t 3)), none⟩, ⟨some 2, .asg (.t 30), none⟩]) .ret)))))))
def R_foliowrightref_FixText : List LRes := [.tmp 2]
theorem lift_foliowrightref_FixText : Lifts Tryd.prog 27 31 L_foliowrightref_FixText R_foliowrightref_FixText := ⟨_, _, Tryd.func27, rfl, by kernel_rfl, by kernel_rfl, rfl⟩

theorem fixText_nat (m : Nat) (hm : m ≤ 1000000000) : PCall Tryd.prog 27 [.int .i64 (m : Nat)] (fun r => r = .one (.str (textF m))) := by
    refine lift_foliowrightref_FixText.call rfl ?_
    have q0 : ¬ ((m : Int) < 0) := by omega
    have hd1 : Int.tdiv (m : Int) 1000 = ((m / 1000 : Nat) : Int) := rfl
    have hd2 : Int.tmod (m : Int) 1000 = ((m % 1000 : Nat) : Int) := rfl
    simp (maxSteps := 2000000) (disch := omega) only [go_sem, Nat.reduceEqDiff, Nat.reduceBEq, Nat.reduceLT, Nat.reduceLeDiff, Nat.reduceAdd, Nat.reduceSub, Nat.reduceMul, ↓reduceIte, reduceCtorEq, Nat.reduceBNe, Nat.reduceSubDiff, Int.reduceLT, Int.reduceLE, Int.reduceEq, Int.reduceNeg, Int.reduceAdd, Int.reduceMul, Int.reduceSub, Int.reduceToNat, L_foliowrightref_FixText, R_foliowrightref_FixText, q0, hd1]
    refine CallG.of (decimal_call _ (by omega)) ?_
    have hl := nDigits_le (m / 1000) 6 (by omega)
    rw [textF_nat]
    simp (maxSteps := 2000000) (disch := omega) only [go_sem, Nat.reduceEqDiff, Nat.reduceBEq, Nat.reduceLT, Nat.reduceLeDiff, Nat.reduceAdd, Nat.reduceSub, Nat.reduceMul, ↓reduceIte, reduceCtorEq, Nat.reduceBNe, Nat.reduceSubDiff, Int.reduceLT, Int.reduceLE, Int.reduceEq, Int.reduceNeg, Int.reduceAdd, Int.reduceMul, Int.reduceSub, Int.reduceToNat, hd2]
    generalize Lib.decDigits (m / 1000) = D1 at hl ⊢
    obtain ⟨r0, hr0⟩ : ∃ r0, m % 1000 = r0 := ⟨_, rfl⟩
    rw [hr0]
    have h1000 : r0 < 1000 := by omega
    refine ⟨fun q1 => ?_, fun q1 => ⟨by omega, ?_⟩⟩
    · have : r0 = 0 := by omega
      subst this
      rw [show fracT 0 = [] from rfl, List.append_nil]
    · have hf : fracT r0 = 46 :: trimR (fracD r0) := by
        unfold fracT; rw [if_neg]; rw [tail_next h1000 (by omega)]; simp
      rw [hf]
      refine run_loop (fun y : Nat × List UInt8 => ⟨[(0, .d (.int .i64 (y.1 : Nat))), (3, .d (.str y.2))], [], []⟩)
        (fun y => y.1 < 1000 ∧ y.2 ++ trimR (fracD y.1) = D1 ++ 46 :: trimR (fracD r0)) (fun y => msr y.1) (r0, D1 ++ [46]) ?_ ?_ ?_
      · refine weak_mk ?_ trivial
        simp (maxSteps := 2000000) only [go_sem, Nat.reduceEqDiff, Nat.reduceBEq, Nat.reduceLT, Nat.reduceLeDiff, Nat.reduceAdd, Nat.reduceSub, Nat.reduceMul, ↓reduceIte, reduceCtorEq, Nat.reduceBNe, Nat.reduceSubDiff, Int.reduceLT, Int.reduceLE, Int.reduceEq, Int.reduceNeg, Int.reduceAdd, Int.reduceMul, Int.reduceSub, Int.reduceToNat, Sub, Int.natCast_add, Int.natCast_mul]
      · exact ⟨h1000, by simp⟩
      · rintro ⟨r, out⟩ ⟨hr, hF⟩
        simp only at hr hF
        have hl2 := tail_le r
        have hl3 := tail_le r0
        have hlen := congrArg List.length hF
        rw [List.length_append, List.length_append, List.length_cons] at hlen
        have e1 : Int.tdiv (r : Int) 100 = ((r / 100 : Nat) : Int) := rfl
        have e2 : Int.tmod (r : Int) 100 = ((r % 100 : Nat) : Int) := rfl
        simp (maxSteps := 2000000) (disch := omega) only [go_sem, Nat.reduceEqDiff, Nat.reduceBEq, Nat.reduceLT, Nat.reduceLeDiff, Nat.reduceAdd, Nat.reduceSub, Nat.reduceMul, ↓reduceIte, reduceCtorEq, Nat.reduceBNe, Nat.reduceSubDiff, Int.reduceLT, Int.reduceLE, Int.reduceEq, Int.reduceNeg, Int.reduceAdd, Int.reduceMul, Int.reduceSub, Int.reduceToNat, e1]
        refine ⟨fun q2 => ?_, fun q2 => ?_⟩
        · refine CallG.of (decimal_call _ (by omega)) ?_
          rw [Lib.decDigits, dif_pos (by omega)]
          rw [tail_next hr (by omega)] at hF
          simp (maxSteps := 2000000) (disch := omega) only [go_sem, Nat.reduceEqDiff, Nat.reduceBEq, Nat.reduceLT, Nat.reduceLeDiff, Nat.reduceAdd, Nat.reduceSub, Nat.reduceMul, ↓reduceIte, reduceCtorEq, Nat.reduceBNe, Nat.reduceSubDiff, Int.reduceLT, Int.reduceLE, Int.reduceEq, Int.reduceNeg, Int.reduceAdd, Int.reduceMul, Int.reduceSub, Int.reduceToNat, e2]
          refine ⟨by omega, (r % 100 * 10, out ++ [UInt8.ofNat (48 + r / 100)]), ?_, ⟨by simp only; omega, by simpa using hF⟩, ?_⟩
          · refine weak_mk ?_ trivial
            simp (maxSteps := 2000000) only [go_sem, Nat.reduceEqDiff, Nat.reduceBEq, Nat.reduceLT, Nat.reduceLeDiff, Nat.reduceAdd, Nat.reduceSub, Nat.reduceMul, ↓reduceIte, reduceCtorEq, Nat.reduceBNe, Nat.reduceSubDiff, Int.reduceLT, Int.reduceLE, Int.reduceEq, Int.reduceNeg, Int.reduceAdd, Int.reduceMul, Int.reduceSub, Int.reduceToNat, Sub, Int.natCast_add, Int.natCast_mul, Int.natCast_mul, Int.cast_ofNat_Int]
          · exact msr_lt ⟨r, hr⟩ (by simp only; omega)
        · have : r = 0 := by omega
          subst this
          have e0 : trimR (fracD 0) = [] := rfl
          rw [e0, List.append_nil] at hF
          rw [hF]
theorem fixText_call (n : Int) (hl : Lim n) : PCall Tryd.prog 27 [.int .i64 n] (fun r => r = .one (.str (textF n))) := by
  unfold Lim at hl
  by_cases h : n < 0
  · obtain ⟨m, hm⟩ : ∃ m : Nat, -n = m := ⟨n.natAbs, by omega⟩
    have hn : n = -(m : Int) := by omega
    rw [hn, textF_neg m (by omega)]
    refine lift_foliowrightref_FixText.call rfl ?_
    have q0 : -(m : Int) < 0 := by omega
    have e : (0 : Int) - -(m : Int) = m := by omega
    simp (maxSteps := 2000000) (disch := omega) only [go_sem, Nat.reduceEqDiff, Nat.reduceBEq, Nat.reduceLT, Nat.reduceLeDiff, Nat.reduceAdd, Nat.reduceSub, Nat.reduceMul, ↓reduceIte, reduceCtorEq, Nat.reduceBNe, Nat.reduceSubDiff, Int.reduceLT, Int.reduceLE, Int.reduceEq, Int.reduceNeg, Int.reduceAdd, Int.reduceMul, Int.reduceSub, Int.reduceToNat, L_foliowrightref_FixText, R_foliowrightref_FixText, q0, e, Int.neg_neg]
    refine CallG.of (fixText_nat m (by omega)) ?_
    have hl2 := tail_le (m % 1000)
    have hl3 := nDigits_le (m / 1000) 9 (by omega)
    have hlt : (textF m).length ≤ 100 := by
      rw [textF_nat, List.length_append]; unfold fracT; split <;> simp <;> omega
    simp (maxSteps := 2000000) (disch := omega) only [go_sem, Nat.reduceEqDiff, Nat.reduceBEq, Nat.reduceLT, Nat.reduceLeDiff, Nat.reduceAdd, Nat.reduceSub, Nat.reduceMul, ↓reduceIte, reduceCtorEq, Nat.reduceBNe, Nat.reduceSubDiff, Int.reduceLT, Int.reduceLE, Int.reduceEq, Int.reduceNeg, Int.reduceAdd, Int.reduceMul, Int.reduceSub, Int.reduceToNat]
    try omega
  · obtain ⟨m, hm⟩ : ∃ m : Nat, n = m := ⟨n.natAbs, by omega⟩
    rw [hm]
    exact fixText_nat m (by omega)
end Go.Av.Tryd
