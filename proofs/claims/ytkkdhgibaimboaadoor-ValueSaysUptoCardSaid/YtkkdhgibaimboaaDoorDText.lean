import Derived.Test.YtkkdhgibaimboaaDoorDFix
set_option linter.unusedSimpArgs false
namespace Go.Av.Tryd
open Go.Proofs

def trimR (l : List UInt8) : List UInt8 := (l.reverse.dropWhile (· == 48)).reverse
theorem trimR_nil : trimR [] = [] := rfl
theorem trimR_snoc (l : List UInt8) (c : UInt8) : trimR (l ++ [c]) = if c = 48 then trimR l else l ++ [c] := by
  unfold trimR
  rw [List.reverse_append, List.reverse_cons, List.reverse_nil, List.nil_append, List.cons_append, List.nil_append]
  by_cases h : c = 48
  · rw [if_pos h]; simp [h]
  · rw [if_neg h]; simp [h]

/-- strings.trimRightByte -/
def L_strings_trimRightByte : LCode :=
  .seq (.reg [⟨some 4, .asg (.k (.d (.str []))), none⟩]) (.seq (.block 0 (.loop (.seq (.seq (.reg [⟨some 5, .val (.cp (.t 0)), none⟩, ⟨some 6, .val (.len true (.t 5)), none⟩, ⟨some 
  7, .val (.bin .gtr (.t 6) (.k (.d (.int .i64 0)))), none⟩, ⟨some 8, .val (.cp (.t 7)), none⟩, ⟨some 9, .val (.cp (.t 0)), some (8, true)⟩, ⟨some 10, .val (.cp (.t 0)), some (8, 
  true)⟩, ⟨some 11, .val (.len true (.t 10)), some (8, true)⟩, ⟨some 12, .val (.bin .sub (.t 11) (.k (.d (.int .i64 1)))), some (8, true)⟩, ⟨some 13, .val (.idxS (.t 9) (.t 12)), 
  some (8, true)⟩, ⟨some 14, .val (.cp (.t 1)), some (8, true)⟩, ⟨some 15, .val (.bin .eql (.t 13) (.t 14)), some (8, true)⟩, ⟨some 16, .val (.pick (.t 8) (.t 15) (.k (.d (.bool 
  false)))), none⟩]) (.cond (.t 16) .skip (.exit 0))) (.block 1 (.reg [⟨some 17, .val (.cp (.t 0)), none⟩, ⟨some 18, .val (.cp (.t 0)), none⟩, ⟨some 19, .val (.len true (.t 18)), 
  none⟩, ⟨some 20, .val (.bin .sub (.t 19) (.k (.d (.int .i64 1)))), none⟩, ⟨some 21, .val (.subS (.t 17) none (some (.t 20))), none⟩, ⟨some 0, .asg (.t 21), none⟩]))))) (.seq 
  (.reg [⟨some 22, .val (.cp (.t 0)), none⟩, ⟨some 4, .asg (.t 22), none⟩]) .ret))
def R_strings_trimRightByte : List LRes := [.tmp 4]
theorem lift_strings_trimRightByte : Lifts Tryd.prog 121 23 L_strings_trimRightByte R_strings_trimRightByte := ⟨_, _, Tryd.func121, rfl, by kernel_rfl, by kernel_rfl, rfl⟩

theorem trimByte_call (s : List UInt8) (hs : s.length ≤ 1000000) : PCall Tryd.prog 121 [.str s, .int .u8 48] (fun r => r = .one (.str (trimR s))) := by
  refine lift_strings_trimRightByte.call rfl ?_
  simp (maxSteps := 2000000) only [go_sem, Nat.reduceEqDiff, Nat.reduceBEq, Nat.reduceLT, Nat.reduceLeDiff, Nat.reduceAdd, Nat.reduceSub, Nat.reduceMul, ↓reduceIte, reduceCtorEq, Nat.reduceBNe, Nat.reduceSubDiff, Int.reduceLT, Int.reduceLE, Int.reduceEq, Int.reduceNeg, Int.reduceAdd, Int.reduceMul, Int.reduceSub, Int.reduceToNat, L_strings_trimRightByte, R_strings_trimRightByte]
  refine run_loop (fun k : Nat => ⟨[(0, .d (.str (s.take k))), (1, .d (.int .u8 48))], [], []⟩)
    (fun k => k ≤ s.length ∧ trimR (s.take k) = trimR s) (fun k => k) s.length ?_ ?_ ?_
  · refine weak_mk ?_ trivial
    simp (maxSteps := 2000000) only [go_sem, Nat.reduceEqDiff, Nat.reduceBEq, Nat.reduceLT, Nat.reduceLeDiff, Nat.reduceAdd, Nat.reduceSub, Nat.reduceMul, ↓reduceIte, reduceCtorEq, Nat.reduceBNe, Nat.reduceSubDiff, Int.reduceLT, Int.reduceLE, Int.reduceEq, Int.reduceNeg, Int.reduceAdd, Int.reduceMul, Int.reduceSub, Int.reduceToNat, Sub, Int.natCast_add, Int.natCast_mul, List.take_length]
  · exact ⟨Nat.le_refl _, by rw [List.take_length]⟩
  · rintro k ⟨hk, hF⟩
    have hlk : (s.take k).length = k := by rw [List.length_take]; omega
    have hlI : (((s.take k).length : Nat) : Int) = (k : Int) := by rw [hlk]
    simp (maxSteps := 2000000) (disch := omega) only [go_sem, Nat.reduceEqDiff, Nat.reduceBEq, Nat.reduceLT, Nat.reduceLeDiff, Nat.reduceAdd, Nat.reduceSub, Nat.reduceMul, ↓reduceIte, reduceCtorEq, Nat.reduceBNe, Nat.reduceSubDiff, Int.reduceLT, Int.reduceLE, Int.reduceEq, Int.reduceNeg, Int.reduceAdd, Int.reduceMul, Int.reduceSub, Int.reduceToNat, hlI]
    refine ⟨fun q1 => ?_, fun q1 => ?_⟩
    · obtain ⟨c, hc⟩ := get_some (l := s) (i := k - 1) (by omega)
      have hsplit : s.take k = s.take (k - 1) ++ [c] := by
        rw [← take_next hc]; congr 1; omega
      have hg : getI (s.take k) ((k : Int) - 1) = some c := by
        have e : ((k : Int) - 1) = ((k - 1 : Nat) : Int) := by omega
        rw [e, getI_nat, List.getElem?_take, if_pos (by omega), hc]
      have hcut : cutI (s.take k) 0 ((k : Int) - 1) = s.take (k - 1) := by
        have e : ((k : Int) - 1) = ((k - 1 : Nat) : Int) := by omega
        rw [e]
        show cutI (s.take k) ((0 : Nat) : Int) _ = _
        rw [cutI_nat, List.take_take, List.drop_zero]; congr 1; omega
      simp (maxSteps := 2000000) (disch := omega) only [go_sem, Nat.reduceEqDiff, Nat.reduceBEq, Nat.reduceLT, Nat.reduceLeDiff, Nat.reduceAdd, Nat.reduceSub, Nat.reduceMul, ↓reduceIte, reduceCtorEq, Nat.reduceBNe, Nat.reduceSubDiff, Int.reduceLT, Int.reduceLE, Int.reduceEq, Int.reduceNeg, Int.reduceAdd, Int.reduceMul, Int.reduceSub, Int.reduceToNat, hg, hcut, hlI]
      refine ⟨fun q2 => ⟨⟨by omega, by omega⟩, k - 1, ?_, ⟨by omega, ?_⟩, by omega⟩, fun q2 => ?_⟩
      · refine weak_mk ?_ trivial
        simp (maxSteps := 2000000) only [go_sem, Nat.reduceEqDiff, Nat.reduceBEq, Nat.reduceLT, Nat.reduceLeDiff, Nat.reduceAdd, Nat.reduceSub, Nat.reduceMul, ↓reduceIte, reduceCtorEq, Nat.reduceBNe, Nat.reduceSubDiff, Int.reduceLT, Int.reduceLE, Int.reduceEq, Int.reduceNeg, Int.reduceAdd, Int.reduceMul, Int.reduceSub, Int.reduceToNat, Sub, Int.natCast_add, Int.natCast_mul]
      · rw [← hF, hsplit, trimR_snoc, if_pos (by
          have h48 : (48 : UInt8).toNat = 48 := rfl
          apply UInt8.toNat_inj.1; omega)]
      · rw [← hF, hsplit, trimR_snoc, if_neg (fun h => q2 (by rw [h]; rfl))]
    · have hk0 : k = 0 := by omega
      subst hk0
      rw [← hF]; rfl

/-- strings.TrimRight -/
def L_strings_TrimRight : LCode :=
  .seq (.reg [⟨some 4, .asg (.k (.d (.str []))), none⟩]) (.seq (.seq (.reg [⟨some 7, .val (.cp (.t 0)), none⟩, ⟨some 8, .val (.bin .eql (.t 7) (.k (.d (.str [])))), none⟩, ⟨some 9, 
  .val (.cp (.t 8)), none⟩, ⟨some 10, .val (.cp (.t 1)), some (9, false)⟩, ⟨some 11, .val (.bin .eql (.t 10) (.k (.d (.str [])))), some (9, false)⟩, ⟨some 12, .val (.pick (.t 9) 
  (.k (.d (.bool true))) (.t 11)), none⟩]) (.cond (.t 12) (.seq (.reg [⟨some 13, .val (.cp (.t 0)), none⟩, ⟨some 4, .asg (.t 13), none⟩]) .ret) .skip)) (.seq (.seq (.reg [⟨some 14, 
  .val (.cp (.t 1)), none⟩, ⟨some 15, .val (.len true (.t 14)), none⟩, ⟨some 16, .val (.bin .eql (.t 15) (.k (.d (.int .i64 1)))), none⟩, ⟨some 17, .val (.cp (.t 16)), none⟩, ⟨some 
  18, .val (.cp (.t 1)), some (17, true)⟩, ⟨some 19, .val (.idxS (.t 18) (.k (.d (.int .i64 0)))), some (17, true)⟩, ⟨some 20, .val (.bin .lss (.t 19) (.k (.d (.int .u8 128)))), 
  some (17, true)⟩, ⟨some 21, .val (.pick (.t 17) (.t 20) (.k (.d (.bool false)))), none⟩]) (.cond (.t 21) (.seq (.reg [⟨some 22, .val (.cp (.t 0)), none⟩, ⟨some 23, .val (.cp (.t 
  1)), none⟩, ⟨some 24, .val (.idxS (.t 23) (.k (.d (.int .i64 0)))), none⟩, ⟨some 25, .call 121 [.t 22, .t 24], none⟩, ⟨some 4, .asg (.t 25), none⟩]) .ret) .skip)) (.seq (.seq 
  (.reg [⟨some 27, .val (.cp (.t 1)), none⟩, ⟨some 28, .call 122 [.t 27], none⟩, ⟨some 26, .val (.cp (.t 28)), none⟩, ⟨some 29, .val (.ext 0 (.t 26)), none⟩, ⟨some 30, .val (.ext 1 
  (.t 26)), none⟩, ⟨some 5, .allo [.bool false, .bool false, .bool false, .bool false, .bool false, .bool false, .bool false, .bool false, .bool false, .bool false, .bool false, 
  .bool false, .bool false, .bool false, .bool false, .bool false, .bool false, .bool false, .bool false, .bool false, .bool false, .bool false, .bool false, .bool false, .bool 
  false, .bool false, .bool false, .bool false, .bool false, .bool false, .bool false, .bool false, .bool false, .bool false, .bool false, .bool false, .bool false, .bool false, 
  .bool false, .bool false, .bool false, .bool false, .bool false, .bool false, .bool false, .bool false, .bool false, .bool false, .bool false, .bool false, .bool false, .bool 
  false, .bool false, .bool false, .bool false, .bool false, .bool false, .bool false, .bool false, .bool false, .bool false, .bool false, .bool false, .bool false, .bool false, 
  .bool false, .bool false, .bool false, .bool false, .bool false, .bool false, .bool false, .bool false, .bool false, .bool false, .bool false, .bool false, .bool false, .bool 
  false, .bool false, .bool false, .bool false, .bool false, .bool false, .bool false, .bool false, .bool false, .bool false, .bool false, .bool false, .bool false, .bool false, 
  .bool false, .bool false, .bool false, .bool false, .bool false, .bool false, .bool false, .bool false, .bool false, .bool false, .bool false, .bool false, .bool false, .bool 
  false, .bool false, .bool false, .bool false, .bool false, .bool false, .bool false, .bool false, .bool false, .bool false, .bool false, .bool false, .bool false, .bool false, 
  .bool false, .bool false, .bool false, .bool false, .bool false, .bool false, .bool false, .bool false, .bool false, .bool false, .bool false, .bool false, .bool false, .bool 
  false, .bool false, .bool false, .bool false, .bool false, .bool false, .bool false, .bool false, .bool false, .bool false, .bool false, .bool false, .bool false, .bool false, 
  .bool false, .bool false, .bool false, .bool false, .bool false, .bool false, .bool false, .bool false, .bool false, .bool false, .bool false, .bool false, .bool false, .bool 
  false, .bool false, .bool false, .bool false, .bool false, .bool false, .bool false, .bool false, .bool false, .bool false, .bool false, .bool false, .bool false, .bool false, 
  .bool false, .bool false, .bool false, .bool false, .bool false, .bool false, .bool false, .bool false, .bool false, .bool false, .bool false, .bool false, .bool false, .bool 
  false, .bool false, .bool false, .bool false, .bool false, .bool false, .bool false, .bool false, .bool false, .bool false, .bool false, .bool false, .bool false, .bool false, 
  .bool false, .bool false, .bool false, .bool false, .bool false, .bool false, .bool false, .bool false, .bool false, .bool false, .bool false, .bool false, .bool false, .bool 
  false, .bool false, .bool false, .bool false, .bool false, .bool false, .bool false, .bool false, .bool false, .bool false, .bool false, .bool false, .bool false, .bool false, 
  .bool false, .bool false, .bool false, .bool false, .bool false, .bool false, .bool false, .bool false, .bool false, .bool false, .bool false, .bool false, .bool false, .bool 
  false, .bool false, .bool false, .bool false, .bool false, .bool false, .bool false, .bool false, .bool false, .bool false, .bool false, .bool false, .bool false, .bool false, 
  .bool false, .bool false], none⟩, ⟨none, .st 256 (.t 5) (.t 29), none⟩, ⟨some 6, .asg (.t 30), none⟩]) (.seq (.reg [⟨some 31, .val (.cp (.t 6)), none⟩]) (.cond (.t 31) (.seq 
  (.reg [⟨some 32, .val (.cp (.t 0)), none⟩, ⟨some 33, .prim .call [.k (.fn (.func 123) [] []), .t 32, .t 5] [], none⟩, ⟨some 4, .asg (.t 33), none⟩]) .ret) .skip))) (.seq (.reg 
  [⟨some 34, .val (.cp (.t 0)), none⟩, ⟨some 35, .val (.cp (.t 1)), none⟩, ⟨some 36, .call 124 [.t 34, .t 35], none⟩, ⟨some 4, .asg (.t 36), none⟩]) .ret))))
def R_strings_TrimRight : List LRes := [.tmp 4]
theorem lift_strings_TrimRight : Lifts Tryd.prog 74 37 L_strings_TrimRight R_strings_TrimRight := ⟨_, _, Tryd.func74, rfl, by kernel_rfl, by kernel_rfl, rfl⟩

set_option maxRecDepth 10000 in
theorem trim_call (s : List UInt8) (hs : s.length ≤ 1000000) : PCall Tryd.prog 74 [.str s, .str [48]] (fun r => r = .one (.str (trimR s))) := by
  refine lift_strings_TrimRight.call rfl ?_
  have hg : getI ([48] : List UInt8) 0 = some 48 := rfl
  have h48 : ((UInt8.toNat 48 : Nat) : Int) = 48 := rfl
  by_cases h : s = []
  · subst h
    simp (maxSteps := 2000000) only [go_sem, Nat.reduceEqDiff, Nat.reduceBEq, Nat.reduceLT, Nat.reduceLeDiff, Nat.reduceAdd, Nat.reduceSub, Nat.reduceMul, ↓reduceIte, reduceCtorEq, Nat.reduceBNe, Nat.reduceSubDiff, Int.reduceLT, Int.reduceLE, Int.reduceEq, Int.reduceNeg, Int.reduceAdd, Int.reduceMul, Int.reduceSub, Int.reduceToNat, L_strings_TrimRight, R_strings_TrimRight]
    rfl
  · have h1 : (([48] : List UInt8) = []) = False := by simp
    have h2 : (s = []) = False := eq_false h
    simp (maxSteps := 2000000) only [go_sem, Nat.reduceEqDiff, Nat.reduceBEq, Nat.reduceLT, Nat.reduceLeDiff, Nat.reduceAdd, Nat.reduceSub, Nat.reduceMul, ↓reduceIte, reduceCtorEq, Nat.reduceBNe, Nat.reduceSubDiff, Int.reduceLT, Int.reduceLE, Int.reduceEq, Int.reduceNeg, Int.reduceAdd, Int.reduceMul, Int.reduceSub, Int.reduceToNat, L_strings_TrimRight, R_strings_TrimRight, h1, h2, hg, h48]
    refine CallG.of (trimByte_call s hs) ?_
    simp (maxSteps := 2000000) only [go_sem, Nat.reduceEqDiff, Nat.reduceBEq, Nat.reduceLT, Nat.reduceLeDiff, Nat.reduceAdd, Nat.reduceSub, Nat.reduceMul, ↓reduceIte, reduceCtorEq, Nat.reduceBNe, Nat.reduceSubDiff, Int.reduceLT, Int.reduceLE, Int.reduceEq, Int.reduceNeg, Int.reduceAdd, Int.reduceMul, Int.reduceSub, Int.reduceToNat]

def fracD (r : Nat) : List UInt8 := [UInt8.ofNat (48 + r / 100), UInt8.ofNat (48 + r / 10 % 10), UInt8.ofNat (48 + r % 10)]
theorem dec1000 {r : Nat} (h : r < 1000) : Lib.decDigits (1000 + r) = 49 :: fracD r := by
  rw [Lib.decDigits, dif_neg (by omega), Lib.decDigits, dif_neg (by omega), Lib.decDigits, dif_neg (by omega), Lib.decDigits, dif_pos (by omega)]
  have e1 : (1000 + r) / 10 / 10 / 10 = 1 := by omega
  have e2 : (1000 + r) / 10 / 10 % 10 = r / 100 := by omega
  have e3 : (1000 + r) / 10 % 10 = r / 10 % 10 := by omega
  have e4 : (1000 + r) % 10 = r % 10 := by omega
  rw [e1, e2, e3, e4]; rfl

def fracT (r : Nat) : List UInt8 := if trimR (fracD r) = [] then [] else 46 :: trimR (fracD r)
def textF (n : Int) : List UInt8 := (if n < 0 then [45] else []) ++ Lib.decDigits (n.natAbs / 1000) ++ fracT (n.natAbs % 1000)
def resT (n : Int) : Res := if Lim n then .tup [.str (textF n), .nil] else .tup [.str [], err 1]

theorem nDigits_le (u k : Nat) (h : u < 10 ^ (k + 1)) : (Lib.decDigits u).length ≤ k + 1 := by
  induction k generalizing u with
  | zero => rw [Lib.decDigits, dif_pos (by simpa using h)]; simp
  | succ k ih =>
    rw [Lib.decDigits]
    split
    · simp
    · rw [List.length_append]
      have := ih (u / 10) (by rw [Nat.pow_succ] at h; omega)
      simp; omega

/-- fix.Text -/
def L_fix_Text : LCode :=
  .seq (.reg [⟨some 2, .asg (.k (.d (.str []))), none⟩, ⟨some 3, .asg (.k (.d .nil)), none⟩]) (.seq (.reg [⟨some 8, .val (.cp (.t 0)), none⟩, ⟨some 9, .call 26 [.t 8], none⟩, ⟨some 
  4, .asg (.t 9), none⟩]) (.seq (.seq (.reg [⟨some 10, .val (.cp (.t 4)), none⟩, ⟨some 11, .val (.eqN 0 true (.t 10)), none⟩]) (.cond (.t 11) (.seq (.reg [⟨some 12, .val (.cp (.t 
  4)), none⟩, ⟨some 2, .asg (.k (.d (.str []))), none⟩, ⟨some 3, .asg (.t 12), none⟩]) .ret) .skip)) (.seq (.reg [⟨some 5, .asg (.k (.d (.str []))), none⟩]) (.seq (.seq (.reg 
  [⟨some 13, .val (.cp (.t 0)), none⟩, ⟨some 14, .val (.bin .lss (.t 13) (.k (.d (.int .i64 0)))), none⟩]) (.cond (.t 14) (.reg [⟨some 15, .val (.cp (.t 0)), none⟩, ⟨some 16, .val 
  (.neg (.t 15)), none⟩, ⟨some 5, .asg (.k (.d (.str [45]))), none⟩, ⟨some 0, .asg (.t 16), none⟩]) .skip)) (.seq (.reg [⟨some 17, .val (.cp (.t 5)), none⟩, ⟨some 18, .val (.cp (.t 
  0)), none⟩, ⟨some 19, .val (.bin .quo (.t 18) (.k (.d (.int .i64 1000)))), none⟩, ⟨some 20, .call 73 [.t 19], none⟩, ⟨some 21, .val (.bin .add (.t 17) (.t 20)), none⟩, ⟨some 6, 
  .asg (.t 21), none⟩]) (.seq (.reg [⟨some 22, .val (.cp (.t 0)), none⟩, ⟨some 23, .val (.bin .rem (.t 22) (.k (.d (.int .i64 1000)))), none⟩, ⟨some 24, .val (.bin .add (.k (.d 
  (.int .i64 1000))) (.t 23)), none⟩, ⟨some 25, .call 73 [.t 24], none⟩, ⟨some 26, .val (.subS (.t 25) (some (.k (.d (.int .i64 1)))) none), none⟩, ⟨some 7, .asg (.t 26), none⟩]) 
  (.seq (.reg [⟨some 27, .val (.cp (.t 7)), none⟩, ⟨some 28, .call 74 [.t 27, .k (.d (.str [48]))], none⟩, ⟨some 7, .asg (.t 28), none⟩]) (.seq (.seq (.reg [⟨some 29, .val (.cp (.t 
  7)), none⟩, ⟨some 30, .val (.bin .neq (.t 29) (.k (.d (.str [])))), none⟩]) (.cond (.t 30) (.reg [⟨some 31, .val (.cp (.t 6)), none⟩, ⟨some 32, .val (.cp (.t 7)), none⟩, ⟨some 
  33, .val (.bin .add (.k (.d (.str [46]))) (.t 32)), none⟩, ⟨some 34, .val (.bin .add (.t 31) (.t 33)), none⟩, ⟨some 6, .asg (.t 34), none⟩]) .skip)) (.seq (.reg [⟨some 35, .val 
  (.cp (.t 6)), none⟩, ⟨some 2, .asg (.t 35), none⟩, ⟨some 3, .asg (.k (.d .nil)), none⟩]) .ret)))))))))
def R_fix_Text : List LRes := [.tmp 2, .tmp 3]
theorem lift_fix_Text : Lifts Tryd.prog 25 36 L_fix_Text R_fix_Text := ⟨_, _, Tryd.func25, rfl, by kernel_rfl, by kernel_rfl, rfl⟩

theorem text_call (n : Int) : PCall Tryd.prog 25 [.int .i64 n] (fun r => r = resT n) := by
  refine lift_fix_Text.call rfl ?_
  simp (maxSteps := 2000000) only [go_sem, Nat.reduceEqDiff, Nat.reduceBEq, Nat.reduceLT, Nat.reduceLeDiff, Nat.reduceAdd, Nat.reduceSub, Nat.reduceMul, ↓reduceIte, reduceCtorEq, Nat.reduceBNe, Nat.reduceSubDiff, Int.reduceLT, Int.reduceLE, Int.reduceEq, Int.reduceNeg, Int.reduceAdd, Int.reduceMul, Int.reduceSub, Int.reduceToNat, L_fix_Text, R_fix_Text]
  unfold resT
  by_cases hl : Lim n
  · rw [if_pos hl]
    refine CallG.of (check_ok hl) ?_
    unfold Lim at hl
    obtain ⟨m, hm⟩ : ∃ m : Nat, n.natAbs = m := ⟨_, rfl⟩
    have hm9 : m ≤ 1000000000 := by omega
    have hd1 : Int.tdiv (m : Int) 1000 = ((m / 1000 : Nat) : Int) := rfl
    have hd2 : Int.tmod (m : Int) 1000 = ((m % 1000 : Nat) : Int) := rfl
    have hi1 : Lib.itoa ((m / 1000 : Nat) : Int) = Lib.decDigits (m / 1000) := by unfold Lib.itoa; rw [if_neg (by omega)]; rfl
    have hi2 : Lib.itoa (1000 + ((m % 1000 : Nat) : Int)) = 49 :: fracD (m % 1000) := by
      unfold Lib.itoa; rw [if_neg (by omega), ← dec1000 (Nat.mod_lt _ (by decide))]; congr 1
    have hlen := nDigits_le (m / 1000) 6 (by omega)
    unfold textF
    rw [hm]
    generalize Lib.decDigits (m / 1000) = D1 at hi1 hlen ⊢
    have hcut : cutI (49 :: fracD (m % 1000)) 1 4 = fracD (m % 1000) := rfl
    have hfl : ((fracD (m % 1000)).length : Nat) = 3 := rfl
    have htl : (trimR (fracD (m % 1000))).length ≤ 3 := by
      unfold trimR; rw [List.length_reverse]
      exact Nat.le_trans (List.dropWhile_sublist _).length_le (by rw [List.length_reverse]; exact Nat.le_refl 3)
    by_cases hn : n < 0
    · have e : 0 - n = (m : Int) := by omega
      simp (maxSteps := 2000000) (disch := omega) only [go_sem, Nat.reduceEqDiff, Nat.reduceBEq, Nat.reduceLT, Nat.reduceLeDiff, Nat.reduceAdd, Nat.reduceSub, Nat.reduceMul, ↓reduceIte, reduceCtorEq, Nat.reduceBNe, Nat.reduceSubDiff, Int.reduceLT, Int.reduceLE, Int.reduceEq, Int.reduceNeg, Int.reduceAdd, Int.reduceMul, Int.reduceSub, Int.reduceToNat, hn, e, hd1, hd2]
      refine CallG.of (itoa_call _ (by omega) (by omega)) ?_
      rw [hi1]
      simp (maxSteps := 2000000) (disch := omega) only [go_sem, Nat.reduceEqDiff, Nat.reduceBEq, Nat.reduceLT, Nat.reduceLeDiff, Nat.reduceAdd, Nat.reduceSub, Nat.reduceMul, ↓reduceIte, reduceCtorEq, Nat.reduceBNe, Nat.reduceSubDiff, Int.reduceLT, Int.reduceLE, Int.reduceEq, Int.reduceNeg, Int.reduceAdd, Int.reduceMul, Int.reduceSub, Int.reduceToNat, e, hd1, hd2]
      refine ⟨by omega, ?_⟩
      refine CallG.of (itoa_call _ (by omega) (by omega)) ?_
      rw [hi2]
      simp (maxSteps := 2000000) (disch := omega) only [go_sem, Nat.reduceEqDiff, Nat.reduceBEq, Nat.reduceLT, Nat.reduceLeDiff, Nat.reduceAdd, Nat.reduceSub, Nat.reduceMul, ↓reduceIte, reduceCtorEq, Nat.reduceBNe, Nat.reduceSubDiff, Int.reduceLT, Int.reduceLE, Int.reduceEq, Int.reduceNeg, Int.reduceAdd, Int.reduceMul, Int.reduceSub, Int.reduceToNat, hcut, hfl]
      refine CallG.of (trim_call _ (by rw [hfl]; omega)) ?_
      unfold fracT
      by_cases ht : trimR (fracD (m % 1000)) = []
      · rw [if_pos ht, ht]
        simp (maxSteps := 2000000) only [go_sem, Nat.reduceEqDiff, Nat.reduceBEq, Nat.reduceLT, Nat.reduceLeDiff, Nat.reduceAdd, Nat.reduceSub, Nat.reduceMul, ↓reduceIte, reduceCtorEq, Nat.reduceBNe, Nat.reduceSubDiff, Int.reduceLT, Int.reduceLE, Int.reduceEq, Int.reduceNeg, Int.reduceAdd, Int.reduceMul, Int.reduceSub, Int.reduceToNat, List.append_nil]
      · rw [if_neg ht]
        have ht' : (trimR (fracD (m % 1000)) = []) = False := eq_false ht
        simp (maxSteps := 2000000) (disch := omega) only [go_sem, Nat.reduceEqDiff, Nat.reduceBEq, Nat.reduceLT, Nat.reduceLeDiff, Nat.reduceAdd, Nat.reduceSub, Nat.reduceMul, ↓reduceIte, reduceCtorEq, Nat.reduceBNe, Nat.reduceSubDiff, Int.reduceLT, Int.reduceLE, Int.reduceEq, Int.reduceNeg, Int.reduceAdd, Int.reduceMul, Int.reduceSub, Int.reduceToNat, ht', List.append_assoc]
        exact ⟨by omega, by omega⟩
    · have e : n = (m : Int) := by omega
      rw [e]
      have hn' : ¬ ((m : Int) < 0) := by omega
      simp (maxSteps := 2000000) (disch := omega) only [go_sem, Nat.reduceEqDiff, Nat.reduceBEq, Nat.reduceLT, Nat.reduceLeDiff, Nat.reduceAdd, Nat.reduceSub, Nat.reduceMul, ↓reduceIte, reduceCtorEq, Nat.reduceBNe, Nat.reduceSubDiff, Int.reduceLT, Int.reduceLE, Int.reduceEq, Int.reduceNeg, Int.reduceAdd, Int.reduceMul, Int.reduceSub, Int.reduceToNat, hn', hd1, hd2]
      refine CallG.of (itoa_call _ (by omega) (by omega)) ?_
      rw [hi1]
      simp (maxSteps := 2000000) (disch := omega) only [go_sem, Nat.reduceEqDiff, Nat.reduceBEq, Nat.reduceLT, Nat.reduceLeDiff, Nat.reduceAdd, Nat.reduceSub, Nat.reduceMul, ↓reduceIte, reduceCtorEq, Nat.reduceBNe, Nat.reduceSubDiff, Int.reduceLT, Int.reduceLE, Int.reduceEq, Int.reduceNeg, Int.reduceAdd, Int.reduceMul, Int.reduceSub, Int.reduceToNat, hd1, hd2]
      refine ⟨by omega, ?_⟩
      refine CallG.of (itoa_call _ (by omega) (by omega)) ?_
      rw [hi2]
      simp (maxSteps := 2000000) (disch := omega) only [go_sem, Nat.reduceEqDiff, Nat.reduceBEq, Nat.reduceLT, Nat.reduceLeDiff, Nat.reduceAdd, Nat.reduceSub, Nat.reduceMul, ↓reduceIte, reduceCtorEq, Nat.reduceBNe, Nat.reduceSubDiff, Int.reduceLT, Int.reduceLE, Int.reduceEq, Int.reduceNeg, Int.reduceAdd, Int.reduceMul, Int.reduceSub, Int.reduceToNat, hcut, hfl]
      refine CallG.of (trim_call _ (by rw [hfl]; omega)) ?_
      unfold fracT
      by_cases ht : trimR (fracD (m % 1000)) = []
      · rw [if_pos ht, ht]
        simp (maxSteps := 2000000) only [go_sem, Nat.reduceEqDiff, Nat.reduceBEq, Nat.reduceLT, Nat.reduceLeDiff, Nat.reduceAdd, Nat.reduceSub, Nat.reduceMul, ↓reduceIte, reduceCtorEq, Nat.reduceBNe, Nat.reduceSubDiff, Int.reduceLT, Int.reduceLE, Int.reduceEq, Int.reduceNeg, Int.reduceAdd, Int.reduceMul, Int.reduceSub, Int.reduceToNat, List.append_nil]
      · rw [if_neg ht]
        have ht' : (trimR (fracD (m % 1000)) = []) = False := eq_false ht
        simp (maxSteps := 2000000) (disch := omega) only [go_sem, Nat.reduceEqDiff, Nat.reduceBEq, Nat.reduceLT, Nat.reduceLeDiff, Nat.reduceAdd, Nat.reduceSub, Nat.reduceMul, ↓reduceIte, reduceCtorEq, Nat.reduceBNe, Nat.reduceSubDiff, Int.reduceLT, Int.reduceLE, Int.reduceEq, Int.reduceNeg, Int.reduceAdd, Int.reduceMul, Int.reduceSub, Int.reduceToNat, ht', List.append_assoc]
        exact ⟨by omega, by omega⟩
  · rw [if_neg hl]
    refine CallG.of (check_bad hl) ?_
    simp (maxSteps := 2000000) only [go_sem, Nat.reduceEqDiff, Nat.reduceBEq, Nat.reduceLT, Nat.reduceLeDiff, Nat.reduceAdd, Nat.reduceSub, Nat.reduceMul, ↓reduceIte, reduceCtorEq, Nat.reduceBNe, Nat.reduceSubDiff, Int.reduceLT, Int.reduceLE, Int.reduceEq, Int.reduceNeg, Int.reduceAdd, Int.reduceMul, Int.reduceSub, Int.reduceToNat, err]
end Go.Av.Tryd
