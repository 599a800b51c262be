import Derived.Test.YtbfljokjkcdbeaaPTop
import Derived.Test.YtbfljokjkcdbeaaPAg2
import Derived.Test.YtbfljokjkcdbeaaESrt
/- TopBlank: what stands ahead of a value, and behind it. -/
set_option linter.unusedSimpArgs false
namespace Go.Av.Try
open Go.Proofs

def blankT : List UInt8 := [37, 120, 10, 55, 32, 56]
def goodB : RV → Bool
  | .ok v k => k == 4 && v.n == 7000
  | .bad _ => false
theorem goodB_ : goodB (valueP blankT 0) = true := by kernel_rfl
theorem blank_val : ∃ v, valueP blankT 0 = .ok v 4 ∧ v.n = 7000 := by
  have h := goodB_
  cases hx : valueP blankT 0 with
  | bad e => rw [hx] at h; cases h
  | ok v k =>
    rw [hx] at h
    simp only [goodB, Bool.and_eq_true, beq_iff_eq] at h
    obtain ⟨rfl, h2⟩ := h
    exact ⟨v, rfl, h2⟩
theorem valueP_sm (s : List UInt8) (k : Int) {v : Val} {n : Nat} (h : valueP s k = .ok v n) : v.sm 1048576 = true := by
  unfold valueP at h
  split at h
  · cases h
  · rename_i hc
    have hg := readF_good s 8 k.toNat (by omega)
    split at h
    · cases h
    · rename_i v' k' hx
      split at h
      · cases h
        rw [hx] at hg
        obtain ⟨g1, g2, g3, g4⟩ := hg
        exact Val.sm_mono (by omega) v g3
      · cases h
theorem valueP_le {s : List UInt8} {v : Val} {k : Nat} (h : valueP s 0 = .ok v k) : k ≤ s.length := by
  unfold valueP at h
  split at h
  · cases h
  · have hg := readF_good s 8 (0 : Int).toNat (by simp)
    split at h
    · cases h
    · rename_i x n hx
      rw [hx] at hg
      split at h
      · cases h; exact hg.2.1
      · cases h
theorem valueP_bad {s : List UInt8} {k : Int} {e : Nat} (h : valueP s k = .bad e) : e ≠ 0 := by
  unfold valueP at h
  split at h
  · cases h; decide
  · rename_i hc
    have hg := readF_good s 8 k.toNat (by omega)
    split at h
    · rename_i e' hx
      cases h
      rw [hx] at hg
      have := hg.1
      omega
    · split at h
      · cases h
      · rename_i hf; cases h; exact hf

/-- foliowrighttop.TopBlank -/
def L_foliowrighttop_TopBlank : LCode :=
  .seq (.reg [⟨some 6, .asg (.k (.d (.bool false))), none⟩]) (.seq (.reg [⟨some 22, .call 19 [.k (.d (.str [37, 120, 10, 55, 32, 56])), .k (.d (.int .i64 0))], none⟩, ⟨some 21, .val 
  (.cp (.t 22)), none⟩, ⟨some 23, .val (.ext 0 (.t 21)), none⟩, ⟨some 24, .val (.ext 1 (.t 21)), none⟩, ⟨some 25, .val (.ext 2 (.t 21)), none⟩, ⟨some 7, .allo [.int .i64 0, .int 
  .i64 0, .str [], .list [], .list []], none⟩, ⟨none, .st 5 (.t 7) (.t 23), none⟩, ⟨some 8, .asg (.t 24), none⟩, ⟨some 9, .asg (.t 25), none⟩]) (.seq (.seq (.reg [⟨some 26, .val 
  (.cp (.t 9)), none⟩, ⟨some 27, .val (.eqN 0 true (.t 26)), none⟩, ⟨some 28, .val (.cp (.t 27)), none⟩, ⟨some 29, .val (.cp (.t 8)), some (28, false)⟩, ⟨some 30, .val (.bin .neq 
  (.t 29) (.k (.d (.int .i64 4)))), some (28, false)⟩, ⟨some 31, .val (.pick (.t 28) (.k (.d (.bool true))) (.t 30)), none⟩, ⟨some 32, .val (.cp (.t 31)), none⟩, ⟨some 33, .val 
  (.fa 1 (.t 7)), some (32, false)⟩, ⟨some 34, .val (.ld false 1 (.t 33)), some (32, false)⟩, ⟨some 35, .val (.bin .neq (.t 34) (.k (.d (.int .i64 7000)))), some (32, false)⟩, 
  ⟨some 36, .val (.pick (.t 32) (.k (.d (.bool true))) (.t 35)), none⟩]) (.cond (.t 36) (.seq (.reg [⟨some 6, .asg (.k (.d (.bool false))), none⟩]) .ret) .skip)) (.seq (.seq (.reg 
  [⟨some 37, .val (.cp (.t 0)), none⟩, ⟨some 38, .val (.len true (.t 37)), none⟩, ⟨some 39, .val (.bin .gtr (.t 38) (.k (.d (.int .i64 1500)))), none⟩, ⟨some 40, .val (.cp (.t 
  39)), none⟩, ⟨some 41, .val (.cp (.t 1)), some (40, false)⟩, ⟨some 42, .val (.len true (.t 41)), some (40, false)⟩, ⟨some 43, .val (.bin .gtr (.t 42) (.k (.d (.int .i64 100)))), 
  some (40, false)⟩, ⟨some 44, .val (.pick (.t 40) (.k (.d (.bool true))) (.t 43)), none⟩, ⟨some 45, .val (.cp (.t 44)), none⟩, ⟨some 46, .val (.cp (.t 2)), some (45, false)⟩, 
  ⟨some 47, .val (.len true (.t 46)), some (45, false)⟩, ⟨some 48, .val (.bin .gtr (.t 47) (.k (.d (.int .i64 200)))), some (45, false)⟩, ⟨some 49, .val (.pick (.t 45) (.k (.d 
  (.bool true))) (.t 48)), none⟩]) (.cond (.t 49) (.seq (.reg [⟨some 6, .asg (.k (.d (.bool true))), none⟩]) .ret) .skip)) (.seq (.seq (.reg [⟨some 10, .asg (.k (.d (.int .i64 
  0))), none⟩]) (.block 0 (.loop (.seq (.seq (.reg [⟨some 50, .val (.cp (.t 10)), none⟩, ⟨some 51, .val (.cp (.t 1)), none⟩, ⟨some 52, .val (.len true (.t 51)), none⟩, ⟨some 53, 
  .val (.bin .lss (.t 50) (.t 52)), none⟩]) (.cond (.t 53) .skip (.exit 0))) (.seq (.block 1 (.seq (.reg [⟨some 56, .val (.cp (.t 1)), none⟩, ⟨some 57, .val (.cp (.t 10)), none⟩, 
  ⟨some 58, .val (.idxS (.t 56) (.t 57)), none⟩, ⟨some 59, .val (.bin .eql (.t 58) (.k (.d (.int .u8 10)))), none⟩, ⟨some 60, .val (.cp (.t 59)), none⟩, ⟨some 61, .val (.cp (.t 
  1)), some (60, false)⟩, ⟨some 62, .val (.cp (.t 10)), some (60, false)⟩, ⟨some 63, .val (.idxS (.t 61) (.t 62)), some (60, false)⟩, ⟨some 64, .val (.bin .eql (.t 63) (.k (.d 
  (.int .u8 13)))), some (60, false)⟩, ⟨some 65, .val (.pick (.t 60) (.k (.d (.bool true))) (.t 64)), none⟩]) (.cond (.t 65) (.seq (.reg [⟨some 6, .asg (.k (.d (.bool true))), 
  none⟩]) .ret) .skip))) (.reg [⟨some 54, .val (.cp (.t 10)), none⟩, ⟨some 55, .val (.bin .add (.t 54) (.k (.d (.int .i64 1)))), none⟩, ⟨some 10, .asg (.t 55), none⟩])))))) (.seq 
  (.reg [⟨some 67, .val (.cp (.t 0)), none⟩, ⟨some 68, .call 19 [.t 67, .k (.d (.int .i64 0))], none⟩, ⟨some 66, .val (.cp (.t 68)), none⟩, ⟨some 69, .val (.ext 0 (.t 66)), none⟩, 
  ⟨some 70, .val (.ext 1 (.t 66)), none⟩, ⟨some 71, .val (.ext 2 (.t 66)), none⟩, ⟨some 11, .allo [.int .i64 0, .int .i64 0, .str [], .list [], .list []], none⟩, ⟨none, .st 5 (.t 
  11) (.t 69), none⟩, ⟨some 12, .asg (.t 70), none⟩, ⟨some 13, .asg (.t 71), none⟩]) (.seq (.seq (.reg [⟨some 72, .val (.cp (.t 13)), none⟩, ⟨some 73, .val (.eqN 0 true (.t 72)), 
  none⟩]) (.cond (.t 73) (.seq (.reg [⟨some 6, .asg (.k (.d (.bool true))), none⟩]) .ret) .skip)) (.seq (.reg [⟨some 74, .val (.cp (.t 1)), none⟩, ⟨some 75, .val (.bin .add (.k (.d 
  (.str [32, 37]))) (.t 74)), none⟩, ⟨some 76, .val (.bin .add (.t 75) (.k (.d (.str [10])))), none⟩, ⟨some 14, .asg (.t 76), none⟩]) (.seq (.reg [⟨some 78, .val (.cp (.t 14)), 
  none⟩, ⟨some 79, .val (.cp (.t 0)), none⟩, ⟨some 80, .val (.bin .add (.t 78) (.t 79)), none⟩, ⟨some 81, .call 19 [.t 80, .k (.d (.int .i64 0))], none⟩, ⟨some 77, .val (.cp (.t 
  81)), none⟩, ⟨some 82, .val (.ext 0 (.t 77)), none⟩, ⟨some 83, .val (.ext 1 (.t 77)), none⟩, ⟨some 84, .val (.ext 2 (.t 77)), none⟩, ⟨some 15, .allo [.int .i64 0, .int .i64 0, 
  .str [], .list [], .list []], none⟩, ⟨none, .st 5 (.t 15) (.t 82), none⟩, ⟨some 16, .asg (.t 83), none⟩, ⟨some 17, .asg (.t 84), none⟩]) (.seq (.seq (.reg [⟨some 85, .val (.cp 
  (.t 17)), none⟩, ⟨some 86, .val (.eqN 0 true (.t 85)), none⟩, ⟨some 87, .val (.cp (.t 86)), none⟩, ⟨some 88, .val (.cp (.t 16)), some (87, false)⟩, ⟨some 89, .val (.cp (.t 12)), 
  some (87, false)⟩, ⟨some 90, .val (.cp (.t 14)), some (87, false)⟩, ⟨some 91, .val (.len true (.t 90)), some (87, false)⟩, ⟨some 92, .val (.bin .add (.t 89) (.t 91)), some (87, 
  false)⟩, ⟨some 93, .val (.bin .neq (.t 88) (.t 92)), some (87, false)⟩, ⟨some 94, .val (.pick (.t 87) (.k (.d (.bool true))) (.t 93)), none⟩, ⟨some 95, .val (.cp (.t 94)), none⟩, 
  ⟨some 96, .val (.ld true 5 (.t 11)), some (95, false)⟩, ⟨some 97, .val (.ld true 5 (.t 15)), some (95, false)⟩, ⟨some 98, .call 35 [.t 96, .t 97], some (95, false)⟩, ⟨some 99, 
  .val (.not (.t 98)), some (95, false)⟩, ⟨some 100, .val (.pick (.t 95) (.k (.d (.bool true))) (.t 99)), none⟩]) (.cond (.t 100) (.seq (.reg [⟨some 6, .asg (.k (.d (.bool 
  false))), none⟩]) .ret) .skip)) (.seq (.reg [⟨some 101, .val (.cp (.t 0)), none⟩, ⟨some 102, .val (.cp (.t 12)), none⟩, ⟨some 103, .val (.subS (.t 101) none (some (.t 102))), 
  none⟩, ⟨some 104, .val (.bin .add (.t 103) (.k (.d (.str [32])))), none⟩, ⟨some 18, .asg (.t 104), none⟩]) (.seq (.seq (.reg [⟨some 105, .val (.fa 0 (.t 11)), none⟩, ⟨some 106, 
  .val (.ld false 1 (.t 105)), none⟩, ⟨some 107, .val (.bin .eql (.t 106) (.k (.d (.int .i64 2)))), none⟩]) (.cond (.t 107) (.seq (.reg [⟨some 6, .asg (.k (.d (.bool true))), 
  none⟩]) .ret) .skip)) (.seq (.reg [⟨some 109, .val (.cp (.t 18)), none⟩, ⟨some 110, .val (.cp (.t 2)), none⟩, ⟨some 111, .val (.bin .add (.t 109) (.t 110)), none⟩, ⟨some 112, 
  .call 19 [.t 111, .k (.d (.int .i64 0))], none⟩, ⟨some 108, .val (.cp (.t 112)), none⟩, ⟨some 113, .val (.ext 0 (.t 108)), none⟩, ⟨some 114, .val (.ext 1 (.t 108)), none⟩, ⟨some 
  115, .val (.ext 2 (.t 108)), none⟩, ⟨some 19, .allo [.int .i64 0, .int .i64 0, .str [], .list [], .list []], none⟩, ⟨none, .st 5 (.t 19) (.t 113), none⟩, ⟨some 16, .asg (.t 114), 
  none⟩, ⟨some 20, .asg (.t 115), none⟩]) (.seq (.reg [⟨some 116, .val (.cp (.t 20)), none⟩, ⟨some 117, .val (.eqN 0 false (.t 116)), none⟩, ⟨some 118, .val (.cp (.t 117)), none⟩, 
  ⟨some 119, .val (.cp (.t 16)), some (118, true)⟩, ⟨some 120, .val (.cp (.t 12)), some (118, true)⟩, ⟨some 121, .val (.bin .eql (.t 119) (.t 120)), some (118, true)⟩, ⟨some 122, 
  .val (.pick (.t 118) (.t 121) (.k (.d (.bool false)))), none⟩, ⟨some 123, .val (.cp (.t 122)), none⟩, ⟨some 124, .val (.ld true 5 (.t 11)), some (123, true)⟩, ⟨some 125, .val 
  (.ld true 5 (.t 19)), some (123, true)⟩, ⟨some 126, .call 35 [.t 124, .t 125], some (123, true)⟩, ⟨some 127, .val (.pick (.t 123) (.t 126) (.k (.d (.bool false)))), none⟩, ⟨some 
  6, .asg (.t 127), none⟩]) .ret)))))))))))))
def R_foliowrighttop_TopBlank : List LRes := [.tmp 6]
theorem lift_foliowrighttop_TopBlank : Lifts Try.prog 8 128 L_foliowrighttop_TopBlank R_foliowrighttop_TopBlank := ⟨_, _, Try.func8, rfl, by kernel_rfl, by kernel_rfl, rfl⟩

theorem topBlank_call (s n b : List UInt8) : PCall Try.prog 8 [.str s, .str n, .str b] (fun r => r = .one (.bool true)) := by
  obtain ⟨v0, h1, h2⟩ := blank_val
  have hc := valueTop_call blankT 0 (by decide)
  rw [h1, topP, Val.d_eq v0, h2] at hc
  refine lift_foliowrighttop_TopBlank.call rfl ?_
  simp (maxSteps := 2000000) only [go_sem, ↓reduceIte, L_foliowrighttop_TopBlank, R_foliowrighttop_TopBlank]
  refine CallG.of hc ?_
  simp (maxSteps := 2000000) only [go_sem, ↓reduceIte]
  refine fun q1 q2 q3 => ?_
  refine run_loop (fun i : Nat => ⟨[(0, .d (.str s)), (1, .d (.str n)), (2, .d (.str b)), (10, .d (.int .i64 i))], [], []⟩)
    (fun i => i ≤ n.length ∧ ∀ j, j < i → ∀ c, n[j]? = some c → c.toNat ≠ 10 ∧ c.toNat ≠ 13) (fun i => n.length - i) 0 ?_ ?_ ?_
  · refine weak_mk ?_ trivial
    simp (maxSteps := 2000000) only [go_sem, ↓reduceIte, Sub, Int.natCast_add, Int.natCast_mul]
  · exact ⟨by omega, fun j hj => by omega⟩
  · intro i ⟨hi, hn⟩
    simp (maxSteps := 2000000) only [go_sem, ↓reduceIte]
    refine ⟨fun r1 => ?_, fun r1 => ?_⟩
    · obtain ⟨c, hc⟩ := get_some (l := n) (i := i) (by omega)
      have hc8 := u8_lt c
      simp (maxSteps := 2000000) (disch := omega) only [go_sem, ↓reduceIte, getI_nat, hc]
      intro e1 e2
      refine ⟨i + 1, ?_, ⟨by omega, fun j hj d hd => ?_⟩, by omega⟩
      · refine weak_mk ?_ trivial
        simp (maxSteps := 2000000) only [go_sem, ↓reduceIte, Sub, Int.natCast_add, Int.natCast_mul]
      · by_cases e : j = i
        · subst e
          rw [hc] at hd; cases hd
          exact ⟨by omega, by omega⟩
        · exact hn j (by omega) d hd
    · have hall : ∀ c ∈ n, c.toNat ≠ 10 ∧ c.toNat ≠ 13 := fun c hc => by
        obtain ⟨j, hj, e⟩ := List.getElem_of_mem hc
        exact hn j (by omega) c (by rw [List.getElem?_eq_getElem hj, e])
      have hv := valueTop_call s 0 (by omega)
      cases hx : valueP s 0 with
      | bad e =>
        have he := valueP_bad hx
        rw [hx, topP, errD_ne he, zeroV_d] at hv
        refine CallG.of hv ?_
        simp (maxSteps := 2000000) only [go_sem, ↓reduceIte]
      | ok v k =>
        have hsm := valueP_sm s 0 hx
        rw [hx, topP, Val.d_eq v] at hv
        refine CallG.of hv ?_
        simp (maxSteps := 2000000) only [go_sem, ↓reduceIte]
        have hal := alikeP_call _ v v (Nat.le_refl _) hsm
        rw [alikeV_refl, Val.d_eq v] at hal
        have eA : 32 :: 37 :: (n ++ [10] ++ s) = aheadT n ++ s := by simp [aheadT]
        have hA := ahead_value (s := s) hall (by simp [aheadT]; omega)
        rw [hx, shRV, aheadT_len, ← eA] at hA
        have hvA := valueTop_call (32 :: 37 :: (n ++ [10] ++ s)) 0 (by simp; omega)
        rw [hA, topP, Val.d_eq v] at hvA
        refine ⟨by omega, by omega, by simp; omega, CallG.of hvA ?_⟩
        have hgd : k ≤ s.length := valueP_le hx
        have hkT : (((n.length + 3 + k : Nat) : Int) = IntKind.i64.wrap ((k : Int) + ((n ++ [10]).length + 1 + 1 : Nat))) = True := by
          rw [IntWalk.i64_in _ (by simp; omega)]
          simp; omega
        simp (maxSteps := 2000000) only [go_sem, ↓reduceIte, hkT]
        refine CallG.of hal ?_
        have hcut : cutI s 0 (k : Int) = s.take k := by
          show cutI s ((0 : Nat) : Int) _ = _
          rw [cutI_nat, List.drop_zero]
        simp (maxSteps := 2000000) only [go_sem, ↓reduceIte, hkT, hcut]
        have htl : (s.take k).length = k := by rw [List.length_take]; omega
        refine ⟨⟨by omega, by omega⟩, by omega, fun hk2 => ?_⟩
        have hB := behind_value (t := b) hx (fun e => hk2 (by omega)) (by simp; omega)
        have hvB := valueTop_call (s.take k ++ [32] ++ b) 0 (by simp; omega)
        rw [hB.2, topP, Val.d_eq v] at hvB
        refine ⟨by simp; omega, CallG.of hvB ?_⟩
        simp (maxSteps := 2000000) only [go_sem, ↓reduceIte]
        refine CallG.of hal ?_
        simp (maxSteps := 2000000) only [go_sem, ↓reduceIte]
end Go.Av.Try
