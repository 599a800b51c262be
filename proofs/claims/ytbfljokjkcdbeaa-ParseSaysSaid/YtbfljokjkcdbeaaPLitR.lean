import Derived.Test.YtbfljokjkcdbeaaPNameR
/- The document's strings in brackets, walked. -/
set_option linter.unusedSimpArgs false
namespace Go.Av.Try
open Go.Proofs

def litRes (o : Option (List UInt8 × Nat)) : Res := match o with
  | none => .tup [.str [], .int .i64 0, .int .i64 5]
  | some (b, k) => .tup [.str b, .int .i64 k, .int .i64 0]

/-- foliowrightref.literal -/
def L_foliowrightref_literal : LCode :=
  .seq (.reg [⟨some 4, .asg (.k (.d (.str []))), none⟩, ⟨some 5, .asg (.k (.d (.int .i64 0))), none⟩, ⟨some 6, .asg (.k (.d (.int .i64 0))), none⟩]) (.seq (.reg [⟨some 7, .nils 5 1, 
  none⟩]) (.seq (.reg [⟨some 8, .asg (.k (.d (.int .i64 1))), none⟩]) (.seq (.block 0 (.loop (.seq (.seq (.reg [⟨some 13, .val (.cp (.t 1)), none⟩, ⟨some 14, .val (.cp (.t 0)), 
  none⟩, ⟨some 15, .val (.len true (.t 14)), none⟩, ⟨some 16, .val (.bin .lss (.t 13) (.t 15)), none⟩]) (.cond (.t 16) .skip (.exit 0))) (.block 1 (.seq (.reg [⟨some 17, .val (.cp 
  (.t 0)), none⟩, ⟨some 18, .val (.cp (.t 1)), none⟩, ⟨some 19, .val (.idxS (.t 17) (.t 18)), none⟩, ⟨some 9, .asg (.t 19), none⟩]) (.seq (.seq (.reg [⟨some 20, .val (.cp (.t 9)), 
  none⟩, ⟨some 21, .val (.bin .eql (.t 20) (.k (.d (.int .u8 41)))), none⟩]) (.cond (.t 21) (.seq (.reg [⟨some 22, .val (.cp (.t 8)), none⟩, ⟨some 23, .val (.bin .sub (.t 22) (.k 
  (.d (.int .i64 1)))), none⟩, ⟨some 8, .asg (.t 23), none⟩]) (.seq (.reg [⟨some 24, .val (.cp (.t 8)), none⟩, ⟨some 25, .val (.bin .eql (.t 24) (.k (.d (.int .i64 0)))), none⟩]) 
  (.cond (.t 25) (.seq (.reg [⟨some 26, .val (.cp (.t 7)), none⟩, ⟨some 27, .val (.b2s (.t 26)), none⟩, ⟨some 28, .val (.cp (.t 1)), none⟩, ⟨some 29, .val (.bin .add (.t 28) (.k 
  (.d (.int .i64 1)))), none⟩, ⟨some 4, .asg (.t 27), none⟩, ⟨some 5, .asg (.t 29), none⟩, ⟨some 6, .asg (.k (.d (.int .i64 0))), none⟩]) .ret) .skip))) .skip)) (.seq (.seq (.reg 
  [⟨some 30, .val (.cp (.t 9)), none⟩, ⟨some 31, .val (.bin .eql (.t 30) (.k (.d (.int .u8 40)))), none⟩]) (.cond (.t 31) (.reg [⟨some 32, .val (.cp (.t 8)), none⟩, ⟨some 33, .val 
  (.bin .add (.t 32) (.k (.d (.int .i64 1)))), none⟩, ⟨some 8, .asg (.t 33), none⟩]) .skip)) (.seq (.seq (.reg [⟨some 34, .val (.cp (.t 9)), none⟩, ⟨some 35, .val (.bin .neq (.t 
  34) (.k (.d (.int .u8 92)))), none⟩]) (.cond (.t 35) (.seq (.reg [⟨some 36, .val (.cp (.t 7)), none⟩, ⟨some 37, .val (.cp (.t 9)), none⟩, ⟨some 38, .bsl 5 1 [.t 37], none⟩, ⟨some 
  39, .app 5 1 1 false (.t 36) (.t 38), none⟩, ⟨some 7, .asg (.t 39), none⟩]) (.seq (.reg [⟨some 40, .val (.cp (.t 1)), none⟩, ⟨some 41, .val (.bin .add (.t 40) (.k (.d (.int .i64 
  1)))), none⟩, ⟨some 1, .asg (.t 41), none⟩]) (.exit 1))) .skip)) (.seq (.reg [⟨some 42, .val (.cp (.t 1)), none⟩, ⟨some 43, .val (.bin .add (.t 42) (.k (.d (.int .i64 1)))), 
  none⟩, ⟨some 1, .asg (.t 43), none⟩]) (.seq (.seq (.reg [⟨some 44, .val (.cp (.t 1)), none⟩, ⟨some 45, .val (.cp (.t 0)), none⟩, ⟨some 46, .val (.len true (.t 45)), none⟩, ⟨some 
  47, .val (.bin .eql (.t 44) (.t 46)), none⟩]) (.cond (.t 47) (.exit 0) .skip)) (.seq (.reg [⟨some 48, .val (.cp (.t 0)), none⟩, ⟨some 49, .val (.cp (.t 1)), none⟩, ⟨some 50, .val 
  (.idxS (.t 48) (.t 49)), none⟩, ⟨some 10, .asg (.t 50), none⟩]) (.seq (.block 2 (.seq (.reg [⟨some 56, .val (.cp (.t 10)), none⟩, ⟨some 57, .val (.bin .eql (.t 56) (.k (.d (.int 
  .u8 110)))), none⟩, ⟨some 55, .asg (.t 57), none⟩]) (.cond (.t 55) (.reg [⟨some 58, .val (.cp (.t 7)), none⟩, ⟨some 59, .bsl 5 1 [.k (.d (.int .u8 10))], none⟩, ⟨some 60, .app 5 
  1 1 false (.t 58) (.t 59), none⟩, ⟨some 7, .asg (.t 60), none⟩]) (.seq (.reg [⟨some 62, .val (.cp (.t 10)), none⟩, ⟨some 63, .val (.bin .eql (.t 62) (.k (.d (.int .u8 114)))), 
  none⟩, ⟨some 61, .asg (.t 63), none⟩]) (.cond (.t 61) (.reg [⟨some 64, .val (.cp (.t 7)), none⟩, ⟨some 65, .bsl 5 1 [.k (.d (.int .u8 13))], none⟩, ⟨some 66, .app 5 1 1 false (.t 
  64) (.t 65), none⟩, ⟨some 7, .asg (.t 66), none⟩]) (.seq (.reg [⟨some 68, .val (.cp (.t 10)), none⟩, ⟨some 69, .val (.bin .eql (.t 68) (.k (.d (.int .u8 116)))), none⟩, ⟨some 67, 
  .asg (.t 69), none⟩]) (.cond (.t 67) (.reg [⟨some 70, .val (.cp (.t 7)), none⟩, ⟨some 71, .bsl 5 1 [.k (.d (.int .u8 9))], none⟩, ⟨some 72, .app 5 1 1 false (.t 70) (.t 71), 
  none⟩, ⟨some 7, .asg (.t 72), none⟩]) (.seq (.reg [⟨some 74, .val (.cp (.t 10)), none⟩, ⟨some 75, .val (.bin .eql (.t 74) (.k (.d (.int .u8 98)))), none⟩, ⟨some 73, .asg (.t 75), 
  none⟩]) (.cond (.t 73) (.reg [⟨some 76, .val (.cp (.t 7)), none⟩, ⟨some 77, .bsl 5 1 [.k (.d (.int .u8 8))], none⟩, ⟨some 78, .app 5 1 1 false (.t 76) (.t 77), none⟩, ⟨some 7, 
  .asg (.t 78), none⟩]) (.seq (.reg [⟨some 80, .val (.cp (.t 10)), none⟩, ⟨some 81, .val (.bin .eql (.t 80) (.k (.d (.int .u8 102)))), none⟩, ⟨some 79, .asg (.t 81), none⟩]) (.cond 
  (.t 79) (.reg [⟨some 82, .val (.cp (.t 7)), none⟩, ⟨some 83, .bsl 5 1 [.k (.d (.int .u8 12))], none⟩, ⟨some 84, .app 5 1 1 false (.t 82) (.t 83), none⟩, ⟨some 7, .asg (.t 84), 
  none⟩]) (.seq (.reg [⟨some 86, .val (.cp (.t 10)), none⟩, ⟨some 87, .val (.bin .eql (.t 86) (.k (.d (.int .u8 10)))), none⟩, ⟨some 85, .asg (.t 87), none⟩]) (.cond (.t 85) .skip 
  (.seq (.reg [⟨some 89, .val (.cp (.t 10)), none⟩, ⟨some 90, .val (.bin .eql (.t 89) (.k (.d (.int .u8 13)))), none⟩, ⟨some 88, .asg (.t 90), none⟩]) (.cond (.t 88) (.seq (.reg 
  [⟨some 91, .val (.cp (.t 1)), none⟩, ⟨some 92, .val (.bin .add (.t 91) (.k (.d (.int .i64 1)))), none⟩, ⟨some 93, .val (.cp (.t 0)), none⟩, ⟨some 94, .val (.len true (.t 93)), 
  none⟩, ⟨some 95, .val (.bin .lss (.t 92) (.t 94)), none⟩, ⟨some 96, .val (.cp (.t 95)), none⟩, ⟨some 97, .val (.cp (.t 0)), some (96, true)⟩, ⟨some 98, .val (.cp (.t 1)), some 
  (96, true)⟩, ⟨some 99, .val (.bin .add (.t 98) (.k (.d (.int .i64 1)))), some (96, true)⟩, ⟨some 100, .val (.idxS (.t 97) (.t 99)), some (96, true)⟩, ⟨some 101, .val (.bin .eql 
  (.t 100) (.k (.d (.int .u8 10)))), some (96, true)⟩, ⟨some 102, .val (.pick (.t 96) (.t 101) (.k (.d (.bool false)))), none⟩]) (.cond (.t 102) (.reg [⟨some 103, .val (.cp (.t 
  1)), none⟩, ⟨some 104, .val (.bin .add (.t 103) (.k (.d (.int .i64 1)))), none⟩, ⟨some 1, .asg (.t 104), none⟩]) .skip)) (.seq (.reg [⟨some 106, .val (.cp (.t 10)), none⟩, ⟨some 
  107, .val (.bin .geq (.t 106) (.k (.d (.int .u8 48)))), none⟩, ⟨some 108, .val (.cp (.t 107)), none⟩, ⟨some 109, .val (.cp (.t 10)), some (108, true)⟩, ⟨some 110, .val (.bin .leq 
  (.t 109) (.k (.d (.int .u8 55)))), some (108, true)⟩, ⟨some 111, .val (.pick (.t 108) (.t 110) (.k (.d (.bool false)))), none⟩, ⟨some 105, .asg (.t 111), none⟩]) (.cond (.t 105) 
  (.seq (.reg [⟨some 112, .val (.cp (.t 10)), none⟩, ⟨some 113, .val (.bin .sub (.t 112) (.k (.d (.int .u8 48)))), none⟩, ⟨some 114, .val (.cvI .i64 (.t 113)), none⟩, ⟨some 11, 
  .asg (.t 114), none⟩]) (.seq (.seq (.reg [⟨some 12, .asg (.k (.d (.int .i64 0))), none⟩]) (.block 3 (.loop (.seq (.seq (.reg [⟨some 115, .val (.cp (.t 12)), none⟩, ⟨some 116, 
  .val (.bin .lss (.t 115) (.k (.d (.int .i64 2)))), none⟩, ⟨some 117, .val (.cp (.t 116)), none⟩, ⟨some 118, .val (.cp (.t 1)), some (117, true)⟩, ⟨some 119, .val (.bin .add (.t 
  118) (.k (.d (.int .i64 1)))), some (117, true)⟩, ⟨some 120, .val (.cp (.t 0)), some (117, true)⟩, ⟨some 121, .val (.len true (.t 120)), some (117, true)⟩, ⟨some 122, .val (.bin 
  .lss (.t 119) (.t 121)), some (117, true)⟩, ⟨some 123, .val (.pick (.t 117) (.t 122) (.k (.d (.bool false)))), none⟩, ⟨some 124, .val (.cp (.t 123)), none⟩, ⟨some 125, .val (.cp 
  (.t 0)), some (124, true)⟩, ⟨some 126, .val (.cp (.t 1)), some (124, true)⟩, ⟨some 127, .val (.bin .add (.t 126) (.k (.d (.int .i64 1)))), some (124, true)⟩, ⟨some 128, .val 
  (.idxS (.t 125) (.t 127)), some (124, true)⟩, ⟨some 129, .val (.bin .geq (.t 128) (.k (.d (.int .u8 48)))), some (124, true)⟩, ⟨some 130, .val (.pick (.t 124) (.t 129) (.k (.d 
  (.bool false)))), none⟩, ⟨some 131, .val (.cp (.t 130)), none⟩, ⟨some 132, .val (.cp (.t 0)), some (131, true)⟩, ⟨some 133, .val (.cp (.t 1)), some (131, true)⟩, ⟨some 134, .val 
  (.bin .add (.t 133) (.k (.d (.int .i64 1)))), some (131, true)⟩, ⟨some 135, .val (.idxS (.t 132) (.t 134)), some (131, true)⟩, ⟨some 136, .val (.bin .leq (.t 135) (.k (.d (.int 
  .u8 55)))), some (131, true)⟩, ⟨some 137, .val (.pick (.t 131) (.t 136) (.k (.d (.bool false)))), none⟩]) (.cond (.t 137) .skip (.exit 3))) (.seq (.block 4 (.seq (.reg [⟨some 
  140, .val (.cp (.t 1)), none⟩, ⟨some 141, .val (.bin .add (.t 140) (.k (.d (.int .i64 1)))), none⟩, ⟨some 1, .asg (.t 141), none⟩]) (.reg [⟨some 142, .val (.cp (.t 11)), none⟩, 
  ⟨some 143, .val (.bin .mul (.k (.d (.int .i64 8))) (.t 142)), none⟩, ⟨some 144, .val (.cp (.t 0)), none⟩, ⟨some 145, .val (.cp (.t 1)), none⟩, ⟨some 146, .val (.idxS (.t 144) (.t 
  145)), none⟩, ⟨some 147, .val (.bin .sub (.t 146) (.k (.d (.int .u8 48)))), none⟩, ⟨some 148, .val (.cvI .i64 (.t 147)), none⟩, ⟨some 149, .val (.bin .add (.t 143) (.t 148)), 
  none⟩, ⟨some 11, .asg (.t 149), none⟩]))) (.reg [⟨some 138, .val (.cp (.t 12)), none⟩, ⟨some 139, .val (.bin .add (.t 138) (.k (.d (.int .i64 1)))), none⟩, ⟨some 12, .asg (.t 
  139), none⟩])))))) (.reg [⟨some 150, .val (.cp (.t 7)), none⟩, ⟨some 151, .val (.cp (.t 11)), none⟩, ⟨some 152, .val (.bin .rem (.t 151) (.k (.d (.int .i64 256)))), none⟩, ⟨some 
  153, .val (.cvI .u8 (.t 152)), none⟩, ⟨some 154, .bsl 5 1 [.t 153], none⟩, ⟨some 155, .app 5 1 1 false (.t 150) (.t 154), none⟩, ⟨some 7, .asg (.t 155), none⟩]))) (.reg [⟨some 
  51, .val (.cp (.t 7)), none⟩, ⟨some 52, .val (.cp (.t 10)), none⟩, ⟨some 53, .bsl 5 1 [.t 52], none⟩, ⟨some 54, .app 5 1 1 false (.t 51) (.t 53), none⟩, ⟨some 7, .asg (.t 54), 
  none⟩])))))))))))))))))) (.reg [⟨some 156, .val (.cp (.t 1)), none⟩, ⟨some 157, .val (.bin .add (.t 156) (.k (.d (.int .i64 1)))), none⟩, ⟨some 1, .asg (.t 157), 
  none⟩]))))))))))))) (.seq (.reg [⟨some 4, .asg (.k (.d (.str []))), none⟩, ⟨some 5, .asg (.k (.d (.int .i64 0))), none⟩, ⟨some 6, .asg (.k (.d (.int .i64 5))), none⟩]) .ret))))
def R_foliowrightref_literal : List LRes := [.tmp 4, .tmp 5, .tmp 6]
theorem lift_foliowrightref_literal : Lifts Try.prog 67 158 L_foliowrightref_literal R_foliowrightref_literal := ⟨_, _, Try.func67, rfl, by kernel_rfl, by kernel_rfl, rfl⟩

theorem literal_call (s : List UInt8) (k : Nat) (hs : s.length ≤ 1000000000) (hk : k ≤ s.length) : PCall Try.prog 67 [.str s, .int .i64 k] (fun r => r = litRes (litF 0 1 (s.drop k) [] k)) := by
  refine lift_foliowrightref_literal.call rfl ?_
  generalize hR : litF 0 1 (s.drop k) [] k = R
  simp (maxSteps := 2000000) (disch := omega) only [go_sem, ↓reduceIte, L_foliowrightref_literal, R_foliowrightref_literal]
  refine run_loop (fun y : Nat × Nat × List UInt8 => ⟨[(0, .d (.str s)), (1, .d (.int .i64 y.1)), (7, .own (.t 7) 5 1 (bytesD y.2.2)), (8, .d (.int .i64 y.2.1))], [], []⟩)
    (fun y => y.1 ≤ s.length ∧ y.2.2.length ≤ y.1 ∧ 1 ≤ y.2.1 ∧ y.2.1 ≤ y.1 + 1 ∧ litF 0 y.2.1 (s.drop y.1) y.2.2 y.1 = R) (fun y => s.length - y.1) (k, 1, []) ?_ ?_ ?_
  · refine weak_mk ?_ trivial
    simp (maxSteps := 2000000) only [go_sem, ↓reduceIte, Sub, Int.natCast_add, Int.natCast_mul, bytesD]
  · exact ⟨hk, by simp, by simp, by simp, hR⟩
  · rintro ⟨i, d, b⟩ ⟨hi, hb, hd1, hd2, hF⟩
    simp only at hi hb hd1 hd2 hF
    have hblen := bytesD_length b
    have bad : R = none → Res.tup [D.str [], D.int .i64 0, D.int .i64 5] = litRes R := fun e => by rw [e]; rfl
    simp (maxSteps := 2000000) only [go_sem, ↓reduceIte]
    refine ⟨fun hlt => ?_, fun hge => ?_⟩
    · obtain ⟨c, hc⟩ := get_some (l := s) (i := i) (by omega)
      have hc8 := u8_lt c
      rw [drop_at hc, litF] at hF
      by_cases h92 : c.toNat = 92
      · rw [if_pos h92] at hF
        have z1 : ((c.toNat : Int) = 41) = False := by simp only [eq_iff_iff, iff_false]; omega
        have z2 : ((c.toNat : Int) = 40) = False := by simp only [eq_iff_iff, iff_false]; omega
        have z3 : ((c.toNat : Int) = 92) = True := by simp only [eq_iff_iff, iff_true]; omega
        simp (maxSteps := 2000000) (disch := omega) only [go_sem, ↓reduceIte, getI_nat, hc, z1, z2, z3]
        refine ⟨fun he => ?_, fun he => ?_⟩
        · rw [if_pos (List.drop_eq_nil_of_le (by omega))] at hF
          exact bad hF.symm
        · obtain ⟨e, hge⟩ := get_some (l := s) (i := i + 1) (by omega)
          have he8 := u8_lt e
          rw [if_neg (by rw [drop_at hge]; simp)] at hF
          have g1 : getI s ((i : Int) + 1) = some e := by rw [getI_add1, hge]
          have fin : ∀ o n, escL (s.drop (i + 1)) = (o, n) → i + 1 + n ≤ s.length → litF 0 d (s.drop (i + 1 + n)) (b ++ o.toList) (i + 1 + n) = R := fun o n he hn => by
            rw [he] at hF
            simp only at hF
            rw [litF_skip n (by rw [List.length_drop]; omega), List.drop_drop] at hF
            exact hF
          have e2 : ((i + 2 : Nat) : Int) = (i : Int) + 1 + 1 := by omega
          have e3 : ((i + 3 : Nat) : Int) = (i : Int) + 1 + 1 + 1 := by omega
          have e4 : ((i + 4 : Nat) : Int) = (i : Int) + 1 + 1 + 1 + 1 := by omega
          rw [drop_at hge] at fin
          simp (maxSteps := 2000000) (disch := omega) only [go_sem, ↓reduceIte, g1]
          refine ⟨fun q1 => ?_, fun q1 => ⟨fun q2 => ?_, fun q2 => ⟨fun q3 => ?_, fun q3 => ⟨fun q4 => ?_, fun q4 => ⟨fun q5 => ?_, fun q5 => ⟨fun q6 => ?_, fun q6 => ⟨fun q7 => ?_, fun q7 => ?_⟩⟩⟩⟩⟩⟩⟩
          · have z : bytesD b ++ [D.int IntKind.u8 10] = bytesD (b ++ [10]) := by rw [bytesD_append]; rfl
            have f := fin (some 10) 1 (by rw [escL]; simp [(by omega : e.toNat = 110)]) (by omega)
            refine ⟨by omega, (i + 2, d, b ++ [10]), ?_, ⟨by simp only; omega, by simp only [List.length_append, List.length_cons, List.length_nil]; omega, hd1, by simp only; omega, f⟩, by simp only; omega⟩
            refine weak_mk ?_ trivial
            simp (maxSteps := 2000000) only [go_sem, ↓reduceIte, Sub, Int.natCast_add, Int.natCast_mul, z, e2]
          · have z : bytesD b ++ [D.int IntKind.u8 13] = bytesD (b ++ [13]) := by rw [bytesD_append]; rfl
            have f := fin (some 13) 1 (by rw [escL]; simp [(by omega : e.toNat = 114)]) (by omega)
            refine ⟨by omega, (i + 2, d, b ++ [13]), ?_, ⟨by simp only; omega, by simp only [List.length_append, List.length_cons, List.length_nil]; omega, hd1, by simp only; omega, f⟩, by simp only; omega⟩
            refine weak_mk ?_ trivial
            simp (maxSteps := 2000000) only [go_sem, ↓reduceIte, Sub, Int.natCast_add, Int.natCast_mul, z, e2]
          · have z : bytesD b ++ [D.int IntKind.u8 9] = bytesD (b ++ [9]) := by rw [bytesD_append]; rfl
            have f := fin (some 9) 1 (by rw [escL]; simp [(by omega : e.toNat = 116)]) (by omega)
            refine ⟨by omega, (i + 2, d, b ++ [9]), ?_, ⟨by simp only; omega, by simp only [List.length_append, List.length_cons, List.length_nil]; omega, hd1, by simp only; omega, f⟩, by simp only; omega⟩
            refine weak_mk ?_ trivial
            simp (maxSteps := 2000000) only [go_sem, ↓reduceIte, Sub, Int.natCast_add, Int.natCast_mul, z, e2]
          · have z : bytesD b ++ [D.int IntKind.u8 8] = bytesD (b ++ [8]) := by rw [bytesD_append]; rfl
            have f := fin (some 8) 1 (by rw [escL]; simp [(by omega : e.toNat = 98)]) (by omega)
            refine ⟨by omega, (i + 2, d, b ++ [8]), ?_, ⟨by simp only; omega, by simp only [List.length_append, List.length_cons, List.length_nil]; omega, hd1, by simp only; omega, f⟩, by simp only; omega⟩
            refine weak_mk ?_ trivial
            simp (maxSteps := 2000000) only [go_sem, ↓reduceIte, Sub, Int.natCast_add, Int.natCast_mul, z, e2]
          · have z : bytesD b ++ [D.int IntKind.u8 12] = bytesD (b ++ [12]) := by rw [bytesD_append]; rfl
            have f := fin (some 12) 1 (by rw [escL]; simp [(by omega : e.toNat = 102)]) (by omega)
            refine ⟨by omega, (i + 2, d, b ++ [12]), ?_, ⟨by simp only; omega, by simp only [List.length_append, List.length_cons, List.length_nil]; omega, hd1, by simp only; omega, f⟩, by simp only; omega⟩
            refine weak_mk ?_ trivial
            simp (maxSteps := 2000000) only [go_sem, ↓reduceIte, Sub, Int.natCast_add, Int.natCast_mul, z, e2]
          · have f := fin none 1 (by rw [escL]; simp [(by omega : e.toNat = 10)]) (by omega)
            refine ⟨(i + 2, d, b), ?_, ⟨by simp only; omega, by simp only; omega, hd1, by simp only; omega, by simpa using f⟩, by simp only; omega⟩
            refine weak_mk ?_ trivial
            simp (maxSteps := 2000000) only [go_sem, ↓reduceIte, Sub, Int.natCast_add, Int.natCast_mul, e2]
          · have esc : ∀ n, (if (s.drop (i + 1 + 1)).head?.map UInt8.toNat = some 10 then ((none : Option UInt8), 2) else (none, 1)) = (none, n) → i + 1 + n ≤ s.length → litF 0 d (s.drop (i + 1 + n)) b (i + 1 + n) = R := fun n hn hl => by
              have := fin none n (by rw [escL]; simp only [(by omega : e.toNat = 13)]; exact hn) hl
              simpa using this
            refine ⟨fun q8 => ?_, fun q8 => ?_⟩
            · obtain ⟨x, hx⟩ := get_some (l := s) (i := i + 2) (by omega)
              have hx8 := u8_lt x
              have g2 : getI s ((i : Int) + 1 + 1) = some x := by rw [show (i : Int) + 1 + 1 = ((i + 2 : Nat) : Int) by omega, getI_nat, hx]
              have hh : (s.drop (i + 1 + 1)).head? = some x := by rw [drop_at hx]; rfl
              simp (maxSteps := 2000000) (disch := omega) only [go_sem, ↓reduceIte, g2]
              refine ⟨fun q9 => ?_, fun q9 => ?_⟩
              · have f := esc 2 (by rw [hh]; simp; omega) (by omega)
                refine ⟨(i + 3, d, b), ?_, ⟨by simp only; omega, by simp only; omega, hd1, by simp only; omega, f⟩, by simp only; omega⟩
                have zz : decide ((x.toNat : Int) = 10) = true := by simpa using q9
                refine weak_mk ?_ trivial
                simp (maxSteps := 2000000) only [go_sem, ↓reduceIte, Sub, Int.natCast_add, Int.natCast_mul, e3, zz]
              · have f := esc 1 (by rw [hh]; simp; omega) (by omega)
                refine ⟨(i + 2, d, b), ?_, ⟨by simp only; omega, by simp only; omega, hd1, by simp only; omega, f⟩, by simp only; omega⟩
                have zz : decide ((x.toNat : Int) = 10) = false := by simpa using q9
                refine weak_mk ?_ trivial
                simp (maxSteps := 2000000) only [go_sem, ↓reduceIte, Sub, Int.natCast_add, Int.natCast_mul, e2, zz]
            · have hh : (s.drop (i + 1 + 1)).head? = none := by rw [List.drop_eq_nil_of_le (by omega)]; rfl
              have f := esc 1 (by rw [hh]; simp) (by omega)
              refine ⟨(i + 2, d, b), ?_, ⟨by simp only; omega, by simp only; omega, hd1, by simp only; omega, f⟩, by simp only; omega⟩
              refine weak_mk ?_ trivial
              simp (maxSteps := 2000000) only [go_sem, ↓reduceIte, Sub, Int.natCast_add, Int.natCast_mul, e2]
          · have esc : ∀ o n, (if octB e = false then (some e, 1) else octL e (s.drop (i + 1 + 1))) = (o, n) → i + 1 + n ≤ s.length → litF 0 d (s.drop (i + 1 + n)) (b ++ o.toList) (i + 1 + n) = R := fun o n hn hl => by
              refine fin o n ?_ hl
              rw [escL, if_neg (by omega), if_neg (by omega), if_neg (by omega), if_neg (by omega), if_neg (by omega), if_neg (by omega), if_neg (by omega)]
              exact hn
            have other : octB e = false → litF 0 d (s.drop (i + 2)) (b ++ [e]) (i + 2) = R := fun h => esc (some e) 1 (by rw [if_pos h]) (by omega)
            refine ⟨fun q8 => ⟨fun q9 => ?_, fun q9 => ?_⟩, fun q8 => ?_⟩
            · have ho : octB e = true := by simp [octB]; omega
              have oct : ∀ v n, octG 2 (oct1 e) (s.drop (i + 2)) 1 = (v, n) → i + 1 + n ≤ s.length → litF 0 d (s.drop (i + 1 + n)) (b ++ [byteI v]) (i + 1 + n) = R := fun v n hn hl =>
                esc (some (byteI v)) n (by rw [if_neg (by simp [ho]), octL, hn]) hl
              refine run_loop (fun y : Nat × Int => ⟨[(0, .d (.str s)), (1, .d (.int .i64 ((i + 1 + y.1 : Nat) : Int))), (7, .own (.t 7) 5 1 (bytesD b)), (8, .d (.int .i64 d)), (11, .d (.int .i64 y.2)), (12, .d (.int .i64 y.1))], [], []⟩)
                (fun y => y.1 ≤ 2 ∧ i + 1 + y.1 < s.length ∧ 0 ≤ y.2 ∧ y.2 ≤ 511 ∧ (y.1 = 0 → y.2 ≤ 7) ∧ (y.1 = 1 → y.2 ≤ 63) ∧ octG (2 - y.1) y.2 (s.drop (i + 2 + y.1)) (1 + y.1) = octG 2 (oct1 e) (s.drop (i + 2)) 1) (fun y => 2 - y.1) (0, oct1 e) ?_ ?_ ?_
              · refine weak_mk ?_ trivial
                simp (maxSteps := 2000000) only [go_sem, ↓reduceIte, Sub, Int.natCast_add, Int.natCast_mul, oct1, Int.add_zero]
              · exact ⟨by simp, by simp only; omega, by simp only [oct1]; omega, by simp only [oct1]; omega, by simp only [oct1]; omega, by simp, rfl⟩
              · rintro ⟨j, v⟩ ⟨hj, hjl, hv0, hv1, hv2, hv3, hG⟩
                simp only at hj hjl hv0 hv1 hv2 hv3 hG
                have stop : (∀ x q, s.drop (i + 2 + j) = x :: q → octB x = false) → litF 0 d (s.drop (i + 2 + j)) (b ++ [byteI v]) (i + 2 + j) = R := fun h => by
                  rw [octG_stop h] at hG
                  have := oct v (1 + j) hG.symm (by omega)
                  rwa [show i + 1 + (1 + j) = i + 2 + j by omega] at this
                have hmod : Int.tmod v 256 = ((v.toNat % 256 : Nat) : Int) := by rw [← tmodN]; congr 1; omega
                have hby : byteI (Int.tmod v 256) = byteI v := by
                  apply UInt8.toNat_inj.1
                  have h1 := byteI_toNat (n := Int.tmod v 256) (by omega)
                  have h2 := byteI_toNat (n := v) hv0
                  omega
                have hsn := bytesD_snocI (b := b) (n := Int.tmod v 256) (by omega) (by omega)
                rw [hby] at hsn
                have ej : ((i + 1 + j : Nat) : Int) + 1 = ((i + 2 + j : Nat) : Int) := by omega
                simp (maxSteps := 2000000) (disch := omega) only [go_sem, ↓reduceIte, ej]
                refine ⟨fun c1 => ⟨fun c2 => ?_, fun c2 => ?_⟩, fun c1 => ?_⟩
                · obtain ⟨x, hx⟩ := get_some (l := s) (i := i + 2 + j) (by omega)
                  have hx8 := u8_lt x
                  have gx : getI s (((i + 1 + j : Nat) : Int) + 1) = some x := by rw [ej, getI_nat, hx]
                  have stop2 : octB x = false → litF 0 d (s.drop (i + 2 + j)) (b ++ [byteI v]) (i + 2 + j) = R := fun h => stop fun x' q h' => by
                    rw [drop_at hx] at h'; cases h'; exact h
                  simp (maxSteps := 2000000) (disch := omega) only [go_sem, ↓reduceIte, getI_nat, hx]
                  refine ⟨fun c3 => ?_, fun c3 => ?_⟩
                  · simp (maxSteps := 2000000) (disch := omega) only [go_sem, ↓reduceIte, gx]
                    refine ⟨fun c4 => ?_, fun c4 => ?_⟩
                    · have ox : octB x = true := by simp [octB]; omega
                      rw [drop_at hx, show 2 - j = (2 - (j + 1)) + 1 by omega, octG, if_pos ox] at hG
                      refine ⟨(j + 1, 8 * v + oct1 x), ?_, ⟨by simp only; omega, by simp only; omega, by simp only [oct1]; omega, by simp only [oct1]; omega, by simp only; omega, by simp only [oct1]; omega, ?_⟩, by simp only; omega⟩
                      · have zz : decide ((x.toNat : Int) ≤ 55) = true := by simpa using c4
                        have e5 : ((i + 1 + (j + 1) : Nat) : Int) = ((i + 1 + j : Nat) : Int) + 1 := by omega
                        refine weak_mk ?_ trivial
                        simp (maxSteps := 2000000) only [go_sem, ↓reduceIte, Sub, Int.natCast_add, Int.natCast_mul, oct1, e5, zz]
                        all_goals ((repeat' apply And.intro) <;> (congr 2 <;> omega))
                      · simp only
                        rw [← hG]
                        congr 1
                    · have f := stop2 (by simp [octB]; omega)
                      simp (maxSteps := 2000000) (disch := omega) only [go_sem, ↓reduceIte, hsn]
                      refine ⟨by omega, (i + 2 + j, d, b ++ [byteI v]), ?_, ⟨by simp only; omega, by simp only [List.length_append, List.length_cons, List.length_nil]; omega, hd1, by simp only; omega, f⟩, by simp only; omega⟩
                      refine weak_mk ?_ trivial
                      simp (maxSteps := 2000000) only [go_sem, ↓reduceIte, Sub, Int.natCast_add, Int.natCast_mul]
                      all_goals ((repeat' apply And.intro) <;> (congr 2 <;> omega))
                  · have f := stop2 (by simp [octB]; omega)
                    simp (maxSteps := 2000000) (disch := omega) only [go_sem, ↓reduceIte, hsn]
                    refine ⟨by omega, (i + 2 + j, d, b ++ [byteI v]), ?_, ⟨by simp only; omega, by simp only [List.length_append, List.length_cons, List.length_nil]; omega, hd1, by simp only; omega, f⟩, by simp only; omega⟩
                    refine weak_mk ?_ trivial
                    simp (maxSteps := 2000000) only [go_sem, ↓reduceIte, Sub, Int.natCast_add, Int.natCast_mul]
                    all_goals ((repeat' apply And.intro) <;> (congr 2 <;> omega))
                · have f := stop (fun x q h => by rw [List.drop_eq_nil_of_le (by omega)] at h; cases h)
                  simp (maxSteps := 2000000) (disch := omega) only [go_sem, ↓reduceIte, hsn]
                  refine ⟨by omega, (i + 2 + j, d, b ++ [byteI v]), ?_, ⟨by simp only; omega, by simp only [List.length_append, List.length_cons, List.length_nil]; omega, hd1, by simp only; omega, f⟩, by simp only; omega⟩
                  refine weak_mk ?_ trivial
                  simp (maxSteps := 2000000) only [go_sem, ↓reduceIte, Sub, Int.natCast_add, Int.natCast_mul]
                  all_goals ((repeat' apply And.intro) <;> (congr 2 <;> omega))
                · have f : litF 0 d (s.drop (i + 2 + j)) (b ++ [byteI v]) (i + 2 + j) = R := by
                    have hj2 : j = 2 := by omega
                    subst hj2
                    rw [show 2 - 2 = 0 from rfl, octG] at hG
                    have := oct v (1 + 2) hG.symm (by omega)
                    rwa [show i + 1 + (1 + 2) = i + 2 + 2 by omega] at this
                  simp (maxSteps := 2000000) (disch := omega) only [go_sem, ↓reduceIte, hsn]
                  refine ⟨by omega, (i + 2 + j, d, b ++ [byteI v]), ?_, ⟨by simp only; omega, by simp only [List.length_append, List.length_cons, List.length_nil]; omega, hd1, by simp only; omega, f⟩, by simp only; omega⟩
                  refine weak_mk ?_ trivial
                  simp (maxSteps := 2000000) only [go_sem, ↓reduceIte, Sub, Int.natCast_add, Int.natCast_mul]
                  all_goals ((repeat' apply And.intro) <;> (congr 2 <;> omega))
            · have f := other (by simp [octB]; omega)
              refine ⟨by omega, (i + 2, d, b ++ [e]), ?_, ⟨by simp only; omega, by simp only [List.length_append, List.length_cons, List.length_nil]; omega, hd1, by simp only; omega, f⟩, by simp only; omega⟩
              have zz : decide ((e.toNat : Int) ≤ 55) = false := by simpa using q9
              refine weak_mk ?_ trivial
              simp (maxSteps := 2000000) only [go_sem, ↓reduceIte, Sub, Int.natCast_add, Int.natCast_mul, bytesD_append, bytesD_cons, bytesD_nil, e2, zz]
            · have f := other (by simp [octB]; omega)
              refine ⟨by omega, (i + 2, d, b ++ [e]), ?_, ⟨by simp only; omega, by simp only [List.length_append, List.length_cons, List.length_nil]; omega, hd1, by simp only; omega, f⟩, by simp only; omega⟩
              have zz : decide (48 ≤ (e.toNat : Int)) = false := by simpa using q8
              refine weak_mk ?_ trivial
              simp (maxSteps := 2000000) only [go_sem, ↓reduceIte, Sub, Int.natCast_add, Int.natCast_mul, bytesD_append, bytesD_cons, bytesD_nil, e2, zz]
      · rw [if_neg h92] at hF
        have z3 : ((c.toNat : Int) = 92) = False := by simp only [eq_iff_iff, iff_false]; omega
        simp (maxSteps := 2000000) (disch := omega) only [go_sem, ↓reduceIte, getI_nat, hc, z3]
        refine ⟨fun h41 => ⟨fun hd0 => ?_, fun hd0 => ?_⟩, fun h41 => ⟨fun h40 => ?_, fun h40 => ?_⟩⟩
        · rw [if_pos (by omega), if_pos (by omega)] at hF
          subst hF
          simp (maxSteps := 2000000) (disch := omega) only [go_sem, ↓reduceIte, bytesOf_bytesD]
          simp only [litRes, Int.natCast_add, Int.natCast_one]
        · rw [if_pos (by omega), if_neg (by omega)] at hF
          have z2 : ((c.toNat : Int) = 40) = False := by simp only [eq_iff_iff, iff_false]; omega
          simp (maxSteps := 2000000) (disch := omega) only [go_sem, ↓reduceIte, z2]
          refine ⟨by omega, (i + 1, d - 1, b ++ [c]), ?_, ⟨by simp only; omega, by simp only [List.length_append, List.length_cons, List.length_nil]; omega, by simp only; omega, by simp only; omega, hF⟩, by simp only; omega⟩
          refine weak_mk ?_ trivial
          simp (maxSteps := 2000000) only [go_sem, ↓reduceIte, Sub, Int.natCast_add, Int.natCast_mul, bytesD_append, bytesD_cons, bytesD_nil]
          all_goals ((repeat' apply And.intro) <;> (congr 2 <;> omega))
        · rw [if_neg (by omega), if_pos (by omega)] at hF
          refine ⟨by omega, (i + 1, d + 1, b ++ [c]), ?_, ⟨by simp only; omega, by simp only [List.length_append, List.length_cons, List.length_nil]; omega, by simp only; omega, by simp only; omega, hF⟩, by simp only; omega⟩
          refine weak_mk ?_ trivial
          simp (maxSteps := 2000000) only [go_sem, ↓reduceIte, Sub, Int.natCast_add, Int.natCast_mul, bytesD_append, bytesD_cons, bytesD_nil]
          all_goals ((repeat' apply And.intro) <;> (congr 2 <;> omega))
        · rw [if_neg (by omega), if_neg (by omega)] at hF
          refine ⟨by omega, (i + 1, d, b ++ [c]), ?_, ⟨by simp only; omega, by simp only [List.length_append, List.length_cons, List.length_nil]; omega, by simp only; omega, by simp only; omega, hF⟩, by simp only; omega⟩
          refine weak_mk ?_ trivial
          simp (maxSteps := 2000000) only [go_sem, ↓reduceIte, Sub, Int.natCast_add, Int.natCast_mul, bytesD_append, bytesD_cons, bytesD_nil]
          all_goals ((repeat' apply And.intro) <;> (congr 2 <;> omega))
    · rw [List.drop_eq_nil_of_le (by omega), litF] at hF
      exact bad hF.symm
end Go.Av.Try
