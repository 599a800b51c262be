import Derived.Test.YtbfljokjkcdbeaaPMod
import Derived.Test.YtbfljokjkcdbeaaPCon
/- Blanks and words, walked. -/
set_option linter.unusedSimpArgs false
namespace Go.Av.Try
open Go.Proofs

/-- parse.sign -/
def L_parse_sign : LCode :=
  .seq (.reg [⟨some 2, .asg (.k (.d (.bool false))), none⟩]) (.seq (.reg [⟨some 3, .val (.cp (.t 0)), none⟩, ⟨some 4, .val (.cvI .i32 (.t 3)), none⟩, ⟨some 5, .val (.i2s (.t 4)), 
  none⟩, ⟨some 6, .call 75 [.k (.d (.str [40, 41, 60, 62, 91, 93, 123, 125, 47, 37])), .t 5], none⟩, ⟨some 7, .val (.cp (.t 6)), none⟩, ⟨some 8, .val (.cp (.t 0)), some (7, true)⟩, 
  ⟨some 9, .val (.bin .lss (.t 8) (.k (.d (.int .u8 128)))), some (7, true)⟩, ⟨some 10, .val (.pick (.t 7) (.t 9) (.k (.d (.bool false)))), none⟩, ⟨some 2, .asg (.t 10), none⟩]) 
  .ret)
def R_parse_sign : List LRes := [.tmp 2]
theorem lift_parse_sign : Lifts Try.prog 44 11 L_parse_sign R_parse_sign := ⟨_, _, Try.func44, rfl, by kernel_rfl, by kernel_rfl, rfl⟩

theorem sign_call (c : UInt8) : PCall Try.prog 44 [.int .u8 c.toNat] (fun r => r = .one (.bool (signB c))) := by
  have hc8 := u8_lt c
  refine lift_parse_sign.call rfl ?_
  simp (maxSteps := 2000000) only [go_sem, ↓reduceIte, L_parse_sign, R_parse_sign]
  rw [IntWalk.i32_in _ (by omega)]
  by_cases h : c.toNat < 128
  · rw [encode_ascii h]
    refine CallG.of (contains1_call _ c) ?_
    simp (maxSteps := 2000000) only [go_sem, ↓reduceIte]
    refine ⟨fun h1 => ?_, fun h1 => ?_⟩
    · have h2 : signB c = true := by simpa [signB, signs10] using h1
      have h3 : ((c.toNat : Int) < 128) = True := by simp only [eq_iff_iff, iff_true]; omega
      simp [h2, h3]
    · have h2 : signB c = false := by simpa [signB, signs10] using h1
      rw [h2]
  · have h2 : signB c = false := by
      simp only [signB, signs10, List.mem_cons, List.not_mem_nil, or_false, decide_eq_false_iff_not, ← UInt8.toNat_inj]
      have : (40 : UInt8).toNat = 40 := rfl
      rintro (e | e | e | e | e | e | e | e | e | e) <;> (rw [e] at h; exact h (by decide))
    have h3 : ((c.toNat : Int) < 128) = False := by simp only [eq_iff_iff, iff_false]; omega
    rw [h2]
    refine CallG.of (contains_call _ _ (by simp)) ?_
    simp (maxSteps := 2000000) only [go_sem, ↓reduceIte, h3]

theorem clamp_eq (s : List UInt8) (n : Int) : (if (s.length : Int) < (if n < 0 then 0 else n) then (s.length : Int) else if n < 0 then 0 else n) = ((clampP s n : Nat) : Int) := by
  unfold clampP; split <;> split <;> omega
theorem clamp_le (s : List UInt8) (n : Int) : clampP s n ≤ s.length := by unfold clampP; omega
theorem clamp_in {s : List UInt8} {k : Nat} (h : k ≤ s.length) : clampP s k = k := by unfold clampP; omega

/-- parse.Skip -/
def L_parse_Skip : LCode :=
  .seq (.reg [⟨some 4, .asg (.k (.d (.int .i64 0))), none⟩]) (.seq (.reg [⟨some 5, .val (.cp (.t 1)), none⟩, ⟨some 6, .val (.mm true (.t 5) (.k (.d (.int .i64 0)))), none⟩, ⟨some 7, 
  .val (.cp (.t 0)), none⟩, ⟨some 8, .val (.len true (.t 7)), none⟩, ⟨some 9, .val (.mm false (.t 6) (.t 8)), none⟩, ⟨some 1, .asg (.t 9), none⟩]) (.seq (.block 0 (.loop (.seq 
  (.seq (.reg [⟨some 10, .val (.cp (.t 1)), none⟩, ⟨some 11, .val (.cp (.t 0)), none⟩, ⟨some 12, .val (.len true (.t 11)), none⟩, ⟨some 13, .val (.bin .lss (.t 10) (.t 12)), 
  none⟩]) (.cond (.t 13) .skip (.exit 0))) (.block 1 (.block 2 (.seq (.reg [⟨some 16, .val (.cp (.t 0)), none⟩, ⟨some 17, .val (.cp (.t 1)), none⟩, ⟨some 18, .val (.idxS (.t 16) 
  (.t 17)), none⟩, ⟨some 19, .call 29 [.t 18], none⟩, ⟨some 15, .asg (.t 19), none⟩]) (.cond (.t 15) (.reg [⟨some 20, .val (.cp (.t 1)), none⟩, ⟨some 21, .val (.bin .add (.t 20) 
  (.k (.d (.int .i64 1)))), none⟩, ⟨some 1, .asg (.t 21), none⟩]) (.seq (.reg [⟨some 23, .val (.cp (.t 0)), none⟩, ⟨some 24, .val (.cp (.t 1)), none⟩, ⟨some 25, .val (.idxS (.t 23) 
  (.t 24)), none⟩, ⟨some 26, .val (.bin .eql (.t 25) (.k (.d (.int .u8 37)))), none⟩, ⟨some 22, .asg (.t 26), none⟩]) (.cond (.t 22) (.block 3 (.loop (.seq (.seq (.reg [⟨some 27, 
  .val (.cp (.t 1)), none⟩, ⟨some 28, .val (.cp (.t 0)), none⟩, ⟨some 29, .val (.len true (.t 28)), none⟩, ⟨some 30, .val (.bin .lss (.t 27) (.t 29)), none⟩, ⟨some 31, .val (.cp 
  (.t 30)), none⟩, ⟨some 32, .val (.cp (.t 0)), some (31, true)⟩, ⟨some 33, .val (.cp (.t 1)), some (31, true)⟩, ⟨some 34, .val (.idxS (.t 32) (.t 33)), some (31, true)⟩, ⟨some 35, 
  .val (.bin .neq (.t 34) (.k (.d (.int .u8 10)))), some (31, true)⟩, ⟨some 36, .val (.pick (.t 31) (.t 35) (.k (.d (.bool false)))), none⟩, ⟨some 37, .val (.cp (.t 36)), none⟩, 
  ⟨some 38, .val (.cp (.t 0)), some (37, true)⟩, ⟨some 39, .val (.cp (.t 1)), some (37, true)⟩, ⟨some 40, .val (.idxS (.t 38) (.t 39)), some (37, true)⟩, ⟨some 41, .val (.bin .neq 
  (.t 40) (.k (.d (.int .u8 13)))), some (37, true)⟩, ⟨some 42, .val (.pick (.t 37) (.t 41) (.k (.d (.bool false)))), none⟩]) (.cond (.t 42) .skip (.exit 3))) (.block 4 (.reg 
  [⟨some 43, .val (.cp (.t 1)), none⟩, ⟨some 44, .val (.bin .add (.t 43) (.k (.d (.int .i64 1)))), none⟩, ⟨some 1, .asg (.t 44), none⟩]))))) (.seq (.reg [⟨some 14, .val (.cp (.t 
  1)), none⟩, ⟨some 4, .asg (.t 14), none⟩]) .ret)))))))))) (.seq (.reg [⟨some 45, .val (.cp (.t 1)), none⟩, ⟨some 4, .asg (.t 45), none⟩]) .ret)))
def R_parse_Skip : List LRes := [.tmp 4]
theorem lift_parse_Skip : Lifts Try.prog 23 46 L_parse_Skip R_parse_Skip := ⟨_, _, Try.func23, rfl, by kernel_rfl, by kernel_rfl, rfl⟩

theorem skip_call (s : List UInt8) (n : Int) (hs : s.length ≤ 1000000000) : PCall Try.prog 23 [.str s, .int .i64 n] (fun r => r = .one (.int .i64 (skipP s (clampP s n)))) := by
  refine lift_parse_Skip.call rfl ?_
  have hk := clamp_le s n
  have he := clamp_eq s n
  generalize clampP s n = k at *
  generalize hR : skipP s k = R
  unfold skipP at hR
  simp (maxSteps := 2000000) only [go_sem, ↓reduceIte, L_parse_Skip, R_parse_Skip, he]
  refine run_loop (fun i : Nat => ⟨[(0, .d (.str s)), (1, .d (.int .i64 i))], [], []⟩)
    (fun i => i ≤ s.length ∧ skipF false (s.drop i) i = R) (fun i => s.length - i) k ?_ ?_ ?_
  · refine weak_mk ?_ trivial
    simp (maxSteps := 2000000) only [go_sem, ↓reduceIte, Sub, Int.natCast_add, Int.natCast_mul, he]
  · exact ⟨hk, hR⟩
  · rintro i ⟨hi, hF⟩
    simp (maxSteps := 2000000) only [go_sem, ↓reduceIte]
    refine ⟨fun hlt => ?_, fun hge => ?_⟩
    · obtain ⟨c, hc⟩ := get_some (l := s) (i := i) (by omega)
      have hc8 := u8_lt c
      rw [drop_at hc, skipF, if_neg (by decide)] at hF
      simp (maxSteps := 2000000) only [go_sem, ↓reduceIte, getI_nat, hc]
      refine CallG.of (blank_call c.toNat) ?_
      simp (maxSteps := 2000000) only [go_sem, ↓reduceIte]
      refine ⟨fun h2 => ?_, fun h2 => ?_⟩
      · rw [if_neg (by intro e; rw [e] at h2; exact absurd h2 (by decide)), if_pos h2] at hF
        simp (disch := omega) only [IntWalk.i64_in, IntWalk.u8_in]
        refine ⟨i + 1, ?_, ⟨by omega, hF⟩, by omega⟩
        refine weak_mk ?_ trivial
        simp (maxSteps := 2000000) only [go_sem, ↓reduceIte, Sub, Int.natCast_add, Int.natCast_mul]
      · simp (maxSteps := 2000000) only [go_sem, ↓reduceIte, getI_nat, hc]
        refine ⟨fun h3 => ?_, fun h3 => ?_⟩
        · rw [if_pos (by omega)] at hF
          have c37 : c.toNat = 37 := by omega
          refine run_loop (fun j : Nat => ⟨[(0, .d (.str s)), (1, .d (.int .i64 j))], [], []⟩)
            (fun j => i ≤ j ∧ j ≤ s.length ∧ skipF true (s.drop j) j = R) (fun j => s.length - j) i ?_ ?_ ?_
          · refine weak_mk ?_ trivial
            simp (maxSteps := 2000000) only [go_sem, ↓reduceIte, Sub, Int.natCast_add, Int.natCast_mul]
          · refine ⟨Nat.le_refl _, hi, ?_⟩
            rw [drop_at hc, skipF, if_pos rfl, c37]
            exact hF
          · rintro j ⟨hij, hj, hG⟩
            simp (maxSteps := 2000000) only [go_sem, ↓reduceIte]
            refine ⟨fun hlt2 => ?_, fun hge2 => ?_⟩
            · obtain ⟨x, hx⟩ := get_some (l := s) (i := j) (by omega)
              have hx8 := u8_lt x
              rw [drop_at hx, skipF, if_pos rfl] at hG
              simp (maxSteps := 2000000) only [go_sem, ↓reduceIte, getI_nat, hx]
              have end_ : (x.toNat = 10 ∨ x.toNat = 13) → i < j ∧ skipF false (s.drop j) j = R := fun h => by
                refine ⟨?_, ?_⟩
                · rcases Nat.lt_or_ge i j with q | q
                  · exact q
                  · have : i = j := by omega
                    subst this
                    rw [hc] at hx; cases hx; omega
                · rw [drop_at hx, skipF, if_neg (by decide), if_neg (by omega), if_pos (by rcases h with h | h <;> rw [h] <;> rfl)]
                  rcases h with h | h <;> (rw [h] at hG; exact hG)
              refine ⟨fun g1 => ⟨fun g2 => ?_, fun g2 => ?_⟩, fun g1 => ?_⟩
              · simp (disch := omega) only [IntWalk.i64_in, IntWalk.u8_in]
                have q : (decide (x.toNat ≠ 10) && decide (x.toNat ≠ 13)) = true := by simp; omega
                rw [q] at hG
                refine ⟨j + 1, ?_, ⟨by omega, by omega, hG⟩, by omega⟩
                refine weak_mk ?_ trivial
                simp (maxSteps := 2000000) only [go_sem, ↓reduceIte, Sub, Int.natCast_add, Int.natCast_mul]
              · obtain ⟨q1, q2⟩ := end_ (.inr (by omega))
                refine ⟨j, ?_, ⟨hj, q2⟩, by omega⟩
                refine weak_mk ?_ trivial
                simp (maxSteps := 2000000) only [go_sem, ↓reduceIte, Sub, Int.natCast_add, Int.natCast_mul]
              · obtain ⟨q1, q2⟩ := end_ (.inl (by omega))
                refine ⟨j, ?_, ⟨hj, q2⟩, by omega⟩
                refine weak_mk ?_ trivial
                simp (maxSteps := 2000000) only [go_sem, ↓reduceIte, Sub, Int.natCast_add, Int.natCast_mul]
            · refine ⟨j, ?_, ⟨hj, ?_⟩, by omega⟩
              · refine weak_mk ?_ trivial
                simp (maxSteps := 2000000) only [go_sem, ↓reduceIte, Sub, Int.natCast_add, Int.natCast_mul]
              · rw [List.drop_eq_nil_of_le (by omega), skipF] at hG
                rw [List.drop_eq_nil_of_le (by omega), skipF]; exact hG
        · rw [if_neg (by omega), if_neg (by simp [h2])] at hF
          subst hF
          rfl
    · rw [List.drop_eq_nil_of_le (by omega), skipF] at hF
      subst hF
      simp (maxSteps := 2000000) only [go_sem, ↓reduceIte]

/-! ### Words -/
theorem wordL_cons (c : UInt8) (r : List UInt8) : wordL (c :: r) = if blankB c.toNat = false ∧ signB c = false then c :: wordL r else [] := by
  unfold wordL
  rw [List.takeWhile_cons]
  by_cases h : blankB c.toNat = false ∧ signB c = false
  · rw [if_pos h, if_pos (by simp [h.1, h.2])]
  · rw [if_neg h, if_neg (by simpa using h)]
theorem word_next {s : List UInt8} {k i : Nat} {c : UInt8} (hk : k ≤ i) (hc : s[i]? = some c) (h1 : blankB c.toNat = false) (h2 : signB c = false) (h : wordL (s.drop k) = (s.drop k).take (i - k) ++ wordL (s.drop i)) :
    wordL (s.drop k) = (s.drop k).take (i + 1 - k) ++ wordL (s.drop (i + 1)) := by
  have hl : (s.drop k)[i - k]? = some c := by rw [List.getElem?_drop, show k + (i - k) = i by omega]; exact hc
  rw [h, drop_at hc, wordL_cons, if_pos ⟨h1, h2⟩, show i + 1 - k = (i - k) + 1 by omega, List.take_add_one, hl]
  simp

/-- parse.Word -/
def L_parse_Word : LCode :=
  .seq (.reg [⟨some 4, .asg (.k (.d (.str []))), none⟩]) (.seq (.reg [⟨some 6, .val (.cp (.t 1)), none⟩, ⟨some 7, .val (.mm true (.t 6) (.k (.d (.int .i64 0)))), none⟩, ⟨some 8, .val 
  (.cp (.t 0)), none⟩, ⟨some 9, .val (.len true (.t 8)), none⟩, ⟨some 10, .val (.mm false (.t 7) (.t 9)), none⟩, ⟨some 1, .asg (.t 10), none⟩]) (.seq (.reg [⟨some 11, .val (.cp (.t 
  1)), none⟩, ⟨some 5, .asg (.t 11), none⟩]) (.seq (.block 0 (.loop (.seq (.seq (.reg [⟨some 12, .val (.cp (.t 5)), none⟩, ⟨some 13, .val (.cp (.t 0)), none⟩, ⟨some 14, .val (.len 
  true (.t 13)), none⟩, ⟨some 15, .val (.bin .lss (.t 12) (.t 14)), none⟩, ⟨some 16, .val (.cp (.t 15)), none⟩, ⟨some 17, .val (.cp (.t 0)), some (16, true)⟩, ⟨some 18, .val (.cp 
  (.t 5)), some (16, true)⟩, ⟨some 19, .val (.idxS (.t 17) (.t 18)), some (16, true)⟩, ⟨some 20, .call 29 [.t 19], some (16, true)⟩, ⟨some 21, .val (.not (.t 20)), some (16, 
  true)⟩, ⟨some 22, .val (.pick (.t 16) (.t 21) (.k (.d (.bool false)))), none⟩, ⟨some 23, .val (.cp (.t 22)), none⟩, ⟨some 24, .val (.cp (.t 0)), some (23, true)⟩, ⟨some 25, .val 
  (.cp (.t 5)), some (23, true)⟩, ⟨some 26, .val (.idxS (.t 24) (.t 25)), some (23, true)⟩, ⟨some 27, .call 44 [.t 26], some (23, true)⟩, ⟨some 28, .val (.not (.t 27)), some (23, 
  true)⟩, ⟨some 29, .val (.pick (.t 23) (.t 28) (.k (.d (.bool false)))), none⟩]) (.cond (.t 29) .skip (.exit 0))) (.block 1 (.reg [⟨some 30, .val (.cp (.t 5)), none⟩, ⟨some 31, 
  .val (.bin .add (.t 30) (.k (.d (.int .i64 1)))), none⟩, ⟨some 5, .asg (.t 31), none⟩]))))) (.seq (.reg [⟨some 32, .val (.cp (.t 0)), none⟩, ⟨some 33, .val (.cp (.t 1)), none⟩, 
  ⟨some 34, .val (.cp (.t 5)), none⟩, ⟨some 35, .val (.subS (.t 32) (some (.t 33)) (some (.t 34))), none⟩, ⟨some 4, .asg (.t 35), none⟩]) .ret))))
def R_parse_Word : List LRes := [.tmp 4]
theorem lift_parse_Word : Lifts Try.prog 25 36 L_parse_Word R_parse_Word := ⟨_, _, Try.func25, rfl, by kernel_rfl, by kernel_rfl, rfl⟩

theorem word_call (s : List UInt8) (n : Int) (hs : s.length ≤ 1000000000) : PCall Try.prog 25 [.str s, .int .i64 n] (fun r => r = .one (.str (wordP s (clampP s n)))) := by
  refine lift_parse_Word.call rfl ?_
  have hk := clamp_le s n
  have he := clamp_eq s n
  generalize clampP s n = k at *
  unfold wordP
  simp (maxSteps := 2000000) only [go_sem, ↓reduceIte, L_parse_Word, R_parse_Word, he]
  refine run_loop (fun i : Nat => ⟨[(0, .d (.str s)), (1, .d (.int .i64 k)), (5, .d (.int .i64 i))], [], []⟩)
    (fun i => k ≤ i ∧ i ≤ s.length ∧ wordL (s.drop k) = (s.drop k).take (i - k) ++ wordL (s.drop i)) (fun i => s.length - i) k ?_ ?_ ?_
  · refine weak_mk ?_ trivial
    simp (maxSteps := 2000000) only [go_sem, ↓reduceIte, Sub, Int.natCast_add, Int.natCast_mul, he]
  · exact ⟨Nat.le_refl _, hk, by simp⟩
  · rintro i ⟨hki, hi, hF⟩
    have fin : wordL (s.drop i) = [] → (s.drop k).take (i - k) = wordL (s.drop k) := fun h => by rw [hF, h, List.append_nil]
    have done : wordL (s.drop i) = [] → (0 ≤ (k : Int) ∧ (k : Int) ≤ i ∧ (i : Int) ≤ s.length) ∧ Res.one (D.str (cutI s k i)) = Res.one (D.str (wordL (s.drop k))) := fun h =>
      ⟨by omega, by rw [cutI_nat, List.drop_take, fin h]⟩
    simp (maxSteps := 2000000) only [go_sem, ↓reduceIte]
    refine ⟨fun hlt => ?_, fun hge => ?_⟩
    · obtain ⟨c, hc⟩ := get_some (l := s) (i := i) (by omega)
      simp (maxSteps := 2000000) only [go_sem, ↓reduceIte, getI_nat, hc]
      refine CallG.of (blank_call c.toNat) ?_
      simp (maxSteps := 2000000) only [go_sem, ↓reduceIte]
      refine ⟨fun h1 => ?_, fun h1 => ?_⟩
      · simp (maxSteps := 2000000) only [go_sem, ↓reduceIte, getI_nat, hc]
        refine CallG.of (sign_call c) ?_
        simp (maxSteps := 2000000) only [go_sem, ↓reduceIte]
        refine ⟨fun h2 => ?_, fun h2 => ?_⟩
        · simp (disch := omega) only [IntWalk.i64_in, IntWalk.u8_in]
          refine ⟨i + 1, ?_, ⟨by omega, by omega, word_next hki hc h1 h2 hF⟩, by omega⟩
          refine weak_mk ?_ trivial
          simp (maxSteps := 2000000) only [go_sem, ↓reduceIte, Sub, Int.natCast_add, Int.natCast_mul]
        · exact done (by rw [drop_at hc, wordL_cons, if_neg (by simp [h2])])
      · exact done (by rw [drop_at hc, wordL_cons, if_neg (by simp [h1])])
    · exact done (by rw [List.drop_eq_nil_of_le (by omega)]; rfl)
end Go.Av.Try
