import Derived.Test.YtbfljokjkcdbeaaGreatDoorWb
import Derived.Shelf.Strings.Search3
import Derived.Shelf.LaysM
import Derived.Test.YtbfljokjkcdbeaaGreatDoorWc
import Derived.Test.YtbfljokjkcdbeaaGreatDoorWa
set_option linter.unusedSimpArgs false
namespace Go.Av.Tryz
open Go.Proofs
open Go.Shelf
set_option maxRecDepth 100000
def containsLays_ren : Go.Shelf.Ren := ⟨fun | 144 => 65 | 143 => 90 | 219 => 109 | 217 => 114 | 225 => 118 | 224 => 119 | 267 => 120 | 266 => 128 | 314 => 131 | n => n, fun | 9 => 9 | 4 => 4 | 3 => 3 | 5 => 5 | 46 => 106 | 146 => 144 | 51 => 143 | n => n, fun | 1 => 0 | n => n⟩
theorem containsLays : Go.Proofs.LaysM.n144 Tryz.prog containsLays_ren where
  mixed := by kernel_rfl
  f143 := Tryz.func90.trans (congrArg some (by kernel_rfl))
  f144 := Tryz.func65.trans (congrArg some (by kernel_rfl))
  f217 := Tryz.func114.trans (congrArg some (by kernel_rfl))
  f219 := Tryz.func109.trans (congrArg some (by kernel_rfl))
  f224 := Tryz.func119.trans (congrArg some (by kernel_rfl))
  f225 := Tryz.func118.trans (congrArg some (by kernel_rfl))
  f266 := Tryz.func128.trans (congrArg some (by kernel_rfl))
  f267 := Tryz.func120.trans (congrArg some (by kernel_rfl))
  f314 := Tryz.func131.trans (congrArg some (by kernel_rfl))
  t3 := Tryz.underlying3
  a3 := Tryz.isAgg3
  z3 := Tryz.sizeOf3
  v3 := Tryz.zeroValue3
  t4 := Tryz.underlying4
  a4 := Tryz.isAgg4
  z4 := Tryz.sizeOf4
  v4 := Tryz.zeroValue4
  t5 := Tryz.underlying5
  a5 := Tryz.isAgg5
  z5 := Tryz.sizeOf5
  v5 := Tryz.zeroValue5
  t9 := Tryz.underlying9
  a9 := Tryz.isAgg9
  z9 := Tryz.sizeOf9
  v9 := Tryz.zeroValue9
  t46 := Tryz.underlying106
  a46 := Tryz.isAgg106
  z46 := Tryz.sizeOf106
  v46 := Tryz.zeroValue106
  t51 := Tryz.underlying143
  a51 := Tryz.isAgg143
  z51 := Tryz.sizeOf143
  v51 := Tryz.zeroValue143
  t146 := Tryz.underlying144
  a146 := Tryz.isAgg144
  z146 := Tryz.sizeOf144
  v146 := Tryz.zeroValue144
  g1 := by kernel_rfl
  i3 := by kernel_rfl
  i4 := by kernel_rfl
  i5 := by kernel_rfl
  i9 := by kernel_rfl
  i46 := by kernel_rfl
  i51 := by kernel_rfl
  i146 := by kernel_rfl
  m1 := by kernel_rfl
  s1_3 := fun w h => Go.Proofs.cell_of_shapedOpen_int (zero := #[.int .i64 0]) (t := 3) h (of_decide_eq_true (by kernel_rfl)) (by kernel_rfl) rfl (by kernel_rfl) (by kernel_rfl) Tryz.underlying3

theorem contains_call (s sub : List UInt8) (hs : s.length < 4294967281) : PCall Tryz.prog 65 [.str s, .str sub] (fun r => r = .one (.bool (Lib.contains s sub))) := by
  intro f w vs hI ht hsz hrd
  have hv : vs = #[.string ⟨s.toArray⟩, .string ⟨sub.toArray⟩] := by
    have h1 := hrd 0 _ rfl
    have h2 := hrd 1 _ rfl
    match vs, hsz with
    | ⟨[v, u]⟩, _ => cases h1; cases h2; rfl
  subst hv
  obtain ⟨m, hm⟩ := hI.2 0 (by kernel_rfl)
  refine (Any.strings_Contains containsLays.ton144 ⟨s.toArray⟩ ⟨sub.toArray⟩ m w (by show s.toArray.size < _; simpa using hs) hm).mono fun e w' ⟨he, hw⟩ => ?_
  subst hw
  exact ⟨_, _, f, rfl, he, .bool _, Nat.le_refl _, fun b hb => ⟨rfl, rfl⟩, ht, rfl, rfl, rfl⟩
end Go.Av.Tryz
set_option linter.unusedSimpArgs false
namespace Go.Av.Tryz
open Go.Proofs

/-- parse.sign -/
def L_parse_sign : LCode :=
  .seq (.reg [⟨some 2, .asg (.k (.d (.bool false))), none⟩]) (.seq (.reg [⟨some 3, .val (.cp (.t 0)), none⟩, ⟨some 4, .val (.cvI .i32 (.t 3)), none⟩, ⟨some 5, .val (.i2s (.t 4)), 
  none⟩, ⟨some 6, .call 65 [.k (.d (.str [40, 41, 60, 62, 91, 93, 123, 125, 47, 37])), .t 5], none⟩, ⟨some 7, .val (.cp (.t 6)), none⟩, ⟨some 8, .val (.cp (.t 0)), some (7, true)⟩, 
  ⟨some 9, .val (.bin .lss (.t 8) (.k (.d (.int .u8 128)))), some (7, true)⟩, ⟨some 10, .val (.pick (.t 7) (.t 9) (.k (.d (.bool false)))), none⟩, ⟨some 2, .asg (.t 10), none⟩]) 
  .ret)
def R_parse_sign : List LRes := [.tmp 2]
theorem lift_parse_sign : Lifts Tryz.prog 39 11 L_parse_sign R_parse_sign := ⟨_, _, Tryz.func39, rfl, by kernel_rfl, by kernel_rfl, rfl⟩

theorem sign_call (c : UInt8) : PCall Tryz.prog 39 [.int .u8 c.toNat] (fun r => r = .one (.bool (signB c))) := by
  have hc8 := u8_lt c
  refine lift_parse_sign.call rfl ?_
  simp (maxSteps := 2000000) only [go_sem, ↓reduceIte, L_parse_sign, R_parse_sign]
  rw [IntWalk.i32_in _ (by omega)]
  by_cases h : c.toNat < 128
  · rw [encode_ascii h]
    refine CallG.of (contains1_call _ c) ?_
    simp (maxSteps := 2000000) only [go_sem, ↓reduceIte]
    refine ⟨fun h1 => ?_, fun h1 => ?_⟩
    · have h2 : signB c = true := by simpa [signB, signs10] using h1
      have h3 : ((c.toNat : Int) < 128) = True := by simp only [eq_iff_iff, iff_true]; omega
      simp [h2, h3]
    · have h2 : signB c = false := by simpa [signB, signs10] using h1
      rw [h2]
  · have h2 : signB c = false := by
      simp only [signB, signs10, List.mem_cons, List.not_mem_nil, or_false, decide_eq_false_iff_not, ← UInt8.toNat_inj]
      have : (40 : UInt8).toNat = 40 := rfl
      rintro (e | e | e | e | e | e | e | e | e | e) <;> (rw [e] at h; exact h (by decide))
    have h3 : ((c.toNat : Int) < 128) = False := by simp only [eq_iff_iff, iff_false]; omega
    rw [h2]
    refine CallG.of (contains_call _ _ (by simp)) ?_
    simp (maxSteps := 2000000) only [go_sem, ↓reduceIte, h3]

theorem clamp_eq (s : List UInt8) (n : Int) : (if (s.length : Int) < (if n < 0 then 0 else n) then (s.length : Int) else if n < 0 then 0 else n) = ((clampP s n : Nat) : Int) := by
  unfold clampP; split <;> split <;> omega
theorem clamp_le (s : List UInt8) (n : Int) : clampP s n ≤ s.length := by unfold clampP; omega
theorem clamp_in {s : List UInt8} {k : Nat} (h : k ≤ s.length) : clampP s k = k := by unfold clampP; omega

/-- parse.Skip -/
def L_parse_Skip : LCode :=
  .seq (.reg [⟨some 4, .asg (.k (.d (.int .i64 0))), none⟩]) (.seq (.reg [⟨some 5, .val (.cp (.t 1)), none⟩, ⟨some 6, .val (.mm true (.t 5) (.k (.d (.int .i64 0)))), none⟩, ⟨some 7, 
  .val (.cp (.t 0)), none⟩, ⟨some 8, .val (.len true (.t 7)), none⟩, ⟨some 9, .val (.mm false (.t 6) (.t 8)), none⟩, ⟨some 1, .asg (.t 9), none⟩]) (.seq (.block 0 (.loop (.seq 
  (.seq (.reg [⟨some 10, .val (.cp (.t 1)), none⟩, ⟨some 11, .val (.cp (.t 0)), none⟩, ⟨some 12, .val (.len true (.t 11)), none⟩, ⟨some 13, .val (.bin .lss (.t 10) (.t 12)), 
  none⟩]) (.cond (.t 13) .skip (.exit 0))) (.block 1 (.block 2 (.seq (.reg [⟨some 16, .val (.cp (.t 0)), none⟩, ⟨some 17, .val (.cp (.t 1)), none⟩, ⟨some 18, .val (.idxS (.t 16) 
  (.t 17)), none⟩, ⟨some 19, .call 38 [.t 18], none⟩, ⟨some 15, .asg (.t 19), none⟩]) (.cond (.t 15) (.reg [⟨some 20, .val (.cp (.t 1)), none⟩, ⟨some 21, .val (.bin .add (.t 20) 
  (.k (.d (.int .i64 1)))), none⟩, ⟨some 1, .asg (.t 21), none⟩]) (.seq (.reg [⟨some 23, .val (.cp (.t 0)), none⟩, ⟨some 24, .val (.cp (.t 1)), none⟩, ⟨some 25, .val (.idxS (.t 23) 
  (.t 24)), none⟩, ⟨some 26, .val (.bin .eql (.t 25) (.k (.d (.int .u8 37)))), none⟩, ⟨some 22, .asg (.t 26), none⟩]) (.cond (.t 22) (.block 3 (.loop (.seq (.seq (.reg [⟨some 27, 
  .val (.cp (.t 1)), none⟩, ⟨some 28, .val (.cp (.t 0)), none⟩, ⟨some 29, .val (.len true (.t 28)), none⟩, ⟨some 30, .val (.bin .lss (.t 27) (.t 29)), none⟩, ⟨some 31, .val (.cp 
  (.t 30)), none⟩, ⟨some 32, .val (.cp (.t 0)), some (31, true)⟩, ⟨some 33, .val (.cp (.t 1)), some (31, true)⟩, ⟨some 34, .val (.idxS (.t 32) (.t 33)), some (31, true)⟩, ⟨some 35, 
  .val (.bin .neq (.t 34) (.k (.d (.int .u8 10)))), some (31, true)⟩, ⟨some 36, .val (.pick (.t 31) (.t 35) (.k (.d (.bool false)))), none⟩, ⟨some 37, .val (.cp (.t 36)), none⟩, 
  ⟨some 38, .val (.cp (.t 0)), some (37, true)⟩, ⟨some 39, .val (.cp (.t 1)), some (37, true)⟩, ⟨some 40, .val (.idxS (.t 38) (.t 39)), some (37, true)⟩, ⟨some 41, .val (.bin .neq 
  (.t 40) (.k (.d (.int .u8 13)))), some (37, true)⟩, ⟨some 42, .val (.pick (.t 37) (.t 41) (.k (.d (.bool false)))), none⟩]) (.cond (.t 42) .skip (.exit 3))) (.block 4 (.reg 
  [⟨some 43, .val (.cp (.t 1)), none⟩, ⟨some 44, .val (.bin .add (.t 43) (.k (.d (.int .i64 1)))), none⟩, ⟨some 1, .asg (.t 44), none⟩]))))) (.seq (.reg [⟨some 14, .val (.cp (.t 
  1)), none⟩, ⟨some 4, .asg (.t 14), none⟩]) .ret)))))))))) (.seq (.reg [⟨some 45, .val (.cp (.t 1)), none⟩, ⟨some 4, .asg (.t 45), none⟩]) .ret)))
def R_parse_Skip : List LRes := [.tmp 4]
theorem lift_parse_Skip : Lifts Tryz.prog 18 46 L_parse_Skip R_parse_Skip := ⟨_, _, Tryz.func18, rfl, by kernel_rfl, by kernel_rfl, rfl⟩

theorem skip_call (s : List UInt8) (n : Int) (hs : s.length ≤ 1000000000) : PCall Tryz.prog 18 [.str s, .int .i64 n] (fun r => r = .one (.int .i64 (skipP s (clampP s n)))) := by
  refine lift_parse_Skip.call rfl ?_
  have hk := clamp_le s n
  have he := clamp_eq s n
  generalize clampP s n = k at *
  generalize hR : skipP s k = R
  unfold skipP at hR
  simp (maxSteps := 2000000) only [go_sem, ↓reduceIte, L_parse_Skip, R_parse_Skip, he]
  refine run_loop (fun i : Nat => ⟨[(0, .d (.str s)), (1, .d (.int .i64 i))], [], []⟩)
    (fun i => i ≤ s.length ∧ skipF false (s.drop i) i = R) (fun i => s.length - i) k ?_ ?_ ?_
  · refine weak_mk ?_ trivial
    simp (maxSteps := 2000000) only [go_sem, ↓reduceIte, Sub, Int.natCast_add, Int.natCast_mul, he]
  · exact ⟨hk, hR⟩
  · rintro i ⟨hi, hF⟩
    simp (maxSteps := 2000000) only [go_sem, ↓reduceIte]
    refine ⟨fun hlt => ?_, fun hge => ?_⟩
    · obtain ⟨c, hc⟩ := get_some (l := s) (i := i) (by omega)
      have hc8 := u8_lt c
      rw [drop_at hc, skipF, if_neg (by decide)] at hF
      simp (maxSteps := 2000000) only [go_sem, ↓reduceIte, getI_nat, hc]
      refine CallG.of (blank_call c.toNat) ?_
      simp (maxSteps := 2000000) only [go_sem, ↓reduceIte]
      refine ⟨fun h2 => ?_, fun h2 => ?_⟩
      · rw [if_neg (by intro e; rw [e] at h2; exact absurd h2 (by decide)), if_pos h2] at hF
        simp (disch := omega) only [IntWalk.i64_in, IntWalk.u8_in]
        refine ⟨i + 1, ?_, ⟨by omega, hF⟩, by omega⟩
        refine weak_mk ?_ trivial
        simp (maxSteps := 2000000) only [go_sem, ↓reduceIte, Sub, Int.natCast_add, Int.natCast_mul]
      · simp (maxSteps := 2000000) only [go_sem, ↓reduceIte, getI_nat, hc]
        refine ⟨fun h3 => ?_, fun h3 => ?_⟩
        · rw [if_pos (by omega)] at hF
          have c37 : c.toNat = 37 := by omega
          refine run_loop (fun j : Nat => ⟨[(0, .d (.str s)), (1, .d (.int .i64 j))], [], []⟩)
            (fun j => i ≤ j ∧ j ≤ s.length ∧ skipF true (s.drop j) j = R) (fun j => s.length - j) i ?_ ?_ ?_
          · refine weak_mk ?_ trivial
            simp (maxSteps := 2000000) only [go_sem, ↓reduceIte, Sub, Int.natCast_add, Int.natCast_mul]
          · refine ⟨Nat.le_refl _, hi, ?_⟩
            rw [drop_at hc, skipF, if_pos rfl, c37]
            exact hF
          · rintro j ⟨hij, hj, hG⟩
            simp (maxSteps := 2000000) only [go_sem, ↓reduceIte]
            refine ⟨fun hlt2 => ?_, fun hge2 => ?_⟩
            · obtain ⟨x, hx⟩ := get_some (l := s) (i := j) (by omega)
              have hx8 := u8_lt x
              rw [drop_at hx, skipF, if_pos rfl] at hG
              simp (maxSteps := 2000000) only [go_sem, ↓reduceIte, getI_nat, hx]
              have end_ : (x.toNat = 10 ∨ x.toNat = 13) → i < j ∧ skipF false (s.drop j) j = R := fun h => by
                refine ⟨?_, ?_⟩
                · rcases Nat.lt_or_ge i j with q | q
                  · exact q
                  · have : i = j := by omega
                    subst this
                    rw [hc] at hx; cases hx; omega
                · rw [drop_at hx, skipF, if_neg (by decide), if_neg (by omega), if_pos (by rcases h with h | h <;> rw [h] <;> rfl)]
                  rcases h with h | h <;> (rw [h] at hG; exact hG)
              refine ⟨fun g1 => ⟨fun g2 => ?_, fun g2 => ?_⟩, fun g1 => ?_⟩
              · simp (disch := omega) only [IntWalk.i64_in, IntWalk.u8_in]
                have q : (decide (x.toNat ≠ 10) && decide (x.toNat ≠ 13)) = true := by simp; omega
                rw [q] at hG
                refine ⟨j + 1, ?_, ⟨by omega, by omega, hG⟩, by omega⟩
                refine weak_mk ?_ trivial
                simp (maxSteps := 2000000) only [go_sem, ↓reduceIte, Sub, Int.natCast_add, Int.natCast_mul]
              · obtain ⟨q1, q2⟩ := end_ (.inr (by omega))
                refine ⟨j, ?_, ⟨hj, q2⟩, by omega⟩
                refine weak_mk ?_ trivial
                simp (maxSteps := 2000000) only [go_sem, ↓reduceIte, Sub, Int.natCast_add, Int.natCast_mul]
              · obtain ⟨q1, q2⟩ := end_ (.inl (by omega))
                refine ⟨j, ?_, ⟨hj, q2⟩, by omega⟩
                refine weak_mk ?_ trivial
                simp (maxSteps := 2000000) only [go_sem, ↓reduceIte, Sub, Int.natCast_add, Int.natCast_mul]
            · refine ⟨j, ?_, ⟨hj, ?_⟩, by omega⟩
              · refine weak_mk ?_ trivial
                simp (maxSteps := 2000000) only [go_sem, ↓reduceIte, Sub, Int.natCast_add, Int.natCast_mul]
              · rw [List.drop_eq_nil_of_le (by omega), skipF] at hG
                rw [List.drop_eq_nil_of_le (by omega), skipF]; exact hG
        · rw [if_neg (by omega), if_neg (by simp [h2])] at hF
          subst hF
          rfl
    · rw [List.drop_eq_nil_of_le (by omega), skipF] at hF
      subst hF
      simp (maxSteps := 2000000) only [go_sem, ↓reduceIte]

/-! ### Words -/
theorem wordL_cons (c : UInt8) (r : List UInt8) : wordL (c :: r) = if blankB c.toNat = false ∧ signB c = false then c :: wordL r else [] := by
  unfold wordL
  rw [List.takeWhile_cons]
  by_cases h : blankB c.toNat = false ∧ signB c = false
  · rw [if_pos h, if_pos (by simp [h.1, h.2])]
  · rw [if_neg h, if_neg (by simpa using h)]
theorem word_next {s : List UInt8} {k i : Nat} {c : UInt8} (hk : k ≤ i) (hc : s[i]? = some c) (h1 : blankB c.toNat = false) (h2 : signB c = false) (h : wordL (s.drop k) = (s.drop k).take (i - k) ++ wordL (s.drop i)) :
    wordL (s.drop k) = (s.drop k).take (i + 1 - k) ++ wordL (s.drop (i + 1)) := by
  have hl : (s.drop k)[i - k]? = some c := by rw [List.getElem?_drop, show k + (i - k) = i by omega]; exact hc
  rw [h, drop_at hc, wordL_cons, if_pos ⟨h1, h2⟩, show i + 1 - k = (i - k) + 1 by omega, List.take_add_one, hl]
  simp

/-- parse.Word -/
def L_parse_Word : LCode :=
  .seq (.reg [⟨some 4, .asg (.k (.d (.str []))), none⟩]) (.seq (.reg [⟨some 6, .val (.cp (.t 1)), none⟩, ⟨some 7, .val (.mm true (.t 6) (.k (.d (.int .i64 0)))), none⟩, ⟨some 8, .val 
  (.cp (.t 0)), none⟩, ⟨some 9, .val (.len true (.t 8)), none⟩, ⟨some 10, .val (.mm false (.t 7) (.t 9)), none⟩, ⟨some 1, .asg (.t 10), none⟩]) (.seq (.reg [⟨some 11, .val (.cp (.t 
  1)), none⟩, ⟨some 5, .asg (.t 11), none⟩]) (.seq (.block 0 (.loop (.seq (.seq (.reg [⟨some 12, .val (.cp (.t 5)), none⟩, ⟨some 13, .val (.cp (.t 0)), none⟩, ⟨some 14, .val (.len 
  true (.t 13)), none⟩, ⟨some 15, .val (.bin .lss (.t 12) (.t 14)), none⟩, ⟨some 16, .val (.cp (.t 15)), none⟩, ⟨some 17, .val (.cp (.t 0)), some (16, true)⟩, ⟨some 18, .val (.cp 
  (.t 5)), some (16, true)⟩, ⟨some 19, .val (.idxS (.t 17) (.t 18)), some (16, true)⟩, ⟨some 20, .call 38 [.t 19], some (16, true)⟩, ⟨some 21, .val (.not (.t 20)), some (16, 
  true)⟩, ⟨some 22, .val (.pick (.t 16) (.t 21) (.k (.d (.bool false)))), none⟩, ⟨some 23, .val (.cp (.t 22)), none⟩, ⟨some 24, .val (.cp (.t 0)), some (23, true)⟩, ⟨some 25, .val 
  (.cp (.t 5)), some (23, true)⟩, ⟨some 26, .val (.idxS (.t 24) (.t 25)), some (23, true)⟩, ⟨some 27, .call 39 [.t 26], some (23, true)⟩, ⟨some 28, .val (.not (.t 27)), some (23, 
  true)⟩, ⟨some 29, .val (.pick (.t 23) (.t 28) (.k (.d (.bool false)))), none⟩]) (.cond (.t 29) .skip (.exit 0))) (.block 1 (.reg [⟨some 30, .val (.cp (.t 5)), none⟩, ⟨some 31, 
  .val (.bin .add (.t 30) (.k (.d (.int .i64 1)))), none⟩, ⟨some 5, .asg (.t 31), none⟩]))))) (.seq (.reg [⟨some 32, .val (.cp (.t 0)), none⟩, ⟨some 33, .val (.cp (.t 1)), none⟩, 
  ⟨some 34, .val (.cp (.t 5)), none⟩, ⟨some 35, .val (.subS (.t 32) (some (.t 33)) (some (.t 34))), none⟩, ⟨some 4, .asg (.t 35), none⟩]) .ret))))
def R_parse_Word : List LRes := [.tmp 4]
theorem lift_parse_Word : Lifts Tryz.prog 19 36 L_parse_Word R_parse_Word := ⟨_, _, Tryz.func19, rfl, by kernel_rfl, by kernel_rfl, rfl⟩

theorem word_call (s : List UInt8) (n : Int) (hs : s.length ≤ 1000000000) : PCall Tryz.prog 19 [.str s, .int .i64 n] (fun r => r = .one (.str (wordP s (clampP s n)))) := by
  refine lift_parse_Word.call rfl ?_
  have hk := clamp_le s n
  have he := clamp_eq s n
  generalize clampP s n = k at *
  unfold wordP
  simp (maxSteps := 2000000) only [go_sem, ↓reduceIte, L_parse_Word, R_parse_Word, he]
  refine run_loop (fun i : Nat => ⟨[(0, .d (.str s)), (1, .d (.int .i64 k)), (5, .d (.int .i64 i))], [], []⟩)
    (fun i => k ≤ i ∧ i ≤ s.length ∧ wordL (s.drop k) = (s.drop k).take (i - k) ++ wordL (s.drop i)) (fun i => s.length - i) k ?_ ?_ ?_
  · refine weak_mk ?_ trivial
    simp (maxSteps := 2000000) only [go_sem, ↓reduceIte, Sub, Int.natCast_add, Int.natCast_mul, he]
  · exact ⟨Nat.le_refl _, hk, by simp⟩
  · rintro i ⟨hki, hi, hF⟩
    have fin : wordL (s.drop i) = [] → (s.drop k).take (i - k) = wordL (s.drop k) := fun h => by rw [hF, h, List.append_nil]
    have done : wordL (s.drop i) = [] → (0 ≤ (k : Int) ∧ (k : Int) ≤ i ∧ (i : Int) ≤ s.length) ∧ Res.one (D.str (cutI s k i)) = Res.one (D.str (wordL (s.drop k))) := fun h =>
      ⟨by omega, by rw [cutI_nat, List.drop_take, fin h]⟩
    simp (maxSteps := 2000000) only [go_sem, ↓reduceIte]
    refine ⟨fun hlt => ?_, fun hge => ?_⟩
    · obtain ⟨c, hc⟩ := get_some (l := s) (i := i) (by omega)
      simp (maxSteps := 2000000) only [go_sem, ↓reduceIte, getI_nat, hc]
      refine CallG.of (blank_call c.toNat) ?_
      simp (maxSteps := 2000000) only [go_sem, ↓reduceIte]
      refine ⟨fun h1 => ?_, fun h1 => ?_⟩
      · simp (maxSteps := 2000000) only [go_sem, ↓reduceIte, getI_nat, hc]
        refine CallG.of (sign_call c) ?_
        simp (maxSteps := 2000000) only [go_sem, ↓reduceIte]
        refine ⟨fun h2 => ?_, fun h2 => ?_⟩
        · simp (disch := omega) only [IntWalk.i64_in, IntWalk.u8_in]
          refine ⟨i + 1, ?_, ⟨by omega, by omega, word_next hki hc h1 h2 hF⟩, by omega⟩
          refine weak_mk ?_ trivial
          simp (maxSteps := 2000000) only [go_sem, ↓reduceIte, Sub, Int.natCast_add, Int.natCast_mul]
        · exact done (by rw [drop_at hc, wordL_cons, if_neg (by simp [h2])])
      · exact done (by rw [drop_at hc, wordL_cons, if_neg (by simp [h1])])
    · exact done (by rw [List.drop_eq_nil_of_le (by omega)]; rfl)
end Go.Av.Tryz
set_option linter.unusedSimpArgs false
namespace Go.Av.Tryz
open Go.Proofs

/-- No blank, no sign. -/
def plW (w : List UInt8) : Prop := ∀ c ∈ w, blankB c.toNat = false ∧ signB c = false
/-- A word may end ahead of it. -/
def dl : List UInt8 → Prop
  | [] => True
  | c :: _ => blankB c.toNat = true ∨ signB c = true
theorem wordL_dl {p : List UInt8} (h : dl p) : wordL p = [] := by
  cases p with
  | nil => rfl
  | cons c r =>
    rw [wordL_cons, if_neg]
    rintro ⟨h1, h2⟩
    rcases h with h | h
    · rw [h] at h1; cases h1
    · rw [h] at h2; cases h2
theorem wordL_app : ∀ {w p : List UInt8}, plW w → dl p → wordL (w ++ p) = w
  | [], p, _, hp => wordL_dl hp
  | c :: w, p, hw, hp => by
    rw [List.cons_append, wordL_cons, if_pos (hw c (by simp)), wordL_app (fun x hx => hw x (by simp [hx])) hp]
theorem wordP_0 (s : List UInt8) : wordP s 0 = wordL s := by unfold wordP; rw [List.drop_zero]
theorem skipP_0 {c : UInt8} {r : List UInt8} (h1 : c.toNat ≠ 37) (h2 : blankB c.toNat = false) : skipP (c :: r) 0 = 0 := by
  unfold skipP; rw [List.drop_zero, skipF, if_neg (by decide), if_neg h1, if_neg (by simp [h2])]
theorem skipP_32 (r : List UInt8) : skipP (32 :: r) 0 = 1 + skipP r 0 := by
  unfold skipP
  rw [List.drop_zero, List.drop_zero, skipF, if_neg (by decide), if_neg (by decide), if_pos (by decide)]
  exact skipF_shift r false 0 1

/-! ### Digits -/
def digB (c : UInt8) : Prop := 45 ≤ c.toNat ∧ c.toNat ≤ 57 ∧ c.toNat ≠ 47
theorem dig_plain : ∀ n : Fin 256, 45 ≤ n.val → n.val ≤ 57 → n.val ≠ 47 → blankB (UInt8.ofNat n.val).toNat = false ∧ signB (UInt8.ofNat n.val) = false := by decide +kernel
theorem digB_pl {c : UInt8} (h : digB c) : blankB c.toNat = false ∧ signB c = false := by
  have hc := u8_lt c
  have := dig_plain ⟨c.toNat, hc⟩ h.1 h.2.1 h.2.2
  simpa using this
theorem dec_dig (m : Nat) : ∀ c ∈ Lib.decDigits m, digB c := by
  induction m using Nat.strongRecOn with
  | _ m ih =>
    rw [Lib.decDigits]
    have one : ∀ k, k < 10 → digB (UInt8.ofNat (48 + k)) := fun k hk => by unfold digB; rw [u8_dig hk]; omega
    by_cases h : m < 10
    · rw [dif_pos h]
      intro c hc
      simp only [List.mem_singleton] at hc
      subst hc
      exact one m h
    · rw [dif_neg h]
      intro c hc
      rw [List.mem_append] at hc
      rcases hc with hc | hc
      · exact ih (m / 10) (by omega) c hc
      · simp only [List.mem_singleton] at hc
        subst hc
        exact one _ (by omega)
theorem trimR_mem {l : List UInt8} {c : UInt8} (h : c ∈ trimR l) : c ∈ l := by
  unfold trimR at h
  rw [List.mem_reverse] at h
  have := (List.dropWhile_sublist (· == 48) (l := l.reverse)).mem h
  simpa using this
theorem textF_dig {n : Int} : ∀ c ∈ textF n, digB c := by
  intro c hc
  unfold textF at hc
  rw [List.mem_append, List.mem_append] at hc
  rcases hc with (hc | hc) | hc
  · split at hc
    · simp only [List.mem_singleton] at hc; subst hc; unfold digB; decide
    · cases hc
  · exact dec_dig _ c hc
  · unfold fracT at hc
    split at hc
    · cases hc
    · rcases List.mem_cons.1 hc with rfl | hc
      · unfold digB; decide
      · have := trimR_mem hc
        have one : ∀ k, k < 10 → digB (UInt8.ofNat (48 + k)) := fun k hk => by unfold digB; rw [u8_dig hk]; omega
        unfold fracD at this
        simp only [List.mem_cons, List.not_mem_nil, or_false] at this
        have hr : n.natAbs % 1000 < 1000 := Nat.mod_lt _ (by omega)
        rcases this with rfl | rfl | rfl
        · exact one _ (by omega)
        · exact one _ (by omega)
        · exact one _ (by omega)
theorem textF_pl (n : Int) : plW (textF n) := fun c hc => digB_pl (textF_dig c hc)
theorem dec_pl (m : Nat) : plW (Lib.decDigits m) := fun c hc => digB_pl (dec_dig m c hc)
theorem dec_ne (m : Nat) : Lib.decDigits m ≠ [] := by obtain ⟨k, l, _, e⟩ := dec_head m; rw [e]; simp
theorem textF_ne (n : Int) : textF n ≠ [] := by
  unfold textF
  intro h
  rw [List.append_eq_nil_iff, List.append_eq_nil_iff] at h
  exact dec_ne _ h.1.2
/-- A word of letters is none of digits. -/
theorem dig_word {w : List UInt8} (hw : ∀ c ∈ w, digB c) {c : UInt8} {r : List UInt8} (hc : 57 < c.toNat) : w ≠ c :: r := fun e => by
  have := hw c (by rw [e]; simp)
  unfold digB at this; omega

/-! ### Names -/
theorem plain_pl : ∀ n : Fin 256, plainB (UInt8.ofNat n.val) = true → (blankB (UInt8.ofNat n.val).toNat = false ∧ signB (UInt8.ofNat n.val) = false) ∧ n.val ≠ 35 := by decide +kernel
theorem hex_pl : ∀ n : Fin 16, (blankB (hexTab.getD n.val 0).toNat = false ∧ signB (hexTab.getD n.val 0) = false) ∧ hexI (hexTab.getD n.val 0).toNat = n.val := by decide +kernel
theorem nameB_pl (c : UInt8) : plW (nameB c) := by
  intro x hx
  unfold nameB at hx
  have hc := u8_lt c
  split at hx
  · rename_i h
    simp only [List.mem_singleton] at hx
    subst hx
    have := plain_pl ⟨x.toNat, hc⟩ (by simpa using h)
    simpa using this.1
  · simp only [List.mem_cons, List.not_mem_nil, or_false] at hx
    rcases hx with rfl | rfl | rfl
    · decide
    · exact (hex_pl ⟨c.toNat / 16, by omega⟩).1
    · exact (hex_pl ⟨c.toNat % 16, by omega⟩).1
theorem nameP_pl (s : List UInt8) : plW (nameP s) := fun c hc => by
  unfold nameP at hc
  obtain ⟨x, _, h⟩ := List.mem_flatMap.1 hc
  exact nameB_pl x c h
theorem nameF2 {c x y : UInt8} {r b : List UInt8} (h : c.toNat = 35) : nameF (c :: x :: y :: r) b = if hexI x.toNat < 0 ∨ hexI y.toNat < 0 then none else nameF r (b ++ [byteI (16 * hexI x.toNat + hexI y.toNat)]) := by
  rw [nameF, if_pos h]
theorem nameF1 {c : UInt8} {r b : List UInt8} (h : c.toNat ≠ 35) : nameF (c :: r) b = nameF r (b ++ [c]) := by
  cases r with
  | nil => simp [nameF, h]
  | cons x r =>
    cases r with
    | nil => rw [nameF, if_neg h]; intro _ _ _ h; cases h
    | cons y r => rw [nameF, if_neg h]
theorem nameF_text : ∀ (s b : List UInt8), nameF (nameP s) b = some (b ++ s)
  | [], b => by simp [nameP, nameF]
  | c :: s, b => by
    have e : nameP (c :: s) = nameB c ++ nameP s := rfl
    have hc := u8_lt c
    rw [e]
    unfold nameB
    split
    · rename_i h
      have := plain_pl ⟨c.toNat, hc⟩ (by simpa using h)
      rw [List.cons_append, List.nil_append, nameF1 this.2, nameF_text s, List.append_assoc]; rfl
    · have h1 := (hex_pl ⟨c.toNat / 16, by omega⟩).2
      have h2 := (hex_pl ⟨c.toNat % 16, by omega⟩).2
      simp only [List.cons_append, List.nil_append]
      rw [nameF2 (by decide), if_neg (by rw [h1, h2]; omega), h1, h2, nameF_text s, List.append_assoc]
      have : byteI (16 * ((c.toNat / 16 : Nat) : Int) + ((c.toNat % 16 : Nat) : Int)) = c := by
        have e : (16 * ((c.toNat / 16 : Nat) : Int) + ((c.toNat % 16 : Nat) : Int)) = ((c.toNat : Nat) : Int) := by omega
        rw [e]
        apply UInt8.toNat_inj.1
        simp [byteI]
      rw [this]; rfl
theorem name_text {s p : List UInt8} (hm : nameMay s = true) (hp : dl p) : nameAt ([47] ++ nameP s ++ p) 0 = some (s, 1 + (nameP s).length) := by
  have e : wordP ([47] ++ nameP s ++ p) (0 + 1) = nameP s := by
    unfold wordP
    show wordL (nameP s ++ p) = _
    exact wordL_app (nameP_pl s) hp
  unfold nameAt
  rw [e, nameF_text]
  simp [hm]

/-! ### Strings -/
theorem octG_3 (a b c : Nat) (ha : a < 4) (hb : b < 8) (hc : c < 8) (t : List UInt8) :
    escL (UInt8.ofNat (48 + a) :: UInt8.ofNat (48 + b) :: UInt8.ofNat (48 + c) :: t) = (some (byteI (8 * (8 * (a : Int) + b) + c)), 3) := by
  have ea : (UInt8.ofNat (48 + a)).toNat = 48 + a := u8_dig (by omega)
  have eb : (UInt8.ofNat (48 + b)).toNat = 48 + b := u8_dig (by omega)
  have ec : (UInt8.ofNat (48 + c)).toNat = 48 + c := u8_dig (by omega)
  have oa : octB (UInt8.ofNat (48 + a)) = true := by unfold octB; rw [ea]; simp; omega
  have ob : octB (UInt8.ofNat (48 + b)) = true := by unfold octB; rw [eb]; simp; omega
  have oc : octB (UInt8.ofNat (48 + c)) = true := by unfold octB; rw [ec]; simp; omega
  unfold escL
  dsimp only
  rw [ea, if_neg (by omega), if_neg (by omega), if_neg (by omega), if_neg (by omega), if_neg (by omega), if_neg (by omega), if_neg (by omega), oa, if_neg (by simp)]
  unfold octL
  rw [octG, if_pos ob, octG, if_pos oc, octG]
  unfold oct1
  rw [ea, eb, ec]
  simp only [Prod.mk.injEq, Option.some.injEq, and_true]
  congr 1
  omega
theorem litF_text : ∀ (s p b : List UInt8) (k : Nat), litF 0 1 (strP s ++ 41 :: p) b k = some (b ++ s, k + (strP s).length + 1)
  | [], p, b, k => by simp [strP, litF]
  | c :: s, p, b, k => by
    have e : strP (c :: s) = strB c ++ strP s := rfl
    have hc := u8_lt c
    rw [e]
    unfold strB
    split
    · rename_i h
      simp only [List.cons_append, List.nil_append]
      rw [litF, if_pos (by decide), if_neg (by simp)]
      have he : escL (c :: (strP s ++ 41 :: p)) = (some c, 1) := by
        unfold escL
        rcases h with rfl | rfl | rfl <;> simp (decide := true) only [if_false, if_true, octB]
      rw [he]
      simp only [Option.toList_some]
      rw [litF, litF_text s p _ _, List.append_assoc]
      simp only [List.cons_append, List.nil_append, Option.some.injEq, Prod.mk.injEq, true_and, List.length_cons]
      omega
    · rename_i h
      simp only [not_or] at h
      split
      · have h92 : c.toNat ≠ 92 := fun e => h.2.2 (UInt8.toNat_inj.1 e)
        have h41 : c.toNat ≠ 41 := fun e => h.2.1 (UInt8.toNat_inj.1 e)
        have h40 : c.toNat ≠ 40 := fun e => h.1 (UInt8.toNat_inj.1 e)
        simp only [List.cons_append, List.nil_append]
        rw [litF, if_neg h92, if_neg h41, if_neg h40, litF_text s p _ _, List.append_assoc]
        simp only [List.cons_append, List.nil_append, Option.some.injEq, Prod.mk.injEq, true_and, List.length_cons]
        omega
      · simp only [List.cons_append, List.nil_append]
        rw [litF, if_pos (by decide), if_neg (by simp), octG_3 _ _ _ (by omega) (by omega) (by omega)]
        simp only [Option.toList_some]
        rw [litF, litF, litF, litF_text s p _ _, List.append_assoc]
        have : byteI (8 * (8 * ((c.toNat / 64 : Nat) : Int) + ((c.toNat / 8 % 8 : Nat) : Int)) + ((c.toNat % 8 : Nat) : Int)) = c := by
          have e : (8 * (8 * ((c.toNat / 64 : Nat) : Int) + ((c.toNat / 8 % 8 : Nat) : Int)) + ((c.toNat % 8 : Nat) : Int)) = ((c.toNat : Nat) : Int) := by omega
          rw [e]
          apply UInt8.toNat_inj.1
          simp [byteI]
        rw [this]
        simp only [List.cons_append, List.nil_append, Option.some.injEq, Prod.mk.injEq, true_and, List.length_cons]
        omega
end Go.Av.Tryz
set_option linter.unusedSimpArgs false
namespace Go.Av.Tryz
open Go.Proofs

theorem srt_tail {y : Fld} {r : List Fld} (h : srt (y :: r)) : srt r ∧ ∀ z ∈ r, Op.bytesLess y.name z.name = true :=
  ⟨fun i j a b hij ha hb => h (i + 1) (j + 1) a b (by omega) (by simpa using ha) (by simpa using hb), fun z hz => by
    obtain ⟨i, hi⟩ := List.getElem?_of_mem hz
    exact h 0 (i + 1) y z (by omega) rfl (by simpa using hi)⟩

theorem leqB_not (a b : List UInt8) : leqB a b = !Op.bytesLess b a := bytesLeq_not a b

theorem alikeV_refl (a : Val) : alikeV a a = true := (alikeV_iff a a).2 rfl

theorem setF_mem {nm : List UInt8} {x : Val} {f : List Fld} {y : Fld} (h : y ∈ setF nm x f) : y = .mk nm x ∨ y ∈ f := by
  unfold setF at h
  split at h
  · rcases List.mem_or_eq_of_mem_set h with h | h
    · exact .inr h
    · exact .inl h
  · rcases List.mem_append.1 h with h | h
    · exact .inr (List.mem_of_mem_take h)
    · rcases List.mem_cons.1 h with h | h
      · exact .inl h
      · exact .inr (List.mem_of_mem_drop h)
end Go.Av.Tryz
set_option linter.unusedSimpArgs false
namespace Go.Av.Tryz
open Go.Proofs

/-! ### Fields put in, none of that name there -/
theorem getV_none {nm : List UInt8} : ∀ {l : List Fld}, (getV nm l).isSome = false → ∀ y ∈ l, y.name ≠ nm
  | [], _, y, hy => by simp at hy
  | x :: r, h, y, hy => by
    rw [getV] at h
    by_cases e : x.name = nm
    · rw [if_pos e] at h; cases h
    · rw [if_neg e] at h
      rcases List.mem_cons.1 hy with rfl | hy
      · exact e
      · exact getV_none h y hy
theorem hasV_none {nm : List UInt8} {l : List Fld} (h : ∀ y ∈ l, y.name ≠ nm) : hasV nm l = false := by
  unfold hasV
  cases hx : l[posV nm l]? with
  | none => rfl
  | some x => simpa using h x (List.mem_of_getElem? hx)
theorem setF_new {nm : List UInt8} {x : Val} {y : Fld} {r : List Fld} (h : ∀ z ∈ y :: r, z.name ≠ nm) :
    setF nm x (y :: r) = if Op.bytesLess y.name nm = true then y :: setF nm x r else .mk nm x :: y :: r := by
  have h1 := hasV_none h
  have h2 := hasV_none (l := r) fun z hz => h z (by simp [hz])
  simp only [setF, h1, h2, posV, Bool.false_eq_true, if_false]
  by_cases hl : Op.bytesLess y.name nm = true
  · rw [if_pos hl, if_pos hl]; rfl
  · rw [if_neg hl, if_neg hl]; rfl
theorem srt_cons {y : Fld} {r : List Fld} (h : srt r) (h2 : ∀ z ∈ r, Op.bytesLess y.name z.name = true) : srt (y :: r) := by
  intro i j a b hij ha hb
  cases j with
  | zero => omega
  | succ j =>
    simp only [List.getElem?_cons_succ] at hb
    cases i with
    | zero => simp only [List.getElem?_cons_zero, Option.some.injEq] at ha; subst ha; exact h2 b (List.mem_of_getElem? hb)
    | succ i => exact h i j a b (by omega) (by simpa using ha) hb
theorem srt_set {nm : List UInt8} {x : Val} : ∀ {l : List Fld}, srt l → (∀ z ∈ l, z.name ≠ nm) → srt (setF nm x l)
  | [], _, _ => by
    intro i j a b hij ha hb
    simp [setF, hasV, posV] at ha hb
    have := (List.getElem?_eq_some_iff.1 ha).1
    have := (List.getElem?_eq_some_iff.1 hb).1
    simp at *; omega
  | y :: r, hs, hn => by
    rw [setF_new hn]
    obtain ⟨h1, h2⟩ := srt_tail hs
    have hn' : ∀ z ∈ r, z.name ≠ nm := fun z hz => hn z (by simp [hz])
    by_cases hl : Op.bytesLess y.name nm = true
    · rw [if_pos hl]
      refine srt_cons (srt_set h1 hn') fun z hz => ?_
      rcases setF_mem hz with rfl | hz
      · exact hl
      · exact h2 z hz
    · rw [if_neg hl]
      have hlt : Op.bytesLess nm y.name = true := by
        have h3 := leqB_not nm y.name
        have h4 : Op.bytesLess y.name nm = false := by simpa using hl
        rw [h4] at h3
        simp only [leqB, Bool.not_false, Bool.or_eq_true, decide_eq_true_eq] at h3
        exact h3.resolve_right fun e => hn y (by simp) e.symm
      refine srt_cons hs fun z hz => ?_
      rcases List.mem_cons.1 hz with rfl | hz
      · exact hlt
      · exact less_trans hlt (h2 z hz)
theorem setF_pt {nm : List UInt8} {x : Val} : ∀ {l : List Fld}, (∀ z ∈ l, z.name ≠ nm) → (ptF (setF nm x l)).1 = (ptF l).1 + (ptV x).1 ∧ (setF nm x l).length = l.length + 1
  | [], _ => by simp [setF, hasV, posV, ptF]
  | y :: r, hn => by
    rw [setF_new hn]
    have ih := setF_pt (nm := nm) (x := x) (l := r) fun z hz => hn z (by simp [hz])
    split
    · simp only [ptF_cons, List.length_cons]; omega
    · rw [ptF_cons (.mk nm x)]
      simp only [List.length_cons, Fld.v]
      exact ⟨by omega, trivial⟩
theorem ptL_append : ∀ (a b : List Val), (ptL (a ++ b)).1 = (ptL a).1 + (ptL b).1
  | [], b => by simp [ptL]
  | v :: r, b => by simp only [List.cons_append, ptL, ptL_append r b]; omega

mutual
theorem Val.sm_mono {m m' : Nat} (h : m ≤ m') : ∀ v : Val, v.sm m = true → v.sm m' = true
  | .mk k n s l f, hv => by
    simp only [Val.sm, Bool.and_eq_true, decide_eq_true_eq] at hv ⊢
    exact ⟨by omega, by omega, by omega, smL_mono h l hv.2.2.2.1, smF_mono h f hv.2.2.2.2⟩
theorem smL_mono {m m' : Nat} (h : m ≤ m') : ∀ l : List Val, smL m l = true → smL m' l = true
  | [], _ => rfl
  | v :: r, hl => by
    simp only [smL, Bool.and_eq_true] at hl ⊢
    exact ⟨Val.sm_mono h v hl.1, smL_mono h r hl.2⟩
theorem smF_mono {m m' : Nat} (h : m ≤ m') : ∀ l : List Fld, smF m l = true → smF m' l = true
  | [], _ => rfl
  | .mk nm v :: r, hl => by
    simp only [smF, Fld.sm, Bool.and_eq_true, decide_eq_true_eq] at hl ⊢
    exact ⟨⟨by omega, Val.sm_mono h v hl.1.2⟩, smF_mono h r hl.2⟩
end
/-! ### Parts -/
theorem nameAt_good {s : List UInt8} {at_ k : Nat} {b : List UInt8} (ha : at_ < s.length) (h : nameAt s at_ = some (b, k)) : at_ < k ∧ k ≤ s.length ∧ b.length ≤ 200 ∧ nameMay b = true := by
  unfold nameAt at h
  have hw := wordP_len s (at_ + 1)
  split at h
  · cases h
  · rename_i b' hb
    split at h
    · rename_i hm
      cases h
      refine ⟨by omega, by omega, ?_, hm⟩
      simp only [nameMay, Bool.and_eq_true, decide_eq_true_eq] at hm
      exact hm.2.1
    · cases h
theorem gtEnd_le : ∀ t : List UInt8, gtEnd t ≤ t.length
  | [] => by simp [gtEnd]
  | c :: r => by unfold gtEnd; have := gtEnd_le r; split <;> simp <;> omega
theorem unhexF_code : ∀ (t : List UInt8) (h : Int) (b : List UInt8), (unhexF t h b).2 = 0 ∨ (unhexF t h b).2 = 4 ∨ (unhexF t h b).2 = 5
  | [], _, _ => by simp [unhexF]
  | c :: r, h, b => by
    unfold unhexF
    split
    · simp
    · split
      · exact unhexF_code r _ _
      · split
        · simp
        · split
          · exact unhexF_code r _ _
          · exact unhexF_code r _ _
theorem hexAt_good {s : List UInt8} {at_ : Nat} (ha : at_ ≤ s.length) : match hexAt s at_ with
    | .ok v k => at_ < k ∧ k ≤ s.length ∧ v.sm 300 = true ∧ (ptV v).1 = 1
    | .bad e => 1 ≤ e ∧ e ≤ 8 := by
  have hg := gtEnd_le (s.drop at_)
  rw [List.length_drop] at hg
  unfold hexAt
  have hc := unhexF_code (s.drop at_) (-1) []
  by_cases h0 : (unhexF (s.drop at_) (-1) []).2 = 0
  · rw [if_pos h0]
    have hne : s.drop at_ ≠ [] := fun e => by rw [e] at h0; simp [unhexF] at h0
    have hpos : 1 ≤ gtEnd (s.drop at_) := by
      cases hd : s.drop at_ with
      | nil => exact absurd hd hne
      | cons c r => unfold gtEnd; split <;> omega
    split
    · rename_i v k e
      split at e
      · cases e
        rename_i hl
        refine ⟨by omega, by omega, Val.sm_iff.2 ⟨by simp only [strV, Val.s]; omega, by simp [strV, Val.l], by simp [strV, Val.f], by simp [strV, Val.l], by simp [strV, Val.f]⟩, by simp [strV, ptV, ptL, ptF]⟩
      · cases e
    · rename_i e' e
      split at e
      · cases e
      · cases e; omega
  · rw [if_neg h0]
    simp only
    omega
theorem litF_end : ∀ (t : List UInt8) (k d : Nat) (b : List UInt8) (p : Nat) {q : List UInt8} {n : Nat}, litF k d t b p = some (q, n) → p < n ∧ n ≤ p + t.length
  | [], _, _, _, _, _, _, h => by simp [litF] at h
  | c :: r, 0, d, b, p, q, n, h => by
    unfold litF at h
    simp only [List.length_cons]
    split at h
    · split at h
      · cases h
      · have := litF_end r _ _ _ _ h; omega
    · split at h
      · split at h
        · cases h; omega
        · have := litF_end r _ _ _ _ h; omega
      · split at h
        · have := litF_end r _ _ _ _ h; omega
        · have := litF_end r _ _ _ _ h; omega
  | c :: r, k + 1, d, b, p, q, n, h => by
    unfold litF at h
    simp only [List.length_cons]
    have := litF_end r _ _ _ _ h; omega
theorem strV_good {b : List UInt8} (h : b.length ≤ 200) : (strV b).sm 300 = true ∧ (ptV (strV b)).1 = 1 :=
  ⟨Val.sm_iff.2 ⟨by simp only [strV, Val.s]; omega, by simp [strV, Val.l], by simp [strV, Val.f], by simp [strV, Val.l], by simp [strV, Val.f]⟩, by simp [strV, ptV, ptL, ptF]⟩
theorem litAt_good {s : List UInt8} {at_ : Nat} (ha : at_ ≤ s.length) : match litAt s at_ with
    | .ok v k => at_ < k ∧ k ≤ s.length ∧ v.sm 300 = true ∧ (ptV v).1 = 1
    | .bad e => 1 ≤ e ∧ e ≤ 8 := by
  unfold litAt
  cases h : litF 0 1 (s.drop at_) [] at_ with
  | none => simp
  | some p =>
    obtain ⟨b, k⟩ := p
    have := litF_end _ _ _ _ _ h
    rw [List.length_drop] at this
    simp only
    by_cases hb : b.length ≤ 200
    · rw [if_pos hb]
      obtain ⟨h1, h2⟩ := strV_good hb
      exact ⟨by omega, by omega, h1, h2⟩
    · rw [if_neg hb]; simp
theorem refAt_good {s : List UInt8} {at_ n k : Nat} (ha : at_ ≤ s.length) (h : refAt s at_ = some (n, k)) : at_ < k ∧ k ≤ s.length ∧ 1 ≤ n ∧ n ≤ 60 := by
  unfold refAt at h
  have hw := wordP_len s at_
  split at h
  · cases h
  · rename_i m hm
    have h1 := skipP_le (s := s) (k := at_ + (wordP s at_).length) (by omega)
    simp only at h
    split at h
    · rename_i hq
      have hw2 := wordP_len s (skipP s (at_ + (wordP s at_).length))
      rw [hq] at hw2
      simp only [List.length_cons, List.length_nil] at hw2
      have h2 := skipP_le (s := s) (k := skipP s (at_ + (wordP s at_).length) + 1) (by omega)
      split at h
      · rename_i hr
        have hw3 := wordP_len s (skipP s (skipP s (at_ + (wordP s at_).length) + 1))
        rw [hr] at hw3
        simp only [List.length_cons, List.length_nil] at hw3
        cases h
        have hb : 1 ≤ n ∧ n ≤ 60 := by
          unfold objF at hm
          split at hm
          · cases hm
          · rename_i hc
            generalize wordP s at_ = w at hm hc
            cases hd : digF w 0 with
            | none => rw [hd] at hm; cases hm
            | some z =>
              rw [hd] at hm
              simp only at hm
              split at hm
              · rename_i hz
                cases hm
                refine ⟨?_, hz⟩
                cases w with
                | nil => simp at hc
                | cons a r =>
                  have ha : a.toNat ≠ 48 := fun e => hc (.inr (.inr (by simp [e])))
                  have mono : ∀ (t : List UInt8) (x y : Nat), digF t x = some y → x ≤ y := fun t => by
                    induction t with
                    | nil => intro x y e; simp only [digF, Option.some.injEq] at e; omega
                    | cons c r ih =>
                      intro x y e
                      unfold digF at e
                      split at e
                      · cases e
                      · have := ih _ _ e; omega
                  unfold digF at hd
                  split at hd
                  · cases hd
                  · have := mono _ _ _ hd; omega
              · cases hm
        exact ⟨by omega, by omega, hb⟩
      · cases h
    · cases h
theorem parseF_code (w : List UInt8) : (parseF w).2 = 0 ∨ (parseF w).2 = 1 ∨ (parseF w).2 = 4 := by
  unfold parseF finP
  split
  · simp
  · split
    · simp
    · split <;> simp
theorem parseF_nil : (parseF []).2 = 4 := rfl
theorem wordV_good {s : List UInt8} {at_ : Nat} (ha : at_ ≤ s.length) : match wordV s at_ with
    | .ok v k => at_ < k ∧ k ≤ s.length ∧ v.sm 300 = true ∧ (ptV v).1 = 1
    | .bad e => 1 ≤ e ∧ e ≤ 8 := by
  have plain : ∀ (k n : Int), (Val.mk k n [] [] []).sm 300 = true ∧ (ptV (Val.mk k n [] [] [])).1 = 1 := fun k n => ⟨by simp [Val.sm, smL, smF], by simp [ptV, ptL, ptF]⟩
  have hw := wordP_len s at_
  unfold wordV
  by_cases h1 : wordP s at_ = [110, 117, 108, 108]
  · rw [if_pos h1]
    rw [h1] at hw
    simp only [List.length_cons, List.length_nil] at hw
    exact ⟨by omega, by omega, plain 0 0⟩
  · rw [if_neg h1]
    by_cases h2 : wordP s at_ = [116, 114, 117, 101]
    · rw [if_pos h2]
      rw [h2] at hw
      simp only [List.length_cons, List.length_nil] at hw
      exact ⟨by omega, by omega, plain 1 1⟩
    · rw [if_neg h2]
      by_cases h3 : wordP s at_ = [102, 97, 108, 115, 101]
      · rw [if_pos h3]
        rw [h3] at hw
        simp only [List.length_cons, List.length_nil] at hw
        exact ⟨by omega, by omega, plain 1 0⟩
      · rw [if_neg h3]
        cases hr : refAt s at_ with
        | some p =>
          obtain ⟨n, k⟩ := p
          have := refAt_good ha hr
          exact ⟨by omega, by omega, plain 7 n⟩
        | none =>
          simp only
          have hc := parseF_code (wordP s at_)
          by_cases h4 : (parseF (wordP s at_)).2 = 0
          · rw [if_pos h4]
            have hne : (wordP s at_).length ≠ 0 := fun e => by
              rw [List.length_eq_zero_iff.1 e, parseF_nil] at h4; cases h4
            exact ⟨by omega, by omega, plain 2 _⟩
          · rw [if_neg h4]
            simp only; omega

/-! ### Values -/
def goodR (s : List UInt8) (at_ : Nat) : RV → Prop
  | .ok v k => at_ < k ∧ k ≤ s.length ∧ v.sm 300 = true ∧ (ptV v).1 + at_ ≤ k
  | .bad e => 1 ≤ e ∧ e ≤ 8
theorem listF_good {rd : Nat → RV} {s : List UInt8} (hr : ∀ k, k ≤ s.length → goodR s k (rd k)) : ∀ (m : Nat) (acc : List Val) (at_ : Nat), acc.length + m = 301 → at_ ≤ s.length → (∀ x ∈ acc, x.sm 300 = true) →
    match listF rd s m acc at_ with
    | .ok v k => at_ < k ∧ k ≤ s.length ∧ v.sm 300 = true ∧ (ptV v).1 + at_ ≤ 1 + (ptL acc).1 + k ∧ ∃ l, v = lisV l
    | .bad e => 1 ≤ e ∧ e ≤ 8
  | 0, acc, at_, _, _, _ => by simp [listF]
  | m + 1, acc, at_, hm, ha, hacc => by
    have hsk := skipP_le ha
    unfold listF
    cases hc : s[skipP s at_]? with
    | none => simp
    | some c =>
      have hlt : skipP s at_ < s.length := (List.getElem?_eq_some_iff.1 hc).1
      simp only
      by_cases h93 : c.toNat = 93
      · rw [if_pos h93]
        refine ⟨by omega, by omega, Val.sm_iff.2 ⟨by simp [lisV, Val.s], by simp only [lisV, Val.l]; omega, by simp [lisV, Val.f], hacc, by simp [lisV, Val.f]⟩, ?_, acc, rfl⟩
        simp only [lisV, ptV, ptF]; omega
      · rw [if_neg h93]
        have hg := hr (skipP s at_) hsk.2
        cases hx : rd (skipP s at_) with
        | bad e => rw [hx] at hg; exact hg
        | ok x k =>
          rw [hx] at hg
          obtain ⟨g1, g2, g3, g4⟩ := hg
          have ih := listF_good hr m (acc ++ [x]) k (by simp; omega) g2 (fun y hy => by
            rcases List.mem_append.1 hy with h | h
            · exact hacc y h
            · simp at h; subst h; exact g3)
          simp only
          generalize listF rd s m (acc ++ [x]) k = R at *
          cases R with
          | bad e => exact ih
          | ok v q =>
            obtain ⟨i1, i2, i3, i4, i5⟩ := ih
            rw [ptL_append] at i4
            simp only [ptL] at i4
            exact ⟨by omega, i2, i3, by omega, i5⟩
theorem dictF_good {rd : Nat → RV} {s : List UInt8} (hr : ∀ k, k ≤ s.length → goodR s k (rd k)) : ∀ (m : Nat) (acc : List Fld) (at_ : Nat), acc.length + m = 301 → at_ ≤ s.length → (∀ x ∈ acc, x.sm 300 = true) →
    match dictF rd s m acc at_ with
    | .ok v k => at_ < k ∧ k ≤ s.length ∧ v.sm 300 = true ∧ (ptV v).1 + at_ ≤ 1 + (ptF acc).1 + k ∧ ∃ l, v = dicV l
    | .bad e => 1 ≤ e ∧ e ≤ 8
  | 0, acc, at_, _, _, _ => by simp [dictF]
  | m + 1, acc, at_, hm, ha, hacc => by
    have hsk := skipP_le ha
    unfold dictF
    cases hc : s[skipP s at_]? with
    | none => simp
    | some c =>
      have hlt : skipP s at_ < s.length := (List.getElem?_eq_some_iff.1 hc).1
      simp only
      by_cases h62 : c.toNat = 62 ∧ s[skipP s at_ + 1]? = some 62
      · rw [if_pos h62]
        have := (List.getElem?_eq_some_iff.1 h62.2).1
        refine ⟨by omega, by omega, Val.sm_iff.2 ⟨by simp [dicV, Val.s], by simp [dicV, Val.l], by simp only [dicV, Val.f]; omega, by simp [dicV, Val.l], hacc⟩, ?_, acc, rfl⟩
        simp only [dicV, ptV, ptL]; omega
      · rw [if_neg h62]
        by_cases h47 : c.toNat ≠ 47
        · rw [if_pos h47]; simp
        · rw [if_neg h47]
          cases hn : nameAt s (skipP s at_) with
          | none => simp
          | some p =>
            obtain ⟨nm, k⟩ := p
            obtain ⟨n1, n2, n3, _⟩ := nameAt_good hlt hn
            have hg := hr k n2
            simp only
            cases hx : rd k with
            | bad e => rw [hx] at hg; exact hg
            | ok x k' =>
              rw [hx] at hg
              obtain ⟨g1, g2, g3, g4⟩ := hg
              simp only
              by_cases hd : (getV nm acc).isSome = true
              · rw [if_pos hd]; simp
              · rw [if_neg hd]
                have hno := getV_none (by simpa using hd : (getV nm acc).isSome = false)
                obtain ⟨p1, p2⟩ := setF_pt (x := x) hno
                have ih := dictF_good hr m (setF nm x acc) k' (by omega) g2 (fun y hy => by
                  rcases setF_mem hy with rfl | h
                  · exact Fld.sm_iff.2 ⟨by simp only [Fld.name]; omega, g3⟩
                  · exact hacc y h)
                generalize dictF rd s m (setF nm x acc) k' = R at *
                cases R with
                | bad e => exact ih
                | ok v q =>
                  obtain ⟨i1, i2, i3, i4, i5⟩ := ih
                  exact ⟨by omega, i2, i3, by omega, i5⟩
theorem readF_good (s : List UInt8) : ∀ (d at_ : Nat), at_ ≤ s.length → goodR s at_ (readF d s at_)
  | d, at_, ha => by
    have hsk := skipP_le ha
    unfold readF
    cases hc : s[skipP s at_]? with
    | none => exact ⟨by decide, by decide⟩
    | some c =>
      have hlt : skipP s at_ < s.length := (List.getElem?_eq_some_iff.1 hc).1
      cases d with
      | zero => exact ⟨by decide, by decide⟩
      | succ d =>
        have ih : ∀ k, k ≤ s.length → goodR s k (readF d s k) := fun k hk => readF_good s d k hk
        have one : ∀ {R : RV} {q : Nat}, at_ ≤ q → (match R with
            | .ok v k => q < k ∧ k ≤ s.length ∧ v.sm 300 = true ∧ (ptV v).1 = 1
            | .bad e => 1 ≤ e ∧ e ≤ 8) → goodR s at_ R := fun {R q} hq h => by
          cases R with
          | bad e => exact h
          | ok v k => obtain ⟨h1, h2, h3, h4⟩ := h; exact ⟨by omega, h2, h3, by omega⟩
        simp only
        by_cases c47 : c.toNat = 47
        · rw [if_pos c47]
          cases hn : nameAt s (skipP s at_) with
          | none => exact ⟨by decide, by decide⟩
          | some p =>
            obtain ⟨b, k⟩ := p
            obtain ⟨n1, n2, n3, _⟩ := nameAt_good hlt hn
            exact ⟨by omega, n2, Val.sm_iff.2 ⟨by simp only [namV, Val.s]; omega, by simp [namV, Val.l], by simp [namV, Val.f], by simp [namV, Val.l], by simp [namV, Val.f]⟩, by simp only [namV, ptV, ptL, ptF]; omega⟩
        · rw [if_neg c47]
          by_cases c40 : c.toNat = 40
          · rw [if_pos c40]; exact one (by omega) (litAt_good (by omega))
          · rw [if_neg c40]
            by_cases cd : c.toNat = 60 ∧ s[skipP s at_ + 1]? = some 60
            · rw [if_pos cd]
              have := (List.getElem?_eq_some_iff.1 cd.2).1
              have hg := dictF_good ih 301 [] (skipP s at_ + 2) rfl (by omega) (by simp)
              generalize dictF (readF d s) s 301 [] (skipP s at_ + 2) = R at *
              cases R with
              | bad e => exact hg
              | ok v k => obtain ⟨g1, g2, g3, g4, _⟩ := hg; simp only [ptF] at g4; exact ⟨by omega, g2, g3, by omega⟩
            · rw [if_neg cd]
              by_cases c60 : c.toNat = 60
              · rw [if_pos c60]; exact one (by omega) (hexAt_good (by omega))
              · rw [if_neg c60]
                by_cases c91 : c.toNat = 91
                · rw [if_pos c91]
                  have hg := listF_good ih 301 [] (skipP s at_ + 1) rfl (by omega) (by simp)
                  generalize listF (readF d s) s 301 [] (skipP s at_ + 1) = R at *
                  cases R with
                  | bad e => exact hg
                  | ok v k => obtain ⟨g1, g2, g3, g4, _⟩ := hg; simp only [ptL] at g4; exact ⟨by omega, g2, g3, by omega⟩
                · rw [if_neg c91]
                  by_cases hs : signB c = true
                  · rw [if_pos hs]; exact ⟨by decide, by decide⟩
                  · rw [if_neg hs]; exact one (by omega) (wordV_good (by omega))
end Go.Av.Tryz
set_option linter.unusedSimpArgs false
namespace Go.Av.Tryz
open Go.Proofs

/-! ### Rows alike so far -/
def Al (n : Nat) (t t' : List UInt8) : Prop := n ≤ t.length ∧ ∀ i, i < n → t'[i]? = t[i]?
theorem Al.cons {n : Nat} {c : UInt8} {r t' : List UInt8} (h : Al (n + 1) (c :: r) t') : ∃ r', t' = c :: r' ∧ Al n r r' := by
  obtain ⟨h1, h2⟩ := h
  have h0 := h2 0 (by omega)
  cases t' with
  | nil => simp at h0
  | cons c' r' =>
    simp at h0
    subst h0
    exact ⟨r', rfl, by simpa using h1, fun i hi => by simpa using h2 (i + 1) (by omega)⟩
theorem Al.mono {n m : Nat} {t t' : List UInt8} (h : Al n t t') (hm : m ≤ n) : Al m t t' := ⟨by have := h.1; omega, fun i hi => h.2 i (by omega)⟩
theorem Al.drop {n m : Nat} {t t' : List UInt8} (h : Al n t t') : Al (n - m) (t.drop m) (t'.drop m) :=
  ⟨by rw [List.length_drop]; have := h.1; omega, fun i hi => by rw [List.getElem?_drop, List.getElem?_drop]; exact h.2 _ (by omega)⟩

theorem skipF_al : ∀ (t t' : List UInt8) (n : Nat) (b : Bool) (k : Nat), Al n t t' → skipF b t k < k + n → skipF b t' k = skipF b t k
  | [], t', n, b, k, h, hlt => by
    have := h.1
    simp at this; subst this
    simp [skipF] at hlt
  | c :: r, t', 0, b, k, h, hlt => by have := (skipF_le (c :: r) b k).1; omega
  | c :: r, t', n + 1, b, k, h, hlt => by
    obtain ⟨r', rfl, hr⟩ := h.cons
    unfold skipF at hlt ⊢
    split
    · rename_i h1; rw [if_pos h1] at hlt; exact skipF_al r r' n _ (k + 1) hr (by omega)
    · rename_i h1; rw [if_neg h1] at hlt
      split
      · rename_i h2; rw [if_pos h2] at hlt; exact skipF_al r r' n _ (k + 1) hr (by omega)
      · rename_i h2; rw [if_neg h2] at hlt
        split
        · rename_i h3; rw [if_pos h3] at hlt; exact skipF_al r r' n _ (k + 1) hr (by omega)
        · rfl

theorem wordL_al : ∀ (t t' : List UInt8) (n : Nat), Al n t t' → t'[n]? = some 32 → (wordL t).length ≤ n → wordL t' = wordL t
  | t, t', 0, h, hx, hw => by
    have e : wordL t = [] := List.length_eq_zero_iff.1 (by omega)
    rw [e]
    cases t' with
    | nil => rfl
    | cons c r => simp at hx; subst hx; rw [wordL_cons, if_neg (by decide)]
  | [], t', n + 1, h, hx, hw => by have := h.1; simp at this
  | c :: r, t', n + 1, h, hx, hw => by
    obtain ⟨r', rfl, hr⟩ := h.cons
    rw [wordL_cons] at hw ⊢
    rw [wordL_cons]
    split
    · rename_i hc
      rw [if_pos hc] at hw
      rw [wordL_al r r' n hr (by simpa using hx) (by simpa using hw)]
    · rfl

theorem octG_al : ∀ (m : Nat) (v : Int) (t t' : List UInt8) (n k : Nat), Al n t t' → (octG m v t k).2 < k + n → octG m v t' k = octG m v t k
  | 0, _, _, _, _, _, _, _ => by simp [octG]
  | m + 1, v, t, t', 0, k, h, hlt => by
    exfalso
    have : k ≤ (octG (m + 1) v t k).2 := by
      have key : ∀ (m : Nat) (v : Int) (t : List UInt8) (k : Nat), k ≤ (octG m v t k).2 := fun m => by
        induction m with
        | zero => intro v t k; simp [octG]
        | succ m ih =>
          intro v t k
          cases t with
          | nil => simp [octG]
          | cons x q =>
            rw [octG]
            split
            · have := ih (8 * v + oct1 x) q (k + 1); omega
            · exact Nat.le_refl _
      exact key _ _ _ _
    omega
  | m + 1, v, [], t', n + 1, k, h, hlt => by have := h.1; simp at this
  | m + 1, v, x :: q, t', n + 1, k, h, hlt => by
    obtain ⟨q', rfl, hq⟩ := h.cons
    rw [octG] at hlt ⊢
    rw [octG]
    split
    · rename_i hx; rw [if_pos hx] at hlt; exact octG_al m _ q q' n (k + 1) hq (by omega)
    · rfl

theorem escL_al (t t' : List UInt8) (n : Nat) (h : Al n t t') (hlt : (escL t).2 < n) : escL t' = escL t := by
  cases t with
  | nil => have := h.1; simp at this; subst this; simp at hlt
  | cons e r =>
    cases n with
    | zero => omega
    | succ n =>
      obtain ⟨r', rfl, hr⟩ := h.cons
      unfold escL at hlt ⊢
      simp only at hlt ⊢
      split
      · rfl
      · split
        · rfl
        · split
          · rfl
          · split
            · rfl
            · split
              · rfl
              · split
                · rfl
                · split
                  · rename_i h1 h2 h3 h4 h5 h6 h7
                    rw [if_neg h1, if_neg h2, if_neg h3, if_neg h4, if_neg h5, if_neg h6, if_pos h7] at hlt
                    have hn : 1 ≤ n := by split at hlt <;> simp at hlt <;> omega
                    have : r'.head? = r.head? := by
                      have := hr.2 0 (by omega)
                      rw [List.head?_eq_getElem?, List.head?_eq_getElem?]; exact this
                    rw [this]
                  · split
                    · rfl
                    · rename_i h1 h2 h3 h4 h5 h6 h7 h8
                      rw [if_neg h1, if_neg h2, if_neg h3, if_neg h4, if_neg h5, if_neg h6, if_neg h7, if_neg h8] at hlt
                      unfold octL at hlt ⊢
                      rw [octG_al 2 (oct1 e) r r' n 1 hr (by simp only at hlt; omega)]

theorem litF_al : ∀ (t t' : List UInt8) (n j d : Nat) (b : List UInt8) (p : Nat) {q : List UInt8} {e : Nat}, Al n t t' → litF j d t b p = some (q, e) → e ≤ p + n → litF j d t' b p = some (q, e)
  | [], t', n, j, d, b, p, q, e, h, hl, he => by simp [litF] at hl
  | c :: r, t', 0, j, d, b, p, q, e, h, hl, he => by have := litF_end _ _ _ _ _ hl; omega
  | c :: r, t', n + 1, j + 1, d, b, p, q, e, h, hl, he => by
    obtain ⟨r', rfl, hr⟩ := h.cons
    rw [litF] at hl ⊢
    exact litF_al r r' n j d b (p + 1) hr hl (by omega)
  | c :: r, t', n + 1, 0, d, b, p, q, e, h, hl, he => by
    obtain ⟨r', rfl, hr⟩ := h.cons
    rw [litF] at hl ⊢
    split
    · rename_i h1; rw [if_pos h1] at hl
      by_cases hre : r = []
      · rw [if_pos hre] at hl; cases hl
      · rw [if_neg hre] at hl
        have hlt : (escL r).2 < n := by
          have key : ∀ (j d : Nat) (t b : List UInt8) (p : Nat) {q : List UInt8} {e : Nat}, litF j d t b p = some (q, e) → p + j < e := fun j => by
            induction j with
            | zero => intro d t b p q e hl; exact (litF_end _ _ _ _ _ hl).1
            | succ j ih =>
              intro d t b p q e hl
              cases t with
              | nil => simp [litF] at hl
              | cons x t => rw [litF] at hl; have := ih _ _ _ _ hl; omega
          have := key _ _ _ _ _ hl
          omega
        have he' := escL_al r r' n hr hlt
        have hre' : r' ≠ [] := fun e' => by
          subst e'
          have := hr.2 0 (by omega)
          cases r with
          | nil => exact hre rfl
          | cons x y => simp at this
        rw [if_neg hre', he']
        exact litF_al r r' n _ d _ (p + 1) hr hl (by omega)
    · rename_i h1; rw [if_neg h1] at hl
      split
      · rename_i h2; rw [if_pos h2] at hl
        split
        · rename_i h3; rw [if_pos h3] at hl; exact hl
        · rename_i h3; rw [if_neg h3] at hl; exact litF_al r r' n _ _ _ (p + 1) hr hl (by omega)
      · rename_i h2; rw [if_neg h2] at hl
        split
        · rename_i h3; rw [if_pos h3] at hl; exact litF_al r r' n _ _ _ (p + 1) hr hl (by omega)
        · rename_i h3; rw [if_neg h3] at hl; exact litF_al r r' n _ _ _ (p + 1) hr hl (by omega)

theorem unhexF_al : ∀ (t t' : List UInt8) (n : Nat) (h : Int) (b : List UInt8), Al n t t' → (unhexF t h b).2 = 0 → gtEnd t ≤ n → unhexF t' h b = unhexF t h b ∧ gtEnd t' = gtEnd t
  | [], t', n, h, b, ha, h0, hg => by simp [unhexF] at h0
  | c :: r, t', 0, h, b, ha, h0, hg => by unfold gtEnd at hg; split at hg <;> omega
  | c :: r, t', n + 1, h, b, ha, h0, hg => by
    obtain ⟨r', rfl, hr⟩ := ha.cons
    unfold unhexF at h0 ⊢
    unfold gtEnd at hg ⊢
    by_cases h1 : c.toNat = 62
    · simp [h1]
    · rw [if_neg h1] at hg h0
      rw [if_neg h1, if_neg h1, if_neg h1, if_neg h1]
      by_cases h2 : blankB c.toNat = true
      · rw [if_pos h2] at h0
        rw [if_pos h2, if_pos h2]
        have := unhexF_al r r' n h b hr h0 (by omega)
        exact ⟨this.1, by rw [this.2]⟩
      · rw [if_neg h2] at h0
        rw [if_neg h2, if_neg h2]
        by_cases h3 : hexI c.toNat < 0
        · rw [if_pos h3] at h0; simp at h0
        · rw [if_neg h3] at h0
          rw [if_neg h3, if_neg h3]
          by_cases h4 : h < 0
          · rw [if_pos h4] at h0
            rw [if_pos h4, if_pos h4]
            have := unhexF_al r r' n _ b hr h0 (by omega)
            exact ⟨this.1, by rw [this.2]⟩
          · rw [if_neg h4] at h0
            rw [if_neg h4, if_neg h4]
            have := unhexF_al r r' n _ _ hr h0 (by omega)
            exact ⟨this.1, by rw [this.2]⟩

/-! ### Texts alike up to a place, where a blank follows -/
structure Ag (s s' : List UInt8) (K : Nat) : Prop where
  al : Al K s s'
  nx : s'[K]? = some 32
section
variable {s s' : List UInt8} {K : Nat}
theorem Ag.get (h : Ag s s' K) {i : Nat} (hi : i < K) : s'[i]? = s[i]? := h.al.2 i hi
theorem Ag.skip (h : Ag s s' K) {k : Nat} (hk : skipP s k < K) : skipP s' k = skipP s k := by
  have hle : k ≤ skipP s k := (skipF_le (s.drop k) false k).1
  unfold skipP at hk hle ⊢
  exact skipF_al _ _ (K - k) _ _ h.al.drop (by omega)
theorem Ag.word (h : Ag s s' K) {k : Nat} (hk : k + (wordP s k).length ≤ K) : wordP s' k = wordP s k := by
  unfold wordP at hk ⊢
  refine wordL_al _ _ (K - k) h.al.drop ?_ (by omega)
  rw [List.getElem?_drop, show k + (K - k) = K by omega]
  exact h.nx
theorem Ag.name (h : Ag s s' K) {a k : Nat} {b : List UInt8} (hn : nameAt s a = some (b, k)) (hk : k ≤ K) : nameAt s' a = some (b, k) := by
  have hn0 := hn
  unfold nameAt at hn ⊢
  split at hn
  · cases hn
  · rename_i b' hb
    split at hn
    · rename_i hm
      cases hn
      rw [h.word (by omega), hb]
      simp only
      rw [if_pos hm]
    · cases hn
theorem Ag.lit (h : Ag s s' K) {a k : Nat} {v : Val} (hn : litAt s a = .ok v k) (hk : k ≤ K) : litAt s' a = .ok v k := by
  unfold litAt at hn ⊢
  cases hl : litF 0 1 (s.drop a) [] a with
  | none => rw [hl] at hn; cases hn
  | some x =>
    obtain ⟨b, e⟩ := x
    rw [hl] at hn
    simp only at hn
    have he : e = k := by split at hn <;> cases hn; rfl
    rw [litF_al _ _ (K - a) 0 1 [] a h.al.drop hl (by omega)]
    exact hn
theorem Ag.hex (h : Ag s s' K) {a k : Nat} {v : Val} (hn : hexAt s a = .ok v k) (hk : k ≤ K) : hexAt s' a = .ok v k := by
  have hn0 := hn
  unfold hexAt at hn ⊢
  split at hn
  · rename_i h0
    have he : a + gtEnd (s.drop a) = k := by split at hn <;> cases hn; rfl
    obtain ⟨h1, h2⟩ := unhexF_al _ _ (K - a) (-1) [] h.al.drop h0 (by omega)
    rw [h1, h2, if_pos h0]
    exact hn
  · cases hn

/-- What is behind a number: the rest of a reference. -/
def rtP (s : List UInt8) (e : Nat) : Option Nat :=
  if wordP s (skipP s e) = [48] then (if wordP s (skipP s (skipP s e + 1)) = [82] then some (skipP s (skipP s e + 1) + 1) else none) else none
theorem refAt_rt (s : List UInt8) (a : Nat) : refAt s a = match objF (wordP s a) with
    | none => none
    | some n => (rtP s (a + (wordP s a).length)).map fun k => (n, k) := by
  unfold refAt rtP
  cases objF (wordP s a) with
  | none => rfl
  | some n =>
    simp only
    split
    · split <;> rfl
    · rfl
theorem Ag.ref (h : Ag s s' K) {a n k : Nat} (hn : refAt s a = some (n, k)) (hk : k ≤ K) : refAt s' a = some (n, k) := by
  have hle : ∀ x, x ≤ skipP s x := fun x => (skipF_le (s.drop x) false x).1
  have hn0 := hn
  unfold refAt at hn ⊢
  cases ho : objF (wordP s a) with
  | none => rw [ho] at hn; cases hn
  | some m =>
    rw [ho] at hn
    simp only at hn
    have q1 := hle (a + (wordP s a).length)
    generalize hi : skipP s (a + (wordP s a).length) = i at hn q1
    have q2 := hle (i + 1)
    generalize hj : skipP s (i + 1) = j at hn q2
    split at hn
    · rename_i w1
      split at hn
      · rename_i w2
        cases hn
        have e1 : wordP s' a = wordP s a := h.word (by omega)
        rw [e1, ho]
        simp only
        rw [h.skip (by omega), hi, h.word (by rw [w1]; simp; omega), if_pos w1, h.skip (by omega), hj, h.word (by rw [w2]; simp; omega), if_pos w2]
      · cases hn
    · cases hn
/-- No reference there, none here. -/
def Shut (s s' : List UInt8) (e : Nat) : Prop := rtP s e = none → rtP s' e = none
theorem Ag.wordV (h : Ag s s' K) {a k : Nat} {v : Val} (hn : wordV s a = .ok v k) (hk : k ≤ K) (hs : v.kind = 2 → Shut s s' k) : wordV s' a = .ok v k := by
  have hn0 := hn
  unfold Go.Av.Tryz.wordV at hn
  by_cases w1 : wordP s a = [110, 117, 108, 108]
  · rw [if_pos w1] at hn
    cases hn
    unfold Go.Av.Tryz.wordV
    rw [h.word (by rw [w1]; simpa using hk), if_pos w1]
  · rw [if_neg w1] at hn
    by_cases w2 : wordP s a = [116, 114, 117, 101]
    · rw [if_pos w2] at hn
      cases hn
      unfold Go.Av.Tryz.wordV
      rw [h.word (by rw [w2]; simpa using hk), if_neg w1, if_pos w2]
    · rw [if_neg w2] at hn
      by_cases w3 : wordP s a = [102, 97, 108, 115, 101]
      · rw [if_pos w3] at hn
        cases hn
        unfold Go.Av.Tryz.wordV
        rw [h.word (by rw [w3]; simpa using hk), if_neg w1, if_neg w2, if_pos w3]
      · rw [if_neg w3] at hn
        cases hr : refAt s a with
        | some x =>
          obtain ⟨n, e⟩ := x
          rw [hr] at hn
          simp only at hn
          cases hn
          have hr' := h.ref hr hk
          have hle : ∀ x, x ≤ skipP s x := fun x => (skipF_le (s.drop x) false x).1
          have hw : wordP s' a = wordP s a := by
            refine h.word ?_
            rw [refAt_rt] at hr
            split at hr
            · cases hr
            · obtain ⟨k', h1, h2⟩ := Option.map_eq_some_iff.1 hr
              cases h2
              unfold rtP at h1
              have q1 := hle (a + (wordP s a).length)
              have q2 := hle (skipP s (a + (wordP s a).length) + 1)
              split at h1
              · split at h1
                · cases h1; omega
                · cases h1
              · cases h1
          unfold Go.Av.Tryz.wordV
          rw [hw, if_neg w1, if_neg w2, if_neg w3, hr']
        | none =>
          rw [hr] at hn
          simp only at hn
          split at hn
          · rename_i hp
            cases hn
            have hw : wordP s' a = wordP s a := h.word hk
            have hr' : refAt s' a = none := by
              rw [refAt_rt] at hr ⊢
              rw [hw]
              cases ho : objF (wordP s a) with
              | none => rfl
              | some m =>
                rw [ho] at hr
                simp only [Option.map_eq_none_iff] at hr ⊢
                exact hs rfl hr
            unfold Go.Av.Tryz.wordV
            rw [hw, if_neg w1, if_neg w2, if_neg w3, hr']
            simp only
            rw [if_pos hp]
          · cases hn
end
end Go.Av.Tryz
set_option linter.unusedSimpArgs false
namespace Go.Av.Tryz
open Go.Proofs

theorem wordP_sign {s : List UInt8} {i : Nat} {c : UInt8} (hc : s[i]? = some c) (h : signB c = true) : wordP s i = [] := by
  unfold wordP; rw [drop_at hc, wordL_cons, if_neg (by simp [h])]
theorem signB_of {c : UInt8} {n : Nat} (h : c.toNat = n) (hn : n ∈ [47, 40, 60, 91, 93, 62]) : signB c = true := by
  have : c = UInt8.ofNat n := by rw [← h]; simp
  subst this
  simp only [List.mem_cons, List.not_mem_nil, or_false] at hn
  rcases hn with rfl | rfl | rfl | rfl | rfl | rfl <;> decide

/-- What is known of a reader of values. -/
def RdOK (s : List UInt8) (rd : Nat → RV) : Prop := ∀ q x k, rd q = .ok x k → q < k ∧ skipP s q < k ∧ skipP s q + (wordP s (skipP s q)).length ≤ k ∧ (wordP s (skipP s q) = [48] → k = skipP s q + 1)

theorem wordV_end {s : List UInt8} {a k : Nat} {v : Val} (h : wordV s a = .ok v k) : a + (wordP s a).length ≤ k ∧ (wordP s a = [48] → k = a + 1) := by
  have hle : ∀ x, x ≤ skipP s x := fun x => (skipF_le (s.drop x) false x).1
  unfold wordV at h
  by_cases w1 : wordP s a = [110, 117, 108, 108]
  · rw [if_pos w1] at h; cases h; rw [w1]; exact ⟨by simp, fun e => by simp at e⟩
  · rw [if_neg w1] at h
    by_cases w2 : wordP s a = [116, 114, 117, 101]
    · rw [if_pos w2] at h; cases h; rw [w2]; exact ⟨by simp, fun e => by simp at e⟩
    · rw [if_neg w2] at h
      by_cases w3 : wordP s a = [102, 97, 108, 115, 101]
      · rw [if_pos w3] at h; cases h; rw [w3]; exact ⟨by simp, fun e => by simp at e⟩
      · rw [if_neg w3] at h
        cases hr : refAt s a with
        | some x =>
          obtain ⟨n, e⟩ := x
          rw [hr] at h
          simp only at h
          cases h
          rw [refAt_rt] at hr
          split at hr
          · cases hr
          · rename_i m ho
            obtain ⟨k', h1, h2⟩ := Option.map_eq_some_iff.1 hr
            cases h2
            unfold rtP at h1
            have q1 := hle (a + (wordP s a).length)
            have q2 := hle (skipP s (a + (wordP s a).length) + 1)
            refine ⟨?_, fun e => ?_⟩
            · split at h1
              · split at h1
                · cases h1; omega
                · cases h1
              · cases h1
            · have e0 : objF [48] = none := by decide
              rw [e, e0] at ho; cases ho
        | none =>
          rw [hr] at h
          simp only at h
          split at h
          · cases h; exact ⟨Nat.le_refl _, fun e => by rw [e]; rfl⟩
          · cases h

theorem readF_ok (s : List UInt8) (d : Nat) : RdOK s (readF d s) := by
  intro q x k h
  have hlen : q ≤ s.length := by
    refine Classical.byContradiction fun hq => ?_
    have hle := (skipF_le (s.drop q) false q).1
    have : s[skipP s q]? = none := List.getElem?_eq_none (by unfold skipP; omega)
    cases d <;> rw [readF, this] at h <;> cases h
  have hs := skipP_le hlen
  have e := readF_skip (skipP_idem s q) d
  have g1 := readF_good s d q hlen
  have g2 := readF_good s d (skipP s q) hs.2
  rw [e] at g2
  rw [h] at g1 g2
  refine ⟨g1.1, g2.1, ?_⟩
  cases d with
  | zero =>
    rw [readF] at h
    split at h <;> cases h
  | succ d =>
    rw [readF] at h
    cases hc : s[skipP s q]? with
    | none => rw [hc] at h; cases h
    | some c =>
      rw [hc] at h
      simp only at h
      have sg : signB c = true → skipP s q + (wordP s (skipP s q)).length ≤ k ∧ (wordP s (skipP s q) = [48] → k = skipP s q + 1) := fun h' => by
        rw [wordP_sign hc h']
        exact ⟨by have := g2.1; simp; omega, fun e => by simp at e⟩
      by_cases h1 : c.toNat = 47
      · exact sg (signB_of h1 (by simp))
      · rw [if_neg h1] at h
        by_cases h2 : c.toNat = 40
        · exact sg (signB_of h2 (by simp))
        · rw [if_neg h2] at h
          by_cases h3 : c.toNat = 60
          · exact sg (signB_of h3 (by simp))
          · rw [if_neg (fun h' => h3 h'.1), if_neg h3] at h
            by_cases h4 : c.toNat = 91
            · exact sg (signB_of h4 (by simp))
            · rw [if_neg h4] at h
              by_cases h5 : signB c = true
              · exact sg h5
              · rw [if_neg h5] at h
                exact wordV_end h

section
variable {s s' : List UInt8} {K : Nat}
theorem listF_gt {rd : Nat → RV} (hr : RdOK s rd) : ∀ (m : Nat) (acc : List Val) (a : Nat) {v : Val} {k : Nat}, listF rd s m acc a = .ok v k → skipP s a < k ∧ a < k
  | 0, _, _, _, _, h => by cases h
  | m + 1, acc, a, v, k, h => by
    have hle : a ≤ skipP s a := (skipF_le (s.drop a) false a).1
    rw [listF] at h
    split at h
    · cases h
    · split at h
      · cases h; omega
      · split at h
        · cases h
        · rename_i x k1 hx
          have := hr _ _ _ hx
          have := listF_gt hr m _ _ h
          omega
theorem dictF_gt {rd : Nat → RV} (hr : RdOK s rd) : ∀ (m : Nat) (acc : List Fld) (a : Nat) {v : Val} {k : Nat}, dictF rd s m acc a = .ok v k → skipP s a < k ∧ a < k
  | 0, _, _, _, _, h => by cases h
  | m + 1, acc, a, v, k, h => by
    have hle : a ≤ skipP s a := (skipF_le (s.drop a) false a).1
    rw [dictF] at h
    split at h
    · cases h
    · rename_i c hc
      split at h
      · cases h; omega
      · split at h
        · cases h
        · split at h
          · cases h
          · rename_i nm k1 hn
            have hng := nameAt_good (List.getElem?_eq_some_iff.1 hc).1 hn
            split at h
            · cases h
            · rename_i x k2 hx
              split at h
              · cases h
              · have := hr _ _ _ hx
                have := dictF_gt hr m _ _ h
                omega

/-- What a list's reader sees behind a value. -/
theorem Ag.head (h : Ag s s' K) {rd : Nat → RV} (hr : RdOK s rd) {m : Nat} {acc : List Val} {e : Nat} {v : Val} {k : Nat} (hl : listF rd s m acc e = .ok v k) (hk : k ≤ K) :
    skipP s' e = skipP s e ∧ wordP s' (skipP s e) = wordP s (skipP s e) ∧ (wordP s (skipP s e) = [48] → ∃ m' acc', listF rd s m' acc' (skipP s e + 1) = .ok v k) := by
  have hg := listF_gt hr _ _ _ hl
  refine ⟨h.skip (by omega), ?_⟩
  cases m with
  | zero => cases hl
  | succ m =>
    rw [listF] at hl
    cases hc : s[skipP s e]? with
    | none => rw [hc] at hl; cases hl
    | some c =>
      rw [hc] at hl
      simp only at hl
      by_cases h1 : c.toNat = 93
      · have sg := signB_of h1 (by simp)
        rw [wordP_sign hc sg, wordP_sign ((h.get (by omega)).trans hc) sg]
        exact ⟨rfl, fun e => by simp at e⟩
      · rw [if_neg h1] at hl
        split at hl
        · cases hl
        · rename_i x k1 hx
          have hq := hr _ _ _ hx
          rw [skipP_idem] at hq
          have hg2 := listF_gt hr _ _ _ hl
          refine ⟨h.word (by omega), fun e => ?_⟩
          have := hq.2.2.2 e
          subst this
          exact ⟨_, _, hl⟩
theorem Ag.shutL (h : Ag s s' K) {rd : Nat → RV} (hr : RdOK s rd) {m : Nat} {acc : List Val} {e : Nat} {v : Val} {k : Nat} (hl : listF rd s m acc e = .ok v k) (hk : k ≤ K) : Shut s s' e := by
  intro hn
  obtain ⟨h1, h2, h3⟩ := h.head hr hl hk
  unfold rtP at hn ⊢
  rw [h1, h2]
  by_cases w : wordP s (skipP s e) = [48]
  · rw [if_pos w] at hn ⊢
    obtain ⟨m', acc', hl'⟩ := h3 w
    obtain ⟨g1, g2, _⟩ := h.head hr hl' hk
    rw [g1, g2]
    split at hn
    · cases hn
    · rename_i w2; rw [if_neg w2]
  · rw [if_neg w]
theorem Ag.shutD (h : Ag s s' K) {rd : Nat → RV} (hr : RdOK s rd) {m : Nat} {acc : List Fld} {e : Nat} {v : Val} {k : Nat} (hl : dictF rd s m acc e = .ok v k) (hk : k ≤ K) : Shut s s' e := by
  intro hn
  have hg := dictF_gt hr _ _ _ hl
  have h1 := h.skip (k := e) (by omega)
  cases m with
  | zero => cases hl
  | succ m =>
    rw [dictF] at hl
    cases hc : s[skipP s e]? with
    | none => rw [hc] at hl; cases hl
    | some c =>
      rw [hc] at hl
      simp only at hl
      have sg : signB c = true := by
        split at hl
        · rename_i h2; exact signB_of h2.1 (by simp)
        · split at hl
          · cases hl
          · rename_i h3; exact signB_of (by omega : c.toNat = 47) (by simp)
      unfold rtP
      rw [h1, wordP_sign ((h.get (by omega)).trans hc) sg, if_neg (by simp)]

/-- A reader of values, on the other text. -/
def RdAg (s s' : List UInt8) (K : Nat) (rd rd' : Nat → RV) : Prop := ∀ q x k, rd q = .ok x k → k ≤ K → (x.kind = 2 → Shut s s' k) → rd' q = .ok x k

theorem Ag.listF (h : Ag s s' K) {rd rd' : Nat → RV} (hr : RdOK s rd) (ha : RdAg s s' K rd rd') : ∀ (m : Nat) (acc : List Val) (a : Nat) {v : Val} {k : Nat}, listF rd s m acc a = .ok v k → k ≤ K → Go.Av.Tryz.listF rd' s' m acc a = .ok v k
  | 0, _, _, _, _, hl, _ => by cases hl
  | m + 1, acc, a, v, k, hl, hk => by
    have hg := listF_gt hr _ _ _ hl
    rw [Go.Av.Tryz.listF] at hl ⊢
    rw [h.skip (by omega), h.get (by omega)]
    cases hc : s[skipP s a]? with
    | none => rw [hc] at hl; cases hl
    | some c =>
      rw [hc] at hl
      simp only at hl ⊢
      by_cases h1 : c.toNat = 93
      · rw [if_pos h1] at hl ⊢; exact hl
      · rw [if_neg h1] at hl ⊢
        cases hx : rd (skipP s a) with
        | bad e => rw [hx] at hl; cases hl
        | ok x k1 =>
          rw [hx] at hl
          simp only at hl
          have hg2 := listF_gt hr _ _ _ hl
          rw [ha _ _ _ hx (by omega) (fun _ => h.shutL hr hl hk)]
          exact Ag.listF h hr ha m _ _ hl hk
theorem Ag.dictF (h : Ag s s' K) {rd rd' : Nat → RV} (hr : RdOK s rd) (ha : RdAg s s' K rd rd') : ∀ (m : Nat) (acc : List Fld) (a : Nat) {v : Val} {k : Nat}, dictF rd s m acc a = .ok v k → k ≤ K → Go.Av.Tryz.dictF rd' s' m acc a = .ok v k
  | 0, _, _, _, _, hl, _ => by cases hl
  | m + 1, acc, a, v, k, hl, hk => by
    have hg := dictF_gt hr _ _ _ hl
    have hl0 := hl
    rw [Go.Av.Tryz.dictF] at hl ⊢
    rw [h.skip (by omega), h.get (by omega)]
    cases hc : s[skipP s a]? with
    | none => rw [hc] at hl; cases hl
    | some c =>
      rw [hc] at hl
      simp only at hl ⊢
      by_cases h1 : c.toNat = 62 ∧ s[skipP s a + 1]? = some 62
      · rw [if_pos h1] at hl
        have hk2 : skipP s a + 2 = k := by cases hl; rfl
        rw [h.get (by omega), if_pos h1]; exact hl
      · rw [if_neg h1] at hl
        by_cases h2 : c.toNat ≠ 47
        · rw [if_pos h2] at hl; cases hl
        · rw [if_neg h2] at hl
          rw [if_neg (fun h' => by omega), if_neg h2]
          cases hn : nameAt s (skipP s a) with
          | none => rw [hn] at hl; cases hl
          | some y =>
            obtain ⟨nm, k1⟩ := y
            rw [hn] at hl
            simp only at hl
            cases hx : rd k1 with
            | bad e => rw [hx] at hl; cases hl
            | ok x k2 =>
              rw [hx] at hl
              simp only at hl
              by_cases h3 : (getV nm acc).isSome = true
              · rw [if_pos h3] at hl; cases hl
              · rw [if_neg h3] at hl
                have hq := hr _ _ _ hx
                have hg2 := dictF_gt hr _ _ _ hl
                rw [h.name hn (by omega)]
                simp only
                rw [ha _ _ _ hx (by omega) (fun _ => h.shutD hr hl hk)]
                simp only
                rw [if_neg h3]
                exact Ag.dictF h hr ha m _ _ hl hk
theorem Ag.readF (h : Ag s s' K) : ∀ d, RdAg s s' K (readF d s) (Go.Av.Tryz.readF d s')
  | 0 => by
    intro q x k hx
    rw [Go.Av.Tryz.readF] at hx
    split at hx <;> cases hx
  | d + 1 => by
    intro q x k hx hk hs
    have hq := readF_ok s (d + 1) q x k hx
    rw [Go.Av.Tryz.readF] at hx ⊢
    rw [h.skip (by omega), h.get (by omega)]
    cases hc : s[skipP s q]? with
    | none => rw [hc] at hx; cases hx
    | some c =>
      rw [hc] at hx
      simp only at hx ⊢
      by_cases h1 : c.toNat = 47
      · rw [if_pos h1] at hx ⊢
        cases hn : nameAt s (skipP s q) with
        | none => rw [hn] at hx; cases hx
        | some y =>
          obtain ⟨b, e⟩ := y
          rw [hn] at hx
          simp only at hx
          cases hx
          rw [h.name hn hk]
      · rw [if_neg h1] at hx ⊢
        by_cases h2 : c.toNat = 40
        · rw [if_pos h2] at hx ⊢; exact h.lit hx hk
        · rw [if_neg h2] at hx ⊢
          by_cases h3 : c.toNat = 60
          · by_cases h4 : s[skipP s q + 1]? = some 60
            · rw [if_pos ⟨h3, h4⟩] at hx
              have hg := dictF_gt (readF_ok s d) _ _ _ hx
              rw [h.get (by omega), if_pos ⟨h3, h4⟩]
              exact h.dictF (readF_ok s d) (Ag.readF h d) _ _ _ hx hk
            · rw [if_neg (fun h' => h4 h'.2), if_pos h3] at hx
              have hg : skipP s q + 1 < k := by
                have := hexAt_good (s := s) (at_ := skipP s q + 1) (by have := (List.getElem?_eq_some_iff.1 hc).1; omega)
                rw [hx] at this
                exact this.1
              rw [h.get (by omega), if_neg (fun h' => h4 h'.2), if_pos h3]
              exact h.hex hx hk
          · rw [if_neg (fun h' => h3 h'.1), if_neg h3] at hx
            rw [if_neg (fun h' => h3 h'.1), if_neg h3]
            by_cases h4 : c.toNat = 91
            · rw [if_pos h4] at hx ⊢
              exact h.listF (readF_ok s d) (Ag.readF h d) _ _ _ hx hk
            · rw [if_neg h4] at hx ⊢
              by_cases h5 : signB c = true
              · rw [if_pos h5] at hx; cases hx
              · rw [if_neg h5] at hx ⊢
                exact h.wordV hx hk hs
end

end Go.Av.Tryz
set_option linter.unusedSimpArgs false
namespace Go.Av.Tryz
open Go.Proofs

theorem sh_rt {q s : List UInt8} (k : Nat) : rtP (q ++ s) (q.length + k) = (rtP s k).map fun x => q.length + x := by
  unfold rtP
  rw [sh_skip, sh_word, Nat.add_assoc, sh_skip, sh_word]
  split
  · split
    · simp only [Option.map_some, Nat.add_assoc]
    · rfl
  · rfl
/-- No reference goes on here. -/
def shut0 (p : List UInt8) : Prop := rtP p 0 = none

def d2 (n : Nat) : List UInt8 := if n < 10 then [UInt8.ofNat (48 + n)] else [UInt8.ofNat (48 + n / 10), UInt8.ofNat (48 + n % 10)]
theorem obj_d2 : ∀ i : Fin 61, 0 < i.val → objF (d2 i.val) = some i.val := by decide +kernel
theorem dec_d2 {n : Nat} (h : n < 100) : Lib.decDigits n = d2 n := by
  rw [Lib.decDigits]
  unfold d2
  by_cases h1 : n < 10
  · rw [dif_pos h1, if_pos h1]
  · rw [dif_neg h1, if_neg h1, Lib.decDigits, dif_pos (by omega)]; rfl
theorem obj_dec {n : Nat} (h1 : 1 ≤ n) (h2 : n ≤ 60) : objF (Lib.decDigits n) = some n := by
  rw [dec_d2 (by omega)]
  exact obj_d2 ⟨n, by omega⟩ h1

/-- How a value's text begins. -/
theorem text_head {v : Val} (hw : wellV v = true) : ∃ c t, textV v = c :: t ∧ c.toNat ≠ 37 ∧ blankB c.toNat = false ∧ c.toNat ≠ 93 := by
  have dg : ∀ {w : List UInt8}, w ≠ [] → (∀ c ∈ w, digB c) → ∃ c t, w = c :: t ∧ c.toNat ≠ 37 ∧ blankB c.toNat = false ∧ c.toNat ≠ 93 := fun {w} hn hd => by
    cases w with
    | nil => exact absurd rfl hn
    | cons c t =>
      have h := hd c (by simp)
      refine ⟨c, t, rfl, ?_, (digB_pl h).1, ?_⟩ <;> unfold digB at h <;> omega
  rw [textV_eq]
  rcases wellV_k hw with h | h | h | h | h | h | h | h <;> rw [h]
  · exact ⟨_, _, rfl, by decide, by decide, by decide⟩
  · rw [if_pos rfl]
    split
    · exact ⟨_, _, rfl, by decide, by decide, by decide⟩
    · exact ⟨_, _, rfl, by decide, by decide, by decide⟩
  · rw [if_neg (by decide), if_pos rfl]; exact dg (textF_ne _) textF_dig
  · exact ⟨_, _, rfl, by decide, by decide, by decide⟩
  · exact ⟨_, _, rfl, by decide, by decide, by decide⟩
  · exact ⟨_, _, rfl, by decide, by decide, by decide⟩
  · exact ⟨_, _, rfl, by decide, by decide, by decide⟩
  · rw [if_neg (by decide), if_neg (by decide), if_neg (by decide), if_neg (by decide), if_neg (by decide), if_neg (by decide), if_pos rfl]
    obtain ⟨c, t, e, h1⟩ := dg (dec_ne v.n.toNat) (dec_dig _)
    exact ⟨c, t ++ [32, 48, 32, 82], by rw [e]; rfl, h1⟩

/-- The first word of a value's text. -/
theorem text_word {v : Val} {p : List UInt8} (hw : wellV v = true) (hp : dl p) : wordL (textV v ++ p) ≠ [82] ∧ (wordL (textV v ++ p) = [48] → textV v = [48]) := by
  rw [textV_eq]
  have sg : ∀ {c : UInt8} {t : List UInt8}, signB c = true → wordL (c :: t) = [] := fun {c t} h => by rw [wordL_cons, if_neg (by simp [h])]
  have no : ∀ {w : List UInt8}, w = [] → w ≠ [82] ∧ (w = [48] → w = [48]) := fun h => ⟨by rw [h]; simp, fun h => h⟩
  rcases wellV_k hw with h | h | h | h | h | h | h | h <;> rw [h]
  · have e : wordL ([110, 117, 108, 108] ++ p) = [110, 117, 108, 108] := wordL_app (by unfold plW; decide) hp
    show wordL ([110, 117, 108, 108] ++ p) ≠ _ ∧ (wordL ([110, 117, 108, 108] ++ p) = _ → _)
    rw [e]; exact ⟨by decide, fun e => by simp at e⟩
  · rw [if_pos rfl]
    split
    · rw [wordL_app (by unfold plW; decide) hp]; exact ⟨by decide, fun e => by simp at e⟩
    · rw [wordL_app (by unfold plW; decide) hp]; exact ⟨by decide, fun e => by simp at e⟩
  · rw [if_neg (by decide), if_pos rfl, wordL_app (textF_pl _) hp]
    exact ⟨dig_word textF_dig (by decide), fun e => e⟩
  · show wordL (40 :: _) ≠ _ ∧ (wordL (40 :: _) = _ → _)
    rw [sg (by decide)]; exact ⟨by simp, fun e => by simp at e⟩
  · show wordL (47 :: _) ≠ _ ∧ (wordL (47 :: _) = _ → _)
    rw [sg (by decide)]; exact ⟨by simp, fun e => by simp at e⟩
  · show wordL (91 :: _) ≠ _ ∧ (wordL (91 :: _) = _ → _)
    rw [sg (by decide)]; exact ⟨by simp, fun e => by simp at e⟩
  · show wordL (60 :: _) ≠ _ ∧ (wordL (60 :: _) = _ → _)
    rw [sg (by decide)]; exact ⟨by simp, fun e => by simp at e⟩
  · rw [if_neg (by decide), if_neg (by decide), if_neg (by decide), if_neg (by decide), if_neg (by decide), if_neg (by decide), if_pos rfl, List.append_assoc, wordL_app (dec_pl _) (p := [32, 48, 32, 82] ++ p) (show dl (32 :: _) from .inl (by decide))]
    have h7 := wellV_7 hw h
    refine ⟨dig_word (dec_dig _) (by decide), fun e => ?_⟩
    have := obj_dec (n := v.n.toNat) (by omega) (by omega)
    rw [e] at this
    exact absurd this (by simp [objF])

theorem shut_sign {c : UInt8} {r : List UInt8} (h : signB c = true) (h37 : c.toNat ≠ 37) (hb : blankB c.toNat = false) : shut0 (c :: r) := by
  unfold shut0 rtP
  rw [skipP_0 h37 hb, wordP_0, wordL_cons, if_neg (show ¬ (blankB c.toNat = false ∧ signB c = false) by simp [h])]
  rfl
theorem shut_sp {r : List UInt8} {c : UInt8} {t : List UInt8} (e : r = c :: t) (h37 : c.toNat ≠ 37) (hb : blankB c.toNat = false) (h : wordL r = [48] → wordP r (skipP r 1) ≠ [82]) : shut0 (32 :: r) := by
  unfold shut0 rtP
  have e1 : skipP (32 :: r) 0 = 1 := by rw [skipP_32, e, skipP_0 h37 hb]
  have e2 : wordP (32 :: r) 1 = wordL r := rfl
  have e3 : skipP (32 :: r) (1 + 1) = 1 + skipP r 1 := sh_skip (p := [32]) 1
  have e4 : ∀ k, wordP (32 :: r) (1 + k) = wordP r k := fun k => sh_word (p := [32]) k
  rw [e1, e2, e3, e4]
  by_cases hw : wordL r = [48]
  · rw [if_pos hw, if_neg (h hw)]
  · rw [if_neg hw]

theorem dl_list (r : List Val) (q : List UInt8) : dl (textL true r ++ 93 :: q) := by
  cases r with
  | nil => exact .inr (by decide)
  | cons v r => exact .inl (by decide)
/-- A value ahead. -/
theorem skip_text {v : Val} (hw : wellV v = true) (p : List UInt8) : skipP (textV v ++ p) 0 = 0 := by
  obtain ⟨c, t, h1, h2, h3, _⟩ := text_head hw
  rw [h1]; exact skipP_0 h2 h3
theorem shut_list {r : List Val} (q : List UInt8) (hr : ∀ x ∈ r, wellV x = true) : shut0 (textL true r ++ 93 :: q) := by
  cases r with
  | nil => exact shut_sign (by decide) (by decide) (by decide)
  | cons v r =>
    have hv := hr v (by simp)
    have e : textL true (v :: r) ++ 93 :: q = 32 :: (textV v ++ (textL true r ++ 93 :: q)) := by simp [textL]
    rw [e]
    obtain ⟨c, t, h1, h2, h3, _⟩ := text_head hv
    refine shut_sp (c := c) (t := t ++ (textL true r ++ 93 :: q)) (by rw [h1]; rfl) h2 h3 fun hw => ?_
    have e0 := (text_word hv (dl_list r q)).2 hw
    rw [e0]
    have e1 : skipP ([48] ++ (textL true r ++ 93 :: q)) 1 = 1 + skipP (textL true r ++ 93 :: q) 0 := sh_skip (p := [48]) 0
    have e2 : ∀ k, wordP ([48] ++ (textL true r ++ 93 :: q)) (1 + k) = wordP (textL true r ++ 93 :: q) k := fun k => sh_word (p := [48]) k
    rw [e1, e2]
    cases r with
    | nil =>
      show wordP (93 :: q) (skipP (93 :: q) 0) ≠ _
      rw [skipP_0 (by decide) (by decide), wordP_0, wordL_cons, if_neg (by decide)]; simp
    | cons x r =>
      have hx := hr x (by simp)
      have e3 : textL true (x :: r) ++ 93 :: q = 32 :: (textV x ++ (textL true r ++ 93 :: q)) := by simp [textL]
      obtain ⟨c', t', g1, g2, g3, _⟩ := text_head hx
      have e4 : skipP (textV x ++ (textL true r ++ 93 :: q)) 0 = 0 := by rw [g1]; exact skipP_0 g2 g3
      rw [e3, skipP_32, e4]
      show wordP (32 :: (textV x ++ (textL true r ++ 93 :: q))) 1 ≠ _
      have e5 : wordP (32 :: (textV x ++ (textL true r ++ 93 :: q))) 1 = wordL (textV x ++ (textL true r ++ 93 :: q)) := rfl
      rw [e5]
      exact (text_word hx (dl_list r q)).1

/-- A word, read. -/
theorem readF_word {c : UInt8} {t : List UInt8} (d : Nat) (h : blankB c.toNat = false ∧ signB c = false) : readF (d + 1) (c :: t) 0 = wordV (c :: t) 0 := by
  have hn : ∀ n ∈ [47, 40, 60, 91, 93, 62], c.toNat ≠ n := fun n hn e => by
    have := signB_of e hn
    rw [h.2] at this; cases this
  have h37 : c.toNat ≠ 37 := fun e => by
    have : c = 37 := UInt8.toNat_inj.1 e
    rw [this] at h; exact absurd h.2 (by decide)
  rw [readF, skipP_0 h37 h.1]
  simp only [List.getElem?_cons_zero]
  rw [if_neg (hn 47 (by simp)), if_neg (hn 40 (by simp)), if_neg (fun h' => hn 60 (by simp) h'.1), if_neg (hn 60 (by simp)), if_neg (hn 91 (by simp)), if_neg (by rw [h.2]; simp)]
theorem readF_wordA {w p : List UInt8} (d : Nat) (hw : plW w) (hn : w ≠ []) : readF (d + 1) (w ++ p) 0 = wordV (w ++ p) 0 := by
  cases w with
  | nil => exact absurd rfl hn
  | cons c t => exact readF_word d (hw c (by simp))

/-- What is asked of a value's text. -/
def TextOK (d : Nat) (v : Val) : Prop := ∀ p, dl p → shut0 p → readF d (textV v ++ p) 0 = .ok v (textV v).length

theorem text_list (d : Nat) {s : List UInt8} (q : List UInt8) : ∀ (r : List Val) (pre : List UInt8) (acc : List Val) (sep : Bool) (m : Nat), (∀ x ∈ r, wellV x = true ∧ TextOK d x) → s = pre ++ (textL sep r ++ 93 :: q) → r.length < m →
    listF (readF d s) s m acc pre.length = .ok (lisV (acc ++ r)) (pre.length + (textL sep r).length + 1)
  | _, _, _, _, 0, _, _, hm => by omega
  | [], pre, acc, sep, m + 1, hr, hs, hm => by
    have e0 : textL sep [] = [] := by simp [textL]
    rw [e0] at hs ⊢
    rw [List.nil_append] at hs
    have e1 : skipP s pre.length = pre.length := by
      have := sh_skip (p := pre) (s := 93 :: q) 0
      rw [skipP_0 (by decide) (by decide), ← hs] at this
      exact this
    have e2 : s[pre.length]? = some 93 := by rw [hs]; simp
    rw [listF, e1, e2]
    simp
  | x :: r, pre, acc, sep, m + 1, hr, hs, hm => by
    obtain ⟨hx, hxt⟩ := hr x (by simp)
    obtain ⟨c, t, h1, h2, h3, h93⟩ := text_head hx
    obtain ⟨sp, hsp⟩ : ∃ sp : List UInt8, (if sep then [32] else []) = sp := ⟨_, rfl⟩
    have e0 : textL sep (x :: r) = sp ++ textV x ++ textL true r := by simp only [textL]; rw [← hsp]
    have hs2 : s = (pre ++ sp) ++ (textV x ++ (textL true r ++ 93 :: q)) := by rw [hs, e0]; simp
    have hsk : skipP (sp ++ (textV x ++ (textL true r ++ 93 :: q))) 0 = sp.length := by
      rw [← hsp]
      cases sep with
      | true => show skipP (32 :: (textV x ++ (textL true r ++ 93 :: q))) 0 = 1; rw [skipP_32, skip_text hx]
      | false => exact skip_text hx _
    have e1 : skipP s pre.length = (pre ++ sp).length := by
      have := sh_skip (p := pre) (s := sp ++ (textV x ++ (textL true r ++ 93 :: q))) 0
      rw [hsk, ← List.append_assoc, ← hs2] at this
      rw [List.length_append]; exact this
    have e2 : s[(pre ++ sp).length]? = some c := by rw [hs2, List.getElem?_append_right (Nat.le_refl _), h1]; simp
    have e3 : readF d s (pre ++ sp).length = .ok x ((pre ++ sp).length + (textV x).length) := by
      have := sh_read (p := pre ++ sp) (s := textV x ++ (textL true r ++ 93 :: q)) d 0
      rw [hxt _ (dl_list r q) (shut_list q fun y hy => (hr y (by simp [hy])).1), ← hs2] at this
      exact this
    rw [listF, e1, e2]
    simp only
    rw [if_neg h93, e3]
    simp only
    have ih := text_list d (s := s) q r (pre ++ sp ++ textV x) (acc ++ [x]) true m (fun y hy => hr y (by simp [hy])) (by rw [hs2]; simp) (by simpa using hm)
    have el : (pre ++ sp ++ textV x).length = (pre ++ sp).length + (textV x).length := by simp; omega
    rw [el] at ih
    rw [ih, e0]
    simp only [RV.ok.injEq, List.append_assoc, List.singleton_append, true_and, List.length_append]
    omega
end Go.Av.Tryz
set_option linter.unusedSimpArgs false
namespace Go.Av.Tryz
open Go.Proofs

theorem less_ne {a b : List UInt8} (h : Op.bytesLess a b = true) : a ≠ b := fun e => by
  subst e; rw [less_irr] at h; cases h
theorem posV_all {nm : List UInt8} : ∀ {l : List Fld}, (∀ y ∈ l, Op.bytesLess y.name nm = true) → posV nm l = l.length
  | [], _ => rfl
  | y :: r, h => by rw [posV, if_pos (h y (by simp)), posV_all fun z hz => h z (by simp [hz])]; rfl
theorem setF_end {nm : List UInt8} {x : Val} {l : List Fld} (h : ∀ y ∈ l, Op.bytesLess y.name nm = true) : setF nm x l = l ++ [.mk nm x] := by
  unfold setF
  have hh : hasV nm l = false := by unfold hasV; rw [posV_all h]; simp
  rw [hh, posV_all h]
  simp
theorem getV_end {nm : List UInt8} : ∀ {l : List Fld}, (∀ y ∈ l, Op.bytesLess y.name nm = true) → getV nm l = none
  | [], _ => rfl
  | y :: r, h => by
    rw [getV, if_neg (less_ne (h y (by simp))), getV_end fun z hz => h z (by simp [hz])]
theorem wellF_pw : ∀ {p : Option (List UInt8)} {l : List Fld}, wellF p l = true → (∀ q, p = some q → ∀ x ∈ l, Op.bytesLess q x.name = true) ∧ l.Pairwise fun x y => Op.bytesLess x.name y.name = true
  | p, [], _ => ⟨fun _ _ x hx => by simp at hx, .nil⟩
  | p, .mk nm v :: r, h => by
    simp only [wellF, Bool.and_eq_true] at h
    obtain ⟨⟨h1, h2, h3⟩, h4⟩ := h
    obtain ⟨i1, i2⟩ := wellF_pw h4
    have i1' := i1 nm rfl
    refine ⟨fun q hq x hx => ?_, .cons (fun y hy => i1' y hy) i2⟩
    subst hq
    rcases List.mem_cons.1 hx with rfl | hx
    · exact h3
    · exact less_trans h3 (i1' x hx)

theorem shut_dict (r : List Fld) (q : List UInt8) : dl (textX r ++ 32 :: 62 :: 62 :: q) ∧ shut0 (textX r ++ 32 :: 62 :: 62 :: q) := by
  have key : ∀ (c : UInt8) (t : List UInt8), signB c = true → c.toNat ≠ 37 → blankB c.toNat = false → dl (32 :: c :: t) ∧ shut0 (32 :: c :: t) := fun c t h h37 hb =>
    ⟨.inl (by decide), shut_sp rfl h37 hb fun e => by rw [wordL_cons, if_neg (show ¬ (blankB c.toNat = false ∧ signB c = false) by simp [h])] at e; cases e⟩
  cases r with
  | nil => exact key 62 _ (by decide) (by decide) (by decide)
  | cons x r =>
    cases x with
    | mk nm v =>
      have e : textX (.mk nm v :: r) ++ 32 :: 62 :: 62 :: q = 32 :: 47 :: (nameP nm ++ [32] ++ textV v ++ textX r ++ 32 :: 62 :: 62 :: q) := by simp [textX]
      rw [e]
      exact key 47 _ (by decide) (by decide) (by decide)

theorem text_dict (d : Nat) {s : List UInt8} (q : List UInt8) : ∀ (r : List Fld) (pre : List UInt8) (acc : List Fld) (m : Nat), (∀ x ∈ r, nameMay x.name = true ∧ wellV x.v = true ∧ TextOK d x.v) → (∀ y ∈ acc, ∀ x ∈ r, Op.bytesLess y.name x.name = true) →
    r.Pairwise (fun x y => Op.bytesLess x.name y.name = true) → s = pre ++ (textX r ++ 32 :: 62 :: 62 :: q) → r.length < m →
    dictF (readF d s) s m acc pre.length = .ok (dicV (acc ++ r)) (pre.length + (textX r).length + 3)
  | _, _, _, 0, _, _, _, _, hm => by omega
  | [], pre, acc, m + 1, hr, ha, hp, hs, hm => by
    have e0 : textX [] = [] := by simp [textX]
    rw [e0] at hs ⊢
    rw [List.nil_append] at hs
    have e1 : skipP s pre.length = pre.length + 1 := by
      have := sh_skip (p := pre) (s := 32 :: 62 :: 62 :: q) 0
      rw [skipP_32, skipP_0 (by decide) (by decide), ← hs] at this
      exact this
    have e2 : s[pre.length + 1]? = some 62 := by rw [hs, List.getElem?_append_right (by omega), Nat.add_sub_cancel_left]; rfl
    have e3 : s[pre.length + 1 + 1]? = some 62 := by rw [hs, List.getElem?_append_right (by omega), show pre.length + 1 + 1 - pre.length = 2 by omega]; rfl
    rw [dictF, e1, e2]
    simp only
    rw [if_pos ⟨by decide, e3⟩]
    simp
  | .mk nm v :: r, pre, acc, m + 1, hr, ha, hp, hs, hm => by
    obtain ⟨hn, hx, hxt⟩ := hr (.mk nm v) (by simp)
    have hn : nameMay nm = true := hn
    have hx : wellV v = true := hx
    have hxt : TextOK d v := hxt
    rw [List.pairwise_cons] at hp
    have hac : ∀ y ∈ acc, Op.bytesLess y.name nm = true := fun y hy => ha y hy (.mk nm v) (by simp)
    obtain ⟨T, hT⟩ : ∃ T, textX r ++ 32 :: 62 :: 62 :: q = T := ⟨_, rfl⟩
    have e0 : textX (.mk nm v :: r) = [32, 47] ++ nameP nm ++ [32] ++ textV v ++ textX r := by simp [textX]
    have hs2 : s = (pre ++ [32]) ++ ([47] ++ nameP nm ++ (32 :: (textV v ++ T))) := by rw [hs, e0, ← hT]; simp
    have hs3 : s = (pre ++ [32] ++ [47] ++ nameP nm ++ [32]) ++ (textV v ++ T) := by rw [hs2]; simp
    have e1 : skipP s pre.length = (pre ++ [32]).length := by
      have := sh_skip (p := pre) (s := 32 :: ([47] ++ nameP nm ++ (32 :: (textV v ++ T)))) 0
      rw [skipP_32] at this
      have h0 : skipP ([47] ++ nameP nm ++ (32 :: (textV v ++ T))) 0 = 0 := skipP_0 (by decide) (by decide)
      rw [h0] at this
      have hh : pre ++ 32 :: ([47] ++ nameP nm ++ (32 :: (textV v ++ T))) = s := by rw [hs2]; simp
      rw [hh] at this
      simpa using this
    have e2 : s[(pre ++ [32]).length]? = some 47 := by rw [hs2, List.getElem?_append_right (Nat.le_refl _), Nat.sub_self]; rfl
    have e3 : nameAt s (pre ++ [32]).length = some (nm, (pre ++ [32]).length + (1 + (nameP nm).length)) := by
      have := sh_name (p := pre ++ [32]) (s := [47] ++ nameP nm ++ (32 :: (textV v ++ T))) 0
      rw [name_text hn (show dl (32 :: _) from .inl (by decide)), ← hs2] at this
      exact this
    have e4 : readF d s ((pre ++ [32]).length + (1 + (nameP nm).length)) = .ok v ((pre ++ [32] ++ [47] ++ nameP nm ++ [32]).length + (textV v).length) := by
      have h1 := sh_read (p := pre ++ [32] ++ [47] ++ nameP nm ++ [32]) (s := textV v ++ T) d 0
      rw [hxt T (hT ▸ (shut_dict r q).1) (hT ▸ (shut_dict r q).2), ← hs3] at h1
      have hl : (pre ++ [32]).length + (1 + (nameP nm).length) = (pre ++ [32] ++ [47] ++ nameP nm).length := by simp; omega
      have hk : skipP s ((pre ++ [32]).length + (1 + (nameP nm).length)) = skipP s ((pre ++ [32] ++ [47] ++ nameP nm ++ [32]).length + 0) := by
        have k1 := sh_skip (p := pre ++ [32] ++ [47] ++ nameP nm ++ [32]) (s := textV v ++ T) 0
        rw [skip_text hx, ← hs3] at k1
        have k2 := sh_skip (p := pre ++ [32] ++ [47] ++ nameP nm) (s := 32 :: (textV v ++ T)) 0
        have hh : (pre ++ [32] ++ [47] ++ nameP nm) ++ 32 :: (textV v ++ T) = s := by rw [hs3]; simp
        rw [skipP_32, skip_text hx, hh] at k2
        rw [k1, hl]
        rw [Nat.add_zero] at k2
        rw [k2]
        simp; omega
      rw [readF_skip hk, h1]; rfl
    rw [dictF, e1, e2]
    simp only
    rw [if_neg (fun h => absurd h.1 (by decide)), if_neg (by decide), e3]
    simp only
    rw [e4]
    simp only
    rw [if_neg (by rw [getV_end hac]; simp), setF_end hac]
    have ih := text_dict d (s := s) q r (pre ++ [32] ++ [47] ++ nameP nm ++ [32] ++ textV v) (acc ++ [.mk nm v]) m (fun y hy => hr y (by simp [hy])) (fun y hy x hx => by
      rcases List.mem_append.1 hy with hy | hy
      · exact ha y hy x (by simp [hx])
      · simp only [List.mem_singleton] at hy
        subst hy
        exact hp.1 x hx) hp.2 (by rw [hs3, ← hT]; simp) (by simpa using hm)
    have el : (pre ++ [32] ++ [47] ++ nameP nm ++ [32] ++ textV v).length = (pre ++ [32] ++ [47] ++ nameP nm ++ [32]).length + (textV v).length := List.length_append
    rw [el] at ih
    rw [ih, e0]
    simp only [RV.ok.injEq, List.append_assoc, List.singleton_append, true_and, List.length_append, List.length_cons, List.length_nil]
    omega

theorem ptL_mem2 {x : Val} : ∀ {l : List Val}, x ∈ l → (ptV x).2 ≤ (ptL l).2
  | y :: r, h => by
    simp only [ptL]
    rcases List.mem_cons.1 h with rfl | h
    · omega
    · have := ptL_mem2 h; omega
theorem ptF_mem2 {x : Fld} : ∀ {l : List Fld}, x ∈ l → (ptV x.v).2 ≤ (ptF l).2
  | y :: r, h => by
    rw [ptF_cons]
    rcases List.mem_cons.1 h with rfl | h
    · simp only; omega
    · have := ptF_mem2 h; simp only; omega
theorem ptL_cnt : ∀ (l : List Val), l.length ≤ (ptL l).1
  | [] => by simp
  | y :: r => by have := ptL_cnt r; have := (ptV_pos y).1; simp only [ptL, List.length_cons]; omega
theorem ptF_cnt : ∀ (l : List Fld), l.length ≤ (ptF l).1
  | [] => by simp
  | y :: r => by have := ptF_cnt r; have := (ptV_pos y.v).1; rw [ptF_cons]; simp only [List.length_cons]; omega

theorem val_eq {v : Val} : v = .mk v.kind v.n v.s v.l v.f := by cases v; rfl

/-- A value's text is read as it. -/
theorem text_ok : ∀ (m : Nat) (v : Val) (d : Nat), SizeOf.sizeOf v ≤ m → wellV v = true → (ptV v).2 ≤ d → (ptV v).1 ≤ 300 → TextOK d v := by
  intro m
  induction m with
  | zero => intro v d h; cases v; simp at h
  | succ m ih =>
    intro v d hm hw hd hp p hdl hsh
    obtain ⟨d, rfl⟩ : ∃ e, d = e + 1 := ⟨d - 1, by have := (ptV_pos v).2; omega⟩
    have hwe := hw
    rw [wellV_eq] at hwe
    have hte := textV_eq v
    rcases wellV_k hw with h | h | h | h | h | h | h | h <;> rw [h] at hwe hte
    · simp at hwe hte
      obtain ⟨h1, h2, h3, h4⟩ := hwe
      have hv : v = zeroV := by rw [val_eq (v := v), h, h1, h2, h3, h4]; rfl
      rw [hte, readF_wordA d (by unfold plW; decide) (by simp)]
      unfold wordV
      rw [wordP_0, wordL_app (by unfold plW; decide) hdl, if_pos rfl, hv]; rfl
    · simp at hwe hte
      obtain ⟨h1, h2, h3, h4⟩ := hwe
      rw [hte]
      by_cases hn : v.n = 1
      · rw [if_pos hn, readF_wordA d (by unfold plW; decide) (by simp)]
        have hv : v = .mk 1 1 [] [] [] := by rw [val_eq (v := v), h, hn, h2, h3, h4]
        unfold wordV
        rw [wordP_0, wordL_app (by unfold plW; decide) hdl, if_neg (by decide), if_pos rfl, hv]; rfl
      · rw [if_neg hn, readF_wordA d (by unfold plW; decide) (by simp)]
        have hn0 : v.n = 0 := h1.resolve_right hn
        have hv : v = .mk 1 0 [] [] [] := by rw [val_eq (v := v), h, hn0, h2, h3, h4]
        unfold wordV
        rw [wordP_0, wordL_app (by unfold plW; decide) hdl, if_neg (by decide), if_neg (by decide), if_pos rfl, hv]; rfl
    · simp at hwe hte
      obtain ⟨h1, h2, h3, h4⟩ := hwe
      have hv : v = numV v.n := by rw [val_eq (v := v), h, h2, h3, h4]; rfl
      rw [hte, readF_wordA d (textF_pl _) (textF_ne _)]
      have hwd : wordP (textF v.n ++ p) 0 = textF v.n := by rw [wordP_0, wordL_app (textF_pl _) hdl]
      have hra : refAt (textF v.n ++ p) 0 = none := by
        rw [refAt_rt, hwd, Nat.zero_add]
        have := sh_rt (q := textF v.n) (s := p) 0
        rw [hsh, Nat.add_zero] at this
        rw [this]
        cases objF (textF v.n) <;> rfl
      unfold wordV
      rw [hwd, if_neg (dig_word textF_dig (by decide)), if_neg (dig_word textF_dig (by decide)), if_neg (dig_word textF_dig (by decide)), hra]
      simp only
      rw [parse_text h1, if_pos rfl, Nat.zero_add]
      simp only
      rw [← hv]
    · simp at hwe hte
      obtain ⟨h1, h2, h3, h4⟩ := hwe
      have hv : v = strV v.s := by rw [val_eq (v := v), h, h1, h3, h4]; rfl
      have hl := litF_text v.s p [] 1
      rw [hte]
      rw [readF]
      have e1 : skipP (40 :: (strP v.s ++ [41]) ++ p) 0 = 0 := skipP_0 (by decide) (by decide)
      rw [e1]
      show litAt _ 1 = _
      unfold litAt
      have e2 : (40 :: (strP v.s ++ [41]) ++ p).drop 1 = strP v.s ++ 41 :: p := by simp
      rw [e2, hl]
      simp only [List.nil_append]
      rw [if_pos h2, ← hv]
      simp; omega
    · simp at hwe hte
      obtain ⟨h1, h2, h3, h4⟩ := hwe
      have hv : v = namV v.s := by rw [val_eq (v := v), h, h1, h3, h4]; rfl
      have hl := name_text h2 hdl
      rw [hte]
      rw [readF]
      have e1 : skipP (47 :: nameP v.s ++ p) 0 = 0 := skipP_0 (by decide) (by decide)
      rw [e1]
      show (match nameAt (47 :: nameP v.s ++ p) 0 with | none => RV.bad 4 | some (b, k) => .ok (namV b) k) = _
      have e2 : nameAt (47 :: nameP v.s ++ p) 0 = _ := hl
      rw [e2]
      simp only
      rw [← hv]
      simp; omega
    · simp at hwe hte
      obtain ⟨h1, h2, h3, h4⟩ := hwe
      have hv : v = lisV v.l := by rw [val_eq (v := v), h, h1, h2, h4]; rfl
      have hpe := ptV_eq v
      have hsz : SizeOf.sizeOf v.l < SizeOf.sizeOf v := by cases v; simp [Val.l]; omega
      rw [hte]
      have e1 : skipP (91 :: (textL false v.l ++ [93]) ++ p) 0 = 0 := skipP_0 (by decide) (by decide)
      rw [readF, e1]
      show listF _ _ 301 [] 1 = _
      have hall : ∀ x ∈ v.l, wellV x = true ∧ TextOK d x := fun x hx => by
        have w := wellV_5 hw h hx
        have q1 := ptL_mem2 hx
        have q2 := ptL_mem hx
        have q3 := List.sizeOf_lt_of_mem hx
        exact ⟨w, ih x d (by omega) w (by rw [hpe] at hd; simp only at hd; omega) (by rw [hpe] at hp; simp only at hp; omega)⟩
      have := text_list d (s := 91 :: (textL false v.l ++ [93]) ++ p) p v.l [91] [] false 301 hall (by simp) (by have := ptL_cnt v.l; rw [hpe] at hp; simp only at hp; omega)
      rw [show (1 : Nat) = [(91 : UInt8)].length from rfl, this, List.nil_append, ← hv]
      simp; omega
    · simp at hwe hte
      obtain ⟨h1, h2, h3, h4⟩ := hwe
      have hv : v = dicV v.f := by rw [val_eq (v := v), h, h1, h2, h3]; rfl
      have hpe := ptV_eq v
      have hsz : SizeOf.sizeOf v.f < SizeOf.sizeOf v := by cases v; simp [Val.f]; omega
      rw [hte]
      have e1 : skipP (60 :: 60 :: (textX v.f ++ [32, 62, 62]) ++ p) 0 = 0 := skipP_0 (by decide) (by decide)
      rw [readF, e1]
      show dictF _ _ 301 [] 2 = _
      have hall : ∀ x ∈ v.f, nameMay x.name = true ∧ wellV x.v = true ∧ TextOK d x.v := fun x hx => by
        have w := wellV_6a hw h x hx
        have q1 := ptF_mem2 hx
        have q2 := ptF_mem hx
        have q3 := List.sizeOf_lt_of_mem hx
        have q4 : SizeOf.sizeOf x.v < SizeOf.sizeOf x := by cases x; simp [Fld.v]; omega
        exact ⟨w.1, w.2, ih x.v d (by omega) w.2 (by rw [hpe] at hd; simp only at hd; omega) (by rw [hpe] at hp; simp only at hp; omega)⟩
      have := text_dict d (s := 60 :: 60 :: (textX v.f ++ [32, 62, 62]) ++ p) p v.f [60, 60] [] 301 hall (fun y hy => by simp at hy) (wellF_pw h4).2 (by simp) (by have := ptF_cnt v.f; rw [hpe] at hp; simp only at hp; omega)
      rw [show (2 : Nat) = [(60 : UInt8), 60].length from rfl, this, List.nil_append, ← hv]
      simp; omega
    · simp at hwe hte
      obtain ⟨h1, h2, h3, h4⟩ := hwe
      obtain ⟨n, hn⟩ : ∃ n : Nat, v.n = n := ⟨v.n.toNat, by omega⟩
      have hv : v = .mk 7 n [] [] [] := by rw [val_eq (v := v), h, h2, h3, h4, hn]
      rw [hn, Int.toNat_natCast] at hte
      rw [hte, List.append_assoc, readF_wordA d (dec_pl _) (dec_ne _)]
      have hd2 : dl ([32, 48, 32, 82] ++ p) := .inl (by decide)
      have hwd : wordP (Lib.decDigits n ++ ([32, 48, 32, 82] ++ p)) 0 = Lib.decDigits n := by rw [wordP_0, wordL_app (dec_pl _) hd2]
      have hrt : rtP ([32, 48, 32, 82] ++ p) 0 = some 4 := by
        have a1 : skipP ([32, 48, 32, 82] ++ p) 0 = 1 := by
          show skipP (32 :: ([48, 32, 82] ++ p)) 0 = 1
          rw [skipP_32]
          have : skipP ([48, 32, 82] ++ p) 0 = 0 := skipP_0 (by decide) (by decide)
          rw [this]
        have a2 : wordP ([32, 48, 32, 82] ++ p) 1 = [48] := by
          show wordL ([48] ++ (32 :: 82 :: p)) = _
          exact wordL_app (by unfold plW; decide) (show dl (32 :: _) from .inl (by decide))
        have a3 : skipP ([32, 48, 32, 82] ++ p) (1 + 1) = 3 := by
          have := sh_skip (p := [32, 48]) (s := 32 :: 82 :: p) 0
          rw [skipP_32, skipP_0 (by decide) (by decide)] at this
          exact this
        have a4 : wordP ([32, 48, 32, 82] ++ p) 3 = [82] := by
          show wordL ([82] ++ p) = _
          exact wordL_app (by unfold plW; decide) hdl
        unfold rtP
        rw [a1, a2, if_pos rfl, a3, a4, if_pos rfl]
      have hra : refAt (Lib.decDigits n ++ ([32, 48, 32, 82] ++ p)) 0 = some (n, (Lib.decDigits n).length + 4) := by
        rw [refAt_rt, hwd, Nat.zero_add, obj_dec (by omega) (by omega)]
        have := sh_rt (q := Lib.decDigits n) (s := [32, 48, 32, 82] ++ p) 0
        rw [hrt, Nat.add_zero] at this
        simp only
        rw [this]; rfl
      unfold wordV
      rw [hwd, if_neg (dig_word (dec_dig _) (by decide)), if_neg (dig_word (dec_dig _) (by decide)), if_neg (dig_word (dec_dig _) (by decide)), hra]
      simp only
      rw [← hv]
      simp

/-- A value that is well, and its text. -/
theorem value_text {v : Val} (h : faultV v = 0) (hl : (textV v).length ≤ 60000) : valueP (textV v) 0 = .ok v (textV v).length := by
  have hf := h
  rw [faultV_0] at hf
  obtain ⟨h1, h2⟩ := hf
  have ht := text_ok _ v 8 (Nat.le_refl _) h2 (by omega) (by omega) [] trivial (by unfold shut0; rfl)
  rw [List.append_nil] at ht
  unfold valueP
  rw [if_neg (by omega)]
  have e : readF 8 (textV v) (0 : Int).toNat = _ := ht
  rw [e]
  simp only
  rw [if_pos h]
end Go.Av.Tryz
set_option linter.unusedSimpArgs false
namespace Go.Av.Tryz
open Go.Proofs

mutual
/-- The weight, as it is reckoned. -/
def wtV (most : Int) : Val → Int
  | .mk _ _ s l f => wtF most f (wtL most l (IntKind.i64.wrap (1 + (s.length : Int))))
def wtL (most : Int) : List Val → Int → Int
  | [], n => n
  | v :: r, n => if n ≤ most then wtL most r (IntKind.i64.wrap (n + wtV most v)) else n
def wtF (most : Int) : List Fld → Int → Int
  | [], n => n
  | .mk nm v :: r, n => if n ≤ most then wtF most r (IntKind.i64.wrap (IntKind.i64.wrap (n + (nm.length : Int)) + wtV most v)) else n
end
theorem wtV_eq (most : Int) (v : Val) : wtV most v = wtF most v.f (wtL most v.l (IntKind.i64.wrap (1 + (v.s.length : Int)))) := by cases v; simp only [wtV, Val.s, Val.l, Val.f]
theorem wtF_cons (most : Int) (y : Fld) (r : List Fld) (n : Int) : wtF most (y :: r) n = if n ≤ most then wtF most r (IntKind.i64.wrap (IntKind.i64.wrap (n + (y.name.length : Int)) + wtV most y.v)) else n := by cases y; simp only [wtF, Fld.name, Fld.v]
theorem wtL_stop {most n : Int} (h : ¬ n ≤ most) : ∀ l, wtL most l n = n
  | [] => by simp only [wtL]
  | v :: r => by simp only [wtL, if_neg h]
theorem wtF_stop {most n : Int} (h : ¬ n ≤ most) (l : List Fld) : wtF most l n = n := by
  cases l with
  | nil => simp only [wtF]
  | cons y r => rw [wtF_cons, if_neg h]

/-- foliowrightlaw.weight -/
def L_foliowrightlaw_weight : LCode :=
  .seq (.reg [⟨some 2, .box (.t 0), none⟩, ⟨some 4, .asg (.k (.d (.int .i64 0))), none⟩]) (.seq (.reg [⟨some 8, .val (.fa 2 (.t 2)), none⟩, ⟨some 9, .val (.ld false 1 (.t 8)), none⟩, 
  ⟨some 10, .val (.len true (.t 9)), none⟩, ⟨some 11, .val (.bin .add (.k (.d (.int .i64 1))) (.t 10)), none⟩, ⟨some 5, .asg (.t 11), none⟩]) (.seq (.seq (.reg [⟨some 6, .asg (.k 
  (.d (.int .i64 0))), none⟩]) (.block 0 (.loop (.seq (.seq (.reg [⟨some 12, .val (.cp (.t 6)), none⟩, ⟨some 13, .val (.fa 3 (.t 2)), none⟩, ⟨some 14, .val (.ld false 1 (.t 13)), 
  none⟩, ⟨some 15, .val (.len false (.t 14)), none⟩, ⟨some 16, .val (.bin .lss (.t 12) (.t 15)), none⟩, ⟨some 17, .val (.cp (.t 16)), none⟩, ⟨some 18, .val (.cp (.t 5)), some (17, 
  true)⟩, ⟨some 19, .val (.cp (.t 1)), some (17, true)⟩, ⟨some 20, .val (.bin .leq (.t 18) (.t 19)), some (17, true)⟩, ⟨some 21, .val (.pick (.t 17) (.t 20) (.k (.d (.bool 
  false)))), none⟩]) (.cond (.t 21) .skip (.exit 0))) (.seq (.block 1 (.reg [⟨some 24, .val (.cp (.t 5)), none⟩, ⟨some 25, .val (.fa 3 (.t 2)), none⟩, ⟨some 26, .val (.ld false 1 
  (.t 25)), none⟩, ⟨some 27, .val (.cp (.t 6)), none⟩, ⟨some 28, .val (.ia 5 (.t 26) (.t 27)), none⟩, ⟨some 29, .val (.ld true 5 (.t 28)), none⟩, ⟨some 30, .val (.cp (.t 1)), 
  none⟩, ⟨some 31, .call 17 [.t 29, .t 30], none⟩, ⟨some 32, .val (.bin .add (.t 24) (.t 31)), none⟩, ⟨some 5, .asg (.t 32), none⟩])) (.reg [⟨some 22, .val (.cp (.t 6)), none⟩, 
  ⟨some 23, .val (.bin .add (.t 22) (.k (.d (.int .i64 1)))), none⟩, ⟨some 6, .asg (.t 23), none⟩])))))) (.seq (.seq (.reg [⟨some 7, .asg (.k (.d (.int .i64 0))), none⟩]) (.block 2 
  (.loop (.seq (.seq (.reg [⟨some 33, .val (.cp (.t 7)), none⟩, ⟨some 34, .val (.fa 4 (.t 2)), none⟩, ⟨some 35, .val (.ld false 1 (.t 34)), none⟩, ⟨some 36, .val (.len false (.t 
  35)), none⟩, ⟨some 37, .val (.bin .lss (.t 33) (.t 36)), none⟩, ⟨some 38, .val (.cp (.t 37)), none⟩, ⟨some 39, .val (.cp (.t 5)), some (38, true)⟩, ⟨some 40, .val (.cp (.t 1)), 
  some (38, true)⟩, ⟨some 41, .val (.bin .leq (.t 39) (.t 40)), some (38, true)⟩, ⟨some 42, .val (.pick (.t 38) (.t 41) (.k (.d (.bool false)))), none⟩]) (.cond (.t 42) .skip 
  (.exit 2))) (.seq (.block 3 (.dreg [⟨some 45, .val (.cp (.t 5)), none⟩, ⟨some 46, .val (.fa 4 (.t 2)), none⟩, ⟨some 47, .val (.ld false 1 (.t 46)), none⟩, ⟨some 48, .val (.cp (.t 
  7)), none⟩, ⟨some 49, .val (.ia 6 (.t 47) (.t 48)), none⟩, ⟨some 50, .val (.fa 0 (.t 49)), none⟩, ⟨some 51, .val (.ld false 1 (.t 50)), none⟩, ⟨some 52, .val (.len true (.t 51)), 
  none⟩, ⟨some 53, .val (.bin .add (.t 45) (.t 52)), none⟩, ⟨some 54, .val (.fa 4 (.t 2)), none⟩, ⟨some 55, .val (.ld false 1 (.t 54)), none⟩, ⟨some 56, .val (.cp (.t 7)), none⟩, 
  ⟨some 57, .val (.ia 6 (.t 55) (.t 56)), none⟩, ⟨some 58, .val (.fa 1 (.t 57)), none⟩, ⟨some 59, .val (.ld true 5 (.t 58)), none⟩, ⟨some 60, .val (.cp (.t 1)), none⟩, ⟨some 61, 
  .call 17 [.t 59, .t 60], none⟩, ⟨some 62, .val (.bin .add (.t 53) (.t 61)), none⟩, ⟨some 5, .asg (.t 62), none⟩])) (.reg [⟨some 43, .val (.cp (.t 7)), none⟩, ⟨some 44, .val (.bin 
  .add (.t 43) (.k (.d (.int .i64 1)))), none⟩, ⟨some 7, .asg (.t 44), none⟩])))))) (.seq (.reg [⟨some 63, .val (.cp (.t 5)), none⟩, ⟨some 4, .asg (.t 63), none⟩]) .ret))))
def R_foliowrightlaw_weight : List LRes := [.tmp 4]
theorem lift_foliowrightlaw_weight : Lifts Tryz.prog 17 64 L_foliowrightlaw_weight R_foliowrightlaw_weight := ⟨_, _, Tryz.func17, rfl, by kernel_rfl, by kernel_rfl, rfl⟩

theorem weight_call : ∀ (m : Nat) (v : Val) (most : Int), SizeOf.sizeOf v ≤ m → v.sm 1048576 = true → PCall Tryz.prog 17 [v.d, .int .i64 most] (fun r => r = .one (.int .i64 (wtV most v))) := by
  intro m
  induction m with
  | zero => intro v most h; cases v; simp at h
  | succ m ih =>
    intro v most hv hsm
    obtain ⟨_, hll, hfl, hsl, hsf⟩ := Val.sm_iff.1 hsm
    have hvl := valsD_length v.l
    have hfl' := fldsD_length v.f
    generalize hR : wtV most v = R
    rw [wtV_eq] at hR
    rw [Val.d_eq]
    refine lift_foliowrightlaw_weight.call rfl ?_
    simp (maxSteps := 2000000) only [go_sem, ↓reduceIte, L_foliowrightlaw_weight, R_foliowrightlaw_weight]
    generalize IntKind.i64.wrap (1 + (v.s.length : Int)) = n0 at hR ⊢
    refine run_loop (fun y : Nat × Int => ⟨[(1, .d (.int .i64 most)), (2, .ptr (.l 2) 0), (5, .d (.int .i64 y.2)), (6, .d (.int .i64 y.1))],
        [(2, .cells [.d (.int .i64 v.kind), .d (.int .i64 v.n), .d (.str v.s), .d (.list (valsD v.l)), .d (.list (fldsD v.f))])], []⟩) (fun y => y.1 ≤ v.l.length ∧ wtF most v.f (wtL most (v.l.drop y.1) y.2) = R) (fun y => v.l.length - y.1) (0, n0) ?_ ⟨by simp, hR⟩ ?_
    · refine Weak.mk ?_ ?_ ?_ <;> simp (maxSteps := 2000000) only [go_sem, ↓reduceIte, Sub, Int.natCast_add, Int.natCast_mul]
    · rintro ⟨i, n⟩ ⟨hi, hF⟩
      simp only at hi hF
      simp (maxSteps := 2000000) only [go_sem, ↓reduceIte, hvl]
      refine ⟨fun hlt => ⟨fun hle => ?_, fun hgt => ?_⟩, fun hge => ?_⟩
      · obtain ⟨x, hx⟩ := get_some (l := v.l) (i := i) (by omega)
        have hm := List.mem_of_getElem? hx
        have hc := ih x most (by have := size_l hm; omega) (hsl x hm)
        rw [Val.d_eq x] at hc
        rw [drop_at hx, wtL, if_pos hle] at hF
        simp (maxSteps := 2000000) (disch := omega) only [go_sem, ↓reduceIte, getI_nat, valsD_get, hx, Val.d_eq]
        first | refine CallG.of hc ?_ | refine CallD.of hc ?_
        simp (maxSteps := 2000000) (disch := omega) only [go_sem, ↓reduceIte]
        refine ⟨(i + 1, IntKind.i64.wrap (n + wtV most x)), ?_, ⟨by simp only; omega, hF⟩, by simp only; omega⟩
        refine Weak.mk ?_ ?_ ?_ <;> simp (maxSteps := 2000000) only [go_sem, ↓reduceIte, Sub, Int.natCast_add, Int.natCast_mul, hvl]
      · rw [wtL_stop hgt] at hF
        refine run_loop (fun y : Nat × Int => ⟨[(1, .d (.int .i64 most)), (2, .ptr (.l 2) 0), (5, .d (.int .i64 y.2)), (7, .d (.int .i64 y.1))],
            [(2, .cells [.d (.int .i64 v.kind), .d (.int .i64 v.n), .d (.str v.s), .d (.list (valsD v.l)), .d (.list (fldsD v.f))])], []⟩) (fun y => y.1 ≤ v.f.length ∧ wtF most (v.f.drop y.1) y.2 = R) (fun y => v.f.length - y.1) (0, n) ?_ ⟨by simp, hF⟩ ?_
        · refine Weak.mk ?_ ?_ ?_ <;> simp (maxSteps := 2000000) only [go_sem, ↓reduceIte, Sub, Int.natCast_add, Int.natCast_mul]
        · rintro ⟨j, n2⟩ ⟨hj, hG⟩
          simp only at hj hG
          simp (maxSteps := 2000000) only [go_sem, ↓reduceIte, hfl']
          refine ⟨fun hlt2 => ⟨fun hle2 => ?_, fun hgt2 => ?_⟩, fun hge2 => ?_⟩
          · obtain ⟨y, hy⟩ := get_some (l := v.f) (i := j) (by omega)
            have hm := List.mem_of_getElem? hy
            have hc := ih y.v most (by have := size_f hm; omega) (Fld.sm_iff.1 (hsf y hm)).2
            rw [Val.d_eq y.v] at hc
            rw [drop_at hy, wtF_cons, if_pos hle2] at hG
            simp (maxSteps := 2000000) (disch := omega) only [go_sem, ↓reduceIte, getI_nat, fldsD_get, hy, Fld.d_eq]
            refine CallD.of hc ?_
            simp (maxSteps := 2000000) (disch := omega) only [go_sem, ↓reduceIte, getI_nat, fldsD_get, hy, Fld.d_eq]
            refine ⟨(j + 1, IntKind.i64.wrap (IntKind.i64.wrap (n2 + (y.name.length : Int)) + wtV most y.v)), ?_, ⟨by simp only; omega, hG⟩, by simp only; omega⟩
            refine Weak.mk ?_ ?_ ?_ <;> simp (maxSteps := 2000000) only [go_sem, ↓reduceIte, Sub, Int.natCast_add, Int.natCast_mul]
          · rw [wtF_stop hgt2] at hG; rw [hG]
          · rw [List.drop_eq_nil_of_le (by omega), wtF] at hG; rw [hG]
      · rw [List.drop_eq_nil_of_le (by omega), wtL] at hF
        refine run_loop (fun y : Nat × Int => ⟨[(1, .d (.int .i64 most)), (2, .ptr (.l 2) 0), (5, .d (.int .i64 y.2)), (7, .d (.int .i64 y.1))],
            [(2, .cells [.d (.int .i64 v.kind), .d (.int .i64 v.n), .d (.str v.s), .d (.list (valsD v.l)), .d (.list (fldsD v.f))])], []⟩) (fun y => y.1 ≤ v.f.length ∧ wtF most (v.f.drop y.1) y.2 = R) (fun y => v.f.length - y.1) (0, n) ?_ ⟨by simp, hF⟩ ?_
        · refine Weak.mk ?_ ?_ ?_ <;> simp (maxSteps := 2000000) only [go_sem, ↓reduceIte, Sub, Int.natCast_add, Int.natCast_mul]
        · rintro ⟨j, n2⟩ ⟨hj, hG⟩
          simp only at hj hG
          simp (maxSteps := 2000000) only [go_sem, ↓reduceIte, hfl']
          refine ⟨fun hlt2 => ⟨fun hle2 => ?_, fun hgt2 => ?_⟩, fun hge2 => ?_⟩
          · obtain ⟨y, hy⟩ := get_some (l := v.f) (i := j) (by omega)
            have hm := List.mem_of_getElem? hy
            have hc := ih y.v most (by have := size_f hm; omega) (Fld.sm_iff.1 (hsf y hm)).2
            rw [Val.d_eq y.v] at hc
            rw [drop_at hy, wtF_cons, if_pos hle2] at hG
            simp (maxSteps := 2000000) (disch := omega) only [go_sem, ↓reduceIte, getI_nat, fldsD_get, hy, Fld.d_eq]
            refine CallD.of hc ?_
            simp (maxSteps := 2000000) (disch := omega) only [go_sem, ↓reduceIte, getI_nat, fldsD_get, hy, Fld.d_eq]
            refine ⟨(j + 1, IntKind.i64.wrap (IntKind.i64.wrap (n2 + (y.name.length : Int)) + wtV most y.v)), ?_, ⟨by simp only; omega, hG⟩, by simp only; omega⟩
            refine Weak.mk ?_ ?_ ?_ <;> simp (maxSteps := 2000000) only [go_sem, ↓reduceIte, Sub, Int.natCast_add, Int.natCast_mul]
          · rw [wtF_stop hgt2] at hG; rw [hG]
          · rw [List.drop_eq_nil_of_le (by omega), wtF] at hG; rw [hG]

/-- foliowrightlaw.LightValue -/
def L_foliowrightlaw_LightValue : LCode :=
  .seq (.reg [⟨some 1, .box (.t 0), none⟩, ⟨some 2, .asg (.k (.d (.bool false))), none⟩]) (.seq (.reg [⟨some 3, .val (.ld true 5 (.t 1)), none⟩, ⟨some 4, .call 17 [.t 3, .k (.d (.int 
  .i64 6000))], none⟩, ⟨some 5, .val (.bin .leq (.t 4) (.k (.d (.int .i64 6000)))), none⟩, ⟨some 2, .asg (.t 5), none⟩]) .ret)
def R_foliowrightlaw_LightValue : List LRes := [.tmp 2]
theorem lift_foliowrightlaw_LightValue : Lifts Tryz.prog 14 6 L_foliowrightlaw_LightValue R_foliowrightlaw_LightValue := ⟨_, _, Tryz.func14, rfl, by kernel_rfl, by kernel_rfl, rfl⟩

theorem light_call (v : Val) (hsm : v.sm 1048576 = true) : PCall Tryz.prog 14 [v.d] (fun r => r = .one (.bool (decide (wtV 6000 v ≤ 6000)))) := by
  have hc := weight_call _ v 6000 (Nat.le_refl _) hsm
  rw [Val.d_eq] at hc ⊢
  refine lift_foliowrightlaw_LightValue.call rfl ?_
  simp (maxSteps := 2000000) only [go_sem, ↓reduceIte, L_foliowrightlaw_LightValue, R_foliowrightlaw_LightValue]
  refine CallG.of hc ?_
  simp (maxSteps := 2000000) only [go_sem, ↓reduceIte]

end Go.Av.Tryz
set_option linter.unusedSimpArgs false
namespace Go.Av.Tryz
open Go.Proofs

theorem nameF_hex {c x y : UInt8} {r b : List UInt8} (h : c.toNat = 35) : nameF (c :: x :: y :: r) b = if hexI x.toNat < 0 ∨ hexI y.toNat < 0 then none else nameF r (b ++ [byteI (16 * hexI x.toNat + hexI y.toNat)]) := by
  rw [nameF, if_pos h]
theorem nameF_end {c : UInt8} {r b : List UInt8} (h : c.toNat = 35) (hr : r.length < 2) : nameF (c :: r) b = none := by
  match r, hr with
  | [], _ => rw [nameF, if_pos h]; intro x y q e; cases e
  | [x], _ => rw [nameF, if_pos h]; intro x y q e; cases e
theorem nameF_one {c : UInt8} {r b : List UInt8} (h : c.toNat ≠ 35) : nameF (c :: r) b = nameF r (b ++ [c]) := by
  match r with
  | [] => simp [nameF, h]
  | [x] => simp [nameF, h]
  | x :: y :: r => rw [nameF, if_neg h]
end Go.Av.Tryz
set_option linter.unusedSimpArgs false
namespace Go.Av.Tryz
open Go.Proofs

end Go.Av.Tryz
set_option linter.unusedSimpArgs false
namespace Go.Av.Tryz
open Go.Proofs

end Go.Av.Tryz
set_option linter.unusedSimpArgs false
namespace Go.Av.Tryz
open Go.Proofs

/-- A row of values that grows in a cell: nothing at first. -/
def lrow (r : Ref) (off : Nat) : List Val → AV
  | [] => .ns
  | x :: l => .own (.c r off) 41 5 (valsD (x :: l))
theorem lrow_cases (r : Ref) (off : Nat) (l : List Val) : (lrow r off l = .ns ∧ l = []) ∨ lrow r off l = .own (.c r off) 41 5 (valsD l) := by
  cases l with
  | nil => exact .inl ⟨rfl, rfl⟩
  | cons x l => exact .inr rfl
theorem lrow_snoc (r : Ref) (off : Nat) (l : List Val) (x : Val) : lrow r off (l ++ [x]) = .own (.c r off) 41 5 (valsD l ++ [x.d]) := by
  cases l with
  | nil => rfl
  | cons y l => simp [lrow, valsD, valsD_append]

end Go.Av.Tryz
set_option linter.unusedSimpArgs false
namespace Go.Av.Tryz
open Go.Proofs

/-- A dictionary that grows in a variable: nothing at first. -/
def dobj : List Fld → AObj
  | [] => .cells [.d (.int .i64 6), .d (.int .i64 0), .d (.str []), .ns, .ns]
  | x :: l => .cells [.d (.int .i64 6), .d (.int .i64 0), .d (.str []), .d (.list []), .d (.list (fldsD (x :: l)))]
theorem dobj_cases (l : List Fld) : (dobj l = .cells [.d (.int .i64 6), .d (.int .i64 0), .d (.str []), .ns, .ns] ∧ l = []) ∨ dobj l = .cells [.d (.int .i64 6), .d (.int .i64 0), .d (.str []), .d (.list []), .d (.list (fldsD l))] := by
  cases l with
  | nil => exact .inl ⟨rfl, rfl⟩
  | cons x l => exact .inr rfl
theorem dobj_ne {l : List Fld} (h : l ≠ []) : dobj l = .cells [.d (.int .i64 6), .d (.int .i64 0), .d (.str []), .d (.list []), .d (.list (fldsD l))] := by
  cases l with
  | nil => exact absurd rfl h
  | cons x l => rfl
theorem setF_ne (nm : List UInt8) (x : Val) (l : List Fld) (h : ∀ z ∈ l, z.name ≠ nm) : setF nm x l ≠ [] := fun e => by
  have := (setF_pt (nm := nm) (x := x) h).2
  rw [e] at this; simp at this

end Go.Av.Tryz
set_option linter.unusedSimpArgs false
namespace Go.Av.Tryz
open Go.Proofs

end Go.Av.Tryz
set_option linter.unusedSimpArgs false
namespace Go.Av.Tryz
open Go.Proofs

theorem kmk (k n : Int) (s : List UInt8) : (Val.mk k n s [] []).d = .agg [.int .i64 k, .int .i64 n, .str s, .list [], .list []] := by rw [mk_d]; rfl

end Go.Av.Tryz
