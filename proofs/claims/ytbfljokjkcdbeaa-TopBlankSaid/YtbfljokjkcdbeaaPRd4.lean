import Derived.Test.YtbfljokjkcdbeaaPRd3
/- The program's reader: references, words. -/
set_option linter.unusedSimpArgs false
namespace Go.Av.Try
open Go.Proofs

/-- What object tells of a word. -/
def objPost : Option Nat → Res → Prop
  | some n, r => r = .tup [.int .i64 n, .bool true]
  | none, r => ∃ n : Int, r = .tup [.int .i64 n, .bool false]

/-- parse.object -/
def L_parse_object : LCode :=
  .seq (.reg [⟨some 2, .asg (.k (.d (.int .i64 0))), none⟩, ⟨some 3, .asg (.k (.d (.bool false))), none⟩]) (.seq (.seq (.reg [⟨some 6, .val (.cp (.t 0)), none⟩, ⟨some 7, .val (.bin 
  .eql (.t 6) (.k (.d (.str [])))), none⟩, ⟨some 8, .val (.cp (.t 7)), none⟩, ⟨some 9, .val (.cp (.t 0)), some (8, false)⟩, ⟨some 10, .val (.len true (.t 9)), some (8, false)⟩, 
  ⟨some 11, .val (.bin .gtr (.t 10) (.k (.d (.int .i64 2)))), some (8, false)⟩, ⟨some 12, .val (.pick (.t 8) (.k (.d (.bool true))) (.t 11)), none⟩, ⟨some 13, .val (.cp (.t 12)), 
  none⟩, ⟨some 14, .val (.cp (.t 0)), some (13, false)⟩, ⟨some 15, .val (.idxS (.t 14) (.k (.d (.int .i64 0)))), some (13, false)⟩, ⟨some 16, .val (.bin .eql (.t 15) (.k (.d (.int 
  .u8 48)))), some (13, false)⟩, ⟨some 17, .val (.pick (.t 13) (.k (.d (.bool true))) (.t 16)), none⟩]) (.cond (.t 17) (.seq (.reg [⟨some 2, .asg (.k (.d (.int .i64 0))), none⟩, 
  ⟨some 3, .asg (.k (.d (.bool false))), none⟩]) .ret) .skip)) (.seq (.reg [⟨some 4, .asg (.k (.d (.int .i64 0))), none⟩]) (.seq (.seq (.reg [⟨some 18, .val (.cp (.t 0)), none⟩, 
  ⟨some 19, .val (.len true (.t 18)), none⟩, ⟨some 20, .val (.cp (.k (.d (.int .i64 0)))), none⟩]) (.block 0 (.loop (.seq (.reg [⟨some 21, .val (.bin .lss (.t 20) (.t 19)), none⟩]) 
  (.seq (.cond (.t 21) .skip (.exit 0)) (.seq (.block 1 (.seq (.reg [⟨some 22, .val (.cp (.t 20)), none⟩, ⟨some 5, .asg (.t 22), none⟩]) (.seq (.seq (.reg [⟨some 23, .val (.cp (.t 
  0)), none⟩, ⟨some 24, .val (.cp (.t 5)), none⟩, ⟨some 25, .val (.idxS (.t 23) (.t 24)), none⟩, ⟨some 26, .val (.bin .lss (.t 25) (.k (.d (.int .u8 48)))), none⟩, ⟨some 27, .val 
  (.cp (.t 26)), none⟩, ⟨some 28, .val (.cp (.t 0)), some (27, false)⟩, ⟨some 29, .val (.cp (.t 5)), some (27, false)⟩, ⟨some 30, .val (.idxS (.t 28) (.t 29)), some (27, false)⟩, 
  ⟨some 31, .val (.bin .gtr (.t 30) (.k (.d (.int .u8 57)))), some (27, false)⟩, ⟨some 32, .val (.pick (.t 27) (.k (.d (.bool true))) (.t 31)), none⟩]) (.cond (.t 32) (.seq (.reg 
  [⟨some 2, .asg (.k (.d (.int .i64 0))), none⟩, ⟨some 3, .asg (.k (.d (.bool false))), none⟩]) .ret) .skip)) (.reg [⟨some 33, .val (.cp (.t 4)), none⟩, ⟨some 34, .val (.bin .mul 
  (.k (.d (.int .i64 10))) (.t 33)), none⟩, ⟨some 35, .val (.cp (.t 0)), none⟩, ⟨some 36, .val (.cp (.t 5)), none⟩, ⟨some 37, .val (.idxS (.t 35) (.t 36)), none⟩, ⟨some 38, .val 
  (.bin .sub (.t 37) (.k (.d (.int .u8 48)))), none⟩, ⟨some 39, .val (.cvI .i64 (.t 38)), none⟩, ⟨some 40, .val (.bin .add (.t 34) (.t 39)), none⟩, ⟨some 4, .asg (.t 40), 
  none⟩])))) (.reg [⟨some 41, .val (.bin .add (.t 20) (.k (.d (.int .i64 1)))), none⟩, ⟨some 20, .val (.cp (.t 41)), none⟩]))))))) (.seq (.reg [⟨some 42, .val (.cp (.t 4)), none⟩, 
  ⟨some 43, .val (.cp (.t 4)), none⟩, ⟨some 44, .val (.bin .leq (.t 43) (.k (.d (.int .i64 60)))), none⟩, ⟨some 2, .asg (.t 42), none⟩, ⟨some 3, .asg (.t 44), none⟩]) .ret))))
def R_parse_object : List LRes := [.tmp 2, .tmp 3]
theorem lift_parse_object : Lifts Try.prog 105 45 L_parse_object R_parse_object := ⟨_, _, Try.func105, rfl, by kernel_rfl, by kernel_rfl, rfl⟩

theorem object_call (w : List UInt8) (hw : w.length ≤ 60000) : PCall Try.prog 105 [.str w] (objPost (objF w)) := by
  generalize hR : objF w = R
  have bad : R = none → ∀ n : Int, objPost R (.tup [.int .i64 n, .bool false]) := fun e n => by subst e; exact ⟨n, rfl⟩
  refine lift_parse_object.call rfl ?_
  simp (maxSteps := 2000000) only [go_sem, ↓reduceIte, L_parse_object, R_parse_object]
  refine ⟨fun h1 => ⟨fun h2 => ?_, fun h2 => bad (by rw [← hR, objF, if_pos (by omega)]) 0⟩, fun h1 => bad (by rw [← hR, objF, if_pos (by rw [h1]; simp)]) 0⟩
  have hlen : 1 ≤ w.length := by cases w with | nil => exact absurd rfl h1 | cons a r => simp
  obtain ⟨c0, hc0⟩ := get_some (l := w) (i := 0) (by omega)
  have g0 : getI w 0 = some c0 := by rw [← hc0]; exact getI_nat w 0
  have hd0 : w.head? = some c0 := by rw [← hc0]; cases w <;> rfl
  simp (maxSteps := 2000000) only [go_sem, ↓reduceIte, g0]
  refine ⟨fun h3 => bad (by rw [← hR, objF, if_pos (.inr (.inr (by rw [hd0]; simp; omega)))]) 0, fun h3 => ?_⟩
  have ho : objF w = match digF w 0 with
    | none => none
    | some n => if n ≤ 60 then some n else none := by rw [objF, if_neg (by rw [hd0]; simp only [Option.map_some, Option.some.injEq]; omega)]; rfl
  rw [ho] at hR
  refine run_loop (fun y : Nat × Nat => ⟨[(0, .d (.str w)), (4, .d (.int .i64 y.2)), (19, .d (.int .i64 w.length)), (20, .d (.int .i64 y.1))], [], []⟩)
    (fun y => y.1 ≤ w.length ∧ (y.1 = 0 → y.2 = 0) ∧ (y.1 = 1 → y.2 ≤ 9) ∧ y.2 ≤ 99 ∧ digF (w.drop y.1) y.2 = digF w 0) (fun y => w.length - y.1) (0, 0) ?_ ?_ ?_
  · refine weak_mk ?_ trivial
    simp (maxSteps := 2000000) only [go_sem, ↓reduceIte, Sub, Int.natCast_add, Int.natCast_mul]
  · exact ⟨by simp, by simp, by simp, by simp, rfl⟩
  · rintro ⟨i, n⟩ ⟨hi, hn0, hn1, hn2, hF⟩
    simp only at hi hn0 hn1 hn2 hF
    simp (maxSteps := 2000000) only [go_sem, ↓reduceIte]
    refine ⟨fun hlt => ?_, fun hge => ?_⟩
    · obtain ⟨c, hc⟩ := get_some (l := w) (i := i) (by omega)
      have hc8 := u8_lt c
      rw [drop_at hc, digF] at hF
      have nodig : (c.toNat < 48 ∨ 57 < c.toNat) → R = none := fun h => by
        rw [if_pos h] at hF
        rw [← hF] at hR
        exact hR.symm
      simp (maxSteps := 2000000) only [go_sem, ↓reduceIte, getI_nat, hc]
      refine ⟨fun h4 => ⟨fun h5 => bad (nodig (by omega)) 0, fun h5 => ?_⟩, fun h4 => bad (nodig (by omega)) 0⟩
      simp (maxSteps := 2000000) (disch := omega) only [go_sem, ↓reduceIte, getI_nat, hc]
      rw [if_neg (by omega)] at hF
      refine ⟨(i + 1, 10 * n + (c.toNat - 48)), ?_, ⟨by simp only; omega, by simp only; omega, by simp only; omega, by simp only; omega, hF⟩, by simp only; omega⟩
      have zz : decide (57 < (c.toNat : Int)) = false := by simpa using h5
      refine weak_mk ?_ trivial
      simp (maxSteps := 2000000) only [go_sem, ↓reduceIte, Sub, Int.natCast_add, Int.natCast_mul, zz]
      all_goals ((repeat' apply And.intro) <;> (congr 2 <;> omega))
    · rw [List.drop_eq_nil_of_le (by omega), digF] at hF
      rw [← hF] at hR
      simp only at hR
      by_cases h6 : n ≤ 60
      · rw [if_pos h6] at hR
        subst hR
        have z : ((n : Int) ≤ 60) = True := by simp only [eq_iff_iff, iff_true]; omega
        simp (maxSteps := 2000000) only [go_sem, ↓reduceIte, z]
        rfl
      · rw [if_neg h6] at hR
        have z : ((n : Int) ≤ 60) = False := by simp only [eq_iff_iff, iff_false]; omega
        simp (maxSteps := 2000000) only [go_sem, ↓reduceIte, z]
        exact bad hR.symm _

def refPost (s : List UInt8) (k : Nat) : Option (Nat × Nat) → AV → List AObj → Prop
  | some (n, k'), r, hs => r = .tuple [.d (.int .i64 n), .d (.bool true)] ∧ hs = [robj s k' 0]
  | none, r, hs => ∃ n : Int, r = .tuple [.d (.int .i64 n), .d (.bool false)] ∧ hs = [robj s k 0]

/-- (*parse.reader).ref -/
def L___parse_reader__ref : LCode :=
  .seq (.reg [⟨some 2, .asg (.k (.d (.int .i64 0))), none⟩, ⟨some 3, .asg (.k (.d (.bool false))), none⟩]) (.seq (.dreg [⟨some 8, .val (.cp (.t 0)), none⟩, ⟨some 9, .val (.nck (.t 
  8)), none⟩, ⟨some 10, .val (.fa 0 (.t 9)), none⟩, ⟨some 11, .val (.ld false 1 (.t 10)), none⟩, ⟨some 12, .val (.cp (.t 0)), none⟩, ⟨some 13, .val (.nck (.t 12)), none⟩, ⟨some 14, 
  .val (.fa 1 (.t 13)), none⟩, ⟨some 15, .val (.ld false 1 (.t 14)), none⟩, ⟨some 16, .call 25 [.t 11, .t 15], none⟩, ⟨some 4, .asg (.t 16), none⟩]) (.seq (.reg [⟨some 18, .val 
  (.cp (.t 4)), none⟩, ⟨some 19, .call 105 [.t 18], none⟩, ⟨some 17, .val (.cp (.t 19)), none⟩, ⟨some 20, .val (.ext 0 (.t 17)), none⟩, ⟨some 21, .val (.ext 1 (.t 17)), none⟩, 
  ⟨some 5, .asg (.t 20), none⟩, ⟨some 6, .asg (.t 21), none⟩]) (.seq (.dreg [⟨some 22, .val (.cp (.t 0)), none⟩, ⟨some 23, .val (.nck (.t 22)), none⟩, ⟨some 24, .val (.fa 0 (.t 
  23)), none⟩, ⟨some 25, .val (.ld false 1 (.t 24)), none⟩, ⟨some 26, .val (.cp (.t 0)), none⟩, ⟨some 27, .val (.nck (.t 26)), none⟩, ⟨some 28, .val (.fa 1 (.t 27)), none⟩, ⟨some 
  29, .val (.ld false 1 (.t 28)), none⟩, ⟨some 30, .val (.cp (.t 4)), none⟩, ⟨some 31, .val (.len true (.t 30)), none⟩, ⟨some 32, .val (.bin .add (.t 29) (.t 31)), none⟩, ⟨some 33, 
  .call 23 [.t 25, .t 32], none⟩, ⟨some 7, .asg (.t 33), none⟩]) (.seq (.seq (.reg [⟨some 34, .val (.cp (.t 6)), none⟩, ⟨some 35, .val (.not (.t 34)), none⟩, ⟨some 36, .val (.cp 
  (.t 35)), none⟩, ⟨some 37, .val (.cp (.t 0)), some (36, false)⟩, ⟨some 38, .val (.nck (.t 37)), some (36, false)⟩, ⟨some 39, .val (.fa 0 (.t 38)), some (36, false)⟩, ⟨some 40, 
  .val (.ld false 1 (.t 39)), some (36, false)⟩, ⟨some 41, .val (.cp (.t 7)), some (36, false)⟩, ⟨some 42, .call 25 [.t 40, .t 41], some (36, false)⟩, ⟨some 43, .val (.bin .neq (.t 
  42) (.k (.d (.str [48])))), some (36, false)⟩, ⟨some 44, .val (.pick (.t 36) (.k (.d (.bool true))) (.t 43)), none⟩]) (.cond (.t 44) (.seq (.reg [⟨some 2, .asg (.k (.d (.int .i64 
  0))), none⟩, ⟨some 3, .asg (.k (.d (.bool false))), none⟩]) .ret) .skip)) (.seq (.reg [⟨some 45, .val (.cp (.t 0)), none⟩, ⟨some 46, .val (.nck (.t 45)), none⟩, ⟨some 47, .val 
  (.fa 0 (.t 46)), none⟩, ⟨some 48, .val (.ld false 1 (.t 47)), none⟩, ⟨some 49, .val (.cp (.t 7)), none⟩, ⟨some 50, .val (.bin .add (.t 49) (.k (.d (.int .i64 1)))), none⟩, ⟨some 
  51, .call 23 [.t 48, .t 50], none⟩, ⟨some 7, .asg (.t 51), none⟩]) (.seq (.seq (.reg [⟨some 52, .val (.cp (.t 0)), none⟩, ⟨some 53, .val (.nck (.t 52)), none⟩, ⟨some 54, .val 
  (.fa 0 (.t 53)), none⟩, ⟨some 55, .val (.ld false 1 (.t 54)), none⟩, ⟨some 56, .val (.cp (.t 7)), none⟩, ⟨some 57, .call 25 [.t 55, .t 56], none⟩, ⟨some 58, .val (.bin .neq (.t 
  57) (.k (.d (.str [82])))), none⟩]) (.cond (.t 58) (.seq (.reg [⟨some 2, .asg (.k (.d (.int .i64 0))), none⟩, ⟨some 3, .asg (.k (.d (.bool false))), none⟩]) .ret) .skip)) (.seq 
  (.reg [⟨some 59, .val (.cp (.t 0)), none⟩, ⟨some 60, .val (.cp (.t 7)), none⟩, ⟨some 61, .val (.bin .add (.t 60) (.k (.d (.int .i64 1)))), none⟩, ⟨some 62, .val (.nck (.t 59)), 
  none⟩, ⟨some 63, .val (.fa 1 (.t 62)), none⟩, ⟨none, .st 1 (.t 63) (.t 61), none⟩]) (.seq (.reg [⟨some 64, .val (.cp (.t 5)), none⟩, ⟨some 2, .asg (.t 64), none⟩, ⟨some 3, .asg 
  (.k (.d (.bool true))), none⟩]) .ret))))))))
def R___parse_reader__ref : List LRes := [.tmp 2, .tmp 3]
theorem lift___parse_reader__ref : Lifts Try.prog 86 65 L___parse_reader__ref R___parse_reader__ref := ⟨_, _, Try.func86, rfl, by kernel_rfl, by kernel_rfl, rfl⟩

theorem refP_call (s : List UInt8) (k : Nat) (hs : s.length ≤ 60000) (hk : k ≤ s.length) : MCall Try.prog 86 [.ptr (.x 0) 0] [robj s k 0] (refPost s k (refAt s k)) := by
  have hwl := wordP_len s k
  generalize hR : refAt s k = R
  unfold refAt at hR
  have hw := word_call s ((k : Nat) : Int) (by omega)
  rw [clamp_in hk] at hw
  generalize wordP s k = w at *
  have hob := object_call w (by omega)
  have bad : R = none → ∀ n : Int, refPost s k R (.tuple [.d (.int .i64 n), .d (.bool false)]) [robj s k 0] := fun e n => by rw [e]; exact ⟨n, rfl, rfl⟩
  have hw1 := skip_call s ((k : Int) + (w.length : Int)) (by omega)
  have hcl : clampP s ((k : Int) + (w.length : Int)) = k + w.length := by rw [show (k : Int) + (w.length : Int) = ((k + w.length : Nat) : Int) by omega, clamp_in (by omega)]
  rw [hcl] at hw1
  have hi1 := skipP_le (s := s) (k := k + w.length) (by omega)
  rw [robj_0]
  refine lift___parse_reader__ref.mcall (by kernel_rfl) rfl ?_
  simp (maxSteps := 2000000) only [go_sem, ↓reduceIte, L___parse_reader__ref, R___parse_reader__ref]
  refine CallD.of hw ?_
  simp (maxSteps := 2000000) only [go_sem, ↓reduceIte]
  refine CallG.post hob (fun r hr => ?_)
  cases ho : objF w with
  | none =>
    rw [ho] at hr hR
    obtain ⟨n, rfl⟩ := hr
    simp (maxSteps := 2000000) (disch := omega) only [go_sem, ↓reduceIte]
    refine CallD.of hw1 ?_
    simp (maxSteps := 2000000) only [go_sem, ↓reduceIte]
    exact bad hR.symm 0
  | some n =>
    rw [ho] at hr hR
    simp only [objPost] at hr
    subst hr
    simp (maxSteps := 2000000) (disch := omega) only [go_sem, ↓reduceIte]
    refine CallD.of hw1 ?_
    simp only at hR
    generalize skipP s (k + w.length) = q at *
    have hw2 := word_call s ((q : Nat) : Int) (by omega)
    rw [clamp_in (by omega)] at hw2
    simp (maxSteps := 2000000) only [go_sem, ↓reduceIte]
    refine CallG.of hw2 ?_
    simp (maxSteps := 2000000) only [go_sem, ↓reduceIte]
    refine ⟨fun h5 => bad (by rw [← hR, if_neg h5]) 0, fun h5 => ?_⟩
    rw [if_pos h5] at hR
    have hql : q < s.length := by
      rcases Nat.lt_or_ge q s.length with h | h
      · exact h
      · unfold wordP at h5; rw [List.drop_eq_nil_of_le h] at h5; cases h5
    have hw3 := skip_call s ((q : Int) + 1) (by omega)
    rw [show clampP s ((q : Int) + 1) = q + 1 by rw [show (q : Int) + 1 = ((q + 1 : Nat) : Int) by omega, clamp_in (by omega)]] at hw3
    have hj1 := skipP_le (s := s) (k := q + 1) (by omega)
    generalize skipP s (q + 1) = j at *
    have hw4 := word_call s ((j : Nat) : Int) (by omega)
    rw [clamp_in (by omega)] at hw4
    rw [IntWalk.i64_in _ (by omega)]
    refine CallG.of hw3 ?_
    simp (maxSteps := 2000000) only [go_sem, ↓reduceIte]
    refine CallG.of hw4 ?_
    simp (maxSteps := 2000000) only [go_sem, ↓reduceIte]
    refine ⟨fun h6 => bad (by rw [← hR, if_neg h6]) 0, fun h6 => ?_⟩
    rw [if_pos h6] at hR
    simp (disch := omega) only [IntWalk.i64_in, IntWalk.u8_in]
    subst hR
    exact ⟨rfl, by simp only [robj, Int.natCast_add, Int.natCast_one]; rfl⟩

/-! ### Words -/
/-- What a step of the reader leaves: a value, or what is wrong. -/
def rdPost (s : List UInt8) : RV → AV → List AObj → Prop
  | .ok v k, r, hs => r = .d v.d ∧ hs = [robj s k 0]
  | .bad e, r, hs => ∃ (v : Val) (k : Int), r = .d v.d ∧ hs = [robj s k e]
theorem rdPost_ok {s : List UInt8} {v : Val} {k : Nat} {R : RV} (h : R = .ok v k) : rdPost s R (.d v.d) [robj s k 0] := by subst h; exact ⟨rfl, rfl⟩
theorem rdPost_bad {s : List UInt8} {e : Nat} (v : Val) (k : Int) {R : RV} (h : R = .bad e) : rdPost s R (.d v.d) [robj s k e] := by subst h; exact ⟨v, k, rfl, rfl⟩

/-- (*parse.reader).word -/
def L___parse_reader__word : LCode :=
  .seq (.reg [⟨some 2, .allo [.int .i64 0, .int .i64 0, .str [], .list [], .list []], none⟩]) (.seq (.dreg [⟨some 8, .val (.cp (.t 0)), none⟩, ⟨some 9, .val (.nck (.t 8)), none⟩, 
  ⟨some 10, .val (.fa 0 (.t 9)), none⟩, ⟨some 11, .val (.ld false 1 (.t 10)), none⟩, ⟨some 12, .val (.cp (.t 0)), none⟩, ⟨some 13, .val (.nck (.t 12)), none⟩, ⟨some 14, .val (.fa 1 
  (.t 13)), none⟩, ⟨some 15, .val (.ld false 1 (.t 14)), none⟩, ⟨some 16, .call 25 [.t 11, .t 15], none⟩, ⟨some 3, .asg (.t 16), none⟩]) (.seq (.seq (.reg [⟨some 17, .val (.cp (.t 
  3)), none⟩]) (.block 0 (.seq (.reg [⟨some 19, .val (.bin .eql (.t 17) (.k (.d (.str [110, 117, 108, 108])))), none⟩, ⟨some 18, .asg (.t 19), none⟩]) (.cond (.t 18) (.seq (.reg 
  [⟨some 20, .val (.cp (.t 0)), none⟩, ⟨some 21, .val (.nck (.t 20)), none⟩, ⟨some 22, .val (.fa 1 (.t 21)), none⟩, ⟨some 23, .val (.ld false 1 (.t 22)), none⟩, ⟨some 24, .val 
  (.bin .add (.t 23) (.k (.d (.int .i64 4)))), none⟩, ⟨some 25, .val (.nck (.t 20)), none⟩, ⟨some 26, .val (.fa 1 (.t 25)), none⟩, ⟨none, .st 1 (.t 26) (.t 24), none⟩]) (.seq (.reg 
  [⟨some 27, .val (.bld [(0, 1), (1, 1), (2, 1), (3, 1), (4, 1)] [.int .i64 0, .int .i64 0, .str [], .list [], .list []] [] []), none⟩, ⟨none, .st 5 (.t 2) (.t 27), none⟩]) .ret)) 
  (.seq (.reg [⟨some 29, .val (.bin .eql (.t 17) (.k (.d (.str [116, 114, 117, 101])))), none⟩, ⟨some 28, .asg (.t 29), none⟩]) (.cond (.t 28) (.seq (.reg [⟨some 30, .val (.cp (.t 
  0)), none⟩, ⟨some 31, .val (.nck (.t 30)), none⟩, ⟨some 32, .val (.fa 1 (.t 31)), none⟩, ⟨some 33, .val (.ld false 1 (.t 32)), none⟩, ⟨some 34, .val (.bin .add (.t 33) (.k (.d 
  (.int .i64 4)))), none⟩, ⟨some 35, .val (.nck (.t 30)), none⟩, ⟨some 36, .val (.fa 1 (.t 35)), none⟩, ⟨none, .st 1 (.t 36) (.t 34), none⟩]) (.seq (.reg [⟨some 37, .val (.bld [(0, 
  1), (1, 1), (2, 1), (3, 1), (4, 1)] [.int .i64 0, .int .i64 0, .str [], .list [], .list []] [false, false, false, true, true] [(0, .k (.d (.int .i64 1))), (1, .k (.d (.int .i64 
  1)))]), none⟩, ⟨none, .st 5 (.t 2) (.t 37), none⟩]) .ret)) (.seq (.reg [⟨some 39, .val (.bin .eql (.t 17) (.k (.d (.str [102, 97, 108, 115, 101])))), none⟩, ⟨some 38, .asg (.t 
  39), none⟩]) (.cond (.t 38) (.seq (.reg [⟨some 40, .val (.cp (.t 0)), none⟩, ⟨some 41, .val (.nck (.t 40)), none⟩, ⟨some 42, .val (.fa 1 (.t 41)), none⟩, ⟨some 43, .val (.ld 
  false 1 (.t 42)), none⟩, ⟨some 44, .val (.bin .add (.t 43) (.k (.d (.int .i64 5)))), none⟩, ⟨some 45, .val (.nck (.t 40)), none⟩, ⟨some 46, .val (.fa 1 (.t 45)), none⟩, ⟨none, 
  .st 1 (.t 46) (.t 44), none⟩]) (.seq (.reg [⟨some 47, .val (.bld [(0, 1), (1, 1), (2, 1), (3, 1), (4, 1)] [.int .i64 0, .int .i64 0, .str [], .list [], .list []] [false, false, 
  false, true, true] [(0, .k (.d (.int .i64 1)))]), none⟩, ⟨none, .st 5 (.t 2) (.t 47), none⟩]) .ret)) .skip)))))))) (.seq (.reg [⟨some 49, .val (.cp (.t 0)), none⟩, ⟨some 50, 
  .prim .call [.k (.fn (.func 86) [] []), .t 49] [], none⟩, ⟨some 48, .val (.cp (.t 50)), none⟩, ⟨some 51, .val (.ext 0 (.t 48)), none⟩, ⟨some 52, .val (.ext 1 (.t 48)), none⟩, 
  ⟨some 4, .asg (.t 51), none⟩, ⟨some 5, .asg (.t 52), none⟩]) (.seq (.seq (.reg [⟨some 53, .val (.cp (.t 5)), none⟩]) (.cond (.t 53) (.seq (.reg [⟨some 54, .val (.cp (.t 4)), 
  none⟩, ⟨some 55, .val (.bld [(0, 1), (1, 1), (2, 1), (3, 1), (4, 1)] [.int .i64 0, .int .i64 0, .str [], .list [], .list []] [false, false, false, true, true] [(0, .k (.d (.int 
  .i64 7))), (1, .t 54)]), none⟩, ⟨none, .st 5 (.t 2) (.t 55), none⟩]) .ret) .skip)) (.seq (.reg [⟨some 57, .val (.cp (.t 3)), none⟩, ⟨some 58, .call 87 [.t 57], none⟩, ⟨some 56, 
  .val (.cp (.t 58)), none⟩, ⟨some 59, .val (.ext 0 (.t 56)), none⟩, ⟨some 60, .val (.ext 1 (.t 56)), none⟩, ⟨some 6, .asg (.t 59), none⟩, ⟨some 7, .asg (.t 60), none⟩]) (.seq 
  (.seq (.reg [⟨some 61, .val (.cp (.t 7)), none⟩, ⟨some 62, .val (.eqN 0 true (.t 61)), none⟩]) (.cond (.t 62) (.seq (.reg [⟨some 63, .val (.cp (.t 0)), none⟩, ⟨some 64, .val (.cp 
  (.t 7)), none⟩, ⟨some 65, .prim .call [.k (.fn (.func 40) [] []), .t 63, .t 64] [], none⟩]) (.seq (.reg [⟨some 66, .val (.bld [(0, 1), (1, 1), (2, 1), (3, 1), (4, 1)] [.int .i64 
  0, .int .i64 0, .str [], .list [], .list []] [] []), none⟩, ⟨none, .st 5 (.t 2) (.t 66), none⟩]) .ret)) .skip)) (.seq (.reg [⟨some 67, .val (.cp (.t 0)), none⟩, ⟨some 68, .val 
  (.nck (.t 67)), none⟩, ⟨some 69, .val (.fa 1 (.t 68)), none⟩, ⟨some 70, .val (.ld false 1 (.t 69)), none⟩, ⟨some 71, .val (.cp (.t 3)), none⟩, ⟨some 72, .val (.len true (.t 71)), 
  none⟩, ⟨some 73, .val (.bin .add (.t 70) (.t 72)), none⟩, ⟨some 74, .val (.nck (.t 67)), none⟩, ⟨some 75, .val (.fa 1 (.t 74)), none⟩, ⟨none, .st 1 (.t 75) (.t 73), none⟩]) (.seq 
  (.reg [⟨some 76, .val (.cp (.t 6)), none⟩, ⟨some 77, .val (.bld [(0, 1), (1, 1), (2, 1), (3, 1), (4, 1)] [.int .i64 0, .int .i64 0, .str [], .list [], .list []] [false, false, 
  false, true, true] [(0, .k (.d (.int .i64 2))), (1, .t 76)]), none⟩, ⟨none, .st 5 (.t 2) (.t 77), none⟩]) .ret))))))))
def R___parse_reader__word : List LRes := [.cell 2 true 5]
theorem lift___parse_reader__word : Lifts Try.prog 63 78 L___parse_reader__word R___parse_reader__word := ⟨_, _, Try.func63, rfl, by kernel_rfl, by kernel_rfl, rfl⟩

theorem wordV_call (s : List UInt8) (k : Nat) (hs : s.length ≤ 60000) (hk : k ≤ s.length) : MCall Try.prog 63 [.ptr (.x 0) 0] [robj s k 0] (rdPost s (wordV s k)) := by
  have hwl := wordP_len s k
  generalize hR : wordV s k = R
  unfold wordV at hR
  have hw := word_call s ((k : Nat) : Int) (by omega)
  rw [clamp_in hk] at hw
  have hrf := refP_call s k hs hk
  have hfx := parse_call (wordP s k) (by omega)
  have good : ∀ (a b : Int) (t : List UInt8) (m : Int), R = .ok (Val.mk a b t [] []) m.toNat → 0 ≤ m → rdPost s R (.d (.agg [.int .i64 a, .int .i64 b, .str t, .list [], .list []])) [.cells [.d (.str s), .d (.int .i64 m), .d .nil]] := fun a b t m he hm => by
    have := rdPost_ok (s := s) he
    rwa [kmk, robj_0, show ((m.toNat : Nat) : Int) = m by omega] at this
  generalize wordP s k = w at *
  rw [robj_0] at hrf ⊢
  refine lift___parse_reader__word.mcall (by kernel_rfl) rfl ?_
  simp (maxSteps := 2000000) only [go_sem, ↓reduceIte, L___parse_reader__word, R___parse_reader__word]
  refine CallD.of hw ?_
  simp (maxSteps := 2000000) (disch := omega) only [go_sem, ↓reduceIte]
  refine ⟨fun w1 => ?_, fun w1 => ⟨fun w2 => ?_, fun w2 => ⟨fun w3 => ?_, fun w3 => ?_⟩⟩⟩
  · rw [if_pos w1] at hR
    exact good 0 0 [] (k + 4) (by rw [← hR]; congr 1) (by omega)
  · rw [if_neg w1, if_pos w2] at hR
    exact good 1 1 [] (k + 4) (by rw [← hR]; congr 1) (by omega)
  · rw [if_neg w1, if_neg w2, if_pos w3] at hR
    exact good 1 0 [] (k + 5) (by rw [← hR]; congr 1) (by omega)
  · rw [if_neg w1, if_neg w2, if_neg w3] at hR
    refine PrimG.mpost ([.x 0]) ([]) rfl (hrf) rfl rfl (by simp only [objsAt, St.obj, aget, AObj.ren, AV.ren, AV.ren1, renL, ren1L, renR, renQ, List.getD_cons_zero, List.getD_cons_succ, and_true, and_self, Nat.reduceEqDiff, ↓reduceIte, reduceCtorEq]) rfl rfl rfl (fun r hs' hr => ?_)
    cases hra : refAt s k with
    | some p =>
      obtain ⟨n, kn⟩ := p
      rw [hra] at hR hr
      obtain ⟨rfl, rfl⟩ := hr
      refine ⟨⟨rfl, rfl⟩, ?_⟩
      simp (maxSteps := 2000000) only [go_sem, ↓reduceIte, robj, errD]
      exact good 7 n [] kn (by rw [← hR]; rfl) (by omega)
    | none =>
      rw [hra] at hR hr
      obtain ⟨n, rfl, rfl⟩ := hr
      refine ⟨⟨rfl, rfl⟩, ?_⟩
      simp (maxSteps := 2000000) only [go_sem, ↓reduceIte, robj, errD]
      refine CallG.of hfx ?_
      simp only [resP]
      generalize parseF w = F at hR
      obtain ⟨fn, fc⟩ := F
      simp only at hR
      by_cases f0 : fc = 0
      · subst f0
        rw [if_pos rfl] at hR
        rw [show errD 0 = .nil from rfl]
        simp (maxSteps := 2000000) (disch := omega) only [go_sem, ↓reduceIte]
        exact good 2 fn [] _ (by rw [← hR]; congr 1) (by omega)
      · rw [if_neg f0] at hR
        rw [errD_ne f0]
        have hf := fail_0 s (k : Int) fc
        rw [robj_0, errD_ne f0] at hf
        simp (maxSteps := 2000000) only [go_sem, ↓reduceIte]
        refine PrimG.mcall ([.x 0]) ([]) rfl (hf) rfl rfl (by simp only [objsAt, St.obj, aget, AObj.ren, AV.ren, AV.ren1, renL, ren1L, renR, renQ, List.getD_cons_zero, List.getD_cons_succ, and_true, and_self, Nat.reduceEqDiff, ↓reduceIte, reduceCtorEq]) rfl rfl rfl ⟨rfl, rfl⟩ ?_
        simp (maxSteps := 2000000) only [go_sem, ↓reduceIte, robj]
        have := rdPost_bad (s := s) zeroV (k : Int) hR.symm
        rwa [Val.d_eq] at this
end Go.Av.Try
