import Derived.Test.YtbfljokjkcdbeaaPLitR
/- The document's references, walked. -/
set_option linter.unusedSimpArgs false
namespace Go.Av.Try
open Go.Proofs

def refRes (o : Option (Nat × Nat)) : Res := match o with
  | none => .tup [.int .i64 0, .int .i64 0]
  | some (n, k) => .tup [.int .i64 n, .int .i64 k]

/-- foliowrightref.readRef -/
def L_foliowrightref_readRef : LCode :=
  .seq (.reg [⟨some 6, .asg (.k (.d (.int .i64 0))), none⟩, ⟨some 7, .asg (.k (.d (.int .i64 0))), none⟩]) (.seq (.reg [⟨some 8, .asg (.k (.d (.int .i64 0))), none⟩]) (.seq (.seq 
  (.reg [⟨some 11, .val (.cp (.t 1)), none⟩, ⟨some 12, .val (.len true (.t 11)), none⟩, ⟨some 13, .val (.bin .lss (.t 12) (.k (.d (.int .i64 1)))), none⟩, ⟨some 14, .val (.cp (.t 
  13)), none⟩, ⟨some 15, .val (.cp (.t 1)), some (14, false)⟩, ⟨some 16, .val (.len true (.t 15)), some (14, false)⟩, ⟨some 17, .val (.bin .gtr (.t 16) (.k (.d (.int .i64 2)))), 
  some (14, false)⟩, ⟨some 18, .val (.pick (.t 14) (.k (.d (.bool true))) (.t 17)), none⟩, ⟨some 19, .val (.cp (.t 18)), none⟩, ⟨some 20, .val (.cp (.t 1)), some (19, false)⟩, 
  ⟨some 21, .val (.idxS (.t 20) (.k (.d (.int .i64 0)))), some (19, false)⟩, ⟨some 22, .val (.bin .eql (.t 21) (.k (.d (.int .u8 48)))), some (19, false)⟩, ⟨some 23, .val (.pick 
  (.t 19) (.k (.d (.bool true))) (.t 22)), none⟩]) (.cond (.t 23) (.seq (.reg [⟨some 6, .asg (.k (.d (.int .i64 0))), none⟩, ⟨some 7, .asg (.k (.d (.int .i64 0))), none⟩]) .ret) 
  .skip)) (.seq (.seq (.reg [⟨some 9, .asg (.k (.d (.int .i64 0))), none⟩]) (.block 0 (.loop (.seq (.seq (.reg [⟨some 24, .val (.cp (.t 9)), none⟩, ⟨some 25, .val (.cp (.t 1)), 
  none⟩, ⟨some 26, .val (.len true (.t 25)), none⟩, ⟨some 27, .val (.bin .lss (.t 24) (.t 26)), none⟩]) (.cond (.t 27) .skip (.exit 0))) (.seq (.block 1 (.seq (.seq (.reg [⟨some 
  30, .val (.cp (.t 1)), none⟩, ⟨some 31, .val (.cp (.t 9)), none⟩, ⟨some 32, .val (.idxS (.t 30) (.t 31)), none⟩, ⟨some 33, .val (.bin .lss (.t 32) (.k (.d (.int .u8 48)))), 
  none⟩, ⟨some 34, .val (.cp (.t 33)), none⟩, ⟨some 35, .val (.cp (.t 1)), some (34, false)⟩, ⟨some 36, .val (.cp (.t 9)), some (34, false)⟩, ⟨some 37, .val (.idxS (.t 35) (.t 
  36)), some (34, false)⟩, ⟨some 38, .val (.bin .gtr (.t 37) (.k (.d (.int .u8 57)))), some (34, false)⟩, ⟨some 39, .val (.pick (.t 34) (.k (.d (.bool true))) (.t 38)), none⟩]) 
  (.cond (.t 39) (.seq (.reg [⟨some 6, .asg (.k (.d (.int .i64 0))), none⟩, ⟨some 7, .asg (.k (.d (.int .i64 0))), none⟩]) .ret) .skip)) (.reg [⟨some 40, .val (.cp (.t 8)), none⟩, 
  ⟨some 41, .val (.bin .mul (.k (.d (.int .i64 10))) (.t 40)), none⟩, ⟨some 42, .val (.cp (.t 1)), none⟩, ⟨some 43, .val (.cp (.t 9)), none⟩, ⟨some 44, .val (.idxS (.t 42) (.t 
  43)), none⟩, ⟨some 45, .val (.bin .sub (.t 44) (.k (.d (.int .u8 48)))), none⟩, ⟨some 46, .val (.cvI .i64 (.t 45)), none⟩, ⟨some 47, .val (.bin .add (.t 41) (.t 46)), none⟩, 
  ⟨some 8, .asg (.t 47), none⟩]))) (.reg [⟨some 28, .val (.cp (.t 9)), none⟩, ⟨some 29, .val (.bin .add (.t 28) (.k (.d (.int .i64 1)))), none⟩, ⟨some 9, .asg (.t 29), none⟩])))))) 
  (.seq (.reg [⟨some 48, .val (.cp (.t 0)), none⟩, ⟨some 49, .val (.cp (.t 2)), none⟩, ⟨some 50, .call 24 [.t 48, .t 49], none⟩, ⟨some 10, .asg (.t 50), none⟩]) (.seq (.seq (.reg 
  [⟨some 51, .val (.cp (.t 8)), none⟩, ⟨some 52, .val (.bin .gtr (.t 51) (.k (.d (.int .i64 60)))), none⟩, ⟨some 53, .val (.cp (.t 52)), none⟩, ⟨some 54, .val (.cp (.t 0)), some 
  (53, false)⟩, ⟨some 55, .val (.cp (.t 10)), some (53, false)⟩, ⟨some 56, .call 26 [.t 54, .t 55], some (53, false)⟩, ⟨some 57, .val (.bin .neq (.t 56) (.k (.d (.str [48])))), 
  some (53, false)⟩, ⟨some 58, .val (.pick (.t 53) (.k (.d (.bool true))) (.t 57)), none⟩]) (.cond (.t 58) (.seq (.reg [⟨some 6, .asg (.k (.d (.int .i64 0))), none⟩, ⟨some 7, .asg 
  (.k (.d (.int .i64 0))), none⟩]) .ret) .skip)) (.seq (.reg [⟨some 59, .val (.cp (.t 0)), none⟩, ⟨some 60, .val (.cp (.t 10)), none⟩, ⟨some 61, .val (.bin .add (.t 60) (.k (.d 
  (.int .i64 1)))), none⟩, ⟨some 62, .call 24 [.t 59, .t 61], none⟩, ⟨some 10, .asg (.t 62), none⟩]) (.seq (.seq (.reg [⟨some 63, .val (.cp (.t 0)), none⟩, ⟨some 64, .val (.cp (.t 
  10)), none⟩, ⟨some 65, .call 26 [.t 63, .t 64], none⟩, ⟨some 66, .val (.bin .neq (.t 65) (.k (.d (.str [82])))), none⟩]) (.cond (.t 66) (.seq (.reg [⟨some 6, .asg (.k (.d (.int 
  .i64 0))), none⟩, ⟨some 7, .asg (.k (.d (.int .i64 0))), none⟩]) .ret) .skip)) (.seq (.reg [⟨some 67, .val (.cp (.t 8)), none⟩, ⟨some 68, .val (.cp (.t 10)), none⟩, ⟨some 69, 
  .val (.bin .add (.t 68) (.k (.d (.int .i64 1)))), none⟩, ⟨some 6, .asg (.t 67), none⟩, ⟨some 7, .asg (.t 69), none⟩]) .ret))))))))
def R_foliowrightref_readRef : List LRes := [.tmp 6, .tmp 7]
theorem lift_foliowrightref_readRef : Lifts Try.prog 71 70 L_foliowrightref_readRef R_foliowrightref_readRef := ⟨_, _, Try.func71, rfl, by kernel_rfl, by kernel_rfl, rfl⟩

theorem readRef_call (s : List UInt8) (k : Nat) (hs : s.length ≤ 1000000000) (hk : k ≤ s.length) : PCall Try.prog 71 [.str s, .str (wordP s k), .int .i64 ((k + (wordP s k).length : Nat) : Int)] (fun r => r = refRes (refAt s k)) := by
  refine lift_foliowrightref_readRef.call rfl ?_
  have hwl := wordP_len s k
  generalize hR : refAt s k = R
  unfold refAt at hR
  generalize wordP s k = w at *
  have bad : R = none → Res.tup [D.int .i64 0, D.int .i64 0] = refRes R := fun e => by rw [e]; rfl
  simp (maxSteps := 2000000) (disch := omega) only [go_sem, ↓reduceIte, L_foliowrightref_readRef, R_foliowrightref_readRef]
  have none_ : objF w = none → R = none := fun e => by rw [e] at hR; exact hR.symm
  refine ⟨fun h1 => ⟨fun h2 => ?_, fun h2 => bad (none_ (by rw [objF, if_pos (by omega)]))⟩, fun h1 => bad (none_ (by rw [objF, if_pos (by omega)]))⟩
  obtain ⟨c0, hc0⟩ := get_some (l := w) (i := 0) (by omega)
  have g0 : getI w 0 = some c0 := by rw [← hc0]; exact getI_nat w 0
  have hd0 : w.head? = some c0 := by rw [← hc0]; cases w <;> rfl
  simp (maxSteps := 2000000) only [go_sem, ↓reduceIte, g0]
  refine ⟨fun h3 => bad (none_ (by rw [objF, if_pos (.inr (.inr (by rw [hd0]; simp; omega)))])), fun h3 => ?_⟩
  have ho : objF w = match digF w 0 with
    | none => none
    | some n => if n ≤ 60 then some n else none := by rw [objF, if_neg (by rw [hd0]; simp only [Option.map_some, Option.some.injEq]; omega)]; rfl
  refine run_loop (fun y : Nat × Nat => ⟨[(0, .d (.str s)), (1, .d (.str w)), (2, .d (.int .i64 ((k + w.length : Nat) : Int))), (8, .d (.int .i64 y.2)), (9, .d (.int .i64 y.1))], [], []⟩)
    (fun y => y.1 ≤ w.length ∧ (y.1 = 0 → y.2 = 0) ∧ (y.1 = 1 → y.2 ≤ 9) ∧ y.2 ≤ 99 ∧ digF (w.drop y.1) y.2 = digF w 0) (fun y => w.length - y.1) (0, 0) ?_ ?_ ?_
  · refine weak_mk ?_ trivial
    simp (maxSteps := 2000000) only [go_sem, ↓reduceIte, Sub, Int.natCast_add, Int.natCast_mul]
  · exact ⟨by simp, by simp, by simp, by simp, rfl⟩
  · rintro ⟨i, n⟩ ⟨hi, hn0, hn1, hn2, hF⟩
    simp only at hi hn0 hn1 hn2 hF
    simp (maxSteps := 2000000) only [go_sem, ↓reduceIte]
    refine ⟨fun hlt => ?_, fun hge => ?_⟩
    · obtain ⟨c, hc⟩ := get_some (l := w) (i := i) (by omega)
      have hc8 := u8_lt c
      rw [drop_at hc, digF] at hF
      have nodig : (c.toNat < 48 ∨ 57 < c.toNat) → R = none := fun h => by
        rw [if_pos h] at hF
        exact none_ (by rw [ho, ← hF])
      simp (maxSteps := 2000000) only [go_sem, ↓reduceIte, getI_nat, hc]
      refine ⟨fun h4 => ?_, fun h4 => bad (nodig (by omega))⟩
      refine ⟨fun h5 => bad (nodig (by omega)), fun h5 => ?_⟩
      simp (maxSteps := 2000000) (disch := omega) only [go_sem, ↓reduceIte, getI_nat, hc]
      rw [if_neg (by omega)] at hF
      refine ⟨(i + 1, 10 * n + (c.toNat - 48)), ?_, ⟨by simp only; omega, by simp only; omega, by simp only; omega, by simp only; omega, hF⟩, by simp only; omega⟩
      have zz : decide (57 < (c.toNat : Int)) = false := by simpa using h5
      refine weak_mk ?_ trivial
      simp (maxSteps := 2000000) only [go_sem, ↓reduceIte, Sub, Int.natCast_add, Int.natCast_mul, zz]
      all_goals ((repeat' apply And.intro) <;> (congr 2 <;> omega))
    · rw [List.drop_eq_nil_of_le (by omega), digF] at hF
      have hw1 := skipR_call s ((k + w.length : Nat) : Int) hs
      rw [clamp_in (by omega)] at hw1
      refine CallG.of hw1 ?_
      have hi1 := skipP_le (s := s) (k := k + w.length) (by omega)
      generalize skipP s (k + w.length) = q at *
      simp (maxSteps := 2000000) only [go_sem, ↓reduceIte]
      refine ⟨fun h4 => ?_, fun h4 => bad (none_ (by rw [ho, ← hF]; simp only; rw [if_neg (by omega)]))⟩
      have hob : objF w = some n := by rw [ho, ← hF]; simp only; rw [if_pos (by omega)]
      rw [hob] at hR
      simp only at hR
      have hw2 := wordR_call s ((q : Nat) : Int) hs
      rw [clamp_in (by omega)] at hw2
      refine CallG.of hw2 ?_
      simp (maxSteps := 2000000) only [go_sem, ↓reduceIte]
      refine ⟨fun h5 => bad (by rw [← hR, if_neg h5]), fun h5 => ?_⟩
      rw [if_pos h5] at hR
      have hql : q < s.length := by
        rcases Nat.lt_or_ge q s.length with h | h
        · exact h
        · unfold wordP at h5; rw [List.drop_eq_nil_of_le h] at h5; cases h5
      have hw3 := skipR_call s ((q : Int) + 1) hs
      rw [show (q : Int) + 1 = ((q + 1 : Nat) : Int) by omega, clamp_in (by omega)] at hw3
      have hj1 := skipP_le (s := s) (k := q + 1) (by omega)
      generalize skipP s (q + 1) = j at *
      rw [IntWalk.i64_in _ (by omega)]
      refine CallG.of hw3 ?_
      have hw4 := wordR_call s ((j : Nat) : Int) hs
      rw [clamp_in (by omega)] at hw4
      simp (maxSteps := 2000000) only [go_sem, ↓reduceIte]
      refine CallG.of hw4 ?_
      simp (maxSteps := 2000000) only [go_sem, ↓reduceIte]
      refine ⟨fun h6 => bad (by rw [← hR, if_neg h6]), fun h6 => ?_⟩
      rw [if_pos h6] at hR
      simp (disch := omega) only [IntWalk.i64_in, IntWalk.u8_in]
      rw [← hR]
      simp only [refRes, Int.natCast_add, Int.natCast_one]
end Go.Av.Try
