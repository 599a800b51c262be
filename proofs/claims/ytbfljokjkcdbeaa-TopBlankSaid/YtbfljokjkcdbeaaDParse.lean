import Derived.Test.YtbfljokjkcdbeaaDFix
set_option linter.unusedSimpArgs false
namespace Go.Av.Try
open Go.Proofs

def parseL : List UInt8 → Nat → Nat → Int → Option (Nat × Nat × Int)
  | [], n, d, p => some (n, d, p)
  | c :: r, n, d, p =>
    if c.toNat = 46 ∧ p < 0 then parseL r n d 0
    else if c.toNat < 48 ∨ 57 < c.toNat then none
    else parseL r (if p < 3 ∧ n ≤ 1000000000 then 10 * n + (c.toNat - 48) else n) (d + 1) (if 0 ≤ p then p + 1 else p)
def finP (neg : Bool) : Option (Nat × Nat × Int) → Int × Nat
  | none => (0, 4)
  | some (n, d, p) => if d = 0 then (0, 4) else if 1000000000 < n * 10 ^ (3 - p.toNat) then (0, 1) else (if neg = true then -((n * 10 ^ (3 - p.toNat) : Nat) : Int) else ((n * 10 ^ (3 - p.toNat) : Nat) : Int), 0)
def signP : List UInt8 → Bool × List UInt8
  | [] => (false, [])
  | c :: r => if c.toNat = 45 then (true, r) else if c.toNat = 43 then (false, r) else (false, c :: r)
def parseF (s : List UInt8) : Int × Nat := finP (signP s).1 (parseL (signP s).2 0 0 (-1))
def resP (p : Int × Nat) : Res := .tup [.int .i64 p.1, errD p.2]

/-- fix.Parse -/
def L_fix_Parse : LCode :=
  .seq (.reg [⟨some 2, .asg (.k (.d (.int .i64 0))), none⟩, ⟨some 3, .asg (.k (.d .nil)), none⟩]) (.seq (.reg [⟨some 11, .val (.cp (.t 0)), none⟩, ⟨some 4, .asg (.t 11), none⟩]) 
  (.seq (.reg [⟨some 5, .asg (.k (.d (.bool false))), none⟩]) (.seq (.seq (.reg [⟨some 12, .val (.cp (.t 4)), none⟩, ⟨some 13, .val (.bin .neq (.t 12) (.k (.d (.str [])))), none⟩, 
  ⟨some 14, .val (.cp (.t 13)), none⟩, ⟨some 15, .val (.cp (.t 4)), some (14, true)⟩, ⟨some 16, .val (.idxS (.t 15) (.k (.d (.int .i64 0)))), some (14, true)⟩, ⟨some 17, .val (.bin 
  .eql (.t 16) (.k (.d (.int .u8 45)))), some (14, true)⟩, ⟨some 18, .val (.cp (.t 17)), some (14, true)⟩, ⟨some 19, .val (.cp (.t 4)), some (18, false)⟩, ⟨some 20, .val (.idxS (.t 
  19) (.k (.d (.int .i64 0)))), some (18, false)⟩, ⟨some 21, .val (.bin .eql (.t 20) (.k (.d (.int .u8 43)))), some (18, false)⟩, ⟨some 22, .val (.pick (.t 18) (.k (.d (.bool 
  true))) (.t 21)), some (14, true)⟩, ⟨some 23, .val (.pick (.t 14) (.t 22) (.k (.d (.bool false)))), none⟩]) (.cond (.t 23) (.dreg [⟨some 24, .val (.cp (.t 4)), none⟩, ⟨some 25, 
  .val (.idxS (.t 24) (.k (.d (.int .i64 0)))), none⟩, ⟨some 26, .val (.bin .eql (.t 25) (.k (.d (.int .u8 45)))), none⟩, ⟨some 27, .val (.cp (.t 4)), none⟩, ⟨some 28, .val (.subS 
  (.t 27) (some (.k (.d (.int .i64 1)))) none), none⟩, ⟨some 5, .val (.cp (.t 26)), none⟩, ⟨some 4, .val (.cp (.t 28)), none⟩]) .skip)) (.seq (.reg [⟨some 6, .asg (.k (.d (.int 
  .i64 0))), none⟩, ⟨some 7, .asg (.k (.d (.int .i64 0))), none⟩, ⟨some 8, .asg (.k (.d (.int .i64 (-1)))), none⟩]) (.seq (.seq (.reg [⟨some 29, .val (.cp (.t 4)), none⟩, ⟨some 30, 
  .val (.len true (.t 29)), none⟩, ⟨some 31, .val (.cp (.k (.d (.int .i64 0)))), none⟩]) (.block 0 (.loop (.seq (.reg [⟨some 32, .val (.bin .lss (.t 31) (.t 30)), none⟩]) (.seq 
  (.cond (.t 32) .skip (.exit 0)) (.seq (.block 1 (.seq (.reg [⟨some 33, .val (.cp (.t 31)), none⟩, ⟨some 9, .asg (.t 33), none⟩]) (.seq (.reg [⟨some 34, .val (.cp (.t 4)), none⟩, 
  ⟨some 35, .val (.cp (.t 9)), none⟩, ⟨some 36, .val (.idxS (.t 34) (.t 35)), none⟩, ⟨some 10, .asg (.t 36), none⟩]) (.block 2 (.seq (.reg [⟨some 56, .val (.cp (.t 10)), none⟩, 
  ⟨some 57, .val (.bin .eql (.t 56) (.k (.d (.int .u8 46)))), none⟩, ⟨some 58, .val (.cp (.t 57)), none⟩, ⟨some 59, .val (.cp (.t 8)), some (58, true)⟩, ⟨some 60, .val (.bin .lss 
  (.t 59) (.k (.d (.int .i64 0)))), some (58, true)⟩, ⟨some 61, .val (.pick (.t 58) (.t 60) (.k (.d (.bool false)))), none⟩, ⟨some 55, .asg (.t 61), none⟩]) (.cond (.t 55) (.reg 
  [⟨some 8, .asg (.k (.d (.int .i64 0))), none⟩]) (.seq (.reg [⟨some 63, .val (.cp (.t 10)), none⟩, ⟨some 64, .val (.bin .lss (.t 63) (.k (.d (.int .u8 48)))), none⟩, ⟨some 65, 
  .val (.cp (.t 64)), none⟩, ⟨some 66, .val (.cp (.t 10)), some (65, false)⟩, ⟨some 67, .val (.bin .gtr (.t 66) (.k (.d (.int .u8 57)))), some (65, false)⟩, ⟨some 68, .val (.pick 
  (.t 65) (.k (.d (.bool true))) (.t 67)), none⟩, ⟨some 62, .asg (.t 68), none⟩]) (.cond (.t 62) (.seq (.reg [⟨some 69, .val (.mkI 76 (.k (.d (.int .i64 4)))), none⟩, ⟨some 2, .asg 
  (.k (.d (.int .i64 0))), none⟩, ⟨some 3, .asg (.t 69), none⟩]) .ret) (.seq (.reg [⟨some 37, .val (.cp (.t 7)), none⟩, ⟨some 38, .val (.bin .add (.t 37) (.k (.d (.int .i64 1)))), 
  none⟩, ⟨some 7, .asg (.t 38), none⟩]) (.seq (.seq (.reg [⟨some 39, .val (.cp (.t 8)), none⟩, ⟨some 40, .val (.bin .lss (.t 39) (.k (.d (.int .i64 3)))), none⟩, ⟨some 41, .val 
  (.cp (.t 40)), none⟩, ⟨some 42, .val (.cp (.t 6)), some (41, true)⟩, ⟨some 43, .val (.bin .leq (.t 42) (.k (.d (.int .i64 1000000000)))), some (41, true)⟩, ⟨some 44, .val (.pick 
  (.t 41) (.t 43) (.k (.d (.bool false)))), none⟩]) (.cond (.t 44) (.reg [⟨some 45, .val (.cp (.t 6)), none⟩, ⟨some 46, .val (.bin .mul (.k (.d (.int .i64 10))) (.t 45)), none⟩, 
  ⟨some 47, .val (.cp (.t 10)), none⟩, ⟨some 48, .val (.bin .sub (.t 47) (.k (.d (.int .u8 48)))), none⟩, ⟨some 49, .val (.cvI .i64 (.t 48)), none⟩, ⟨some 50, .val (.bin .add (.t 
  46) (.t 49)), none⟩, ⟨some 6, .asg (.t 50), none⟩]) .skip)) (.seq (.reg [⟨some 51, .val (.cp (.t 8)), none⟩, ⟨some 52, .val (.bin .geq (.t 51) (.k (.d (.int .i64 0)))), none⟩]) 
  (.cond (.t 52) (.reg [⟨some 53, .val (.cp (.t 8)), none⟩, ⟨some 54, .val (.bin .add (.t 53) (.k (.d (.int .i64 1)))), none⟩, ⟨some 8, .asg (.t 54), none⟩]) .skip)))))))))))) 
  (.reg [⟨some 70, .val (.bin .add (.t 31) (.k (.d (.int .i64 1)))), none⟩, ⟨some 31, .val (.cp (.t 70)), none⟩]))))))) (.seq (.seq (.reg [⟨some 71, .val (.cp (.t 7)), none⟩, ⟨some 
  72, .val (.bin .eql (.t 71) (.k (.d (.int .i64 0)))), none⟩]) (.cond (.t 72) (.seq (.reg [⟨some 73, .val (.mkI 76 (.k (.d (.int .i64 4)))), none⟩, ⟨some 2, .asg (.k (.d (.int 
  .i64 0))), none⟩, ⟨some 3, .asg (.t 73), none⟩]) .ret) .skip)) (.seq (.seq (.reg [⟨some 74, .val (.cp (.t 8)), none⟩, ⟨some 75, .val (.mm true (.t 74) (.k (.d (.int .i64 0)))), 
  none⟩, ⟨some 8, .asg (.t 75), none⟩]) (.block 3 (.loop (.seq (.seq (.reg [⟨some 76, .val (.cp (.t 8)), none⟩, ⟨some 77, .val (.bin .lss (.t 76) (.k (.d (.int .i64 3)))), none⟩]) 
  (.cond (.t 77) .skip (.exit 3))) (.seq (.block 4 (.reg [⟨some 80, .val (.cp (.t 6)), none⟩, ⟨some 81, .val (.bin .mul (.t 80) (.k (.d (.int .i64 10)))), none⟩, ⟨some 6, .asg (.t 
  81), none⟩])) (.reg [⟨some 78, .val (.cp (.t 8)), none⟩, ⟨some 79, .val (.bin .add (.t 78) (.k (.d (.int .i64 1)))), none⟩, ⟨some 8, .asg (.t 79), none⟩])))))) (.seq (.seq (.reg 
  [⟨some 82, .val (.cp (.t 6)), none⟩, ⟨some 83, .val (.bin .gtr (.t 82) (.k (.d (.int .i64 1000000000)))), none⟩]) (.cond (.t 83) (.seq (.reg [⟨some 84, .val (.mkI 76 (.k (.d 
  (.int .i64 1)))), none⟩, ⟨some 2, .asg (.k (.d (.int .i64 0))), none⟩, ⟨some 3, .asg (.t 84), none⟩]) .ret) .skip)) (.seq (.seq (.reg [⟨some 85, .val (.cp (.t 5)), none⟩]) (.cond 
  (.t 85) (.reg [⟨some 86, .val (.cp (.t 6)), none⟩, ⟨some 87, .val (.neg (.t 86)), none⟩, ⟨some 6, .asg (.t 87), none⟩]) .skip)) (.seq (.reg [⟨some 88, .val (.cp (.t 6)), none⟩, 
  ⟨some 2, .asg (.t 88), none⟩, ⟨some 3, .asg (.k (.d .nil)), none⟩]) .ret))))))))))
def R_fix_Parse : List LRes := [.tmp 2, .tmp 3]
theorem lift_fix_Parse : Lifts Try.prog 87 89 L_fix_Parse R_fix_Parse := ⟨_, _, Try.func87, rfl, by kernel_rfl, by kernel_rfl, rfl⟩

theorem parse_call (s : List UInt8) (hs : s.length ≤ 1000000) : PCall Try.prog 87 [.str s] (fun r => r = resP (parseF s)) := by
  refine lift_fix_Parse.call rfl ?_
  unfold parseF
  cases s with
  | nil =>
    have hs0 : signP [] = (false, []) := rfl
    have hR : resP (finP false (parseL [] 0 0 (-1))) = .tup [.int .i64 0, .iface 76 (.int .i64 4)] := rfl
    rw [hs0, hR]
    simp (maxSteps := 2000000) (disch := omega) only [go_sem, ↓reduceIte, L_fix_Parse, R_fix_Parse]
    refine run_unroll ?_
    simp (maxSteps := 2000000) (disch := omega) only [go_sem, ↓reduceIte]
  | cons c r =>
    have hc8 := u8_lt c
    have hne : (c :: r = []) = False := by simp
    have hg0 : getI (c :: r) 0 = some c := rfl
    have hcut : cutI (c :: r) 1 ((r.length + 1 : Nat) : Int) = r := by
      show cutI (c :: r) ((1 : Nat) : Int) _ = r
      rw [cutI_nat]; simp
    have hlr : r.length + 1 ≤ 1000000 := by simpa using hs
    generalize hst : signP (c :: r) = st
    dsimp only [signP] at hst
    obtain ⟨R, hR⟩ : ∃ R, finP st.1 (parseL st.2 0 0 (-1)) = R := ⟨_, rfl⟩
    rw [hR]
    simp (maxSteps := 2000000) (disch := omega) only [go_sem, ↓reduceIte, L_fix_Parse, R_fix_Parse, hne, hg0, hcut]
    refine ⟨fun a1 => ⟨fun a2 => ⟨by omega, ?_⟩, fun a2 => ?_⟩, fun a1 => ⟨by omega, ?_⟩⟩
    rw [if_neg (by omega), if_pos (by omega)] at hst
    subst hst
    obtain ⟨T, hT⟩ : ∃ T, T = r := ⟨_, rfl⟩
    obtain ⟨N, hN⟩ : ∃ N, N = false := ⟨_, rfl⟩
    have hdec : decide ((c.toNat : Int) = 45) = false := by simp [a1]
    simp only [hdec]
    rw [← hT, ← hN] at hR
    have hlT : T.length ≤ 1000000 := by rw [hT]; omega
    rotate_left
    rw [if_neg (by omega), if_neg (by omega)] at hst
    subst hst
    obtain ⟨T, hT⟩ : ∃ T, T = c :: r := ⟨_, rfl⟩
    obtain ⟨N, hN⟩ : ∃ N, N = false := ⟨_, rfl⟩
    rw [← hT, ← hN] at hR
    have hlT : T.length ≤ 1000000 := by rw [hT]; exact hs
    rotate_left
    rw [if_pos (by omega)] at hst
    subst hst
    obtain ⟨T, hT⟩ : ∃ T, T = r := ⟨_, rfl⟩
    obtain ⟨N, hN⟩ : ∃ N, N = true := ⟨_, rfl⟩
    have hdec : decide ((c.toNat : Int) = 45) = true := by simp [a1]
    simp only [hdec]
    rw [← hT, ← hN] at hR
    have hlT : T.length ≤ 1000000 := by rw [hT]; omega
    rotate_left
    all_goals
      refine run_loop (fun y : Nat × Nat × Nat × Int => ⟨[(4, .d (.str T)), (5, .d (.bool N)), (6, .d (.int .i64 y.2.1)), (7, .d (.int .i64 y.2.2.1)), (8, .d (.int .i64 y.2.2.2)), (30, .d (.int .i64 (T.length : Nat))), (31, .d (.int .i64 y.1))], [], []⟩)
        (fun y => y.1 ≤ T.length ∧ y.2.1 ≤ 10000000009 ∧ y.2.2.1 ≤ y.1 ∧ -1 ≤ y.2.2.2 ∧ y.2.2.2 ≤ y.1 ∧ finP N (parseL (T.drop y.1) y.2.1 y.2.2.1 y.2.2.2) = R) (fun y => T.length - y.1) (0, 0, 0, -1) ?_ ?_ ?_
      · refine weak_mk ?_ trivial
        simp (maxSteps := 2000000) only [go_sem, ↓reduceIte, Sub, Int.natCast_add, Int.natCast_mul, hT, hN]
      · exact ⟨by simp, by simp, by simp, by simp, by simp, by simpa using hR⟩
      · rintro ⟨i, n, d, p⟩ ⟨hi, hn, hd, hp, hp2, hF⟩
        simp only at hi hn hd hp hp2 hF
        simp (maxSteps := 2000000) only [go_sem, ↓reduceIte]
        refine ⟨fun q1 => ?_, fun q1 => ?_⟩
        · obtain ⟨x, hx⟩ := get_some (l := T) (i := i) (by omega)
          have hx8 := u8_lt x
          rw [drop_cons hx] at hF
          unfold parseL at hF
          by_cases e1 : x.toNat = 46 ∧ p < 0
          · rw [if_pos e1] at hF
            have e1a : (x.toNat : Int) = 46 := by omega
            simp (maxSteps := 2000000) (disch := omega) only [go_sem, ↓reduceIte, getI_nat, hx, e1a, e1.2]
            refine ⟨(i + 1, n, d, 0), ?_, ⟨by simp only; omega, hn, by simp only; omega, by simp, by simp only; omega, hF⟩, by simp only; omega⟩
            refine weak_mk ?_ trivial
            simp (maxSteps := 2000000) only [go_sem, ↓reduceIte, Sub, Int.natCast_add, Int.natCast_mul]
          · rw [if_neg e1] at hF
            by_cases e2 : x.toNat < 48 ∨ 57 < x.toNat
            · rw [if_pos e2] at hF
              subst hF
              have hres : resP (finP N none) = .tup [.int .i64 0, .iface 76 (.int .i64 4)] := rfl
              rw [hres]
              simp (maxSteps := 2000000) only [go_sem, ↓reduceIte, getI_nat, hx]
              refine ⟨fun a => ⟨fun b => by omega, fun b => fun c => by omega⟩, fun a => fun b c => by omega⟩
            · rw [if_neg e2] at hF
              have hne46 : ¬ ((x.toNat : Int) = 46) := by omega
              have h48 : ¬ ((x.toNat : Int) < 48) := by omega
              have h57 : ¬ (57 < (x.toNat : Int)) := by omega
              obtain ⟨k, hk⟩ : ∃ k, x.toNat - 48 = k := ⟨_, rfl⟩
              have hk' : (x.toNat : Int) - 48 = (k : Int) := by omega
              rw [hk] at hF
              simp (maxSteps := 2000000) (disch := omega) only [go_sem, ↓reduceIte, getI_nat, hx, hne46, h48, h57, hk']
              refine ⟨fun b1 => ⟨fun b2 => ⟨fun b3 => ?_, fun b3 => ?_⟩, fun b2 => ⟨fun b3 => ?_, fun b3 => ?_⟩⟩, fun b1 => ⟨fun b3 => ?_, fun b3 => ?_⟩⟩
              · rw [if_pos ⟨b1, by omega⟩, if_pos b3] at hF
                refine ⟨(i + 1, 10 * n + k, d + 1, p + 1), ?_, ⟨by simp only; omega, by simp only; omega, by simp only; omega, by simp only; omega, by simp only; omega, hF⟩, by simp only; omega⟩
                refine weak_mk ?_ trivial
                simp (maxSteps := 2000000) only [go_sem, ↓reduceIte, Sub, Int.natCast_add, Int.natCast_mul]
              · rw [if_pos ⟨b1, by omega⟩, if_neg b3] at hF
                refine ⟨(i + 1, 10 * n + k, d + 1, p), ?_, ⟨by simp only; omega, by simp only; omega, by simp only; omega, by simp only; omega, by simp only; omega, hF⟩, by simp only; omega⟩
                refine weak_mk ?_ trivial
                simp (maxSteps := 2000000) only [go_sem, ↓reduceIte, Sub, Int.natCast_add, Int.natCast_mul]
              · rw [if_neg (fun h => b2 (by omega)), if_pos b3] at hF
                refine ⟨(i + 1, n, d + 1, p + 1), ?_, ⟨by simp only; omega, by simp only; omega, by simp only; omega, by simp only; omega, by simp only; omega, hF⟩, by simp only; omega⟩
                refine weak_mk ?_ trivial
                simp (maxSteps := 2000000) only [go_sem, ↓reduceIte, Sub, Int.natCast_add, Int.natCast_mul]
              · rw [if_neg (fun h => b2 (by omega)), if_neg b3] at hF
                refine ⟨(i + 1, n, d + 1, p), ?_, ⟨by simp only; omega, by simp only; omega, by simp only; omega, by simp only; omega, by simp only; omega, hF⟩, by simp only; omega⟩
                refine weak_mk ?_ trivial
                simp (maxSteps := 2000000) only [go_sem, ↓reduceIte, Sub, Int.natCast_add, Int.natCast_mul]
              · rw [if_neg (fun h => b1 h.1), if_pos b3] at hF
                refine ⟨(i + 1, n, d + 1, p + 1), ?_, ⟨by simp only; omega, by simp only; omega, by simp only; omega, by simp only; omega, by simp only; omega, hF⟩, by simp only; omega⟩
                refine weak_mk ?_ trivial
                simp (maxSteps := 2000000) only [go_sem, ↓reduceIte, Sub, Int.natCast_add, Int.natCast_mul]
              · rw [if_neg (fun h => b1 h.1), if_neg b3] at hF
                refine ⟨(i + 1, n, d + 1, p), ?_, ⟨by simp only; omega, by simp only; omega, by simp only; omega, by simp only; omega, by simp only; omega, hF⟩, by simp only; omega⟩
                refine weak_mk ?_ trivial
                simp (maxSteps := 2000000) only [go_sem, ↓reduceIte, Sub, Int.natCast_add, Int.natCast_mul]
        · rw [List.drop_eq_nil_of_le (by omega)] at hF
          unfold parseL at hF
          dsimp only [finP] at hF
          refine ⟨fun c1 => ?_, fun c1 => ?_⟩
          · rw [if_pos (by omega)] at hF
            subst hF
            simp [resP, errD]
          · rw [if_neg (by omega)] at hF
            have hmx : (if p < 0 then 0 else p) = ((p.toNat : Nat) : Int) := by split <;> omega
            rw [hmx]
            have hP9 : p.toNat ≤ 1000000 := by omega
            generalize p.toNat = P at hF hP9 ⊢
            refine run_loop (fun k : Nat => ⟨[(5, .d (.bool N)), (6, .d (.int .i64 (n * 10 ^ k : Nat))), (8, .d (.int .i64 (P + k : Nat)))], [], []⟩)
              (fun k => k ≤ 3 - P) (fun k => 3 - k) 0 ?_ ?_ ?_
            · refine weak_mk ?_ trivial
              simp (maxSteps := 2000000) only [go_sem, ↓reduceIte, Sub, Int.natCast_add, Int.natCast_mul, Nat.pow_zero, Nat.mul_one, Nat.add_zero]
            · omega
            · intro k hk
              have h10 : 10 ^ k ≤ 10 ^ 3 := Nat.pow_le_pow_right (by decide) (by omega)
              have hM : n * 10 ^ k ≤ 10000000009 * 10 ^ 3 := Nat.mul_le_mul hn h10
              simp (maxSteps := 2000000) only [go_sem, ↓reduceIte]
              refine ⟨fun c2 => ?_, fun c2 => ?_⟩
              · have hs1 : n * 10 ^ (k + 1) = n * 10 ^ k * 10 := by rw [Nat.pow_succ, Nat.mul_assoc]
                generalize hMM : n * 10 ^ k = M at hM hs1 ⊢
                simp (disch := omega) only [IntWalk.i64_in, IntWalk.u8_in]
                refine ⟨k + 1, ?_, by omega, by omega⟩
                refine weak_mk ?_ trivial
                simp (maxSteps := 2000000) only [go_sem, ↓reduceIte, Sub, Int.natCast_add, Int.natCast_mul, hs1]
                rw [Int.add_assoc]
              · have hk3 : k = 3 - P := by omega
                rw [← hk3] at hF
                generalize hMM : n * 10 ^ k = M at hM hF ⊢
                refine ⟨fun c3 => ?_, fun c3 => ?_⟩
                · rw [if_pos (by omega)] at hF
                  subst hF
                  simp [resP, errD]
                · rw [if_neg (by omega)] at hF
                  subst hF
                  cases N
                  · simp (maxSteps := 2000000) (disch := omega) only [go_sem, ↓reduceIte, resP, errD]
                  · simp (maxSteps := 2000000) (disch := omega) only [go_sem, ↓reduceIte, resP, errD, Int.zero_sub]
end Go.Av.Try
