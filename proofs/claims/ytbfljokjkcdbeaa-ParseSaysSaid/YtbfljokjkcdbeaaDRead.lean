import Derived.Test.YtbfljokjkcdbeaaDParse
set_option linter.unusedSimpArgs false
namespace Go.Av.Try
open Go.Proofs

def Kp (p : Int) : Nat := if p ≤ 0 then 1000 else if p = 1 then 100 else if p = 2 then 10 else 1
theorem Kp_pow (p : Int) : 10 ^ (3 - p.toNat) = Kp p := by
  unfold Kp
  by_cases h : p ≤ 0
  · rw [if_pos h, show p.toNat = 0 by omega]
  · rw [if_neg h]
    by_cases h1 : p = 1
    · subst h1; rfl
    · rw [if_neg h1]
      by_cases h2 : p = 2
      · subst h2; rfl
      · rw [if_neg h2, show 3 - p.toNat = 0 by omega]
def Rel (n : Nat) (p : Int) (w r t : Nat) : Prop :=
  t = Kp p / 10 ∧ w ≤ 99999999 ∧ r + 10 * t ≤ 1000 ∧ (p < 0 → r = 0) ∧ (n * Kp p = 1000 * w + r ∨ (1000000000 < n * Kp p ∧ 1000000000 < 1000 * w + r))
theorem rel_point {n w r t : Nat} {p : Int} (h : Rel n p w r t) (hp : p < 0) : Rel n 0 w r t := by
  obtain ⟨h1, h2, h3, h4, h5⟩ := h
  have e : Kp p = Kp 0 := by unfold Kp; rw [if_pos (by omega), if_pos (by omega)]
  rw [e] at h1 h5
  exact ⟨h1, h2, h3, fun h => by omega, h5⟩
set_option maxRecDepth 10000 in
theorem rel_whole {n w r t k : Nat} {p : Int} (h : Rel n p w r t) (hp : p < 0) (hk : k ≤ 9) : Rel (if p < 3 ∧ n ≤ 1000000000 then 10 * n + k else n) (if 0 ≤ p then p + 1 else p) (if w < 10000000 then 10 * w + k else w) r t := by
  obtain ⟨h1, h2, h3, h4, h5⟩ := h
  have e : Kp p = 1000 := by unfold Kp; rw [if_pos (by omega)]
  have h4 := h4 hp
  rw [if_neg (by omega : ¬ 0 ≤ p)]
  unfold Rel
  rw [e] at h1 h5 ⊢
  refine ⟨h1, ?_, h3, fun _ => h4, ?_⟩
  · split <;> omega
  · split <;> split <;> omega
set_option maxRecDepth 10000 in
theorem rel_part {n w r t k : Nat} {p : Int} (h : Rel n p w r t) (hp : 0 ≤ p) (hk : k ≤ 9) : Rel (if p < 3 ∧ n ≤ 1000000000 then 10 * n + k else n) (if 0 ≤ p then p + 1 else p) w (r + t * k) (t / 10) := by
  obtain ⟨h1, h2, h3, h4, h5⟩ := h
  rw [if_pos hp]
  unfold Rel
  by_cases p0 : p = 0
  · subst p0
    have e : Kp 0 = 1000 := rfl
    have e' : Kp (0 + 1) = 100 := rfl
    rw [e] at h1 h5
    rw [e']
    have ht : t = 100 := by omega
    subst ht
    refine ⟨by omega, h2, by omega, fun h => by omega, ?_⟩
    split <;> omega
  · by_cases p1 : p = 1
    · subst p1
      have e : Kp 1 = 100 := rfl
      have e' : Kp (1 + 1) = 10 := rfl
      rw [e] at h1 h5
      rw [e']
      have ht : t = 10 := by omega
      subst ht
      refine ⟨by omega, h2, by omega, fun h => by omega, ?_⟩
      split <;> omega
    · by_cases p2 : p = 2
      · subst p2
        have e : Kp 2 = 10 := rfl
        have e' : Kp (2 + 1) = 1 := rfl
        rw [e] at h1 h5
        rw [e']
        have ht : t = 1 := by omega
        subst ht
        refine ⟨by omega, h2, by omega, fun h => by omega, ?_⟩
        split <;> omega
      · have e : Kp p = 1 := by unfold Kp; rw [if_neg (by omega), if_neg p1, if_neg p2]
        have e' : Kp (p + 1) = 1 := by unfold Kp; rw [if_neg (by omega), if_neg (by omega), if_neg (by omega)]
        rw [e] at h1 h5
        rw [e']
        have ht : t = 0 := by omega
        subst ht
        rw [Nat.zero_mul, if_neg (by omega)]
        exact ⟨by omega, h2, by omega, fun h => by omega, h5⟩

def resRN (p : Int × Nat) : Res := .tup [.int .i64 p.1, .int .i64 p.2]

/-- foliowrightref.ReadFix -/
def L_foliowrightref_ReadFix : LCode :=
  .seq (.reg [⟨some 2, .asg (.k (.d (.int .i64 0))), none⟩, ⟨some 3, .asg (.k (.d (.int .i64 0))), none⟩]) (.seq (.reg [⟨some 4, .asg (.k (.d (.int .i64 0))), none⟩]) (.seq (.reg 
  [⟨some 5, .asg (.k (.d (.int .i64 1))), none⟩]) (.seq (.seq (.reg [⟨some 14, .val (.cp (.t 0)), none⟩, ⟨some 15, .val (.len true (.t 14)), none⟩, ⟨some 16, .val (.bin .gtr (.t 
  15) (.k (.d (.int .i64 0)))), none⟩, ⟨some 17, .val (.cp (.t 16)), none⟩, ⟨some 18, .val (.cp (.t 0)), some (17, true)⟩, ⟨some 19, .val (.idxS (.t 18) (.k (.d (.int .i64 0)))), 
  some (17, true)⟩, ⟨some 20, .val (.bin .eql (.t 19) (.k (.d (.int .u8 45)))), some (17, true)⟩, ⟨some 21, .val (.cp (.t 20)), some (17, true)⟩, ⟨some 22, .val (.cp (.t 0)), some 
  (21, false)⟩, ⟨some 23, .val (.idxS (.t 22) (.k (.d (.int .i64 0)))), some (21, false)⟩, ⟨some 24, .val (.bin .eql (.t 23) (.k (.d (.int .u8 43)))), some (21, false)⟩, ⟨some 25, 
  .val (.pick (.t 21) (.k (.d (.bool true))) (.t 24)), some (17, true)⟩, ⟨some 26, .val (.pick (.t 17) (.t 25) (.k (.d (.bool false)))), none⟩]) (.cond (.t 26) (.seq (.reg [⟨some 
  4, .asg (.k (.d (.int .i64 1))), none⟩]) (.seq (.reg [⟨some 27, .val (.cp (.t 0)), none⟩, ⟨some 28, .val (.idxS (.t 27) (.k (.d (.int .i64 0)))), none⟩, ⟨some 29, .val (.bin .eql 
  (.t 28) (.k (.d (.int .u8 45)))), none⟩]) (.cond (.t 29) (.reg [⟨some 5, .asg (.k (.d (.int .i64 (-1)))), none⟩]) .skip))) .skip)) (.seq (.reg [⟨some 6, .asg (.k (.d (.int .i64 
  0))), none⟩]) (.seq (.reg [⟨some 7, .asg (.k (.d (.int .i64 0))), none⟩]) (.seq (.reg [⟨some 8, .asg (.k (.d (.int .i64 100))), none⟩]) (.seq (.reg [⟨some 9, .asg (.k (.d (.int 
  .i64 0))), none⟩]) (.seq (.reg [⟨some 10, .asg (.k (.d (.bool false))), none⟩]) (.seq (.block 0 (.loop (.seq (.seq (.reg [⟨some 30, .val (.cp (.t 4)), none⟩, ⟨some 31, .val (.cp 
  (.t 0)), none⟩, ⟨some 32, .val (.len true (.t 31)), none⟩, ⟨some 33, .val (.bin .lss (.t 30) (.t 32)), none⟩]) (.cond (.t 33) .skip (.exit 0))) (.seq (.block 1 (.seq (.reg [⟨some 
  36, .val (.cp (.t 0)), none⟩, ⟨some 37, .val (.cp (.t 4)), none⟩, ⟨some 38, .val (.idxS (.t 36) (.t 37)), none⟩, ⟨some 11, .asg (.t 38), none⟩]) (.seq (.seq (.reg [⟨some 39, .val 
  (.cp (.t 11)), none⟩, ⟨some 40, .val (.bin .eql (.t 39) (.k (.d (.int .u8 46)))), none⟩, ⟨some 41, .val (.cp (.t 40)), none⟩, ⟨some 42, .val (.cp (.t 10)), some (41, true)⟩, 
  ⟨some 43, .val (.not (.t 42)), some (41, true)⟩, ⟨some 44, .val (.pick (.t 41) (.t 43) (.k (.d (.bool false)))), none⟩]) (.cond (.t 44) (.seq (.reg [⟨some 10, .asg (.k (.d (.bool 
  true))), none⟩]) (.exit 1)) .skip)) (.seq (.seq (.reg [⟨some 45, .val (.cp (.t 11)), none⟩, ⟨some 46, .val (.bin .lss (.t 45) (.k (.d (.int .u8 48)))), none⟩, ⟨some 47, .val (.cp 
  (.t 46)), none⟩, ⟨some 48, .val (.cp (.t 11)), some (47, false)⟩, ⟨some 49, .val (.bin .gtr (.t 48) (.k (.d (.int .u8 57)))), some (47, false)⟩, ⟨some 50, .val (.pick (.t 47) (.k 
  (.d (.bool true))) (.t 49)), none⟩]) (.cond (.t 50) (.seq (.reg [⟨some 2, .asg (.k (.d (.int .i64 0))), none⟩, ⟨some 3, .asg (.k (.d (.int .i64 4))), none⟩]) .ret) .skip)) (.seq 
  (.reg [⟨some 51, .val (.cp (.t 9)), none⟩, ⟨some 52, .val (.bin .add (.t 51) (.k (.d (.int .i64 1)))), none⟩, ⟨some 9, .asg (.t 52), none⟩]) (.seq (.reg [⟨some 53, .val (.cp (.t 
  11)), none⟩, ⟨some 54, .val (.bin .sub (.t 53) (.k (.d (.int .u8 48)))), none⟩, ⟨some 55, .val (.cvI .i64 (.t 54)), none⟩, ⟨some 12, .asg (.t 55), none⟩]) (.seq (.reg [⟨some 56, 
  .val (.cp (.t 10)), none⟩]) (.cond (.t 56) (.seq (.reg [⟨some 57, .val (.cp (.t 7)), none⟩, ⟨some 58, .val (.cp (.t 8)), none⟩, ⟨some 59, .val (.cp (.t 12)), none⟩, ⟨some 60, 
  .val (.bin .mul (.t 58) (.t 59)), none⟩, ⟨some 61, .val (.bin .add (.t 57) (.t 60)), none⟩, ⟨some 7, .asg (.t 61), none⟩]) (.reg [⟨some 62, .val (.cp (.t 8)), none⟩, ⟨some 63, 
  .val (.bin .quo (.t 62) (.k (.d (.int .i64 10)))), none⟩, ⟨some 8, .asg (.t 63), none⟩])) (.seq (.reg [⟨some 64, .val (.cp (.t 6)), none⟩, ⟨some 65, .val (.bin .lss (.t 64) (.k 
  (.d (.int .i64 10000000)))), none⟩]) (.cond (.t 65) (.reg [⟨some 66, .val (.cp (.t 6)), none⟩, ⟨some 67, .val (.bin .mul (.k (.d (.int .i64 10))) (.t 66)), none⟩, ⟨some 68, .val 
  (.cp (.t 12)), none⟩, ⟨some 69, .val (.bin .add (.t 67) (.t 68)), none⟩, ⟨some 6, .asg (.t 69), none⟩]) .skip)))))))))) (.reg [⟨some 34, .val (.cp (.t 4)), none⟩, ⟨some 35, .val 
  (.bin .add (.t 34) (.k (.d (.int .i64 1)))), none⟩, ⟨some 4, .asg (.t 35), none⟩]))))) (.seq (.seq (.reg [⟨some 70, .val (.cp (.t 9)), none⟩, ⟨some 71, .val (.bin .eql (.t 70) 
  (.k (.d (.int .i64 0)))), none⟩]) (.cond (.t 71) (.seq (.reg [⟨some 2, .asg (.k (.d (.int .i64 0))), none⟩, ⟨some 3, .asg (.k (.d (.int .i64 4))), none⟩]) .ret) .skip)) (.seq 
  (.reg [⟨some 72, .val (.cp (.t 6)), none⟩, ⟨some 73, .val (.bin .mul (.k (.d (.int .i64 1000))) (.t 72)), none⟩, ⟨some 74, .val (.cp (.t 7)), none⟩, ⟨some 75, .val (.bin .add (.t 
  73) (.t 74)), none⟩, ⟨some 13, .asg (.t 75), none⟩]) (.seq (.seq (.reg [⟨some 76, .val (.cp (.t 13)), none⟩, ⟨some 77, .val (.bin .gtr (.t 76) (.k (.d (.int .i64 1000000000)))), 
  none⟩]) (.cond (.t 77) (.seq (.reg [⟨some 2, .asg (.k (.d (.int .i64 0))), none⟩, ⟨some 3, .asg (.k (.d (.int .i64 1))), none⟩]) .ret) .skip)) (.seq (.reg [⟨some 78, .val (.cp 
  (.t 5)), none⟩, ⟨some 79, .val (.cp (.t 13)), none⟩, ⟨some 80, .val (.bin .mul (.t 78) (.t 79)), none⟩, ⟨some 2, .asg (.t 80), none⟩, ⟨some 3, .asg (.k (.d (.int .i64 0))), 
  none⟩]) .ret)))))))))))))
def R_foliowrightref_ReadFix : List LRes := [.tmp 2, .tmp 3]
theorem lift_foliowrightref_ReadFix : Lifts Try.prog 72 81 L_foliowrightref_ReadFix R_foliowrightref_ReadFix := ⟨_, _, Try.func72, rfl, by kernel_rfl, by kernel_rfl, rfl⟩

theorem readFix_call (s : List UInt8) (hs : s.length ≤ 1000000) : PCall Try.prog 72 [.str s] (fun r => r = resRN (parseF s)) := by
  refine lift_foliowrightref_ReadFix.call rfl ?_
  unfold parseF
  cases s with
  | nil =>
    have hs0 : signP [] = (false, []) := rfl
    have hR : resRN (finP false (parseL [] 0 0 (-1))) = .tup [.int .i64 0, .int .i64 4] := rfl
    rw [hs0, hR]
    simp (maxSteps := 2000000) (disch := omega) only [go_sem, ↓reduceIte, L_foliowrightref_ReadFix, R_foliowrightref_ReadFix]
    refine run_unroll ?_
    simp (maxSteps := 2000000) (disch := omega) only [go_sem, ↓reduceIte]
  | cons c r =>
    have hc8 := u8_lt c
    have hg0 : getI (c :: r) 0 = some c := rfl
    have hlr : r.length + 1 ≤ 1000000 := by simpa using hs
    have hlI : 0 < ((r.length + 1 : Nat) : Int) := by omega
    generalize hst : signP (c :: r) = st
    dsimp only [signP] at hst
    obtain ⟨R, hR⟩ : ∃ R, finP st.1 (parseL st.2 0 0 (-1)) = R := ⟨_, rfl⟩
    rw [hR]
    have start : ∃ (A : Nat) (N : Bool) (G : Int), (if N = true then -1 else 1) = G ∧ A ≤ (c :: r).length ∧ finP N (parseL ((c :: r).drop A) 0 0 (-1)) = R ∧
        (c.toNat = 45 ∧ A = 1 ∧ N = true ∧ G = -1 ∨ c.toNat ≠ 45 ∧ c.toNat = 43 ∧ A = 1 ∧ N = false ∧ G = 1 ∨ c.toNat ≠ 45 ∧ c.toNat ≠ 43 ∧ A = 0 ∧ N = false ∧ G = 1) := by
      by_cases a1 : c.toNat = 45
      · rw [if_pos a1] at hst; subst hst
        exact ⟨1, true, -1, rfl, by simp, hR, .inl ⟨a1, rfl, rfl, rfl⟩⟩
      · rw [if_neg a1] at hst
        by_cases a2 : c.toNat = 43
        · rw [if_pos a2] at hst; subst hst
          exact ⟨1, false, 1, rfl, by simp, hR, .inr (.inl ⟨a1, a2, rfl, rfl, rfl⟩)⟩
        · rw [if_neg a2] at hst; subst hst
          exact ⟨0, false, 1, rfl, by simp, hR, .inr (.inr ⟨a1, a2, rfl, rfl, rfl⟩)⟩
    clear hst hR
    obtain ⟨A, N, G, hGN, hAl, hR, hc⟩ := start
    rcases hc with ⟨a1, hA, hN, hG⟩ | ⟨a1, a2, hA, hN, hG⟩ | ⟨a1, a2, hA, hN, hG⟩
    have a2 : c.toNat ≠ 43 := by omega
    skip
    all_goals
      have b1 : ((c.toNat : Int) = 45) = (c.toNat = 45) := by simp only [eq_iff_iff]; omega
      have b2 : ((c.toNat : Int) = 43) = (c.toNat = 43) := by simp only [eq_iff_iff]; omega
      simp (maxSteps := 2000000) (disch := omega) only [go_sem, ↓reduceIte, L_foliowrightref_ReadFix, R_foliowrightref_ReadFix, hg0, hlI, b1, b2, a1, a2]
      obtain ⟨T, hT⟩ : ∃ T, c :: r = T := ⟨_, rfl⟩
      rw [hT] at hR hAl hs ⊢
      refine run_loop (fun y : Nat × Nat × Nat × Int × Nat × Nat × Nat => ⟨[(0, .d (.str T)), (4, .d (.int .i64 (y.1 : Nat))), (5, .d (.int .i64 G)), (6, .d (.int .i64 (y.2.2.2.2.1 : Nat))), (7, .d (.int .i64 (y.2.2.2.2.2.1 : Nat))), (8, .d (.int .i64 (y.2.2.2.2.2.2 : Nat))), (9, .d (.int .i64 (y.2.2.1 : Nat))), (10, .d (.bool (decide (0 ≤ y.2.2.2.1))))], [], []⟩)
        (fun y => y.1 ≤ T.length ∧ y.2.2.1 ≤ y.1 ∧ Rel y.2.1 y.2.2.2.1 y.2.2.2.2.1 y.2.2.2.2.2.1 y.2.2.2.2.2.2 ∧ finP N (parseL (T.drop y.1) y.2.1 y.2.2.1 y.2.2.2.1) = R) (fun y => T.length - y.1) (A, 0, 0, -1, 0, 0, 100) ?_ ?_ ?_
      · refine weak_mk ?_ trivial
        simp (maxSteps := 2000000) only [go_sem, ↓reduceIte, Sub, Int.natCast_add, Int.natCast_mul, hA, hG]
        try simp
      · exact ⟨hAl, by simp, ⟨by simp [Kp], by simp, by simp, by simp, by simp⟩, hR⟩
      · rintro ⟨i, n, d, p, w, q, t⟩ ⟨hi, hd, hr, hF⟩
        simp only at hi hd hr hF
        simp (maxSteps := 2000000) only [go_sem, ↓reduceIte]
        refine ⟨fun q1 => ?_, fun q1 => ?_⟩
        · obtain ⟨x, hx⟩ := get_some (l := T) (i := i) (by omega)
          have hx8 := u8_lt x
          rw [drop_cons hx] at hF
          unfold parseL at hF
          by_cases e1 : x.toNat = 46 ∧ p < 0
          · rw [if_pos e1] at hF
            have e1a : (x.toNat : Int) = 46 := by omega
            have e1b : ¬ (0 ≤ p) := by omega
            simp (maxSteps := 2000000) (disch := omega) only [go_sem, ↓reduceIte, getI_nat, hx, e1a, e1b]
            refine ⟨(i + 1, n, d, 0, w, q, t), ?_, ⟨by simp only; omega, by simp only; omega, rel_point hr e1.2, hF⟩, by simp only; omega⟩
            refine weak_mk ?_ trivial
            simp (maxSteps := 2000000) only [go_sem, ↓reduceIte, Sub, Int.natCast_add, Int.natCast_mul]
            try simp
          · rw [if_neg e1] at hF
            by_cases e2 : x.toNat < 48 ∨ 57 < x.toNat
            · rw [if_pos e2] at hF
              subst hF
              have hres : resRN (finP N none) = .tup [.int .i64 0, .int .i64 4] := rfl
              rw [hres]
              simp (maxSteps := 2000000) only [go_sem, ↓reduceIte, getI_nat, hx]
              refine ⟨fun a => ⟨fun b => by omega, fun b h1 h2 => by omega⟩, fun a h1 h2 => by omega⟩
            · rw [if_neg e2] at hF
              have hne46 : ¬ ((x.toNat : Int) = 46) := by omega
              have h48 : ¬ ((x.toNat : Int) < 48) := by omega
              have h57 : ¬ (57 < (x.toNat : Int)) := by omega
              obtain ⟨k, hk⟩ : ∃ k, x.toNat - 48 = k := ⟨_, rfl⟩
              have hk' : (x.toNat : Int) - 48 = (k : Int) := by omega
              rw [hk] at hF
              have hk9 : k ≤ 9 := by omega
              have hr' := hr
              obtain ⟨r1, r2, r3, r4, r5⟩ := hr'
              have ht9 : t ≤ 100 := by omega
              have hm9 : t * k ≤ 900 := Nat.mul_le_mul ht9 hk9
              have hq9 : q ≤ 1000 := by omega
              have hti : Int.tdiv (t : Int) 10 = ((t / 10 : Nat) : Int) := rfl
              have hmi : (t : Int) * (k : Int) = ((t * k : Nat) : Int) := by rw [Int.natCast_mul]
              by_cases hp : 0 ≤ p
              · simp (maxSteps := 2000000) (disch := omega) only [go_sem, ↓reduceIte, getI_nat, hx, hne46, h48, h57, hk', hp, hti, hmi]
                have hrp := rel_part hr hp hk9
                have hp1 : (if 0 ≤ p then p + 1 else p) = p + 1 := if_pos hp
                have hp2 : decide (0 ≤ p) = true := by simp; omega
                have hp3 : decide (0 ≤ p + 1) = true := by simp; omega
                rw [hp1] at hF hrp
                refine ⟨(i + 1, _, d + 1, p + 1, w, q + t * k, t / 10), ?_, ⟨by simp only; omega, by simp only; omega, hrp, hF⟩, by simp only; omega⟩
                simp only [hp2, hp3]
                refine weak_mk ?_ trivial
                simp (maxSteps := 2000000) only [go_sem, ↓reduceIte, Sub, Int.natCast_add, Int.natCast_mul]
              · simp (maxSteps := 2000000) (disch := omega) only [go_sem, ↓reduceIte, getI_nat, hx, hne46, h48, h57, hk', hp, hti, hmi]
                have hp1 : (if 0 ≤ p then p + 1 else p) = p := if_neg hp
                have hp2 : decide (0 ≤ p) = false := by simp; omega
                have hw := rel_whole (k := k) hr (by omega) hk9
                rw [hp1] at hF hw
                refine ⟨fun c1 => ?_, fun c1 => ?_⟩
                · rw [if_pos (by omega : w < 10000000)] at hw
                  refine ⟨(i + 1, _, d + 1, p, 10 * w + k, q, t), ?_, ⟨by simp only; omega, by simp only; omega, hw, hF⟩, by simp only; omega⟩
                  simp only [hp2]
                  refine weak_mk ?_ trivial
                  simp (maxSteps := 2000000) only [go_sem, ↓reduceIte, Sub, Int.natCast_add, Int.natCast_mul]
                · rw [if_neg (by omega : ¬ w < 10000000)] at hw
                  refine ⟨(i + 1, _, d + 1, p, w, q, t), ?_, ⟨by simp only; omega, by simp only; omega, hw, hF⟩, by simp only; omega⟩
                  simp only [hp2]
                  refine weak_mk ?_ trivial
                  simp (maxSteps := 2000000) only [go_sem, ↓reduceIte, Sub, Int.natCast_add, Int.natCast_mul]
        · rw [List.drop_eq_nil_of_le (by omega)] at hF
          unfold parseL at hF
          dsimp only [finP] at hF
          rw [Kp_pow] at hF
          obtain ⟨r1, r2, r3, r4, r5⟩ := hr
          refine ⟨fun c1 => ?_, fun c1 => ?_⟩
          · rw [if_pos (by omega)] at hF
            subst hF
            simp [resRN]
          · rw [if_neg (by omega)] at hF
            generalize n * Kp p = M at hF r5
            have hq9 : q ≤ 1000 := by omega
            simp (disch := omega) only [IntWalk.i64_in, IntWalk.u8_in]
            refine ⟨fun c3 => ?_, fun c3 => ?_⟩
            · rw [if_pos (by omega)] at hF
              subst hF
              rfl
            · rw [if_neg (by omega)] at hF
              have hM : M = 1000 * w + q := by omega
              subst hF
              subst hM
              rw [hG, hN]
              simp (disch := omega) only [IntWalk.i64_in, IntWalk.u8_in]
              simp [resRN]
end Go.Av.Try
