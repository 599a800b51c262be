import Derived.Test.YtbfljokjkcdbeaaDBase
/- Signs, and digits to the base 16. -/
set_option linter.unusedSimpArgs false
namespace Go.Av.Try
open Go.Proofs
/-- parse.Blank -/
def L_parse_Blank : LCode :=
  .seq (.reg [⟨some 2, .asg (.k (.d (.bool false))), none⟩]) (.seq (.reg [⟨some 3, .val (.cp (.t 0)), none⟩, ⟨some 4, .val (.bin .eql (.t 3) (.k (.d (.int .u8 0)))), none⟩, ⟨some 5, 
  .val (.cp (.t 4)), none⟩, ⟨some 6, .val (.cp (.t 0)), some (5, false)⟩, ⟨some 7, .val (.bin .eql (.t 6) (.k (.d (.int .u8 9)))), some (5, false)⟩, ⟨some 8, .val (.pick (.t 5) (.k 
  (.d (.bool true))) (.t 7)), none⟩, ⟨some 9, .val (.cp (.t 8)), none⟩, ⟨some 10, .val (.cp (.t 0)), some (9, false)⟩, ⟨some 11, .val (.bin .eql (.t 10) (.k (.d (.int .u8 10)))), 
  some (9, false)⟩, ⟨some 12, .val (.pick (.t 9) (.k (.d (.bool true))) (.t 11)), none⟩, ⟨some 13, .val (.cp (.t 12)), none⟩, ⟨some 14, .val (.cp (.t 0)), some (13, false)⟩, ⟨some 
  15, .val (.bin .eql (.t 14) (.k (.d (.int .u8 12)))), some (13, false)⟩, ⟨some 16, .val (.pick (.t 13) (.k (.d (.bool true))) (.t 15)), none⟩, ⟨some 17, .val (.cp (.t 16)), 
  none⟩, ⟨some 18, .val (.cp (.t 0)), some (17, false)⟩, ⟨some 19, .val (.bin .eql (.t 18) (.k (.d (.int .u8 13)))), some (17, false)⟩, ⟨some 20, .val (.pick (.t 17) (.k (.d (.bool 
  true))) (.t 19)), none⟩, ⟨some 21, .val (.cp (.t 20)), none⟩, ⟨some 22, .val (.cp (.t 0)), some (21, false)⟩, ⟨some 23, .val (.bin .eql (.t 22) (.k (.d (.int .u8 32)))), some 
  (21, false)⟩, ⟨some 24, .val (.pick (.t 21) (.k (.d (.bool true))) (.t 23)), none⟩, ⟨some 2, .asg (.t 24), none⟩]) .ret)
def R_parse_Blank : List LRes := [.tmp 2]
theorem lift_parse_Blank : Lifts Try.prog 29 25 L_parse_Blank R_parse_Blank := ⟨_, _, Try.func29, rfl, by kernel_rfl, by kernel_rfl, rfl⟩

/-- parse.Hex -/
def L_parse_Hex : LCode :=
  .seq (.reg [⟨some 2, .asg (.k (.d (.int .i64 0))), none⟩]) (.seq (.block 0 (.seq (.reg [⟨some 4, .val (.cp (.t 0)), none⟩, ⟨some 5, .val (.bin .geq (.t 4) (.k (.d (.int .u8 48)))), 
  none⟩, ⟨some 6, .val (.cp (.t 5)), none⟩, ⟨some 7, .val (.cp (.t 0)), some (6, true)⟩, ⟨some 8, .val (.bin .leq (.t 7) (.k (.d (.int .u8 57)))), some (6, true)⟩, ⟨some 9, .val 
  (.pick (.t 6) (.t 8) (.k (.d (.bool false)))), none⟩, ⟨some 3, .asg (.t 9), none⟩]) (.cond (.t 3) (.seq (.reg [⟨some 10, .val (.cp (.t 0)), none⟩, ⟨some 11, .val (.bin .sub (.t 
  10) (.k (.d (.int .u8 48)))), none⟩, ⟨some 12, .val (.cvI .i64 (.t 11)), none⟩, ⟨some 2, .asg (.t 12), none⟩]) .ret) (.seq (.reg [⟨some 14, .val (.cp (.t 0)), none⟩, ⟨some 15, 
  .val (.bin .geq (.t 14) (.k (.d (.int .u8 97)))), none⟩, ⟨some 16, .val (.cp (.t 15)), none⟩, ⟨some 17, .val (.cp (.t 0)), some (16, true)⟩, ⟨some 18, .val (.bin .leq (.t 17) (.k 
  (.d (.int .u8 102)))), some (16, true)⟩, ⟨some 19, .val (.pick (.t 16) (.t 18) (.k (.d (.bool false)))), none⟩, ⟨some 13, .asg (.t 19), none⟩]) (.cond (.t 13) (.seq (.reg [⟨some 
  20, .val (.cp (.t 0)), none⟩, ⟨some 21, .val (.bin .sub (.t 20) (.k (.d (.int .u8 97)))), none⟩, ⟨some 22, .val (.cvI .i64 (.t 21)), none⟩, ⟨some 23, .val (.bin .add (.t 22) (.k 
  (.d (.int .i64 10)))), none⟩, ⟨some 2, .asg (.t 23), none⟩]) .ret) (.seq (.reg [⟨some 25, .val (.cp (.t 0)), none⟩, ⟨some 26, .val (.bin .geq (.t 25) (.k (.d (.int .u8 65)))), 
  none⟩, ⟨some 27, .val (.cp (.t 26)), none⟩, ⟨some 28, .val (.cp (.t 0)), some (27, true)⟩, ⟨some 29, .val (.bin .leq (.t 28) (.k (.d (.int .u8 70)))), some (27, true)⟩, ⟨some 30, 
  .val (.pick (.t 27) (.t 29) (.k (.d (.bool false)))), none⟩, ⟨some 24, .asg (.t 30), none⟩]) (.cond (.t 24) (.seq (.reg [⟨some 31, .val (.cp (.t 0)), none⟩, ⟨some 32, .val (.bin 
  .sub (.t 31) (.k (.d (.int .u8 65)))), none⟩, ⟨some 33, .val (.cvI .i64 (.t 32)), none⟩, ⟨some 34, .val (.bin .add (.t 33) (.k (.d (.int .i64 10)))), none⟩, ⟨some 2, .asg (.t 
  34), none⟩]) .ret) .skip))))))) (.seq (.reg [⟨some 2, .asg (.k (.d (.int .i64 (-1)))), none⟩]) .ret))
def R_parse_Hex : List LRes := [.tmp 2]
theorem lift_parse_Hex : Lifts Try.prog 27 35 L_parse_Hex R_parse_Hex := ⟨_, _, Try.func27, rfl, by kernel_rfl, by kernel_rfl, rfl⟩


def blankB (n : Int) : Bool := decide (n = 0) || (decide (n = 9) || (decide (n = 10) || (decide (n = 12) || (decide (n = 13) || decide (n = 32)))))
def hexI (n : Int) : Int := if 48 ≤ n ∧ n ≤ 57 then n - 48 else if 97 ≤ n ∧ n ≤ 102 then n - 87 else if 65 ≤ n ∧ n ≤ 70 then n - 55 else -1

theorem blank_call (n : Int) : PCall Try.prog 29 [.int .u8 n] (fun r => r = .one (.bool (blankB n))) := by
  refine lift_parse_Blank.call rfl ?_
  simp (maxSteps := 2000000) only [go_sem, ↓reduceIte, L_parse_Blank, R_parse_Blank]
  unfold blankB
  simp +contextual

theorem hex_call {n : Int} (h : 0 ≤ n ∧ n < 256) : PCall Try.prog 27 [.int .u8 n] (fun r => r = .one (.int .i64 (hexI n))) := by
  refine lift_parse_Hex.call rfl ?_
  simp (maxSteps := 2000000) only [go_sem, ↓reduceIte, L_parse_Hex, R_parse_Hex]
  unfold hexI
  repeat' (first | apply And.intro | intro _)
  all_goals
    congr 2
    try simp only [IntKind.wrap_i64, IntKind.wrap_u8]
    (repeat' split) <;> omega
def unhexF : List UInt8 → Int → List UInt8 → List UInt8 × Nat
  | [], _, _ => ([], 5)
  | c :: r, h, b =>
    if c.toNat = 62 then (if 0 ≤ h then b ++ [byteI (16 * h)] else b, 0)
    else if blankB c.toNat = true then unhexF r h b
    else if hexI c.toNat < 0 then ([], 4)
    else if h < 0 then unhexF r (hexI c.toNat) b
    else unhexF r (-1) (b ++ [byteI (16 * h + hexI c.toNat)])

theorem hexI_bounds (n : Int) : -1 ≤ hexI n ∧ hexI n ≤ 15 := by
  unfold hexI; (repeat' split) <;> omega

/-- foliowrightref.Blank -/
def L_foliowrightref_Blank : LCode :=
  .seq (.reg [⟨some 2, .asg (.k (.d (.bool false))), none⟩]) (.seq (.reg [⟨some 3, .val (.cp (.t 0)), none⟩, ⟨some 4, .val (.bin .eql (.t 3) (.k (.d (.int .u8 0)))), none⟩, ⟨some 5, 
  .val (.cp (.t 4)), none⟩, ⟨some 6, .val (.cp (.t 0)), some (5, false)⟩, ⟨some 7, .val (.bin .eql (.t 6) (.k (.d (.int .u8 9)))), some (5, false)⟩, ⟨some 8, .val (.pick (.t 5) (.k 
  (.d (.bool true))) (.t 7)), none⟩, ⟨some 9, .val (.cp (.t 8)), none⟩, ⟨some 10, .val (.cp (.t 0)), some (9, false)⟩, ⟨some 11, .val (.bin .eql (.t 10) (.k (.d (.int .u8 10)))), 
  some (9, false)⟩, ⟨some 12, .val (.pick (.t 9) (.k (.d (.bool true))) (.t 11)), none⟩, ⟨some 13, .val (.cp (.t 12)), none⟩, ⟨some 14, .val (.cp (.t 0)), some (13, false)⟩, ⟨some 
  15, .val (.bin .eql (.t 14) (.k (.d (.int .u8 12)))), some (13, false)⟩, ⟨some 16, .val (.pick (.t 13) (.k (.d (.bool true))) (.t 15)), none⟩, ⟨some 17, .val (.cp (.t 16)), 
  none⟩, ⟨some 18, .val (.cp (.t 0)), some (17, false)⟩, ⟨some 19, .val (.bin .eql (.t 18) (.k (.d (.int .u8 13)))), some (17, false)⟩, ⟨some 20, .val (.pick (.t 17) (.k (.d (.bool 
  true))) (.t 19)), none⟩, ⟨some 21, .val (.cp (.t 20)), none⟩, ⟨some 22, .val (.cp (.t 0)), some (21, false)⟩, ⟨some 23, .val (.bin .eql (.t 22) (.k (.d (.int .u8 32)))), some 
  (21, false)⟩, ⟨some 24, .val (.pick (.t 21) (.k (.d (.bool true))) (.t 23)), none⟩, ⟨some 2, .asg (.t 24), none⟩]) .ret)
def R_foliowrightref_Blank : List LRes := [.tmp 2]
theorem lift_foliowrightref_Blank : Lifts Try.prog 30 25 L_foliowrightref_Blank R_foliowrightref_Blank := ⟨_, _, Try.func30, rfl, by kernel_rfl, by kernel_rfl, rfl⟩

theorem rblank_call (n : Int) : PCall Try.prog 30 [.int .u8 n] (fun r => r = .one (.bool (blankB n))) := by
  refine lift_foliowrightref_Blank.call rfl ?_
  simp (maxSteps := 2000000) only [go_sem, ↓reduceIte, L_foliowrightref_Blank, R_foliowrightref_Blank]
  unfold blankB
  simp +contextual

def hexTab0 : List UInt8 := [48, 49, 50, 51, 52, 53, 54, 55, 56, 57, 65, 66, 67, 68, 69, 70]
theorem tabv : ∀ i : Fin 16, (hexTab0.getD i.val 0).toNat = if i.val < 10 then 48 + i.val else 55 + i.val := by decide
theorem tabv' {i : Nat} (h : i < 16) : (hexTab0.getD i 0).toNat = if i < 10 then 48 + i else 55 + i := tabv ⟨i, h⟩

/-- foliowrightref.HexOf -/
def L_foliowrightref_HexOf : LCode :=
  .seq (.reg [⟨some 2, .asg (.k (.d (.int .i64 0))), none⟩]) (.seq (.seq (.reg [⟨some 4, .val (.cp (.t 0)), none⟩, ⟨some 5, .val (.bin .geq (.t 4) (.k (.d (.int .u8 97)))), none⟩, 
  ⟨some 6, .val (.cp (.t 5)), none⟩, ⟨some 7, .val (.cp (.t 0)), some (6, true)⟩, ⟨some 8, .val (.bin .leq (.t 7) (.k (.d (.int .u8 102)))), some (6, true)⟩, ⟨some 9, .val (.pick 
  (.t 6) (.t 8) (.k (.d (.bool false)))), none⟩]) (.cond (.t 9) (.reg [⟨some 10, .val (.cp (.t 0)), none⟩, ⟨some 11, .val (.bin .sub (.t 10) (.k (.d (.int .u8 32)))), none⟩, ⟨some 
  0, .asg (.t 11), none⟩]) .skip)) (.seq (.seq (.reg [⟨some 3, .asg (.k (.d (.int .i64 0))), none⟩]) (.block 0 (.loop (.seq (.seq (.reg [⟨some 12, .val (.cp (.t 3)), none⟩, ⟨some 
  13, .val (.bin .lss (.t 12) (.k (.d (.int .i64 16)))), none⟩]) (.cond (.t 13) .skip (.exit 0))) (.seq (.block 1 (.seq (.reg [⟨some 16, .val (.cp (.t 3)), none⟩, ⟨some 17, .val 
  (.idxS (.k (.d (.str [48, 49, 50, 51, 52, 53, 54, 55, 56, 57, 65, 66, 67, 68, 69, 70]))) (.t 16)), none⟩, ⟨some 18, .val (.cp (.t 0)), none⟩, ⟨some 19, .val (.bin .eql (.t 17) 
  (.t 18)), none⟩]) (.cond (.t 19) (.seq (.reg [⟨some 20, .val (.cp (.t 3)), none⟩, ⟨some 2, .asg (.t 20), none⟩]) .ret) .skip))) (.reg [⟨some 14, .val (.cp (.t 3)), none⟩, ⟨some 
  15, .val (.bin .add (.t 14) (.k (.d (.int .i64 1)))), none⟩, ⟨some 3, .asg (.t 15), none⟩])))))) (.seq (.reg [⟨some 2, .asg (.k (.d (.int .i64 (-1)))), none⟩]) .ret)))
def R_foliowrightref_HexOf : List LRes := [.tmp 2]
theorem lift_foliowrightref_HexOf : Lifts Try.prog 28 21 L_foliowrightref_HexOf R_foliowrightref_HexOf := ⟨_, _, Try.func28, rfl, by kernel_rfl, by kernel_rfl, rfl⟩

theorem hexOf_call (c : Nat) (h : c < 256) : PCall Try.prog 28 [.int .u8 c] (fun r => r = .one (.int .i64 (hexI c))) := by
  refine lift_foliowrightref_HexOf.call rfl ?_
  have ht : ([48, 49, 50, 51, 52, 53, 54, 55, 56, 57, 65, 66, 67, 68, 69, 70] : List UInt8) = hexTab0 := rfl
  have htl : hexTab0.length = 16 := rfl
  simp (maxSteps := 2000000) (disch := omega) only [go_sem, ↓reduceIte, L_foliowrightref_HexOf, R_foliowrightref_HexOf]
  have fin : ∀ i d : Nat, i < 16 → d = (if 97 ≤ c ∧ c ≤ 102 then c - 32 else c) → (hexTab0.getD i 0).toNat = d → hexI c = i := fun i d hi hd ht => by
    rw [tabv' hi] at ht
    unfold hexI
    subst hd
    (repeat' split at ht) <;> (repeat' split) <;> omega
  have fin2 : ∀ d : Nat, d = (if 97 ≤ c ∧ c ≤ 102 then c - 32 else c) → (∀ j, j < 16 → (hexTab0.getD j 0).toNat ≠ d) → hexI c = -1 := fun d hd hj => by
    unfold hexI
    split
    · have := hj (c - 48) (by omega); rw [tabv' (by omega)] at this
      subst hd; split at this <;> split at this <;> omega
    · split
      · have := hj (c - 87) (by omega); rw [tabv' (by omega)] at this
        subst hd; split at this <;> split at this <;> omega
      · split
        · have := hj (c - 55) (by omega); rw [tabv' (by omega)] at this
          subst hd; split at this <;> split at this <;> omega
        · rfl
  refine ⟨fun a1 => ⟨fun a2 => ?_, fun a2 => ?_⟩, fun a1 => ?_⟩
  · rw [show IntKind.u8.wrap ((c : Int) - 32) = ((c - 32 : Nat) : Int) by rw [IntWalk.u8_in _ (by omega)]; omega]
    have hd : (c - 32) = (if 97 ≤ c ∧ c ≤ 102 then c - 32 else c) := by split <;> omega
    refine run_loop (fun i : Nat => ⟨[(0, .d (.int .u8 ((c - 32) : Nat))), (3, .d (.int .i64 i))], [], []⟩)
      (fun i => i ≤ 16 ∧ ∀ j, j < i → (hexTab0.getD j 0).toNat ≠ (c - 32)) (fun i => 16 - i) 0 ?_ ?_ ?_
    · refine weak_mk ?_ trivial
      simp (maxSteps := 2000000) only [go_sem, ↓reduceIte, Sub, Int.natCast_add, Int.natCast_mul]
    · exact ⟨by omega, fun j hj => by omega⟩
    · rintro i ⟨hi, hj⟩
      simp (maxSteps := 2000000) only [go_sem, ↓reduceIte]
      refine ⟨fun q1 => ?_, fun q1 => ?_⟩
      · have hg : hexTab0[i]? = some (hexTab0.getD i 0) := by
          have : i < hexTab0.length := by omega
          simp [List.getD_eq_getElem?_getD, this]
        simp (maxSteps := 2000000) (disch := omega) only [go_sem, ↓reduceIte, ht, getI_nat, hg, Int.ofNat_inj]
        refine ⟨fun q2 => ?_, fun q2 => ⟨i + 1, ?_, ⟨by omega, fun j hj1 => ?_⟩, by omega⟩⟩
        · rw [fin i _ (by omega) hd q2]
        · refine weak_mk ?_ trivial
          simp (maxSteps := 2000000) only [go_sem, ↓reduceIte, Sub, Int.natCast_add, Int.natCast_mul]
        · rcases Nat.lt_or_ge j i with h1 | h1
          · exact hj j h1
          · have : j = i := by omega
            subst this; exact q2
      · have hi16 : i = 16 := by omega
        rw [fin2 _ hd (fun j hj1 => hj j (by omega))]
  · skip
    have hd : c = (if 97 ≤ c ∧ c ≤ 102 then c - 32 else c) := by split <;> omega
    refine run_loop (fun i : Nat => ⟨[(0, .d (.int .u8 (c : Nat))), (3, .d (.int .i64 i))], [], []⟩)
      (fun i => i ≤ 16 ∧ ∀ j, j < i → (hexTab0.getD j 0).toNat ≠ c) (fun i => 16 - i) 0 ?_ ?_ ?_
    · refine weak_mk ?_ trivial
      simp (maxSteps := 2000000) only [go_sem, ↓reduceIte, Sub, Int.natCast_add, Int.natCast_mul]
    · exact ⟨by omega, fun j hj => by omega⟩
    · rintro i ⟨hi, hj⟩
      simp (maxSteps := 2000000) only [go_sem, ↓reduceIte]
      refine ⟨fun q1 => ?_, fun q1 => ?_⟩
      · have hg : hexTab0[i]? = some (hexTab0.getD i 0) := by
          have : i < hexTab0.length := by omega
          simp [List.getD_eq_getElem?_getD, this]
        simp (maxSteps := 2000000) (disch := omega) only [go_sem, ↓reduceIte, ht, getI_nat, hg, Int.ofNat_inj]
        refine ⟨fun q2 => ?_, fun q2 => ⟨i + 1, ?_, ⟨by omega, fun j hj1 => ?_⟩, by omega⟩⟩
        · rw [fin i _ (by omega) hd q2]
        · refine weak_mk ?_ trivial
          simp (maxSteps := 2000000) only [go_sem, ↓reduceIte, Sub, Int.natCast_add, Int.natCast_mul]
        · rcases Nat.lt_or_ge j i with h1 | h1
          · exact hj j h1
          · have : j = i := by omega
            subst this; exact q2
      · have hi16 : i = 16 := by omega
        rw [fin2 _ hd (fun j hj1 => hj j (by omega))]
  · skip
    have hd : c = (if 97 ≤ c ∧ c ≤ 102 then c - 32 else c) := by split <;> omega
    refine run_loop (fun i : Nat => ⟨[(0, .d (.int .u8 (c : Nat))), (3, .d (.int .i64 i))], [], []⟩)
      (fun i => i ≤ 16 ∧ ∀ j, j < i → (hexTab0.getD j 0).toNat ≠ c) (fun i => 16 - i) 0 ?_ ?_ ?_
    · refine weak_mk ?_ trivial
      simp (maxSteps := 2000000) only [go_sem, ↓reduceIte, Sub, Int.natCast_add, Int.natCast_mul]
    · exact ⟨by omega, fun j hj => by omega⟩
    · rintro i ⟨hi, hj⟩
      simp (maxSteps := 2000000) only [go_sem, ↓reduceIte]
      refine ⟨fun q1 => ?_, fun q1 => ?_⟩
      · have hg : hexTab0[i]? = some (hexTab0.getD i 0) := by
          have : i < hexTab0.length := by omega
          simp [List.getD_eq_getElem?_getD, this]
        simp (maxSteps := 2000000) (disch := omega) only [go_sem, ↓reduceIte, ht, getI_nat, hg, Int.ofNat_inj]
        refine ⟨fun q2 => ?_, fun q2 => ⟨i + 1, ?_, ⟨by omega, fun j hj1 => ?_⟩, by omega⟩⟩
        · rw [fin i _ (by omega) hd q2]
        · refine weak_mk ?_ trivial
          simp (maxSteps := 2000000) only [go_sem, ↓reduceIte, Sub, Int.natCast_add, Int.natCast_mul]
        · rcases Nat.lt_or_ge j i with h1 | h1
          · exact hj j h1
          · have : j = i := by omega
            subst this; exact q2
      · have hi16 : i = 16 := by omega
        rw [fin2 _ hd (fun j hj1 => hj j (by omega))]

/-- foliowrightref.Unhex -/
def L_foliowrightref_Unhex : LCode :=
  .seq (.reg [⟨some 4, .asg (.k (.d (.str []))), none⟩, ⟨some 5, .asg (.k (.d (.int .i64 0))), none⟩, ⟨some 6, .asg (.k (.d (.int .i64 0))), none⟩]) (.seq (.reg [⟨some 7, .nils 5 1, 
  none⟩]) (.seq (.reg [⟨some 8, .asg (.k (.d (.int .i64 0))), none⟩]) (.seq (.reg [⟨some 9, .asg (.k (.d (.int .i64 0))), none⟩]) (.seq (.block 0 (.loop (.seq (.seq (.reg [⟨some 
  11, .val (.cp (.t 1)), none⟩, ⟨some 12, .val (.cp (.t 0)), none⟩, ⟨some 13, .val (.len true (.t 12)), none⟩, ⟨some 14, .val (.bin .lss (.t 11) (.t 13)), none⟩]) (.cond (.t 14) 
  .skip (.exit 0))) (.seq (.block 1 (.seq (.seq (.reg [⟨some 17, .val (.cp (.t 0)), none⟩, ⟨some 18, .val (.cp (.t 1)), none⟩, ⟨some 19, .val (.idxS (.t 17) (.t 18)), none⟩, ⟨some 
  20, .val (.bin .eql (.t 19) (.k (.d (.int .u8 62)))), none⟩]) (.cond (.t 20) (.seq (.seq (.reg [⟨some 21, .val (.cp (.t 8)), none⟩, ⟨some 22, .val (.bin .rem (.t 21) (.k (.d 
  (.int .i64 2)))), none⟩, ⟨some 23, .val (.bin .eql (.t 22) (.k (.d (.int .i64 1)))), none⟩]) (.cond (.t 23) (.reg [⟨some 24, .val (.cp (.t 7)), none⟩, ⟨some 25, .val (.cp (.t 
  9)), none⟩, ⟨some 26, .val (.bin .mul (.k (.d (.int .i64 16))) (.t 25)), none⟩, ⟨some 27, .val (.cvI .u8 (.t 26)), none⟩, ⟨some 28, .bsl 5 1 [.t 27], none⟩, ⟨some 29, .app 5 1 1 
  false (.t 24) (.t 28), none⟩, ⟨some 7, .asg (.t 29), none⟩]) .skip)) (.seq (.reg [⟨some 30, .val (.cp (.t 7)), none⟩, ⟨some 31, .val (.b2s (.t 30)), none⟩, ⟨some 32, .val (.cp 
  (.t 1)), none⟩, ⟨some 33, .val (.bin .add (.t 32) (.k (.d (.int .i64 1)))), none⟩, ⟨some 4, .asg (.t 31), none⟩, ⟨some 5, .asg (.t 33), none⟩, ⟨some 6, .asg (.k (.d (.int .i64 
  0))), none⟩]) .ret)) .skip)) (.seq (.seq (.reg [⟨some 34, .val (.cp (.t 0)), none⟩, ⟨some 35, .val (.cp (.t 1)), none⟩, ⟨some 36, .val (.idxS (.t 34) (.t 35)), none⟩, ⟨some 37, 
  .call 30 [.t 36], none⟩]) (.cond (.t 37) (.exit 1) .skip)) (.seq (.reg [⟨some 38, .val (.cp (.t 0)), none⟩, ⟨some 39, .val (.cp (.t 1)), none⟩, ⟨some 40, .val (.idxS (.t 38) (.t 
  39)), none⟩, ⟨some 41, .call 28 [.t 40], none⟩, ⟨some 10, .asg (.t 41), none⟩]) (.seq (.seq (.reg [⟨some 42, .val (.cp (.t 10)), none⟩, ⟨some 43, .val (.bin .lss (.t 42) (.k (.d 
  (.int .i64 0)))), none⟩]) (.cond (.t 43) (.seq (.reg [⟨some 4, .asg (.k (.d (.str []))), none⟩, ⟨some 5, .asg (.k (.d (.int .i64 0))), none⟩, ⟨some 6, .asg (.k (.d (.int .i64 
  4))), none⟩]) .ret) .skip)) (.seq (.seq (.reg [⟨some 44, .val (.cp (.t 8)), none⟩, ⟨some 45, .val (.bin .rem (.t 44) (.k (.d (.int .i64 2)))), none⟩, ⟨some 46, .val (.bin .eql 
  (.t 45) (.k (.d (.int .i64 1)))), none⟩]) (.cond (.t 46) (.reg [⟨some 47, .val (.cp (.t 7)), none⟩, ⟨some 48, .val (.cp (.t 9)), none⟩, ⟨some 49, .val (.bin .mul (.k (.d (.int 
  .i64 16))) (.t 48)), none⟩, ⟨some 50, .val (.cp (.t 10)), none⟩, ⟨some 51, .val (.bin .add (.t 49) (.t 50)), none⟩, ⟨some 52, .val (.cvI .u8 (.t 51)), none⟩, ⟨some 53, .bsl 5 1 
  [.t 52], none⟩, ⟨some 54, .app 5 1 1 false (.t 47) (.t 53), none⟩, ⟨some 7, .asg (.t 54), none⟩]) .skip)) (.seq (.reg [⟨some 55, .val (.cp (.t 10)), none⟩, ⟨some 9, .asg (.t 55), 
  none⟩]) (.reg [⟨some 56, .val (.cp (.t 8)), none⟩, ⟨some 57, .val (.bin .add (.t 56) (.k (.d (.int .i64 1)))), none⟩, ⟨some 8, .asg (.t 57), none⟩])))))))) (.reg [⟨some 15, .val 
  (.cp (.t 1)), none⟩, ⟨some 16, .val (.bin .add (.t 15) (.k (.d (.int .i64 1)))), none⟩, ⟨some 1, .asg (.t 16), none⟩]))))) (.seq (.reg [⟨some 4, .asg (.k (.d (.str []))), none⟩, 
  ⟨some 5, .asg (.k (.d (.int .i64 0))), none⟩, ⟨some 6, .asg (.k (.d (.int .i64 5))), none⟩]) .ret)))))
def R_foliowrightref_Unhex : List LRes := [.tmp 4, .tmp 5, .tmp 6]
theorem lift_foliowrightref_Unhex : Lifts Try.prog 69 58 L_foliowrightref_Unhex R_foliowrightref_Unhex := ⟨_, _, Try.func69, rfl, by kernel_rfl, by kernel_rfl, rfl⟩

/-- the first place behind a sign that ends digits -/
def gtEnd : List UInt8 → Nat
  | [] => 0
  | c :: r => if c.toNat = 62 then 1 else gtEnd r + 1

theorem runhex_call (s : List UInt8) (at_ : Nat) (hs : s.length ≤ 1000000000) (ha : at_ ≤ s.length) : PCall Try.prog 69 [.str s, .int .i64 at_] (fun r => r = .tup [.str (unhexF (s.drop at_) (-1) []).1,
    .int .i64 (if (unhexF (s.drop at_) (-1) []).2 = 0 then at_ + gtEnd (s.drop at_) else 0 : Nat), .int .i64 (unhexF (s.drop at_) (-1) []).2]) := by
  refine lift_foliowrightref_Unhex.call rfl ?_
  generalize hR : unhexF (s.drop at_) (-1) [] = R
  generalize hE : at_ + gtEnd (s.drop at_) = E
  simp (maxSteps := 2000000) only [go_sem, ↓reduceIte, L_foliowrightref_Unhex, R_foliowrightref_Unhex]
  refine run_loop (fun y : Nat × List UInt8 × Nat × Nat => ⟨[(0, .d (.str s)), (1, .d (.int .i64 y.1)), (7, .own (.t 7) 5 1 (bytesD y.2.1)), (8, .d (.int .i64 y.2.2.1)), (9, .d (.int .i64 y.2.2.2))], [], []⟩)
    (fun y => y.1 ≤ s.length ∧ y.2.1.length ≤ y.1 ∧ y.2.2.1 ≤ y.1 ∧ y.2.2.2 ≤ 15 ∧ y.1 + gtEnd (s.drop y.1) = E ∧ unhexF (s.drop y.1) (if y.2.2.1 % 2 = 1 then y.2.2.2 else -1) y.2.1 = R) (fun y => s.length - y.1) (at_, [], 0, 0) ?_ ?_ ?_
  · refine weak_mk ?_ trivial
    simp (maxSteps := 2000000) only [go_sem, ↓reduceIte, Sub, Int.natCast_add, Int.natCast_mul, bytesD]
  · exact ⟨by simpa using ha, by simp, by simp, by simp, by simpa using hE, by simpa using hR⟩
  · rintro ⟨i, b, n, x⟩ ⟨hi, hb, hn, hx, hE', hF⟩
    simp only at hi hb hn hx hE' hF
    have hblen := bytesD_length b
    have hm : ∀ n : Nat, Int.tmod (n : Int) 2 = ((n % 2 : Nat) : Int) := fun n => rfl
    simp (maxSteps := 2000000) only [go_sem, ↓reduceIte]
    refine ⟨fun hlt => ?_, fun hge => ?_⟩
    · obtain ⟨c, hc⟩ := get_some (l := s) (i := i) (by omega)
      have hc8 := u8_lt c
      have hxx := hexI_bounds c.toNat
      rw [drop_cons hc] at hF hE'
      unfold unhexF at hF
      unfold gtEnd at hE'
      rw [getI_nat, hc]
      by_cases e1 : c.toNat = 62
      · have e1' : ((c.toNat : Int) = 62) := by omega
        rw [if_pos e1] at hF hE'
        by_cases e2 : n % 2 = 1
        · rw [if_pos e2, if_pos (by omega)] at hF
          subst hF
          have e2' : ((n % 2 : Nat) : Int) = 1 := by omega
          simp (maxSteps := 2000000) (disch := omega) only [go_sem, ↓reduceIte, hm, e1', e2', bytesD_snocI (b := b) (n := 16 * (x : Int)) (by omega) (by omega), bytesOf_bytesD, ← hE', Int.natCast_add]
          omega
        · rw [if_neg e2, if_neg (by omega)] at hF
          subst hF
          have e2' : ¬ ((n % 2 : Nat) : Int) = 1 := by omega
          simp (maxSteps := 2000000) (disch := omega) only [go_sem, ↓reduceIte, hm, e1', e2', bytesOf_bytesD, ← hE', Int.natCast_add]
      · have e1' : ¬ ((c.toNat : Int) = 62) := by omega
        rw [if_neg e1] at hF hE'
        simp (maxSteps := 2000000) (disch := omega) only [go_sem, ↓reduceIte, hm, e1', getI_nat, hc]
        refine CallG.of (rblank_call _) ?_
        by_cases e3 : blankB c.toNat = true
        · rw [if_pos e3] at hF
          simp (maxSteps := 2000000) (disch := omega) only [go_sem, ↓reduceIte, e3]
          refine ⟨(i + 1, b, n, x), ?_, ⟨by simp only; omega, by simp only; omega, by simp only; omega, hx, by simp only; omega, hF⟩, by simp only; omega⟩
          refine weak_mk ?_ trivial
          simp (maxSteps := 2000000) only [go_sem, ↓reduceIte, Sub, Int.natCast_add, Int.natCast_mul]
        · rw [if_neg e3] at hF
          have e3' : blankB c.toNat = false := by simpa using e3
          simp (maxSteps := 2000000) (disch := omega) only [go_sem, ↓reduceIte, e3', getI_nat, hc]
          refine CallG.of (hexOf_call c.toNat (by omega)) ?_
          by_cases e4 : hexI c.toNat < 0
          · rw [if_pos e4] at hF
            subst hF
            simp (maxSteps := 2000000) (disch := omega) only [go_sem, ↓reduceIte, e4]
          · rw [if_neg e4] at hF
            obtain ⟨h, hh⟩ : ∃ h : Nat, hexI c.toNat = h := ⟨(hexI c.toNat).toNat, by omega⟩
            rw [hh] at hF e4 hxx ⊢
            by_cases e2 : n % 2 = 1
            · rw [if_pos e2, if_neg (by omega)] at hF
              have e2' : ((n % 2 : Nat) : Int) = 1 := by omega
              simp (maxSteps := 2000000) (disch := omega) only [go_sem, ↓reduceIte, hm, e4, e2', bytesD_snocI (b := b) (n := 16 * (x : Int) + (h : Int)) (by omega) (by omega)]
              refine ⟨by omega, (i + 1, b ++ [byteI (16 * (x : Int) + (h : Int))], n + 1, h), ?_, ⟨by simp only; omega, by simp only [List.length_append, List.length_cons, List.length_nil]; omega, by simp only; omega, by simp only; omega, by simp only; omega, ?_⟩, by simp only; omega⟩
              · refine weak_mk ?_ trivial
                simp (maxSteps := 2000000) only [go_sem, ↓reduceIte, Sub, Int.natCast_add, Int.natCast_mul]
              · simp only
                rw [if_neg (by omega)]; exact hF
            · rw [if_neg e2, if_pos (by omega)] at hF
              have e2' : ¬ ((n % 2 : Nat) : Int) = 1 := by omega
              simp (maxSteps := 2000000) (disch := omega) only [go_sem, ↓reduceIte, hm, e4, e2']
              refine ⟨(i + 1, b, n + 1, h), ?_, ⟨by simp only; omega, by simp only; omega, by simp only; omega, by simp only; omega, by simp only; omega, ?_⟩, by simp only; omega⟩
              · refine weak_mk ?_ trivial
                simp (maxSteps := 2000000) only [go_sem, ↓reduceIte, Sub, Int.natCast_add, Int.natCast_mul]
              · simp only
                rw [if_pos (by omega)]; exact hF
    · rw [List.drop_eq_nil_of_le (by omega)] at hF
      unfold unhexF at hF
      subst hF
      simp (maxSteps := 2000000) only [go_sem, ↓reduceIte]
end Go.Av.Try
