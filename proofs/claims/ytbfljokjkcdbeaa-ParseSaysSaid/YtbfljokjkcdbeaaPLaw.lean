import Derived.Test.YtbfljokjkcdbeaaPTop
import Derived.Test.YtbfljokjkcdbeaaESrt
import Derived.Test.YtbfljokjkcdbeaaDBase
/- The law ParseSays: the program's reader is the document's. -/
set_option linter.unusedSimpArgs false
namespace Go.Av.Try
open Go.Proofs

def readsT : List UInt8 := [60, 60, 32, 47, 97, 32, 91, 49, 32, 50, 32, 48, 32, 82, 93, 32, 62, 62, 32, 120]
def goodT : RV → Bool
  | .ok v k => k == 18 && (v.kind == 6 && v.f.length == 1)
  | .bad _ => false
theorem goodT_ : goodT (valueP readsT 0) = true := by kernel_rfl
theorem reads_val : ∃ v, valueP readsT 0 = .ok v 18 ∧ v.kind = 6 ∧ v.f.length = 1 := by
  have h := goodT_
  cases hx : valueP readsT 0 with
  | bad e => rw [hx] at h; cases h
  | ok v k =>
    rw [hx] at h
    simp only [goodT, Bool.and_eq_true, beq_iff_eq] at h
    obtain ⟨rfl, h2, h3⟩ := h
    exact ⟨v, rfl, h2, h3⟩

/-- foliowrightlaw.reads -/
def L_foliowrightlaw_reads : LCode :=
  .seq (.reg [⟨some 0, .asg (.k (.d (.bool false))), none⟩]) (.seq (.reg [⟨some 5, .call 19 [.k (.d (.str [60, 60, 32, 47, 97, 32, 91, 49, 32, 50, 32, 48, 32, 82, 93, 32, 62, 62, 32, 
  120])), .k (.d (.int .i64 0))], none⟩, ⟨some 4, .val (.cp (.t 5)), none⟩, ⟨some 6, .val (.ext 0 (.t 4)), none⟩, ⟨some 7, .val (.ext 1 (.t 4)), none⟩, ⟨some 8, .val (.ext 2 (.t 
  4)), none⟩, ⟨some 1, .allo [.int .i64 0, .int .i64 0, .str [], .list [], .list []], none⟩, ⟨none, .st 5 (.t 1) (.t 6), none⟩, ⟨some 2, .asg (.t 7), none⟩, ⟨some 3, .asg (.t 8), 
  none⟩]) (.seq (.reg [⟨some 9, .val (.cp (.t 3)), none⟩, ⟨some 10, .call 21 [.t 9, .k (.d (.int .i64 0))], none⟩, ⟨some 11, .val (.cp (.t 10)), none⟩, ⟨some 12, .val (.cp (.t 2)), 
  some (11, true)⟩, ⟨some 13, .val (.bin .eql (.t 12) (.k (.d (.int .i64 18)))), some (11, true)⟩, ⟨some 14, .val (.pick (.t 11) (.t 13) (.k (.d (.bool false)))), none⟩, ⟨some 15, 
  .val (.cp (.t 14)), none⟩, ⟨some 16, .val (.fa 0 (.t 1)), some (15, true)⟩, ⟨some 17, .val (.ld false 1 (.t 16)), some (15, true)⟩, ⟨some 18, .val (.bin .eql (.t 17) (.k (.d 
  (.int .i64 6)))), some (15, true)⟩, ⟨some 19, .val (.pick (.t 15) (.t 18) (.k (.d (.bool false)))), none⟩, ⟨some 20, .val (.cp (.t 19)), none⟩, ⟨some 21, .val (.fa 4 (.t 1)), 
  some (20, true)⟩, ⟨some 22, .val (.ld false 1 (.t 21)), some (20, true)⟩, ⟨some 23, .val (.len false (.t 22)), some (20, true)⟩, ⟨some 24, .val (.bin .eql (.t 23) (.k (.d (.int 
  .i64 1)))), some (20, true)⟩, ⟨some 25, .val (.pick (.t 20) (.t 24) (.k (.d (.bool false)))), none⟩, ⟨some 0, .asg (.t 25), none⟩]) .ret))
def R_foliowrightlaw_reads : List LRes := [.tmp 0]
theorem lift_foliowrightlaw_reads : Lifts Try.prog 18 26 L_foliowrightlaw_reads R_foliowrightlaw_reads := ⟨_, _, Try.func18, rfl, by kernel_rfl, by kernel_rfl, rfl⟩

theorem reads_call : PCall Try.prog 18 [] (fun r => r = .one (.bool true)) := by
  obtain ⟨v, h1, h2, h3⟩ := reads_val
  have hc := valueTop_call readsT 0 (by decide)
  rw [h1, topP, Val.d_eq v, h2] at hc
  have hl : ((fldsD v.f).length : Int) = 1 := by rw [fldsD_length, h3]; rfl
  refine lift_foliowrightlaw_reads.call rfl ?_
  simp (maxSteps := 2000000) only [go_sem, ↓reduceIte, L_foliowrightlaw_reads, R_foliowrightlaw_reads]
  refine CallG.of hc ?_
  simp (maxSteps := 2000000) only [go_sem, ↓reduceIte]
  refine CallG.of (same_law 0 0) ?_
  simp (maxSteps := 2000000) only [go_sem, ↓reduceIte, hl]

theorem valueP_good (s : List UInt8) (k : Int) {v : Val} {n : Nat} (h : valueP s k = .ok v n) : v.sm 1048576 = true := by
  unfold valueP at h
  split at h
  · cases h
  · rename_i hc
    have hg := readF_good s 8 k.toNat (by omega)
    split at h
    · cases h
    · rename_i v' k' hx
      split at h
      · cases h
        rw [hx] at hg
        obtain ⟨g1, g2, g3, g4⟩ := hg
        exact Val.sm_mono (by omega) v g3
      · cases h

/-- foliowrightlaw.ParseSays -/
def L_foliowrightlaw_ParseSays : LCode :=
  .seq (.reg [⟨some 4, .asg (.k (.d (.bool false))), none⟩]) (.seq (.reg [⟨some 13, .call 18 [], none⟩, ⟨some 5, .asg (.t 13), none⟩]) (.seq (.seq (.reg [⟨some 14, .val (.cp (.t 5)), 
  none⟩, ⟨some 15, .val (.not (.t 14)), none⟩, ⟨some 16, .val (.cp (.t 15)), none⟩, ⟨some 17, .val (.cp (.t 0)), some (16, false)⟩, ⟨some 18, .val (.len true (.t 17)), some (16, 
  false)⟩, ⟨some 19, .val (.bin .gtr (.t 18) (.k (.d (.int .i64 2000)))), some (16, false)⟩, ⟨some 20, .val (.pick (.t 16) (.k (.d (.bool true))) (.t 19)), none⟩]) (.cond (.t 20) 
  (.seq (.reg [⟨some 21, .val (.cp (.t 5)), none⟩, ⟨some 4, .asg (.t 21), none⟩]) .ret) .skip)) (.seq (.reg [⟨some 23, .val (.cp (.t 0)), none⟩, ⟨some 24, .val (.cp (.t 1)), none⟩, 
  ⟨some 25, .call 19 [.t 23, .t 24], none⟩, ⟨some 22, .val (.cp (.t 25)), none⟩, ⟨some 26, .val (.ext 0 (.t 22)), none⟩, ⟨some 27, .val (.ext 1 (.t 22)), none⟩, ⟨some 28, .val 
  (.ext 2 (.t 22)), none⟩, ⟨some 6, .allo [.int .i64 0, .int .i64 0, .str [], .list [], .list []], none⟩, ⟨none, .st 5 (.t 6) (.t 26), none⟩, ⟨some 7, .asg (.t 27), none⟩, ⟨some 8, 
  .asg (.t 28), none⟩]) (.seq (.reg [⟨some 30, .val (.cp (.t 0)), none⟩, ⟨some 31, .val (.cp (.t 1)), none⟩, ⟨some 32, .call 20 [.t 30, .t 31], none⟩, ⟨some 29, .val (.cp (.t 32)), 
  none⟩, ⟨some 33, .val (.ext 0 (.t 29)), none⟩, ⟨some 34, .val (.ext 1 (.t 29)), none⟩, ⟨some 35, .val (.ext 2 (.t 29)), none⟩, ⟨some 9, .allo [.int .i64 0, .int .i64 0, .str [], 
  .list [], .list []], none⟩, ⟨none, .st 5 (.t 9) (.t 33), none⟩, ⟨some 10, .asg (.t 34), none⟩, ⟨some 11, .asg (.t 35), none⟩]) (.seq (.seq (.reg [⟨some 36, .val (.cp (.t 8)), 
  none⟩, ⟨some 37, .val (.cp (.t 11)), none⟩, ⟨some 38, .call 21 [.t 36, .t 37], none⟩, ⟨some 39, .val (.not (.t 38)), none⟩, ⟨some 40, .val (.cp (.t 39)), none⟩, ⟨some 41, .val 
  (.ld true 5 (.t 6)), some (40, false)⟩, ⟨some 42, .val (.ld true 5 (.t 9)), some (40, false)⟩, ⟨some 43, .call 22 [.t 41, .t 42], some (40, false)⟩, ⟨some 44, .val (.not (.t 
  43)), some (40, false)⟩, ⟨some 45, .val (.pick (.t 40) (.k (.d (.bool true))) (.t 44)), none⟩, ⟨some 46, .val (.cp (.t 45)), none⟩, ⟨some 47, .val (.cp (.t 7)), some (46, 
  false)⟩, ⟨some 48, .val (.cp (.t 10)), some (46, false)⟩, ⟨some 49, .val (.bin .neq (.t 47) (.t 48)), some (46, false)⟩, ⟨some 50, .val (.pick (.t 46) (.k (.d (.bool true))) (.t 
  49)), none⟩, ⟨some 51, .val (.cp (.t 50)), none⟩, ⟨some 52, .val (.cp (.t 0)), some (51, false)⟩, ⟨some 53, .val (.cp (.t 1)), some (51, false)⟩, ⟨some 54, .call 23 [.t 52, .t 
  53], some (51, false)⟩, ⟨some 55, .val (.cp (.t 0)), some (51, false)⟩, ⟨some 56, .val (.cp (.t 1)), some (51, false)⟩, ⟨some 57, .call 24 [.t 55, .t 56], some (51, false)⟩, 
  ⟨some 58, .val (.bin .neq (.t 54) (.t 57)), some (51, false)⟩, ⟨some 59, .val (.pick (.t 51) (.k (.d (.bool true))) (.t 58)), none⟩, ⟨some 60, .val (.cp (.t 59)), none⟩, ⟨some 
  61, .val (.cp (.t 0)), some (60, false)⟩, ⟨some 62, .val (.cp (.t 1)), some (60, false)⟩, ⟨some 63, .call 25 [.t 61, .t 62], some (60, false)⟩, ⟨some 64, .val (.cp (.t 0)), some 
  (60, false)⟩, ⟨some 65, .val (.cp (.t 1)), some (60, false)⟩, ⟨some 66, .call 26 [.t 64, .t 65], some (60, false)⟩, ⟨some 67, .val (.bin .neq (.t 63) (.t 66)), some (60, false)⟩, 
  ⟨some 68, .val (.pick (.t 60) (.k (.d (.bool true))) (.t 67)), none⟩]) (.cond (.t 68) (.seq (.reg [⟨some 4, .asg (.k (.d (.bool false))), none⟩]) .ret) .skip)) (.seq (.seq (.reg 
  [⟨some 12, .asg (.k (.d (.int .i64 0))), none⟩]) (.block 0 (.loop (.seq (.seq (.reg [⟨some 69, .val (.cp (.t 12)), none⟩, ⟨some 70, .val (.cp (.t 0)), none⟩, ⟨some 71, .val (.len 
  true (.t 70)), none⟩, ⟨some 72, .val (.bin .lss (.t 69) (.t 71)), none⟩, ⟨some 73, .val (.cp (.t 72)), none⟩, ⟨some 74, .val (.cp (.t 12)), some (73, true)⟩, ⟨some 75, .val (.bin 
  .lss (.t 74) (.k (.d (.int .i64 50)))), some (73, true)⟩, ⟨some 76, .val (.pick (.t 73) (.t 75) (.k (.d (.bool false)))), none⟩]) (.cond (.t 76) .skip (.exit 0))) (.seq (.block 1 
  (.seq (.dreg [⟨some 79, .val (.cp (.t 0)), none⟩, ⟨some 80, .val (.cp (.t 12)), none⟩, ⟨some 81, .val (.idxS (.t 79) (.t 80)), none⟩, ⟨some 82, .call 27 [.t 81], none⟩, ⟨some 83, 
  .val (.cp (.t 0)), none⟩, ⟨some 84, .val (.cp (.t 12)), none⟩, ⟨some 85, .val (.idxS (.t 83) (.t 84)), none⟩, ⟨some 86, .call 28 [.t 85], none⟩, ⟨some 87, .val (.bin .neq (.t 82) 
  (.t 86)), none⟩, ⟨some 88, .val (.cp (.t 87)), none⟩, ⟨some 89, .val (.cp (.t 0)), some (88, false)⟩, ⟨some 90, .val (.cp (.t 12)), some (88, false)⟩, ⟨some 91, .val (.idxS (.t 
  89) (.t 90)), some (88, false)⟩, ⟨some 92, .call 29 [.t 91], some (88, false)⟩, ⟨some 93, .val (.cp (.t 0)), some (88, false)⟩, ⟨some 94, .val (.cp (.t 12)), some (88, false)⟩, 
  ⟨some 95, .val (.idxS (.t 93) (.t 94)), some (88, false)⟩, ⟨some 96, .call 30 [.t 95], some (88, false)⟩, ⟨some 97, .val (.eqB true (.t 92) (.t 96)), some (88, false)⟩, ⟨some 98, 
  .val (.pick (.t 88) (.k (.d (.bool true))) (.t 97)), none⟩]) (.cond (.t 98) (.seq (.reg [⟨some 4, .asg (.k (.d (.bool false))), none⟩]) .ret) .skip))) (.reg [⟨some 77, .val (.cp 
  (.t 12)), none⟩, ⟨some 78, .val (.bin .add (.t 77) (.k (.d (.int .i64 1)))), none⟩, ⟨some 12, .asg (.t 78), none⟩])))))) (.seq (.reg [⟨some 4, .asg (.k (.d (.bool true))), 
  none⟩]) .ret)))))))
def R_foliowrightlaw_ParseSays : List LRes := [.tmp 4]
theorem lift_foliowrightlaw_ParseSays : Lifts Try.prog 4 99 L_foliowrightlaw_ParseSays R_foliowrightlaw_ParseSays := ⟨_, _, Try.func4, rfl, by kernel_rfl, by kernel_rfl, rfl⟩

theorem parseSays_call (s : List UInt8) (k : Int) : PCall Try.prog 4 [.str s, .int .i64 k] (fun r => r = .one (.bool true)) := by
  refine lift_foliowrightlaw_ParseSays.call rfl ?_
  simp (maxSteps := 2000000) only [go_sem, ↓reduceIte, L_foliowrightlaw_ParseSays, R_foliowrightlaw_ParseSays]
  refine CallG.of reads_call ?_
  simp (maxSteps := 2000000) only [go_sem, ↓reduceIte]
  refine fun h1 => ?_
  have hv := valueTop_call s k (by omega)
  have hw := readTop_call s k (by omega)
  obtain ⟨v, n, e, e1, e2, e3⟩ : ∃ (v : Val) (n : Nat) (e : Nat), topP (valueP s k) = .tup [v.d, .int .i64 n, errD e] ∧ topRes (valueP s k) = .tup [v.d, .int .i64 n, .int .i64 e] ∧ v.sm 1048576 = true := by
    cases hx : valueP s k with
    | ok v n => exact ⟨v, n, 0, rfl, rfl, valueP_good s k hx⟩
    | bad e => exact ⟨zeroV, 0, e, rfl, rfl, rfl⟩
  rw [e1] at hv
  rw [e2] at hw
  have hal := alikeR_call _ v v (Nat.le_refl _) e3
  rw [alikeV_refl] at hal
  rw [Val.d_eq v] at hv hw hal
  refine CallG.of hv ?_
  simp (maxSteps := 2000000) only [go_sem, ↓reduceIte]
  refine CallG.of hw ?_
  simp (maxSteps := 2000000) only [go_sem, ↓reduceIte]
  refine CallG.of (same_law e e) ?_
  simp (maxSteps := 2000000) only [go_sem, ↓reduceIte]
  refine CallG.of hal ?_
  simp (maxSteps := 2000000) only [go_sem, ↓reduceIte]
  refine CallG.of (skip_call s k (by omega)) ?_
  simp (maxSteps := 2000000) only [go_sem, ↓reduceIte]
  refine CallG.of (skipR_call s k (by omega)) ?_
  simp (maxSteps := 2000000) only [go_sem, ↓reduceIte]
  refine CallG.of (word_call s k (by omega)) ?_
  simp (maxSteps := 2000000) only [go_sem, ↓reduceIte]
  refine CallG.of (wordR_call s k (by omega)) ?_
  simp (maxSteps := 2000000) only [go_sem, ↓reduceIte]
  refine run_loop (fun i : Nat => ⟨[(0, .d (.str s)), (1, .d (.int .i64 k)), (12, .d (.int .i64 i))], [], []⟩)
    (fun i => i ≤ s.length) (fun i => s.length - i) 0 ?_ ?_ ?_
  · refine weak_mk ?_ trivial
    simp (maxSteps := 2000000) only [go_sem, ↓reduceIte, Sub, Int.natCast_add, Int.natCast_mul]
  · omega
  · intro i hi
    simp (maxSteps := 2000000) only [go_sem, ↓reduceIte]
    refine fun q1 q2 => ?_
    obtain ⟨c, hc⟩ := get_some (l := s) (i := i) (by omega)
    have hc8 := u8_lt c
    simp (maxSteps := 2000000) (disch := omega) only [go_sem, ↓reduceIte, getI_nat, hc]
    refine CallD.of (hex_call (n := c.toNat) (by omega)) ?_
    simp (maxSteps := 2000000) (disch := omega) only [go_sem, ↓reduceIte, getI_nat, hc]
    refine CallD.of (hexOf_call c.toNat (by omega)) ?_
    simp (maxSteps := 2000000) (disch := omega) only [go_sem, ↓reduceIte, getI_nat, hc]
    refine CallD.of (blank_call c.toNat) ?_
    simp (maxSteps := 2000000) (disch := omega) only [go_sem, ↓reduceIte, getI_nat, hc]
    refine CallD.of (rblank_call c.toNat) ?_
    simp (maxSteps := 2000000) (disch := omega) only [go_sem, ↓reduceIte, getI_nat, hc]
    refine ⟨i + 1, ?_, by omega, by omega⟩
    refine weak_mk ?_ trivial
    simp (maxSteps := 2000000) only [go_sem, ↓reduceIte, Sub, Int.natCast_add, Int.natCast_mul]
end Go.Av.Try
