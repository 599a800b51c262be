import Derived.Test.YtbfljokjkcdbeaaDInv
set_option linter.unusedSimpArgs false
namespace Go.Av.Try
open Go.Proofs
def errD (n : Nat) : D := if n = 0 then .nil else .iface 76 (.int .i64 n)
theorem errD_ne {n : Nat} (h : n ≠ 0) : errD n = .iface 76 (.int .i64 n) := by simp [errD, h]

/-- foliowrightlaw.same -/
def L_foliowrightlaw_same : LCode :=
  .seq (.reg [⟨some 4, .asg (.k (.d (.bool false))), none⟩]) (.seq (.seq (.reg [⟨some 7, .val (.cp (.t 0)), none⟩, ⟨some 8, .val (.eqN 0 false (.t 7)), none⟩]) (.cond (.t 8) (.seq 
  (.reg [⟨some 9, .val (.cp (.t 1)), none⟩, ⟨some 10, .val (.bin .eql (.t 9) (.k (.d (.int .i64 0)))), none⟩, ⟨some 4, .asg (.t 10), none⟩]) .ret) .skip)) (.seq (.reg [⟨some 12, 
  .val (.cp (.t 0)), none⟩, ⟨some 13, .val (.asT 76 (.int .i64 0) (.t 12)), none⟩, ⟨some 11, .val (.cp (.t 13)), none⟩, ⟨some 14, .val (.ext 0 (.t 11)), none⟩, ⟨some 15, .val (.ext 
  1 (.t 11)), none⟩, ⟨some 5, .asg (.t 14), none⟩, ⟨some 6, .asg (.t 15), none⟩]) (.seq (.reg [⟨some 16, .val (.cp (.t 6)), none⟩, ⟨some 17, .val (.cp (.t 16)), none⟩, ⟨some 18, 
  .val (.cp (.t 1)), some (17, true)⟩, ⟨some 19, .val (.bin .gtr (.t 18) (.k (.d (.int .i64 0)))), some (17, true)⟩, ⟨some 20, .val (.pick (.t 17) (.t 19) (.k (.d (.bool false)))), 
  none⟩, ⟨some 21, .val (.cp (.t 20)), none⟩, ⟨some 22, .val (.cp (.t 5)), some (21, true)⟩, ⟨some 23, .val (.cp (.t 1)), some (21, true)⟩, ⟨some 24, .val (.bin .eql (.t 22) (.t 
  23)), some (21, true)⟩, ⟨some 25, .val (.pick (.t 21) (.t 24) (.k (.d (.bool false)))), none⟩, ⟨some 4, .asg (.t 25), none⟩]) .ret)))
def R_foliowrightlaw_same : List LRes := [.tmp 4]
theorem lift_foliowrightlaw_same : Lifts Try.prog 21 26 L_foliowrightlaw_same R_foliowrightlaw_same := ⟨_, _, Try.func21, rfl, by kernel_rfl, by kernel_rfl, rfl⟩

theorem same_law (e f : Nat) : PCall Try.prog 21 [errD e, .int .i64 f] (fun r => r = .one (.bool (decide (e = f)))) := by
  refine lift_foliowrightlaw_same.call rfl ?_
  by_cases h : e = 0
  · subst h
    have he : errD 0 = .nil := rfl
    rw [he]
    simp (maxSteps := 2000000) only [go_sem, ↓reduceIte, L_foliowrightlaw_same, R_foliowrightlaw_same]
    congr 2
    have : ((f : Int) = 0) = (0 = f) := by apply propext; omega
    simp only [this]
  · rw [errD_ne h]
    simp (maxSteps := 2000000) only [go_sem, ↓reduceIte, L_foliowrightlaw_same, R_foliowrightlaw_same]
    refine ⟨fun _ => ?_, fun q => ?_⟩
    · congr 2
      simp only [Int.ofNat_inj]
    · have : ¬ e = f := by omega
      simp [this]

end Go.Av.Try
