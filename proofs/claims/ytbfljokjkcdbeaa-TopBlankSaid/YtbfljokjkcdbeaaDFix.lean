import Derived.Test.YtbfljokjkcdbeaaDBase
import Derived.IntWalk
set_option linter.unusedSimpArgs false
namespace Go.Av.Try
open Go.Proofs

/-- fix.Check -/
def L_fix_Check : LCode :=
  .seq (.reg [⟨some 2, .asg (.k (.d .nil)), none⟩]) (.seq (.seq (.reg [⟨some 3, .val (.cp (.t 0)), none⟩, ⟨some 4, .val (.bin .lss (.t 3) (.k (.d (.int .i64 (-1000000000))))), none⟩, 
  ⟨some 5, .val (.cp (.t 4)), none⟩, ⟨some 6, .val (.cp (.t 0)), some (5, false)⟩, ⟨some 7, .val (.bin .gtr (.t 6) (.k (.d (.int .i64 1000000000)))), some (5, false)⟩, ⟨some 8, 
  .val (.pick (.t 5) (.k (.d (.bool true))) (.t 7)), none⟩]) (.cond (.t 8) (.seq (.reg [⟨some 9, .val (.mkI 76 (.k (.d (.int .i64 1)))), none⟩, ⟨some 2, .asg (.t 9), none⟩]) .ret) 
  .skip)) (.seq (.reg [⟨some 2, .asg (.k (.d .nil)), none⟩]) .ret))
def R_fix_Check : List LRes := [.tmp 2]
theorem lift_fix_Check : Lifts Try.prog 88 10 L_fix_Check R_fix_Check := ⟨_, _, Try.func88, rfl, by kernel_rfl, by kernel_rfl, rfl⟩


/-! ### What they say -/
def err (k : Int) : D := .iface 76 (.int .i64 k)
def Lim (n : Int) : Prop := -1000000000 ≤ n ∧ n ≤ 1000000000
instance (n : Int) : Decidable (Lim n) := inferInstanceAs (Decidable (_ ∧ _))
def i64 (n : Int) : Prop := -9223372036854775808 ≤ n ∧ n ≤ 9223372036854775807
theorem check_ok {n : Int} (h : Lim n) : PCall Try.prog 88 [.int .i64 n] (fun r => r = .one .nil) := by
  refine lift_fix_Check.call rfl ?_
  simp (maxSteps := 2000000) only [go_sem, ↓reduceIte, L_fix_Check, R_fix_Check]
  unfold Lim at h
  refine ⟨fun a b => ?_, fun a => ?_⟩ <;> exfalso <;> omega

theorem check_bad {n : Int} (h : ¬ Lim n) : PCall Try.prog 88 [.int .i64 n] (fun r => r = .one (err 1)) := by
  refine lift_fix_Check.call rfl ?_
  simp (maxSteps := 2000000) only [go_sem, ↓reduceIte, L_fix_Check, R_fix_Check]
  unfold Lim at h
  refine ⟨fun a => ⟨fun b => ?_, fun b => ?_⟩, fun a => ?_⟩ <;> first | rfl | (exfalso; omega)

end Go.Av.Try
