import Derived.Test.YtbfljokjkcdbeaaDFix
set_option linter.unusedSimpArgs false
namespace Go.Av.Try
open Go.Proofs

/-- foliowrightref.FixFault -/
def L_foliowrightref_FixFault : LCode :=
  .seq (.reg [⟨some 2, .asg (.k (.d (.int .i64 0))), none⟩]) (.seq (.seq (.reg [⟨some 3, .val (.cp (.t 0)), none⟩, ⟨some 4, .val (.bin .lss (.t 3) (.k (.d (.int .i64 
  (-1000000000))))), none⟩, ⟨some 5, .val (.cp (.t 4)), none⟩, ⟨some 6, .val (.cp (.t 0)), some (5, false)⟩, ⟨some 7, .val (.bin .gtr (.t 6) (.k (.d (.int .i64 1000000000)))), some 
  (5, false)⟩, ⟨some 8, .val (.pick (.t 5) (.k (.d (.bool true))) (.t 7)), none⟩]) (.cond (.t 8) (.seq (.reg [⟨some 2, .asg (.k (.d (.int .i64 1))), none⟩]) .ret) .skip)) (.seq 
  (.reg [⟨some 2, .asg (.k (.d (.int .i64 0))), none⟩]) .ret))
def R_foliowrightref_FixFault : List LRes := [.tmp 2]
theorem lift_foliowrightref_FixFault : Lifts Try.prog 36 9 L_foliowrightref_FixFault R_foliowrightref_FixFault := ⟨_, _, Try.func36, rfl, by kernel_rfl, by kernel_rfl, rfl⟩

def fltI (n : Int) : Int := if Lim n then 0 else 1
theorem fault_call (n : Int) : PCall Try.prog 36 [.int .i64 n] (fun r => r = .one (.int .i64 (fltI n))) := by
  refine lift_foliowrightref_FixFault.call rfl ?_
  simp (maxSteps := 2000000) only [go_sem, ↓reduceIte, L_foliowrightref_FixFault, R_foliowrightref_FixFault]
  unfold fltI
  by_cases h : Lim n
  · rw [if_pos h]
    unfold Lim at h
    exact ⟨fun a => ⟨fun b => by omega, fun b => rfl⟩, fun a => by omega⟩
  · rw [if_neg h]
    unfold Lim at h
    exact ⟨fun a => ⟨fun b => rfl, fun b => by omega⟩, fun a => rfl⟩
end Go.Av.Try
