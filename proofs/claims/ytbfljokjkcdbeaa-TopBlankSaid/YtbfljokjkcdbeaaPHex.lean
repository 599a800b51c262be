import Derived.Test.YtbfljokjkcdbeaaDBase
/- Signs, and digits to the base 16. -/
set_option linter.unusedSimpArgs false
namespace Go.Av.Try
open Go.Proofs
/-- parse.Blank -/
def L_parse_Blank : LCode :=
  .seq (.reg [⟨some 2, .asg (.k (.d (.bool false))), none⟩]) (.seq (.reg [⟨some 3, .val (.cp (.t 0)), none⟩, ⟨some 4, .val (.bin .eql (.t 3) (.k (.d (.int .u8 0)))), none⟩, ⟨some 5, 
  .val (.cp (.t 4)), none⟩, ⟨some 6, .val (.cp (.t 0)), some (5, false)⟩, ⟨some 7, .val (.bin .eql (.t 6) (.k (.d (.int .u8 9)))), some (5, false)⟩, ⟨some 8, .val (.pick (.t 5) (.k 
  (.d (.bool true))) (.t 7)), none⟩, ⟨some 9, .val (.cp (.t 8)), none⟩, ⟨some 10, .val (.cp (.t 0)), some (9, false)⟩, ⟨some 11, .val (.bin .eql (.t 10) (.k (.d (.int .u8 10)))), 
  some (9, false)⟩, ⟨some 12, .val (.pick (.t 9) (.k (.d (.bool true))) (.t 11)), none⟩, ⟨some 13, .val (.cp (.t 12)), none⟩, ⟨some 14, .val (.cp (.t 0)), some (13, false)⟩, ⟨some 
  15, .val (.bin .eql (.t 14) (.k (.d (.int .u8 12)))), some (13, false)⟩, ⟨some 16, .val (.pick (.t 13) (.k (.d (.bool true))) (.t 15)), none⟩, ⟨some 17, .val (.cp (.t 16)), 
  none⟩, ⟨some 18, .val (.cp (.t 0)), some (17, false)⟩, ⟨some 19, .val (.bin .eql (.t 18) (.k (.d (.int .u8 13)))), some (17, false)⟩, ⟨some 20, .val (.pick (.t 17) (.k (.d (.bool 
  true))) (.t 19)), none⟩, ⟨some 21, .val (.cp (.t 20)), none⟩, ⟨some 22, .val (.cp (.t 0)), some (21, false)⟩, ⟨some 23, .val (.bin .eql (.t 22) (.k (.d (.int .u8 32)))), some 
  (21, false)⟩, ⟨some 24, .val (.pick (.t 21) (.k (.d (.bool true))) (.t 23)), none⟩, ⟨some 2, .asg (.t 24), none⟩]) .ret)
def R_parse_Blank : List LRes := [.tmp 2]
theorem lift_parse_Blank : Lifts Try.prog 29 25 L_parse_Blank R_parse_Blank := ⟨_, _, Try.func29, rfl, by kernel_rfl, by kernel_rfl, rfl⟩

/-- parse.Hex -/
def L_parse_Hex : LCode :=
  .seq (.reg [⟨some 2, .asg (.k (.d (.int .i64 0))), none⟩]) (.seq (.block 0 (.seq (.reg [⟨some 4, .val (.cp (.t 0)), none⟩, ⟨some 5, .val (.bin .geq (.t 4) (.k (.d (.int .u8 48)))), 
  none⟩, ⟨some 6, .val (.cp (.t 5)), none⟩, ⟨some 7, .val (.cp (.t 0)), some (6, true)⟩, ⟨some 8, .val (.bin .leq (.t 7) (.k (.d (.int .u8 57)))), some (6, true)⟩, ⟨some 9, .val 
  (.pick (.t 6) (.t 8) (.k (.d (.bool false)))), none⟩, ⟨some 3, .asg (.t 9), none⟩]) (.cond (.t 3) (.seq (.reg [⟨some 10, .val (.cp (.t 0)), none⟩, ⟨some 11, .val (.bin .sub (.t 
  10) (.k (.d (.int .u8 48)))), none⟩, ⟨some 12, .val (.cvI .i64 (.t 11)), none⟩, ⟨some 2, .asg (.t 12), none⟩]) .ret) (.seq (.reg [⟨some 14, .val (.cp (.t 0)), none⟩, ⟨some 15, 
  .val (.bin .geq (.t 14) (.k (.d (.int .u8 97)))), none⟩, ⟨some 16, .val (.cp (.t 15)), none⟩, ⟨some 17, .val (.cp (.t 0)), some (16, true)⟩, ⟨some 18, .val (.bin .leq (.t 17) (.k 
  (.d (.int .u8 102)))), some (16, true)⟩, ⟨some 19, .val (.pick (.t 16) (.t 18) (.k (.d (.bool false)))), none⟩, ⟨some 13, .asg (.t 19), none⟩]) (.cond (.t 13) (.seq (.reg [⟨some 
  20, .val (.cp (.t 0)), none⟩, ⟨some 21, .val (.bin .sub (.t 20) (.k (.d (.int .u8 97)))), none⟩, ⟨some 22, .val (.cvI .i64 (.t 21)), none⟩, ⟨some 23, .val (.bin .add (.t 22) (.k 
  (.d (.int .i64 10)))), none⟩, ⟨some 2, .asg (.t 23), none⟩]) .ret) (.seq (.reg [⟨some 25, .val (.cp (.t 0)), none⟩, ⟨some 26, .val (.bin .geq (.t 25) (.k (.d (.int .u8 65)))), 
  none⟩, ⟨some 27, .val (.cp (.t 26)), none⟩, ⟨some 28, .val (.cp (.t 0)), some (27, true)⟩, ⟨some 29, .val (.bin .leq (.t 28) (.k (.d (.int .u8 70)))), some (27, true)⟩, ⟨some 30, 
  .val (.pick (.t 27) (.t 29) (.k (.d (.bool false)))), none⟩, ⟨some 24, .asg (.t 30), none⟩]) (.cond (.t 24) (.seq (.reg [⟨some 31, .val (.cp (.t 0)), none⟩, ⟨some 32, .val (.bin 
  .sub (.t 31) (.k (.d (.int .u8 65)))), none⟩, ⟨some 33, .val (.cvI .i64 (.t 32)), none⟩, ⟨some 34, .val (.bin .add (.t 33) (.k (.d (.int .i64 10)))), none⟩, ⟨some 2, .asg (.t 
  34), none⟩]) .ret) .skip))))))) (.seq (.reg [⟨some 2, .asg (.k (.d (.int .i64 (-1)))), none⟩]) .ret))
def R_parse_Hex : List LRes := [.tmp 2]
theorem lift_parse_Hex : Lifts Try.prog 27 35 L_parse_Hex R_parse_Hex := ⟨_, _, Try.func27, rfl, by kernel_rfl, by kernel_rfl, rfl⟩


def blankB (n : Int) : Bool := decide (n = 0) || (decide (n = 9) || (decide (n = 10) || (decide (n = 12) || (decide (n = 13) || decide (n = 32)))))
def hexI (n : Int) : Int := if 48 ≤ n ∧ n ≤ 57 then n - 48 else if 97 ≤ n ∧ n ≤ 102 then n - 87 else if 65 ≤ n ∧ n ≤ 70 then n - 55 else -1

theorem blank_call (n : Int) : PCall Try.prog 29 [.int .u8 n] (fun r => r = .one (.bool (blankB n))) := by
  refine lift_parse_Blank.call rfl ?_
  simp (maxSteps := 2000000) only [go_sem, ↓reduceIte, L_parse_Blank, R_parse_Blank]
  unfold blankB
  simp +contextual

theorem hex_call {n : Int} (h : 0 ≤ n ∧ n < 256) : PCall Try.prog 27 [.int .u8 n] (fun r => r = .one (.int .i64 (hexI n))) := by
  refine lift_parse_Hex.call rfl ?_
  simp (maxSteps := 2000000) only [go_sem, ↓reduceIte, L_parse_Hex, R_parse_Hex]
  unfold hexI
  repeat' (first | apply And.intro | intro _)
  all_goals
    congr 2
    try simp only [IntKind.wrap_i64, IntKind.wrap_u8]
    (repeat' split) <;> omega
def unhexF : List UInt8 → Int → List UInt8 → List UInt8 × Nat
  | [], _, _ => ([], 5)
  | c :: r, h, b =>
    if c.toNat = 62 then (if 0 ≤ h then b ++ [byteI (16 * h)] else b, 0)
    else if blankB c.toNat = true then unhexF r h b
    else if hexI c.toNat < 0 then ([], 4)
    else if h < 0 then unhexF r (hexI c.toNat) b
    else unhexF r (-1) (b ++ [byteI (16 * h + hexI c.toNat)])

theorem hexI_bounds (n : Int) : -1 ≤ hexI n ∧ hexI n ≤ 15 := by
  unfold hexI; (repeat' split) <;> omega

/-- the first place behind a sign that ends digits -/
def gtEnd : List UInt8 → Nat
  | [] => 0
  | c :: r => if c.toNat = 62 then 1 else gtEnd r + 1

end Go.Av.Try
