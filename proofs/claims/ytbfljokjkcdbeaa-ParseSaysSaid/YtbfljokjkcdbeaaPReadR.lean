import Derived.Test.YtbfljokjkcdbeaaPDictR
import Derived.Test.YtbfljokjkcdbeaaEVal6
import Derived.Test.YtbfljokjkcdbeaaDRead
/- The document's values, read. -/
set_option linter.unusedSimpArgs false
namespace Go.Av.Try
open Go.Proofs

theorem kmk (k n : Int) (s : List UInt8) : (Val.mk k n s [] []).d = .agg [.int .i64 k, .int .i64 n, .str s, .list [], .list []] := by rw [mk_d]; rfl

/-- foliowrightref.read -/
def L_foliowrightref_read : LCode :=
  .seq (.reg [⟨some 6, .allo [.int .i64 0, .int .i64 0, .str [], .list [], .list []], none⟩, ⟨some 7, .asg (.k (.d (.int .i64 0))), none⟩, ⟨some 8, .asg (.k (.d (.int .i64 0))), 
  none⟩]) (.seq (.reg [⟨some 25, .val (.cp (.t 0)), none⟩, ⟨some 26, .val (.cp (.t 1)), none⟩, ⟨some 27, .call 24 [.t 25, .t 26], none⟩, ⟨some 1, .asg (.t 27), none⟩]) (.seq (.seq 
  (.reg [⟨some 28, .val (.cp (.t 1)), none⟩, ⟨some 29, .val (.cp (.t 0)), none⟩, ⟨some 30, .val (.len true (.t 29)), none⟩, ⟨some 31, .val (.bin .eql (.t 28) (.t 30)), none⟩]) 
  (.cond (.t 31) (.seq (.reg [⟨some 32, .val (.bld [(0, 1), (1, 1), (2, 1), (3, 1), (4, 1)] [.int .i64 0, .int .i64 0, .str [], .list [], .list []] [] []), none⟩, ⟨none, .st 5 (.t 
  6) (.t 32), none⟩, ⟨some 7, .asg (.k (.d (.int .i64 0))), none⟩, ⟨some 8, .asg (.k (.d (.int .i64 5))), none⟩]) .ret) .skip)) (.seq (.seq (.reg [⟨some 33, .val (.cp (.t 2)), 
  none⟩, ⟨some 34, .val (.bin .gtr (.t 33) (.k (.d (.int .i64 8)))), none⟩]) (.cond (.t 34) (.seq (.reg [⟨some 35, .val (.bld [(0, 1), (1, 1), (2, 1), (3, 1), (4, 1)] [.int .i64 0, 
  .int .i64 0, .str [], .list [], .list []] [] []), none⟩, ⟨none, .st 5 (.t 6) (.t 35), none⟩, ⟨some 7, .asg (.k (.d (.int .i64 0))), none⟩, ⟨some 8, .asg (.k (.d (.int .i64 2))), 
  none⟩]) .ret) .skip)) (.seq (.reg [⟨some 36, .val (.cp (.t 0)), none⟩, ⟨some 37, .val (.cp (.t 1)), none⟩, ⟨some 38, .val (.idxS (.t 36) (.t 37)), none⟩, ⟨some 9, .asg (.t 38), 
  none⟩]) (.seq (.block 0 (.seq (.reg [⟨some 40, .val (.cp (.t 9)), none⟩, ⟨some 41, .val (.bin .eql (.t 40) (.k (.d (.int .u8 47)))), none⟩, ⟨some 39, .asg (.t 41), none⟩]) (.cond 
  (.t 39) (.seq (.reg [⟨some 43, .val (.cp (.t 0)), none⟩, ⟨some 44, .val (.cp (.t 1)), none⟩, ⟨some 45, .call 66 [.t 43, .t 44], none⟩, ⟨some 42, .val (.cp (.t 45)), none⟩, ⟨some 
  46, .val (.ext 0 (.t 42)), none⟩, ⟨some 47, .val (.ext 1 (.t 42)), none⟩, ⟨some 48, .val (.ext 2 (.t 42)), none⟩, ⟨some 10, .asg (.t 46), none⟩, ⟨some 11, .asg (.t 47), none⟩, 
  ⟨some 12, .asg (.t 48), none⟩]) (.seq (.reg [⟨some 49, .val (.cp (.t 10)), none⟩, ⟨some 50, .val (.bld [(0, 1), (1, 1), (2, 1), (3, 1), (4, 1)] [.int .i64 0, .int .i64 0, .str 
  [], .list [], .list []] [false, false, false, true, true] [(0, .k (.d (.int .i64 4))), (2, .t 49)]), none⟩, ⟨some 51, .val (.cp (.t 11)), none⟩, ⟨some 52, .val (.cp (.t 12)), 
  none⟩, ⟨none, .st 5 (.t 6) (.t 50), none⟩, ⟨some 7, .asg (.t 51), none⟩, ⟨some 8, .asg (.t 52), none⟩]) .ret)) (.seq (.reg [⟨some 54, .val (.cp (.t 9)), none⟩, ⟨some 55, .val 
  (.bin .eql (.t 54) (.k (.d (.int .u8 40)))), none⟩, ⟨some 53, .asg (.t 55), none⟩]) (.cond (.t 53) (.seq (.reg [⟨some 57, .val (.cp (.t 0)), none⟩, ⟨some 58, .val (.cp (.t 1)), 
  none⟩, ⟨some 59, .val (.bin .add (.t 58) (.k (.d (.int .i64 1)))), none⟩, ⟨some 60, .call 67 [.t 57, .t 59], none⟩, ⟨some 56, .val (.cp (.t 60)), none⟩, ⟨some 61, .val (.ext 0 
  (.t 56)), none⟩, ⟨some 62, .val (.ext 1 (.t 56)), none⟩, ⟨some 63, .val (.ext 2 (.t 56)), none⟩, ⟨some 13, .asg (.t 61), none⟩, ⟨some 14, .asg (.t 62), none⟩, ⟨some 15, .asg (.t 
  63), none⟩]) (.seq (.seq (.reg [⟨some 64, .val (.cp (.t 15)), none⟩, ⟨some 65, .val (.bin .eql (.t 64) (.k (.d (.int .i64 0)))), none⟩, ⟨some 66, .val (.cp (.t 65)), none⟩, ⟨some 
  67, .val (.cp (.t 13)), some (66, true)⟩, ⟨some 68, .val (.len true (.t 67)), some (66, true)⟩, ⟨some 69, .val (.bin .gtr (.t 68) (.k (.d (.int .i64 200)))), some (66, true)⟩, 
  ⟨some 70, .val (.pick (.t 66) (.t 69) (.k (.d (.bool false)))), none⟩]) (.cond (.t 70) (.reg [⟨some 15, .asg (.k (.d (.int .i64 2))), none⟩]) .skip)) (.seq (.reg [⟨some 71, .val 
  (.cp (.t 13)), none⟩, ⟨some 72, .val (.bld [(0, 1), (1, 1), (2, 1), (3, 1), (4, 1)] [.int .i64 0, .int .i64 0, .str [], .list [], .list []] [false, false, false, true, true] [(0, 
  .k (.d (.int .i64 3))), (2, .t 71)]), none⟩, ⟨some 73, .val (.cp (.t 14)), none⟩, ⟨some 74, .val (.cp (.t 15)), none⟩, ⟨none, .st 5 (.t 6) (.t 72), none⟩, ⟨some 7, .asg (.t 73), 
  none⟩, ⟨some 8, .asg (.t 74), none⟩]) .ret))) (.seq (.reg [⟨some 76, .val (.cp (.t 9)), none⟩, ⟨some 77, .val (.bin .eql (.t 76) (.k (.d (.int .u8 60)))), none⟩, ⟨some 78, .val 
  (.cp (.t 77)), none⟩, ⟨some 79, .val (.cp (.t 1)), some (78, true)⟩, ⟨some 80, .val (.bin .add (.t 79) (.k (.d (.int .i64 1)))), some (78, true)⟩, ⟨some 81, .val (.cp (.t 0)), 
  some (78, true)⟩, ⟨some 82, .val (.len true (.t 81)), some (78, true)⟩, ⟨some 83, .val (.bin .lss (.t 80) (.t 82)), some (78, true)⟩, ⟨some 84, .val (.pick (.t 78) (.t 83) (.k 
  (.d (.bool false)))), none⟩, ⟨some 85, .val (.cp (.t 84)), none⟩, ⟨some 86, .val (.cp (.t 0)), some (85, true)⟩, ⟨some 87, .val (.cp (.t 1)), some (85, true)⟩, ⟨some 88, .val 
  (.bin .add (.t 87) (.k (.d (.int .i64 1)))), some (85, true)⟩, ⟨some 89, .val (.idxS (.t 86) (.t 88)), some (85, true)⟩, ⟨some 90, .val (.bin .eql (.t 89) (.k (.d (.int .u8 
  60)))), some (85, true)⟩, ⟨some 91, .val (.pick (.t 85) (.t 90) (.k (.d (.bool false)))), none⟩, ⟨some 75, .asg (.t 91), none⟩]) (.cond (.t 75) (.seq (.reg [⟨some 92, .val (.cp 
  (.t 0)), none⟩, ⟨some 93, .val (.cp (.t 1)), none⟩, ⟨some 94, .val (.bin .add (.t 93) (.k (.d (.int .i64 2)))), none⟩, ⟨some 95, .val (.cp (.t 2)), none⟩, ⟨some 96, .call 68 [.t 
  92, .t 94, .t 95], none⟩, ⟨some 97, .val (.ext 0 (.t 96)), none⟩, ⟨some 98, .val (.ext 1 (.t 96)), none⟩, ⟨some 99, .val (.ext 2 (.t 96)), none⟩, ⟨none, .st 5 (.t 6) (.t 97), 
  none⟩, ⟨some 7, .asg (.t 98), none⟩, ⟨some 8, .asg (.t 99), none⟩]) .ret) (.seq (.reg [⟨some 101, .val (.cp (.t 9)), none⟩, ⟨some 102, .val (.bin .eql (.t 101) (.k (.d (.int .u8 
  60)))), none⟩, ⟨some 100, .asg (.t 102), none⟩]) (.cond (.t 100) (.seq (.reg [⟨some 104, .val (.cp (.t 0)), none⟩, ⟨some 105, .val (.cp (.t 1)), none⟩, ⟨some 106, .val (.bin .add 
  (.t 105) (.k (.d (.int .i64 1)))), none⟩, ⟨some 107, .call 69 [.t 104, .t 106], none⟩, ⟨some 103, .val (.cp (.t 107)), none⟩, ⟨some 108, .val (.ext 0 (.t 103)), none⟩, ⟨some 109, 
  .val (.ext 1 (.t 103)), none⟩, ⟨some 110, .val (.ext 2 (.t 103)), none⟩, ⟨some 16, .asg (.t 108), none⟩, ⟨some 17, .asg (.t 109), none⟩, ⟨some 18, .asg (.t 110), none⟩]) (.seq 
  (.seq (.reg [⟨some 111, .val (.cp (.t 18)), none⟩, ⟨some 112, .val (.bin .eql (.t 111) (.k (.d (.int .i64 0)))), none⟩, ⟨some 113, .val (.cp (.t 112)), none⟩, ⟨some 114, .val 
  (.cp (.t 16)), some (113, true)⟩, ⟨some 115, .val (.len true (.t 114)), some (113, true)⟩, ⟨some 116, .val (.bin .gtr (.t 115) (.k (.d (.int .i64 200)))), some (113, true)⟩, 
  ⟨some 117, .val (.pick (.t 113) (.t 116) (.k (.d (.bool false)))), none⟩]) (.cond (.t 117) (.reg [⟨some 18, .asg (.k (.d (.int .i64 2))), none⟩]) .skip)) (.seq (.reg [⟨some 118, 
  .val (.cp (.t 16)), none⟩, ⟨some 119, .val (.bld [(0, 1), (1, 1), (2, 1), (3, 1), (4, 1)] [.int .i64 0, .int .i64 0, .str [], .list [], .list []] [false, false, false, true, 
  true] [(0, .k (.d (.int .i64 3))), (2, .t 118)]), none⟩, ⟨some 120, .val (.cp (.t 17)), none⟩, ⟨some 121, .val (.cp (.t 18)), none⟩, ⟨none, .st 5 (.t 6) (.t 119), none⟩, ⟨some 7, 
  .asg (.t 120), none⟩, ⟨some 8, .asg (.t 121), none⟩]) .ret))) (.seq (.reg [⟨some 123, .val (.cp (.t 9)), none⟩, ⟨some 124, .val (.bin .eql (.t 123) (.k (.d (.int .u8 91)))), 
  none⟩, ⟨some 122, .asg (.t 124), none⟩]) (.cond (.t 122) (.seq (.reg [⟨some 125, .val (.cp (.t 0)), none⟩, ⟨some 126, .val (.cp (.t 1)), none⟩, ⟨some 127, .val (.bin .add (.t 
  126) (.k (.d (.int .i64 1)))), none⟩, ⟨some 128, .val (.cp (.t 2)), none⟩, ⟨some 129, .call 70 [.t 125, .t 127, .t 128], none⟩, ⟨some 130, .val (.ext 0 (.t 129)), none⟩, ⟨some 
  131, .val (.ext 1 (.t 129)), none⟩, ⟨some 132, .val (.ext 2 (.t 129)), none⟩, ⟨none, .st 5 (.t 6) (.t 130), none⟩, ⟨some 7, .asg (.t 131), none⟩, ⟨some 8, .asg (.t 132), none⟩]) 
  .ret) (.seq (.reg [⟨some 134, .val (.cp (.t 9)), none⟩, ⟨some 135, .call 45 [.t 134], none⟩, ⟨some 133, .asg (.t 135), none⟩]) (.cond (.t 133) (.seq (.reg [⟨some 136, .val (.bld 
  [(0, 1), (1, 1), (2, 1), (3, 1), (4, 1)] [.int .i64 0, .int .i64 0, .str [], .list [], .list []] [] []), none⟩, ⟨none, .st 5 (.t 6) (.t 136), none⟩, ⟨some 7, .asg (.k (.d (.int 
  .i64 0))), none⟩, ⟨some 8, .asg (.k (.d (.int .i64 4))), none⟩]) .ret) .skip))))))))))))) (.seq (.reg [⟨some 137, .val (.cp (.t 0)), none⟩, ⟨some 138, .val (.cp (.t 1)), none⟩, 
  ⟨some 139, .call 26 [.t 137, .t 138], none⟩, ⟨some 19, .asg (.t 139), none⟩]) (.seq (.reg [⟨some 140, .val (.cp (.t 1)), none⟩, ⟨some 141, .val (.cp (.t 19)), none⟩, ⟨some 142, 
  .val (.len true (.t 141)), none⟩, ⟨some 143, .val (.bin .add (.t 140) (.t 142)), none⟩, ⟨some 20, .asg (.t 143), none⟩]) (.seq (.seq (.reg [⟨some 144, .val (.cp (.t 19)), none⟩]) 
  (.block 1 (.seq (.reg [⟨some 146, .val (.bin .eql (.t 144) (.k (.d (.str [110, 117, 108, 108])))), none⟩, ⟨some 145, .asg (.t 146), none⟩]) (.cond (.t 145) (.seq (.reg [⟨some 
  147, .val (.bld [(0, 1), (1, 1), (2, 1), (3, 1), (4, 1)] [.int .i64 0, .int .i64 0, .str [], .list [], .list []] [] []), none⟩, ⟨some 148, .val (.cp (.t 20)), none⟩, ⟨none, .st 5 
  (.t 6) (.t 147), none⟩, ⟨some 7, .asg (.t 148), none⟩, ⟨some 8, .asg (.k (.d (.int .i64 0))), none⟩]) .ret) (.seq (.reg [⟨some 150, .val (.bin .eql (.t 144) (.k (.d (.str [116, 
  114, 117, 101])))), none⟩, ⟨some 149, .asg (.t 150), none⟩]) (.cond (.t 149) (.seq (.reg [⟨some 151, .val (.bld [(0, 1), (1, 1), (2, 1), (3, 1), (4, 1)] [.int .i64 0, .int .i64 
  0, .str [], .list [], .list []] [false, false, false, true, true] [(0, .k (.d (.int .i64 1))), (1, .k (.d (.int .i64 1)))]), none⟩, ⟨some 152, .val (.cp (.t 20)), none⟩, ⟨none, 
  .st 5 (.t 6) (.t 151), none⟩, ⟨some 7, .asg (.t 152), none⟩, ⟨some 8, .asg (.k (.d (.int .i64 0))), none⟩]) .ret) (.seq (.reg [⟨some 154, .val (.bin .eql (.t 144) (.k (.d (.str 
  [102, 97, 108, 115, 101])))), none⟩, ⟨some 153, .asg (.t 154), none⟩]) (.cond (.t 153) (.seq (.reg [⟨some 155, .val (.bld [(0, 1), (1, 1), (2, 1), (3, 1), (4, 1)] [.int .i64 0, 
  .int .i64 0, .str [], .list [], .list []] [false, false, false, true, true] [(0, .k (.d (.int .i64 1)))]), none⟩, ⟨some 156, .val (.cp (.t 20)), none⟩, ⟨none, .st 5 (.t 6) (.t 
  155), none⟩, ⟨some 7, .asg (.t 156), none⟩, ⟨some 8, .asg (.k (.d (.int .i64 0))), none⟩]) .ret) .skip)))))))) (.seq (.reg [⟨some 158, .val (.cp (.t 0)), none⟩, ⟨some 159, .val 
  (.cp (.t 19)), none⟩, ⟨some 160, .val (.cp (.t 20)), none⟩, ⟨some 161, .call 71 [.t 158, .t 159, .t 160], none⟩, ⟨some 157, .val (.cp (.t 161)), none⟩, ⟨some 162, .val (.ext 0 
  (.t 157)), none⟩, ⟨some 163, .val (.ext 1 (.t 157)), none⟩, ⟨some 21, .asg (.t 162), none⟩, ⟨some 22, .asg (.t 163), none⟩]) (.seq (.seq (.reg [⟨some 164, .val (.cp (.t 22)), 
  none⟩, ⟨some 165, .val (.bin .gtr (.t 164) (.k (.d (.int .i64 0)))), none⟩]) (.cond (.t 165) (.seq (.reg [⟨some 166, .val (.cp (.t 21)), none⟩, ⟨some 167, .val (.bld [(0, 1), (1, 
  1), (2, 1), (3, 1), (4, 1)] [.int .i64 0, .int .i64 0, .str [], .list [], .list []] [false, false, false, true, true] [(0, .k (.d (.int .i64 7))), (1, .t 166)]), none⟩, ⟨some 
  168, .val (.cp (.t 22)), none⟩, ⟨none, .st 5 (.t 6) (.t 167), none⟩, ⟨some 7, .asg (.t 168), none⟩, ⟨some 8, .asg (.k (.d (.int .i64 0))), none⟩]) .ret) .skip)) (.seq (.reg 
  [⟨some 170, .val (.cp (.t 19)), none⟩, ⟨some 171, .call 72 [.t 170], none⟩, ⟨some 169, .val (.cp (.t 171)), none⟩, ⟨some 172, .val (.ext 0 (.t 169)), none⟩, ⟨some 173, .val (.ext 
  1 (.t 169)), none⟩, ⟨some 23, .asg (.t 172), none⟩, ⟨some 24, .asg (.t 173), none⟩]) (.seq (.reg [⟨some 174, .val (.cp (.t 23)), none⟩, ⟨some 175, .val (.bld [(0, 1), (1, 1), (2, 
  1), (3, 1), (4, 1)] [.int .i64 0, .int .i64 0, .str [], .list [], .list []] [false, false, false, true, true] [(0, .k (.d (.int .i64 2))), (1, .t 174)]), none⟩, ⟨some 176, .val 
  (.cp (.t 20)), none⟩, ⟨some 177, .val (.cp (.t 24)), none⟩, ⟨none, .st 5 (.t 6) (.t 175), none⟩, ⟨some 7, .asg (.t 176), none⟩, ⟨some 8, .asg (.t 177), none⟩]) .ret))))))))))))
def R_foliowrightref_read : List LRes := [.cell 6 true 5, .tmp 7, .tmp 8]
theorem lift_foliowrightref_read : Lifts Try.prog 42 178 L_foliowrightref_read R_foliowrightref_read := ⟨_, _, Try.func42, rfl, by kernel_rfl, by kernel_rfl, rfl⟩

theorem read_call (s : List UInt8) (hs : s.length ≤ 60000) : ∀ (d : Nat), d ≤ 8 → ∀ (k : Nat), k ≤ s.length →
    PCall Try.prog 42 [.str s, .int .i64 k, .int .i64 (9 - (d : Int))] (resRV (readF d s k)) := by
  intro d
  induction d with
  | zero =>
    intro _ k hk
    generalize hR : readF 0 s k = R
    rw [readF] at hR
    have hw := skipR_call s ((k : Nat) : Int) (by omega)
    rw [clamp_in hk] at hw
    have hsk := skipP_le hk
    generalize skipP s k = q at *
    refine lift_foliowrightref_read.call rfl ?_
    simp (maxSteps := 2000000) (disch := omega) only [go_sem, ↓reduceIte, L_foliowrightref_read, R_foliowrightref_read]
    refine CallG.of hw ?_
    simp (maxSteps := 2000000) only [go_sem, ↓reduceIte]
    have bad : ∀ (e : Nat), R = .bad e → resRV R (.tup [.agg [.int .i64 0, .int .i64 0, .str [], .list [], .list []], .int .i64 0, .int .i64 e]) := fun e he => by
      have := resRV_bad zeroV 0 he
      rwa [Val.d_eq] at this
    refine ⟨fun h1 => ?_, fun h1 => ?_⟩
    · rw [List.getElem?_eq_none (by omega)] at hR
      exact bad 5 hR.symm
    · obtain ⟨c, hc⟩ := get_some (l := s) (i := q) (by omega)
      rw [hc] at hR
      exact bad 2 hR.symm
  | succ d ihd =>
    intro hd k hk
    generalize hR : readF (d + 1) s k = R
    rw [readF] at hR
    have hw := skipR_call s ((k : Nat) : Int) (by omega)
    rw [clamp_in hk] at hw
    have hsk := skipP_le hk
    generalize skipP s k = q at *
    have ih := ihd (by omega)
    obtain ⟨deep, hde⟩ : ∃ deep : Int, 9 - ((d + 1 : Nat) : Int) = deep := ⟨_, rfl⟩
    have e1 : 9 - (d : Int) = deep + 1 := by omega
    have hdeep : 0 ≤ deep ∧ deep ≤ 8 := by omega
    rw [e1] at ih
    rw [hde]
    clear hde e1
    have pass : ∀ r, resRV R r → ∃ (v : Val) (n m : Int), r = .tup [.agg [.int .i64 v.kind, .int .i64 v.n, .str v.s, .list (valsD v.l), .list (fldsD v.f)], .int .i64 n, .int .i64 m] ∧ resRV R r := fun r h => by
      cases R with
      | bad e => obtain ⟨v, n, rfl⟩ := h; rw [Val.d_eq v]; exact ⟨v, n, e, rfl, v, n, by rw [Val.d_eq v]⟩
      | ok v k => simp only [resRV] at h; subst h; rw [Val.d_eq v]; exact ⟨v, k, 0, rfl, by simp only [resRV]; rw [Val.d_eq v]⟩
    have hg := fun k hk => readF_good s d k hk
    have bad : ∀ (e : Nat), R = .bad e → resRV R (.tup [.agg [.int .i64 0, .int .i64 0, .str [], .list [], .list []], .int .i64 0, .int .i64 e]) := fun e he => by
      have := resRV_bad zeroV 0 he
      rwa [Val.d_eq] at this
    have bad' : ∀ (e : Nat) (k n m : Int) (t : List UInt8), R = .bad e → resRV R (.tup [.agg [.int .i64 k, .int .i64 n, .str t, .list [], .list []], .int .i64 m, .int .i64 e]) := fun e k n m t he => by
      have := resRV_bad (Val.mk k n t [] []) m he
      rwa [kmk] at this
    have good : ∀ (k n : Int) (t : List UInt8) (m : Nat), R = .ok (Val.mk k n t [] []) m → resRV R (.tup [.agg [.int .i64 k, .int .i64 n, .str t, .list [], .list []], .int .i64 m, .int .i64 0]) := fun k n t m he => by
      have := resRV_ok he
      rwa [kmk] at this
    refine lift_foliowrightref_read.call rfl ?_
    simp (maxSteps := 2000000) (disch := omega) only [go_sem, ↓reduceIte, L_foliowrightref_read, R_foliowrightref_read]
    refine CallG.of hw ?_
    simp (maxSteps := 2000000) only [go_sem, ↓reduceIte]
    refine ⟨fun h1 => ?_, fun h1 => ?_⟩
    · rw [List.getElem?_eq_none (by omega)] at hR
      exact bad 5 hR.symm
    · obtain ⟨c, hc⟩ := get_some (l := s) (i := q) (by omega)
      have hc8 := u8_lt c
      have hlt : q < s.length := (List.getElem?_eq_some_iff.1 hc).1
      rw [hc] at hR
      simp only at hR
      refine ⟨fun h2 => by exfalso; omega, fun h2 => ?_⟩
      simp (maxSteps := 2000000) only [go_sem, ↓reduceIte, getI_nat, hc]
      refine ⟨fun h47 => ?_, fun h47 => ⟨fun h40 => ?_, fun h40 => ?_⟩⟩
      · rw [if_pos (by omega)] at hR
        refine CallG.of (readName_call s q (by omega) hlt) ?_
        cases hn : nameAt s q with
        | none =>
          rw [hn] at hR
          simp only [nameRes]
          simp (maxSteps := 2000000) only [go_sem, ↓reduceIte]
          exact bad' 4 4 0 0 [] hR.symm
        | some p =>
          obtain ⟨nm, kn⟩ := p
          rw [hn] at hR
          simp only [nameRes]
          simp (maxSteps := 2000000) only [go_sem, ↓reduceIte]
          exact good 4 0 nm kn hR.symm
      · rw [if_neg (by omega), if_pos (by omega)] at hR
        have hlit := literal_call s (q + 1) (by omega) (by omega)
        unfold litAt at hR
        rw [Int.natCast_add, Int.natCast_one] at hlit
        simp (disch := omega) only [IntWalk.i64_in, IntWalk.u8_in]
        refine CallG.of hlit ?_
        cases hl : litF 0 1 (s.drop (q + 1)) [] (q + 1) with
        | none =>
          rw [hl] at hR
          simp only [litRes]
          simp (maxSteps := 2000000) only [go_sem, ↓reduceIte]
          exact bad' 5 3 0 0 [] hR.symm
        | some p =>
          obtain ⟨b, kn⟩ := p
          rw [hl] at hR
          simp only at hR
          simp only [litRes]
          simp (maxSteps := 2000000) only [go_sem, ↓reduceIte]
          refine ⟨fun h3 => ?_, fun h3 => ?_⟩
          · rw [if_neg (by omega)] at hR
            exact bad' 2 3 0 kn b hR.symm
          · rw [if_pos (by omega)] at hR
            exact good 3 0 b kn hR.symm
      · rw [if_neg (by omega), if_neg (by omega)] at hR
        by_cases c60 : c.toNat = 60
        · have z1 : ((c.toNat : Int) = 60) = True := by simp only [eq_iff_iff, iff_true]; omega
          have hex : ¬ s[q + 1]? = some 60 → R = hexAt s (q + 1) := fun h => by
            rw [if_neg (fun h' => h h'.2), if_pos c60] at hR; exact hR.symm
          have hxc := runhex_call s (q + 1) (by omega) (by omega)
          rw [Int.natCast_add, Int.natCast_one] at hxc
          simp (maxSteps := 2000000) (disch := omega) only [go_sem, ↓reduceIte, getI_nat, hc, z1]
          refine ⟨fun h2 => ?_, fun h2 => ?_⟩
          · obtain ⟨e, he⟩ := get_some (l := s) (i := q + 1) (by omega)
            have g1 : getI s ((q : Int) + 1) = some e := by rw [getI_add1, he]
            simp (maxSteps := 2000000) (disch := omega) only [go_sem, ↓reduceIte, g1]
            refine ⟨fun h3 => ?_, fun h3 => ?_⟩
            · have e60 : e = 60 := UInt8.toNat_inj.1 (by have : (60 : UInt8).toNat = 60 := rfl; omega)
              rw [if_pos ⟨c60, by rw [he, e60]⟩] at hR
              have hl := readDict_of s hs (readF d s) deep hdeep hg ih (q + 2) (by omega)
              rw [hR, show ((q + 2 : Nat) : Int) = (q : Int) + 2 by omega] at hl
              refine CallG.post hl (fun r hr => ?_)
              obtain ⟨v, n, m, rfl, hr⟩ := pass r hr
              simp (maxSteps := 2000000) only [go_sem, ↓reduceIte]
              exact hr
            · simp (maxSteps := 2000000) (disch := omega) only [go_sem, ↓reduceIte, getI_nat, hc, z1]
              refine CallG.of hxc ?_
              have hR' := hex (by rw [he]; intro e'; cases e'; exact h3 rfl)
              unfold hexAt at hR'
              have hcode := unhexF_code (s.drop (q + 1)) (-1) []
              generalize unhexF (s.drop (q + 1)) (-1) [] = U at hR' hcode
              obtain ⟨ub, uc⟩ := U
              simp only at hR' hcode
              simp (maxSteps := 2000000) only [go_sem, ↓reduceIte]
              refine ⟨fun u1 => ⟨fun u2 => ?_, fun u2 => ?_⟩, fun u1 => ?_⟩
              · rw [if_pos (by omega), if_neg (by omega)] at hR'
                rw [if_pos (by omega)]
                exact bad' 2 3 0 _ ub hR'
              · rw [if_pos (by omega), if_pos (by omega)] at hR'
                rw [if_pos (by omega)]
                obtain rfl : uc = 0 := by omega
                exact good 3 0 ub _ hR'
              · rw [if_neg (by omega)] at hR'
                exact bad' uc 3 0 _ ub hR'
          · refine CallG.of hxc ?_
            have hR' := hex (by rw [List.getElem?_eq_none (by omega)]; simp)
            unfold hexAt at hR'
            have hcode := unhexF_code (s.drop (q + 1)) (-1) []
            generalize unhexF (s.drop (q + 1)) (-1) [] = U at hR' hcode
            obtain ⟨ub, uc⟩ := U
            simp only at hR' hcode
            simp (maxSteps := 2000000) only [go_sem, ↓reduceIte]
            refine ⟨fun u1 => ⟨fun u2 => ?_, fun u2 => ?_⟩, fun u1 => ?_⟩
            · rw [if_pos (by omega), if_neg (by omega)] at hR'
              rw [if_pos (by omega)]
              exact bad' 2 3 0 _ ub hR'
            · rw [if_pos (by omega), if_pos (by omega)] at hR'
              rw [if_pos (by omega)]
              obtain rfl : uc = 0 := by omega
              exact good 3 0 ub _ hR'
            · rw [if_neg (by omega)] at hR'
              exact bad' uc 3 0 _ ub hR'
        · rw [if_neg (fun h => c60 h.1), if_neg c60] at hR
          have z1 : ((c.toNat : Int) = 60) = False := by simp only [eq_iff_iff, iff_false]; omega
          simp (maxSteps := 2000000) (disch := omega) only [go_sem, ↓reduceIte, getI_nat, hc, z1]
          refine ⟨fun h91 => ?_, fun h91 => ?_⟩
          · rw [if_pos (by omega)] at hR
            have hl := readList_of s hs (readF d s) deep hdeep hg ih (q + 1) (by omega)
            rw [hR, Int.natCast_add, Int.natCast_one] at hl
            refine CallG.post hl (fun r hr => ?_)
            obtain ⟨v, n, m, rfl, hr⟩ := pass r hr
            simp (maxSteps := 2000000) only [go_sem, ↓reduceIte]
            exact hr
          · rw [if_neg (by omega)] at hR
            refine CallG.of (special_call c) ?_
            simp (maxSteps := 2000000) only [go_sem, ↓reduceIte]
            refine ⟨fun hs1 => ?_, fun hs1 => ?_⟩
            · rw [if_pos hs1] at hR
              exact bad 4 hR.symm
            · rw [if_neg (by simp [hs1])] at hR
              unfold wordV at hR
              have hwd := wordR_call s ((q : Nat) : Int) (by omega)
              rw [clamp_in (by omega)] at hwd
              refine CallG.of hwd ?_
              simp (maxSteps := 2000000) (disch := omega) only [go_sem, ↓reduceIte]
              have hwl := wordP_len s q
              have hrr := readRef_call s q (by omega) (by omega)
              have hfx := readFix_call (wordP s q) (by omega)
              have hwr : IntKind.i64.wrap ((q : Int) + ((wordP s q).length : Int)) = ((q + (wordP s q).length : Nat) : Int) := by rw [IntWalk.i64_in _ (by omega)]; omega
              rw [hwr]
              refine ⟨fun w1 => ?_, fun w1 => ⟨fun w2 => ?_, fun w2 => ⟨fun w3 => ?_, fun w3 => ?_⟩⟩⟩
              · rw [if_pos w1] at hR
                rw [w1]
                exact good 0 0 [] (q + 4) hR.symm
              · rw [if_neg w1, if_pos w2] at hR
                rw [w2]
                exact good 1 1 [] (q + 4) hR.symm
              · rw [if_neg w1, if_neg w2, if_pos w3] at hR
                rw [w3]
                exact good 1 0 [] (q + 5) hR.symm
              · rw [if_neg w1, if_neg w2, if_neg w3] at hR
                refine CallG.of hrr ?_
                cases hra : refAt s q with
                | some p =>
                  obtain ⟨n, kn⟩ := p
                  rw [hra] at hR
                  have := refAt_good (by omega) hra
                  simp only [refRes]
                  simp (maxSteps := 2000000) only [go_sem, ↓reduceIte]
                  refine ⟨fun w4 => good 7 n [] kn hR.symm, fun w4 => by exfalso; omega⟩
                | none =>
                  rw [hra] at hR
                  simp only [refRes]
                  simp (maxSteps := 2000000) only [go_sem, ↓reduceIte]
                  refine CallG.of hfx ?_
                  simp only [resRN]
                  generalize parseF (wordP s q) = F at hR
                  obtain ⟨fn, fc⟩ := F
                  simp only at hR
                  simp (maxSteps := 2000000) (disch := omega) only [go_sem, ↓reduceIte]
                  by_cases f0 : fc = 0
                  · subst f0
                    rw [if_pos rfl] at hR
                    exact good 2 fn [] _ hR.symm
                  · rw [if_neg f0] at hR
                    exact bad' fc 2 fn _ [] hR.symm

/-- What the document's Read hands back. -/
def topRes : RV → Res
  | .ok v k => .tup [v.d, .int .i64 k, .int .i64 0]
  | .bad e => .tup [zeroV.d, .int .i64 0, .int .i64 e]

/-- foliowrightref.Read -/
def L_foliowrightref_Read : LCode :=
  .seq (.reg [⟨some 4, .allo [.int .i64 0, .int .i64 0, .str [], .list [], .list []], none⟩, ⟨some 5, .asg (.k (.d (.int .i64 0))), none⟩, ⟨some 6, .asg (.k (.d (.int .i64 0))), 
  none⟩]) (.seq (.seq (.reg [⟨some 10, .val (.cp (.t 0)), none⟩, ⟨some 11, .val (.len true (.t 10)), none⟩, ⟨some 12, .val (.bin .gtr (.t 11) (.k (.d (.int .i64 60000)))), none⟩, 
  ⟨some 13, .val (.cp (.t 12)), none⟩, ⟨some 14, .val (.cp (.t 1)), some (13, false)⟩, ⟨some 15, .val (.bin .lss (.t 14) (.k (.d (.int .i64 0)))), some (13, false)⟩, ⟨some 16, .val 
  (.pick (.t 13) (.k (.d (.bool true))) (.t 15)), none⟩, ⟨some 17, .val (.cp (.t 16)), none⟩, ⟨some 18, .val (.cp (.t 1)), some (17, false)⟩, ⟨some 19, .val (.cp (.t 0)), some (17, 
  false)⟩, ⟨some 20, .val (.len true (.t 19)), some (17, false)⟩, ⟨some 21, .val (.bin .gtr (.t 18) (.t 20)), some (17, false)⟩, ⟨some 22, .val (.pick (.t 17) (.k (.d (.bool 
  true))) (.t 21)), none⟩]) (.cond (.t 22) (.seq (.reg [⟨some 23, .val (.bld [(0, 1), (1, 1), (2, 1), (3, 1), (4, 1)] [.int .i64 0, .int .i64 0, .str [], .list [], .list []] [] 
  []), none⟩, ⟨none, .st 5 (.t 4) (.t 23), none⟩, ⟨some 5, .asg (.k (.d (.int .i64 0))), none⟩, ⟨some 6, .asg (.k (.d (.int .i64 1))), none⟩]) .ret) .skip)) (.seq (.reg [⟨some 25, 
  .val (.cp (.t 0)), none⟩, ⟨some 26, .val (.cp (.t 1)), none⟩, ⟨some 27, .call 42 [.t 25, .t 26, .k (.d (.int .i64 1))], none⟩, ⟨some 24, .val (.cp (.t 27)), none⟩, ⟨some 28, .val 
  (.ext 0 (.t 24)), none⟩, ⟨some 29, .val (.ext 1 (.t 24)), none⟩, ⟨some 30, .val (.ext 2 (.t 24)), none⟩, ⟨some 7, .allo [.int .i64 0, .int .i64 0, .str [], .list [], .list []], 
  none⟩, ⟨none, .st 5 (.t 7) (.t 28), none⟩, ⟨some 8, .asg (.t 29), none⟩, ⟨some 9, .asg (.t 30), none⟩]) (.seq (.seq (.reg [⟨some 31, .val (.cp (.t 9)), none⟩, ⟨some 32, .val 
  (.bin .eql (.t 31) (.k (.d (.int .i64 0)))), none⟩]) (.cond (.t 32) (.reg [⟨some 33, .val (.ld true 5 (.t 7)), none⟩, ⟨some 34, .call 43 [.t 33], none⟩, ⟨some 9, .asg (.t 34), 
  none⟩]) .skip)) (.seq (.seq (.reg [⟨some 35, .val (.cp (.t 9)), none⟩, ⟨some 36, .val (.bin .gtr (.t 35) (.k (.d (.int .i64 0)))), none⟩]) (.cond (.t 36) (.seq (.reg [⟨some 37, 
  .val (.bld [(0, 1), (1, 1), (2, 1), (3, 1), (4, 1)] [.int .i64 0, .int .i64 0, .str [], .list [], .list []] [] []), none⟩, ⟨some 38, .val (.cp (.t 9)), none⟩, ⟨none, .st 5 (.t 4) 
  (.t 37), none⟩, ⟨some 5, .asg (.k (.d (.int .i64 0))), none⟩, ⟨some 6, .asg (.t 38), none⟩]) .ret) .skip)) (.seq (.reg [⟨some 39, .val (.ld true 5 (.t 7)), none⟩, ⟨some 40, .val 
  (.cp (.t 8)), none⟩, ⟨none, .st 5 (.t 4) (.t 39), none⟩, ⟨some 5, .asg (.t 40), none⟩, ⟨some 6, .asg (.k (.d (.int .i64 0))), none⟩]) .ret)))))
def R_foliowrightref_Read : List LRes := [.cell 4 true 5, .tmp 5, .tmp 6]
theorem lift_foliowrightref_Read : Lifts Try.prog 20 41 L_foliowrightref_Read R_foliowrightref_Read := ⟨_, _, Try.func20, rfl, by kernel_rfl, by kernel_rfl, rfl⟩

theorem readTop_call (s : List UInt8) (k : Int) (hs : s.length ≤ 1000000000) : PCall Try.prog 20 [.str s, .int .i64 k] (fun r => r = topRes (valueP s k)) := by
  refine lift_foliowrightref_Read.call rfl ?_
  generalize hR : valueP s k = R
  unfold valueP at hR
  simp (maxSteps := 2000000) only [go_sem, ↓reduceIte, L_foliowrightref_Read, R_foliowrightref_Read]
  have bad : ∀ (e : Nat), R = .bad e → Res.tup [.agg [.int .i64 0, .int .i64 0, .str [], .list [], .list []], .int .i64 0, .int .i64 e] = topRes R := fun e he => by
    rw [he, topRes, Val.d_eq]; rfl
  refine ⟨fun h1 => ⟨fun h2 => ⟨fun h3 => ?_, fun h3 => ?_⟩, fun h2 => ?_⟩, fun h1 => ?_⟩
  · rw [if_pos (by omega)] at hR; exact bad 1 hR.symm
  · rw [if_neg (by omega)] at hR
    obtain ⟨q, rfl⟩ : ∃ q : Nat, k = q := ⟨k.toNat, by omega⟩
    rw [Int.toNat_natCast] at hR
    have hc := read_call s (by omega) 8 (by omega) q (by omega)
    have hg := readF_good s 8 q (by omega)
    refine CallG.post hc (fun r hr => ?_)
    cases hx : readF 8 s q with
    | bad e =>
      rw [hx] at hR hr hg
      obtain ⟨v, n, rfl⟩ := hr
      rw [Val.d_eq v]
      obtain ⟨g1, _⟩ := hg
      have e0 : ((e : Int) = 0) = False := by simp only [eq_iff_iff, iff_false]; omega
      have e1 : (0 < (e : Int)) = True := by simp only [eq_iff_iff, iff_true]; omega
      simp (maxSteps := 2000000) only [go_sem, ↓reduceIte, e0, e1]
      exact bad e hR.symm
    | ok v n =>
      rw [hx] at hR hr hg
      simp only [resRV] at hr
      subst hr
      simp only at hR
      obtain ⟨g1, g2, g3, g4⟩ := hg
      have hf := faultV_call v (Val.sm_mono (by omega) v g3) (by omega)
      rw [Val.d_eq v] at hf ⊢
      simp (maxSteps := 2000000) only [go_sem, ↓reduceIte]
      refine CallG.of hf ?_
      by_cases f0 : faultV v = 0
      · rw [if_pos f0] at hR
        rw [f0]
        simp (maxSteps := 2000000) only [go_sem, ↓reduceIte]
        rw [← hR, topRes, Val.d_eq]
      · rw [if_neg f0] at hR
        have e1 : (0 < (faultV v : Int)) = True := by simp only [eq_iff_iff, iff_true]; omega
        simp (maxSteps := 2000000) only [go_sem, ↓reduceIte, e1]
        exact bad _ hR.symm
  · rw [if_pos (by omega)] at hR; exact bad 1 hR.symm
  · rw [if_pos (by omega)] at hR; exact bad 1 hR.symm
end Go.Av.Try
