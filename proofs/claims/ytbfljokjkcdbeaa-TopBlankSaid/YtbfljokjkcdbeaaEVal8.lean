import Derived.Test.YtbfljokjkcdbeaaEVal7
/- Values of a file: names and strings as they are written. -/
set_option linter.unusedSimpArgs false
namespace Go.Av.Try
open Go.Proofs

/-! ### One byte in a string -/
/-- internal/stringslite.Index -/
def L_internal_stringslite_Index : LCode :=
  .seq (.reg [⟨some 4, .asg (.k (.d (.int .i64 0))), none⟩]) (.seq (.reg [⟨some 14, .val (.cp (.t 1)), none⟩, ⟨some 15, .val (.len true (.t 14)), none⟩, ⟨some 5, .asg (.t 15), 
  none⟩]) (.seq (.block 0 (.seq (.reg [⟨some 17, .val (.cp (.t 5)), none⟩, ⟨some 18, .val (.bin .eql (.t 17) (.k (.d (.int .i64 0)))), none⟩, ⟨some 19, .val (.cp (.t 18)), none⟩, 
  ⟨some 20, .val (.cp (.t 1)), some (19, false)⟩, ⟨some 21, .val (.cp (.t 0)), some (19, false)⟩, ⟨some 22, .val (.bin .eql (.t 20) (.t 21)), some (19, false)⟩, ⟨some 23, .val 
  (.pick (.t 19) (.k (.d (.bool true))) (.t 22)), none⟩, ⟨some 16, .asg (.t 23), none⟩]) (.cond (.t 16) (.seq (.reg [⟨some 4, .asg (.k (.d (.int .i64 0))), none⟩]) .ret) (.seq 
  (.reg [⟨some 25, .val (.cp (.t 5)), none⟩, ⟨some 26, .val (.bin .eql (.t 25) (.k (.d (.int .i64 1)))), none⟩, ⟨some 24, .asg (.t 26), none⟩]) (.cond (.t 24) (.seq (.reg [⟨some 
  27, .val (.cp (.t 0)), none⟩, ⟨some 28, .val (.cp (.t 1)), none⟩, ⟨some 29, .val (.idxS (.t 28) (.k (.d (.int .i64 0)))), none⟩, ⟨some 30, .call 110 [.t 27, .t 29], none⟩, ⟨some 
  4, .asg (.t 30), none⟩]) .ret) (.seq (.reg [⟨some 32, .val (.cp (.t 5)), none⟩, ⟨some 33, .val (.cp (.t 0)), none⟩, ⟨some 34, .val (.len true (.t 33)), none⟩, ⟨some 35, .val 
  (.bin .geq (.t 32) (.t 34)), none⟩, ⟨some 31, .asg (.t 35), none⟩]) (.cond (.t 31) (.seq (.reg [⟨some 4, .asg (.k (.d (.int .i64 (-1)))), none⟩]) .ret) (.seq .bad (.cond (.t 36) 
  (.seq (.reg [⟨some 45, .val (.cp (.t 0)), none⟩, ⟨some 46, .val (.cp (.t 1)), none⟩, ⟨some 47, .prim .call [.k (.fn (.func 114) [] []), .t 45, .t 46] [], none⟩, ⟨some 4, .asg (.t 
  47), none⟩]) .ret) .skip))))))))) (.seq (.reg [⟨some 48, .val (.cp (.t 1)), none⟩, ⟨some 49, .val (.idxS (.t 48) (.k (.d (.int .i64 0)))), none⟩, ⟨some 6, .asg (.t 49), none⟩]) 
  (.seq (.reg [⟨some 50, .val (.cp (.t 1)), none⟩, ⟨some 51, .val (.idxS (.t 50) (.k (.d (.int .i64 1)))), none⟩, ⟨some 7, .asg (.t 51), none⟩]) (.seq (.reg [⟨some 8, .asg (.k (.d 
  (.int .i64 0))), none⟩]) (.seq (.reg [⟨some 52, .val (.cp (.t 0)), none⟩, ⟨some 53, .val (.len true (.t 52)), none⟩, ⟨some 54, .val (.cp (.t 5)), none⟩, ⟨some 55, .val (.bin .sub 
  (.t 53) (.t 54)), none⟩, ⟨some 56, .val (.bin .add (.t 55) (.k (.d (.int .i64 1)))), none⟩, ⟨some 9, .asg (.t 56), none⟩]) (.seq (.reg [⟨some 10, .asg (.k (.d (.int .i64 0))), 
  none⟩]) (.seq (.block 1 (.loop (.seq (.seq (.reg [⟨some 57, .val (.cp (.t 8)), none⟩, ⟨some 58, .val (.cp (.t 9)), none⟩, ⟨some 59, .val (.bin .lss (.t 57) (.t 58)), none⟩]) 
  (.cond (.t 59) .skip (.exit 1))) (.block 2 (.seq (.seq (.reg [⟨some 60, .val (.cp (.t 0)), none⟩, ⟨some 61, .val (.cp (.t 8)), none⟩, ⟨some 62, .val (.idxS (.t 60) (.t 61)), 
  none⟩, ⟨some 63, .val (.cp (.t 6)), none⟩, ⟨some 64, .val (.bin .neq (.t 62) (.t 63)), none⟩]) (.cond (.t 64) (.seq (.reg [⟨some 65, .val (.cp (.t 0)), none⟩, ⟨some 66, .val (.cp 
  (.t 8)), none⟩, ⟨some 67, .val (.bin .add (.t 66) (.k (.d (.int .i64 1)))), none⟩, ⟨some 68, .val (.cp (.t 9)), none⟩, ⟨some 69, .val (.subS (.t 65) (some (.t 67)) (some (.t 
  68))), none⟩, ⟨some 70, .val (.cp (.t 6)), none⟩, ⟨some 71, .call 110 [.t 69, .t 70], none⟩, ⟨some 11, .asg (.t 71), none⟩]) (.seq (.seq (.reg [⟨some 72, .val (.cp (.t 11)), 
  none⟩, ⟨some 73, .val (.bin .lss (.t 72) (.k (.d (.int .i64 0)))), none⟩]) (.cond (.t 73) (.seq (.reg [⟨some 4, .asg (.k (.d (.int .i64 (-1)))), none⟩]) .ret) .skip)) (.reg 
  [⟨some 74, .val (.cp (.t 8)), none⟩, ⟨some 75, .val (.cp (.t 11)), none⟩, ⟨some 76, .val (.bin .add (.t 75) (.k (.d (.int .i64 1)))), none⟩, ⟨some 77, .val (.bin .add (.t 74) (.t 
  76)), none⟩, ⟨some 8, .asg (.t 77), none⟩]))) .skip)) (.seq (.seq (.reg [⟨some 78, .val (.cp (.t 0)), none⟩, ⟨some 79, .val (.cp (.t 8)), none⟩, ⟨some 80, .val (.bin .add (.t 79) 
  (.k (.d (.int .i64 1)))), none⟩, ⟨some 81, .val (.idxS (.t 78) (.t 80)), none⟩, ⟨some 82, .val (.cp (.t 7)), none⟩, ⟨some 83, .val (.bin .eql (.t 81) (.t 82)), none⟩, ⟨some 84, 
  .val (.cp (.t 83)), none⟩, ⟨some 85, .val (.cp (.t 0)), some (84, true)⟩, ⟨some 86, .val (.cp (.t 8)), some (84, true)⟩, ⟨some 87, .val (.cp (.t 8)), some (84, true)⟩, ⟨some 88, 
  .val (.cp (.t 5)), some (84, true)⟩, ⟨some 89, .val (.bin .add (.t 87) (.t 88)), some (84, true)⟩, ⟨some 90, .val (.subS (.t 85) (some (.t 86)) (some (.t 89))), some (84, true)⟩, 
  ⟨some 91, .val (.cp (.t 1)), some (84, true)⟩, ⟨some 92, .val (.bin .eql (.t 90) (.t 91)), some (84, true)⟩, ⟨some 93, .val (.pick (.t 84) (.t 92) (.k (.d (.bool false)))), 
  none⟩]) (.cond (.t 93) (.seq (.reg [⟨some 94, .val (.cp (.t 8)), none⟩, ⟨some 4, .asg (.t 94), none⟩]) .ret) .skip)) (.seq (.reg [⟨some 95, .val (.cp (.t 8)), none⟩, ⟨some 96, 
  .val (.bin .add (.t 95) (.k (.d (.int .i64 1)))), none⟩, ⟨some 8, .asg (.t 96), none⟩]) (.seq (.reg [⟨some 97, .val (.cp (.t 10)), none⟩, ⟨some 98, .val (.bin .add (.t 97) (.k 
  (.d (.int .i64 1)))), none⟩, ⟨some 10, .asg (.t 98), none⟩]) (.seq .bad (.cond (.t 107) (.seq (.reg [⟨some 108, .val (.cp (.t 0)), none⟩, ⟨some 109, .val (.cp (.t 8)), none⟩, 
  ⟨some 110, .val (.subS (.t 108) (some (.t 109)) none), none⟩, ⟨some 111, .val (.cp (.t 1)), none⟩, ⟨some 112, .prim .call [.k (.fn (.func 114) [] []), .t 110, .t 111] [], none⟩, 
  ⟨some 12, .asg (.t 112), none⟩]) (.seq (.seq (.reg [⟨some 113, .val (.cp (.t 12)), none⟩, ⟨some 114, .val (.bin .geq (.t 113) (.k (.d (.int .i64 0)))), none⟩]) (.cond (.t 114) 
  (.seq (.reg [⟨some 115, .val (.cp (.t 12)), none⟩, ⟨some 116, .val (.cp (.t 8)), none⟩, ⟨some 117, .val (.bin .add (.t 115) (.t 116)), none⟩, ⟨some 4, .asg (.t 117), none⟩]) 
  .ret) .skip)) (.seq (.reg [⟨some 4, .asg (.k (.d (.int .i64 (-1)))), none⟩]) .ret))) (.seq .bad (.cond (.t 132) (.seq (.reg [⟨some 133, .val (.cp (.t 0)), none⟩, ⟨some 134, .val 
  (.cp (.t 8)), none⟩, ⟨some 135, .val (.subS (.t 133) (some (.t 134)) none), none⟩, ⟨some 136, .val (.cp (.t 1)), none⟩, ⟨some 137, .call 116 [.t 135, .t 136], none⟩, ⟨some 13, 
  .asg (.t 137), none⟩]) (.seq (.seq (.reg [⟨some 138, .val (.cp (.t 13)), none⟩, ⟨some 139, .val (.bin .lss (.t 138) (.k (.d (.int .i64 0)))), none⟩]) (.cond (.t 139) (.seq (.reg 
  [⟨some 4, .asg (.k (.d (.int .i64 (-1)))), none⟩]) .ret) .skip)) (.seq (.reg [⟨some 140, .val (.cp (.t 8)), none⟩, ⟨some 141, .val (.cp (.t 13)), none⟩, ⟨some 142, .val (.bin 
  .add (.t 140) (.t 141)), none⟩, ⟨some 4, .asg (.t 142), none⟩]) .ret))) .skip)))))))))))) (.seq (.reg [⟨some 4, .asg (.k (.d (.int .i64 (-1)))), none⟩]) .ret)))))))))
def R_internal_stringslite_Index : List LRes := [.tmp 4]
theorem lift_internal_stringslite_Index : Lifts Try.prog 107 143 L_internal_stringslite_Index R_internal_stringslite_Index := ⟨_, _, Try.func107, rfl, by kernel_rfl, by kernel_rfl, rfl⟩

theorem liteIndex1_call (s : List UInt8) (c : UInt8) : PCall Try.prog 107 [.str s, .str [c]] (fun r => r = .one (.int .i64 (Lib.indexByte s c))) := by
  refine lift_internal_stringslite_Index.call rfl ?_
  simp (maxSteps := 2000000) only [go_sem, ↓reduceIte, L_internal_stringslite_Index, R_internal_stringslite_Index]
  refine ⟨fun h => ?_, fun h => ?_⟩
  · subst h
    simp [Lib.indexByte]
  · have : getI [c] 0 = some c := rfl
    simp (maxSteps := 2000000) only [go_sem, ↓reduceIte, this]
    refine CallG.of (liteIndexByte_call s c) ?_
    simp (maxSteps := 2000000) only [go_sem, ↓reduceIte]
/-- strings.Index -/
def L_strings_Index : LCode :=
  .seq (.reg [⟨some 4, .asg (.k (.d (.int .i64 0))), none⟩]) (.seq (.reg [⟨some 5, .val (.cp (.t 0)), none⟩, ⟨some 6, .val (.cp (.t 1)), none⟩, ⟨some 7, .call 107 [.t 5, .t 6], 
  none⟩, ⟨some 4, .asg (.t 7), none⟩]) .ret)
def R_strings_Index : List LRes := [.tmp 4]
theorem lift_strings_Index : Lifts Try.prog 94 8 L_strings_Index R_strings_Index := ⟨_, _, Try.func94, rfl, by kernel_rfl, by kernel_rfl, rfl⟩

/-- strings.Contains -/
def L_strings_Contains : LCode :=
  .seq (.reg [⟨some 4, .asg (.k (.d (.bool false))), none⟩]) (.seq (.reg [⟨some 5, .val (.cp (.t 0)), none⟩, ⟨some 6, .val (.cp (.t 1)), none⟩, ⟨some 7, .call 94 [.t 5, .t 6], none⟩, 
  ⟨some 8, .val (.bin .geq (.t 7) (.k (.d (.int .i64 0)))), none⟩, ⟨some 4, .asg (.t 8), none⟩]) .ret)
def R_strings_Contains : List LRes := [.tmp 4]
theorem lift_strings_Contains : Lifts Try.prog 75 9 L_strings_Contains R_strings_Contains := ⟨_, _, Try.func75, rfl, by kernel_rfl, by kernel_rfl, rfl⟩

theorem contains1_call (s : List UInt8) (c : UInt8) : PCall Try.prog 75 [.str s, .str [c]] (fun r => r = .one (.bool (decide (c ∈ s)))) := by
  have h : PCall Try.prog 94 [.str s, .str [c]] (fun r => r = .one (.int .i64 (Lib.indexByte s c))) := by
    refine lift_strings_Index.call rfl ?_
    simp (maxSteps := 2000000) only [go_sem, ↓reduceIte, L_strings_Index, R_strings_Index]
    refine CallG.of (liteIndex1_call s c) ?_
    simp (maxSteps := 2000000) only [go_sem, ↓reduceIte]
  refine lift_strings_Contains.call rfl ?_
  simp (maxSteps := 2000000) only [go_sem, ↓reduceIte, L_strings_Contains, R_strings_Contains]
  refine CallG.of h ?_
  simp (maxSteps := 2000000) only [go_sem, ↓reduceIte]
  congr 2
  simp only [indexByte_mem]

theorem encode_ascii {c : UInt8} (h : c.toNat < 128) : (Utf8.encode (c.toNat : Int)).data.toList = [c] := by
  have : ∀ n : Fin 128, (Utf8.encode ((n.val : Nat) : Int)).data.toList = [UInt8.ofNat n.val] := by decide +kernel
  have := this ⟨c.toNat, h⟩
  simp only at this
  rw [this]
  simp

end Go.Av.Try
