import Derived.Test.YtkkdhgibaimboaaDoorEVal7
/- Values of a file: names and strings as they are written. -/
set_option linter.unusedSimpArgs false
namespace Go.Av.Tryd
open Go.Proofs

/-! ### Builders, wherever they lie -/
def Bld.at (r : Ref) : Bld → AObj
  | .new => .cells [.nt 147, .ns]
  | .nul => .cells [.ptr r 0, .ns]
  | .has s => .cells [.ptr r 0, .own (.c r 1) 5 1 (bytesD s)]
theorem Bld.obj_at (b : Bld) : b.obj = b.at (.x 0) := by cases b <;> rfl
theorem Bld.at_ren (b : Bld) (r : Ref) : (b.at (.x 0)).ren [r] = b.at r := by cases b <;> rfl
theorem Bld.at_wf (b : Bld) : (b.at (.x 0)).wf 1 = true := by cases b <;> rfl
theorem Bld.at_loc (b : Bld) (i : Nat) : (b.at (.x i)).noLoc = true := by cases b <;> rfl
theorem Bld.bytes_has (s : List UInt8) : Bld.bytes (.has s) = s := rfl

theorem bldCall {dst : Option Nat} {f : LX} {args : List LX} {K : St → Prop} {σ : St} {g : FuncId} {first cap : List AV} {xs : List AV} {ret : AV} (r : Ref) {b b' : Bld} (hf : σ.ev f = .fn (.func g) first cap) (hc : MCallE Tryd.prog g xs [b.at (.x 0)] ret [b'.at (.x 0)])
    (hx : passQ [] 0 (first ++ (evL σ args ++ cap)) = renL [r] xs) (hwx : wfAL [] 1 0 xs = true) (ho : σ.obj r = some (b.at r)) (hr : retOK 1 ret = true)
    (hK : K (retO (({ σ with ρ := amap (AV.unown [r]) σ.ρ } : St).setObj r (b'.at r)) dst [r] ret)) : PrimG Tryd.prog dst .call (f :: args) K σ := by
  refine PrimG.mcall [r] [] hf hc hx hwx ?_ ?_ ?_ ?_ ⟨hr, ?_⟩ ?_
  · exact ⟨by rw [Bld.at_ren]; exact ho, trivial⟩
  · show (Bld.at (.x 0) b).wf 1 && true = true
    rw [Bld.at_wf]; rfl
  · rfl
  · rfl
  · show ((Bld.at (.x 0) b').wf 1 && (isLocal r || ((Bld.at (.x 0) b').ren [r]).noLoc)) && true = true
    rw [Bld.at_wf, Bld.at_ren]
    cases r with
    | l s => rfl
    | x i => rw [Bld.at_loc]; rfl
  · show K (retO (setObjs [r] { (eraseL σ []) with ρ := amap (AV.unown [r]) (eraseL σ []).ρ } [r] [Bld.at (.x 0) b']) dst [r] ret)
    simp only [setObjs, Bld.at_ren, eraseL]
    exact hK

theorem writeString_at (b : Bld) (t : List UInt8) (hl : (b.bytes ++ t).length ≤ 1000000000) : MCallE Tryd.prog 97 [.ptr (.x 0) 0, .d (.str t)] [b.at (.x 0)] (.tuple [.d (.int .i64 t.length), .d .nil]) [Bld.at (.x 0) (.has (b.bytes ++ t))] := by
  rw [← Bld.obj_at, ← Bld.obj_at]; exact writeString_call b t hl
theorem writeByte_at (b : Bld) (c : UInt8) (hl : b.bytes.length + 1 ≤ 1000000000) : MCallE Tryd.prog 138 [.ptr (.x 0) 0, .d (.int .u8 c.toNat)] [b.at (.x 0)] (.d .nil) [Bld.at (.x 0) (.has (b.bytes ++ [c]))] := by
  rw [← Bld.obj_at, ← Bld.obj_at]; exact writeByte_call b c hl

/-! ### One byte in a string -/
/-- internal/stringslite.Index -/
def L_internal_stringslite_Index : LCode :=
  .seq (.reg [⟨some 4, .asg (.k (.d (.int .i64 0))), none⟩]) (.seq (.reg [⟨some 14, .val (.cp (.t 1)), none⟩, ⟨some 15, .val (.len true (.t 14)), none⟩, ⟨some 5, .asg (.t 15), 
  none⟩]) (.seq (.block 0 (.seq (.reg [⟨some 17, .val (.cp (.t 5)), none⟩, ⟨some 18, .val (.bin .eql (.t 17) (.k (.d (.int .i64 0)))), none⟩, ⟨some 19, .val (.cp (.t 18)), none⟩, 
  ⟨some 20, .val (.cp (.t 1)), some (19, false)⟩, ⟨some 21, .val (.cp (.t 0)), some (19, false)⟩, ⟨some 22, .val (.bin .eql (.t 20) (.t 21)), some (19, false)⟩, ⟨some 23, .val 
  (.pick (.t 19) (.k (.d (.bool true))) (.t 22)), none⟩, ⟨some 16, .asg (.t 23), none⟩]) (.cond (.t 16) (.seq (.reg [⟨some 4, .asg (.k (.d (.int .i64 0))), none⟩]) .ret) (.seq 
  (.reg [⟨some 25, .val (.cp (.t 5)), none⟩, ⟨some 26, .val (.bin .eql (.t 25) (.k (.d (.int .i64 1)))), none⟩, ⟨some 24, .asg (.t 26), none⟩]) (.cond (.t 24) (.seq (.reg [⟨some 
  27, .val (.cp (.t 0)), none⟩, ⟨some 28, .val (.cp (.t 1)), none⟩, ⟨some 29, .val (.idxS (.t 28) (.k (.d (.int .i64 0)))), none⟩, ⟨some 30, .call 154 [.t 27, .t 29], none⟩, ⟨some 
  4, .asg (.t 30), none⟩]) .ret) (.seq (.reg [⟨some 32, .val (.cp (.t 5)), none⟩, ⟨some 33, .val (.cp (.t 0)), none⟩, ⟨some 34, .val (.len true (.t 33)), none⟩, ⟨some 35, .val 
  (.bin .geq (.t 32) (.t 34)), none⟩, ⟨some 31, .asg (.t 35), none⟩]) (.cond (.t 31) (.seq (.reg [⟨some 4, .asg (.k (.d (.int .i64 (-1)))), none⟩]) .ret) (.seq .bad (.cond (.t 36) 
  (.seq (.reg [⟨some 45, .val (.cp (.t 0)), none⟩, ⟨some 46, .val (.cp (.t 1)), none⟩, ⟨some 47, .prim .call [.k (.fn (.func 168) [] []), .t 45, .t 46] [], none⟩, ⟨some 4, .asg (.t 
  47), none⟩]) .ret) .skip))))))))) (.seq (.reg [⟨some 48, .val (.cp (.t 1)), none⟩, ⟨some 49, .val (.idxS (.t 48) (.k (.d (.int .i64 0)))), none⟩, ⟨some 6, .asg (.t 49), none⟩]) 
  (.seq (.reg [⟨some 50, .val (.cp (.t 1)), none⟩, ⟨some 51, .val (.idxS (.t 50) (.k (.d (.int .i64 1)))), none⟩, ⟨some 7, .asg (.t 51), none⟩]) (.seq (.reg [⟨some 8, .asg (.k (.d 
  (.int .i64 0))), none⟩]) (.seq (.reg [⟨some 52, .val (.cp (.t 0)), none⟩, ⟨some 53, .val (.len true (.t 52)), none⟩, ⟨some 54, .val (.cp (.t 5)), none⟩, ⟨some 55, .val (.bin .sub 
  (.t 53) (.t 54)), none⟩, ⟨some 56, .val (.bin .add (.t 55) (.k (.d (.int .i64 1)))), none⟩, ⟨some 9, .asg (.t 56), none⟩]) (.seq (.reg [⟨some 10, .asg (.k (.d (.int .i64 0))), 
  none⟩]) (.seq (.block 1 (.loop (.seq (.seq (.reg [⟨some 57, .val (.cp (.t 8)), none⟩, ⟨some 58, .val (.cp (.t 9)), none⟩, ⟨some 59, .val (.bin .lss (.t 57) (.t 58)), none⟩]) 
  (.cond (.t 59) .skip (.exit 1))) (.block 2 (.seq (.seq (.reg [⟨some 60, .val (.cp (.t 0)), none⟩, ⟨some 61, .val (.cp (.t 8)), none⟩, ⟨some 62, .val (.idxS (.t 60) (.t 61)), 
  none⟩, ⟨some 63, .val (.cp (.t 6)), none⟩, ⟨some 64, .val (.bin .neq (.t 62) (.t 63)), none⟩]) (.cond (.t 64) (.seq (.reg [⟨some 65, .val (.cp (.t 0)), none⟩, ⟨some 66, .val (.cp 
  (.t 8)), none⟩, ⟨some 67, .val (.bin .add (.t 66) (.k (.d (.int .i64 1)))), none⟩, ⟨some 68, .val (.cp (.t 9)), none⟩, ⟨some 69, .val (.subS (.t 65) (some (.t 67)) (some (.t 
  68))), none⟩, ⟨some 70, .val (.cp (.t 6)), none⟩, ⟨some 71, .call 154 [.t 69, .t 70], none⟩, ⟨some 11, .asg (.t 71), none⟩]) (.seq (.seq (.reg [⟨some 72, .val (.cp (.t 11)), 
  none⟩, ⟨some 73, .val (.bin .lss (.t 72) (.k (.d (.int .i64 0)))), none⟩]) (.cond (.t 73) (.seq (.reg [⟨some 4, .asg (.k (.d (.int .i64 (-1)))), none⟩]) .ret) .skip)) (.reg 
  [⟨some 74, .val (.cp (.t 8)), none⟩, ⟨some 75, .val (.cp (.t 11)), none⟩, ⟨some 76, .val (.bin .add (.t 75) (.k (.d (.int .i64 1)))), none⟩, ⟨some 77, .val (.bin .add (.t 74) (.t 
  76)), none⟩, ⟨some 8, .asg (.t 77), none⟩]))) .skip)) (.seq (.seq (.reg [⟨some 78, .val (.cp (.t 0)), none⟩, ⟨some 79, .val (.cp (.t 8)), none⟩, ⟨some 80, .val (.bin .add (.t 79) 
  (.k (.d (.int .i64 1)))), none⟩, ⟨some 81, .val (.idxS (.t 78) (.t 80)), none⟩, ⟨some 82, .val (.cp (.t 7)), none⟩, ⟨some 83, .val (.bin .eql (.t 81) (.t 82)), none⟩, ⟨some 84, 
  .val (.cp (.t 83)), none⟩, ⟨some 85, .val (.cp (.t 0)), some (84, true)⟩, ⟨some 86, .val (.cp (.t 8)), some (84, true)⟩, ⟨some 87, .val (.cp (.t 8)), some (84, true)⟩, ⟨some 88, 
  .val (.cp (.t 5)), some (84, true)⟩, ⟨some 89, .val (.bin .add (.t 87) (.t 88)), some (84, true)⟩, ⟨some 90, .val (.subS (.t 85) (some (.t 86)) (some (.t 89))), some (84, true)⟩, 
  ⟨some 91, .val (.cp (.t 1)), some (84, true)⟩, ⟨some 92, .val (.bin .eql (.t 90) (.t 91)), some (84, true)⟩, ⟨some 93, .val (.pick (.t 84) (.t 92) (.k (.d (.bool false)))), 
  none⟩]) (.cond (.t 93) (.seq (.reg [⟨some 94, .val (.cp (.t 8)), none⟩, ⟨some 4, .asg (.t 94), none⟩]) .ret) .skip)) (.seq (.reg [⟨some 95, .val (.cp (.t 8)), none⟩, ⟨some 96, 
  .val (.bin .add (.t 95) (.k (.d (.int .i64 1)))), none⟩, ⟨some 8, .asg (.t 96), none⟩]) (.seq (.reg [⟨some 97, .val (.cp (.t 10)), none⟩, ⟨some 98, .val (.bin .add (.t 97) (.k 
  (.d (.int .i64 1)))), none⟩, ⟨some 10, .asg (.t 98), none⟩]) (.seq .bad (.cond (.t 107) (.seq (.reg [⟨some 108, .val (.cp (.t 0)), none⟩, ⟨some 109, .val (.cp (.t 8)), none⟩, 
  ⟨some 110, .val (.subS (.t 108) (some (.t 109)) none), none⟩, ⟨some 111, .val (.cp (.t 1)), none⟩, ⟨some 112, .prim .call [.k (.fn (.func 168) [] []), .t 110, .t 111] [], none⟩, 
  ⟨some 12, .asg (.t 112), none⟩]) (.seq (.seq (.reg [⟨some 113, .val (.cp (.t 12)), none⟩, ⟨some 114, .val (.bin .geq (.t 113) (.k (.d (.int .i64 0)))), none⟩]) (.cond (.t 114) 
  (.seq (.reg [⟨some 115, .val (.cp (.t 12)), none⟩, ⟨some 116, .val (.cp (.t 8)), none⟩, ⟨some 117, .val (.bin .add (.t 115) (.t 116)), none⟩, ⟨some 4, .asg (.t 117), none⟩]) 
  .ret) .skip)) (.seq (.reg [⟨some 4, .asg (.k (.d (.int .i64 (-1)))), none⟩]) .ret))) (.seq .bad (.cond (.t 132) (.seq (.reg [⟨some 133, .val (.cp (.t 0)), none⟩, ⟨some 134, .val 
  (.cp (.t 8)), none⟩, ⟨some 135, .val (.subS (.t 133) (some (.t 134)) none), none⟩, ⟨some 136, .val (.cp (.t 1)), none⟩, ⟨some 137, .call 192 [.t 135, .t 136], none⟩, ⟨some 13, 
  .asg (.t 137), none⟩]) (.seq (.seq (.reg [⟨some 138, .val (.cp (.t 13)), none⟩, ⟨some 139, .val (.bin .lss (.t 138) (.k (.d (.int .i64 0)))), none⟩]) (.cond (.t 139) (.seq (.reg 
  [⟨some 4, .asg (.k (.d (.int .i64 (-1)))), none⟩]) .ret) .skip)) (.seq (.reg [⟨some 140, .val (.cp (.t 8)), none⟩, ⟨some 141, .val (.cp (.t 13)), none⟩, ⟨some 142, .val (.bin 
  .add (.t 140) (.t 141)), none⟩, ⟨some 4, .asg (.t 142), none⟩]) .ret))) .skip)))))))))))) (.seq (.reg [⟨some 4, .asg (.k (.d (.int .i64 (-1)))), none⟩]) .ret)))))))))
def R_internal_stringslite_Index : List LRes := [.tmp 4]
theorem lift_internal_stringslite_Index : Lifts Tryd.prog 191 143 L_internal_stringslite_Index R_internal_stringslite_Index := ⟨_, _, Tryd.func191, rfl, by kernel_rfl, by kernel_rfl, rfl⟩

theorem liteIndex1_call (s : List UInt8) (c : UInt8) : PCall Tryd.prog 191 [.str s, .str [c]] (fun r => r = .one (.int .i64 (Lib.indexByte s c))) := by
  refine lift_internal_stringslite_Index.call rfl ?_
  simp (maxSteps := 2000000) only [go_sem, Nat.reduceEqDiff, Nat.reduceBEq, Nat.reduceLT, Nat.reduceLeDiff, Nat.reduceAdd, Nat.reduceSub, Nat.reduceMul, ↓reduceIte, reduceCtorEq, Nat.reduceBNe, Nat.reduceSubDiff, Int.reduceLT, Int.reduceLE, Int.reduceEq, Int.reduceNeg, Int.reduceAdd, Int.reduceMul, Int.reduceSub, Int.reduceToNat, L_internal_stringslite_Index, R_internal_stringslite_Index]
  refine ⟨fun h => ?_, fun h => ?_⟩
  · subst h
    simp [Lib.indexByte]
  · have : getI [c] 0 = some c := rfl
    simp (maxSteps := 2000000) only [go_sem, Nat.reduceEqDiff, Nat.reduceBEq, Nat.reduceLT, Nat.reduceLeDiff, Nat.reduceAdd, Nat.reduceSub, Nat.reduceMul, ↓reduceIte, reduceCtorEq, Nat.reduceBNe, Nat.reduceSubDiff, Int.reduceLT, Int.reduceLE, Int.reduceEq, Int.reduceNeg, Int.reduceAdd, Int.reduceMul, Int.reduceSub, Int.reduceToNat, this]
    refine CallG.of (liteIndexByte_call s c) ?_
    simp (maxSteps := 2000000) only [go_sem, Nat.reduceEqDiff, Nat.reduceBEq, Nat.reduceLT, Nat.reduceLeDiff, Nat.reduceAdd, Nat.reduceSub, Nat.reduceMul, ↓reduceIte, reduceCtorEq, Nat.reduceBNe, Nat.reduceSubDiff, Int.reduceLT, Int.reduceLE, Int.reduceEq, Int.reduceNeg, Int.reduceAdd, Int.reduceMul, Int.reduceSub, Int.reduceToNat]
/-- strings.Index -/
def L_strings_Index : LCode :=
  .seq (.reg [⟨some 4, .asg (.k (.d (.int .i64 0))), none⟩]) (.seq (.reg [⟨some 5, .val (.cp (.t 0)), none⟩, ⟨some 6, .val (.cp (.t 1)), none⟩, ⟨some 7, .call 191 [.t 5, .t 6], 
  none⟩, ⟨some 4, .asg (.t 7), none⟩]) .ret)
def R_strings_Index : List LRes := [.tmp 4]
theorem lift_strings_Index : Lifts Tryd.prog 186 8 L_strings_Index R_strings_Index := ⟨_, _, Tryd.func186, rfl, by kernel_rfl, by kernel_rfl, rfl⟩

/-- strings.Contains -/
def L_strings_Contains : LCode :=
  .seq (.reg [⟨some 4, .asg (.k (.d (.bool false))), none⟩]) (.seq (.reg [⟨some 5, .val (.cp (.t 0)), none⟩, ⟨some 6, .val (.cp (.t 1)), none⟩, ⟨some 7, .call 186 [.t 5, .t 6], 
  none⟩, ⟨some 8, .val (.bin .geq (.t 7) (.k (.d (.int .i64 0)))), none⟩, ⟨some 4, .asg (.t 8), none⟩]) .ret)
def R_strings_Contains : List LRes := [.tmp 4]
theorem lift_strings_Contains : Lifts Tryd.prog 175 9 L_strings_Contains R_strings_Contains := ⟨_, _, Tryd.func175, rfl, by kernel_rfl, by kernel_rfl, rfl⟩

theorem contains1_call (s : List UInt8) (c : UInt8) : PCall Tryd.prog 175 [.str s, .str [c]] (fun r => r = .one (.bool (decide (c ∈ s)))) := by
  have h : PCall Tryd.prog 186 [.str s, .str [c]] (fun r => r = .one (.int .i64 (Lib.indexByte s c))) := by
    refine lift_strings_Index.call rfl ?_
    simp (maxSteps := 2000000) only [go_sem, Nat.reduceEqDiff, Nat.reduceBEq, Nat.reduceLT, Nat.reduceLeDiff, Nat.reduceAdd, Nat.reduceSub, Nat.reduceMul, ↓reduceIte, reduceCtorEq, Nat.reduceBNe, Nat.reduceSubDiff, Int.reduceLT, Int.reduceLE, Int.reduceEq, Int.reduceNeg, Int.reduceAdd, Int.reduceMul, Int.reduceSub, Int.reduceToNat, L_strings_Index, R_strings_Index]
    refine CallG.of (liteIndex1_call s c) ?_
    simp (maxSteps := 2000000) only [go_sem, Nat.reduceEqDiff, Nat.reduceBEq, Nat.reduceLT, Nat.reduceLeDiff, Nat.reduceAdd, Nat.reduceSub, Nat.reduceMul, ↓reduceIte, reduceCtorEq, Nat.reduceBNe, Nat.reduceSubDiff, Int.reduceLT, Int.reduceLE, Int.reduceEq, Int.reduceNeg, Int.reduceAdd, Int.reduceMul, Int.reduceSub, Int.reduceToNat]
  refine lift_strings_Contains.call rfl ?_
  simp (maxSteps := 2000000) only [go_sem, Nat.reduceEqDiff, Nat.reduceBEq, Nat.reduceLT, Nat.reduceLeDiff, Nat.reduceAdd, Nat.reduceSub, Nat.reduceMul, ↓reduceIte, reduceCtorEq, Nat.reduceBNe, Nat.reduceSubDiff, Int.reduceLT, Int.reduceLE, Int.reduceEq, Int.reduceNeg, Int.reduceAdd, Int.reduceMul, Int.reduceSub, Int.reduceToNat, L_strings_Contains, R_strings_Contains]
  refine CallG.of h ?_
  simp (maxSteps := 2000000) only [go_sem, Nat.reduceEqDiff, Nat.reduceBEq, Nat.reduceLT, Nat.reduceLeDiff, Nat.reduceAdd, Nat.reduceSub, Nat.reduceMul, ↓reduceIte, reduceCtorEq, Nat.reduceBNe, Nat.reduceSubDiff, Int.reduceLT, Int.reduceLE, Int.reduceEq, Int.reduceNeg, Int.reduceAdd, Int.reduceMul, Int.reduceSub, Int.reduceToNat]
  congr 2
  simp only [indexByte_mem]

theorem encode_ascii {c : UInt8} (h : c.toNat < 128) : (Utf8.encode (c.toNat : Int)).data.toList = [c] := by
  have : ∀ n : Fin 128, (Utf8.encode ((n.val : Nat) : Int)).data.toList = [UInt8.ofNat n.val] := by decide +kernel
  have := this ⟨c.toNat, h⟩
  simp only at this
  rw [this]
  simp

/-- Stands a byte for itself in a name? -/
def plainB (c : UInt8) : Bool := decide (32 < c.toNat) && (decide (c.toNat ≤ 126) && !decide (c ∈ ([40, 41, 60, 62, 91, 93, 123, 125, 47, 37, 35] : List UInt8)))

/-- value.plain -/
def L_value_plain : LCode :=
  .seq (.reg [⟨some 2, .asg (.k (.d (.bool false))), none⟩]) (.seq (.reg [⟨some 3, .val (.cp (.t 0)), none⟩, ⟨some 4, .val (.bin .gtr (.t 3) (.k (.d (.int .u8 32)))), none⟩, ⟨some 5, 
  .val (.cp (.t 4)), none⟩, ⟨some 6, .val (.cp (.t 0)), some (5, true)⟩, ⟨some 7, .val (.bin .leq (.t 6) (.k (.d (.int .u8 126)))), some (5, true)⟩, ⟨some 8, .val (.pick (.t 5) (.t 
  7) (.k (.d (.bool false)))), none⟩, ⟨some 9, .val (.cp (.t 8)), none⟩, ⟨some 10, .val (.cp (.t 0)), some (9, true)⟩, ⟨some 11, .val (.cvI .i32 (.t 10)), some (9, true)⟩, ⟨some 
  12, .val (.i2s (.t 11)), some (9, true)⟩, ⟨some 13, .call 175 [.k (.d (.str [40, 41, 60, 62, 91, 93, 123, 125, 47, 37, 35])), .t 12], some (9, true)⟩, ⟨some 14, .val (.not (.t 
  13)), some (9, true)⟩, ⟨some 15, .val (.pick (.t 9) (.t 14) (.k (.d (.bool false)))), none⟩, ⟨some 2, .asg (.t 15), none⟩]) .ret)
def R_value_plain : List LRes := [.tmp 2]
theorem lift_value_plain : Lifts Tryd.prog 164 16 L_value_plain R_value_plain := ⟨_, _, Tryd.func164, rfl, by kernel_rfl, by kernel_rfl, rfl⟩

theorem plain_call (c : UInt8) : PCall Tryd.prog 164 [.int .u8 c.toNat] (fun r => r = .one (.bool (plainB c))) := by
  have hc8 := u8_lt c
  refine lift_value_plain.call rfl ?_
  simp (maxSteps := 2000000) only [go_sem, Nat.reduceEqDiff, Nat.reduceBEq, Nat.reduceLT, Nat.reduceLeDiff, Nat.reduceAdd, Nat.reduceSub, Nat.reduceMul, ↓reduceIte, reduceCtorEq, Nat.reduceBNe, Nat.reduceSubDiff, Int.reduceLT, Int.reduceLE, Int.reduceEq, Int.reduceNeg, Int.reduceAdd, Int.reduceMul, Int.reduceSub, Int.reduceToNat, L_value_plain, R_value_plain]
  refine ⟨fun h1 => ⟨fun h2 => ?_, fun h2 => ?_⟩, fun h1 => ?_⟩
  · rw [IntWalk.i32_in _ (by omega), encode_ascii (by omega)]
    refine CallG.of (contains1_call _ c) ?_
    simp (maxSteps := 2000000) only [go_sem, Nat.reduceEqDiff, Nat.reduceBEq, Nat.reduceLT, Nat.reduceLeDiff, Nat.reduceAdd, Nat.reduceSub, Nat.reduceMul, ↓reduceIte, reduceCtorEq, Nat.reduceBNe, Nat.reduceSubDiff, Int.reduceLT, Int.reduceLE, Int.reduceEq, Int.reduceNeg, Int.reduceAdd, Int.reduceMul, Int.reduceSub, Int.reduceToNat]
    have h3 : 32 < c.toNat := by omega
    have h4 : c.toNat ≤ 126 := by omega
    simp [plainB, h3, h4]
  · have h4 : ¬ c.toNat ≤ 126 := by omega
    simp [plainB, h4]
  · have h4 : ¬ 32 < c.toNat := by omega
    simp [plainB, h4]

def hexTab : List UInt8 := [48, 49, 50, 51, 52, 53, 54, 55, 56, 57, 65, 66, 67, 68, 69, 70]
theorem tab_get {n : Nat} (h : n < 16) : getI hexTab (n : Int) = some (hexTab.getD n 0) := by
  rw [getI_nat]
  have : n < hexTab.length := h
  simp [this]
def nameB (c : UInt8) : List UInt8 := if plainB c then [c] else [35, hexTab.getD (c.toNat / 16) 0, hexTab.getD (c.toNat % 16) 0]
def nameP (s : List UInt8) : List UInt8 := s.flatMap nameB
theorem nameB_length (c : UInt8) : (nameB c).length ≤ 3 := by unfold nameB; split <;> simp
theorem nameP_length (s : List UInt8) : (nameP s).length ≤ 3 * s.length := by
  induction s with
  | nil => simp [nameP]
  | cons c s ih =>
    have : nameP (c :: s) = nameB c ++ nameP s := rfl
    rw [this, List.length_append]
    have := nameB_length c
    simp only [List.length_cons]
    omega
theorem nameP_next {s : List UInt8} {i : Nat} {c : UInt8} (h : s[i]? = some c) : nameP (s.take (i + 1)) = nameP (s.take i) ++ nameB c := by
  simp [nameP, take_next h]
theorem bytesOf2 (a b : UInt8) : bytesOf [.int .u8 a.toNat, .int .u8 b.toNat] = some [a, b] := bytesOf_bytesD [a, b]
theorem bytesOf3 (a b c : UInt8) : bytesOf [.int .u8 a.toNat, .int .u8 b.toNat, .int .u8 c.toNat] = some [a, b, c] := bytesOf_bytesD [a, b, c]

/-- value.name -/
def L_value_name : LCode :=
  .seq (.reg [⟨some 5, .val (.cp (.t 0)), none⟩, ⟨some 6, .prim .call [.k (.fn (.func 138) [] []), .t 5, .k (.d (.int .u8 47))] [], none⟩]) (.seq (.reg [⟨some 7, .val (.cp (.t 1)), 
  none⟩, ⟨some 8, .val (.len true (.t 7)), none⟩, ⟨some 9, .val (.cp (.k (.d (.int .i64 0)))), none⟩]) (.block 0 (.loop (.seq (.reg [⟨some 10, .val (.bin .lss (.t 9) (.t 8)), 
  none⟩]) (.seq (.cond (.t 10) .skip (.exit 0)) (.seq (.block 1 (.seq (.reg [⟨some 11, .val (.cp (.t 9)), none⟩, ⟨some 4, .asg (.t 11), none⟩]) (.seq (.reg [⟨some 12, .val (.cp (.t 
  1)), none⟩, ⟨some 13, .val (.cp (.t 4)), none⟩, ⟨some 14, .val (.idxS (.t 12) (.t 13)), none⟩, ⟨some 15, .call 164 [.t 14], none⟩]) (.cond (.t 15) (.reg [⟨some 16, .val (.cp (.t 
  0)), none⟩, ⟨some 17, .val (.cp (.t 1)), none⟩, ⟨some 18, .val (.cp (.t 4)), none⟩, ⟨some 19, .val (.idxS (.t 17) (.t 18)), none⟩, ⟨some 20, .prim .call [.k (.fn (.func 138) [] 
  []), .t 16, .t 19] [], none⟩]) (.dreg [⟨some 21, .val (.cp (.t 0)), none⟩, ⟨some 22, .val (.cp (.t 1)), none⟩, ⟨some 23, .val (.cp (.t 4)), none⟩, ⟨some 24, .val (.idxS (.t 22) 
  (.t 23)), none⟩, ⟨some 25, .val (.bin .shr (.t 24) (.k (.d (.int .u64 4)))), none⟩, ⟨some 26, .val (.idxS (.k (.d (.str [48, 49, 50, 51, 52, 53, 54, 55, 56, 57, 65, 66, 67, 68, 
  69, 70]))) (.t 25)), none⟩, ⟨some 27, .val (.cp (.t 1)), none⟩, ⟨some 28, .val (.cp (.t 4)), none⟩, ⟨some 29, .val (.idxS (.t 27) (.t 28)), none⟩, ⟨some 30, .val (.bin .and (.t 
  29) (.k (.d (.int .u8 15)))), none⟩, ⟨some 31, .val (.idxS (.k (.d (.str [48, 49, 50, 51, 52, 53, 54, 55, 56, 57, 65, 66, 67, 68, 69, 70]))) (.t 30)), none⟩, ⟨some 32, .bsl 5 1 
  [.t 26, .t 31], none⟩, ⟨some 33, .val (.b2s (.t 32)), none⟩, ⟨some 34, .val (.bin .add (.k (.d (.str [35]))) (.t 33)), none⟩, ⟨some 35, .prim .call [.k (.fn (.func 97) [] []), .t 
  21, .t 34] [], none⟩]))))) (.reg [⟨some 36, .val (.bin .add (.t 9) (.k (.d (.int .i64 1)))), none⟩, ⟨some 9, .val (.cp (.t 36)), none⟩])))))))
def R_value_name : List LRes := []
theorem lift_value_name : Lifts Tryd.prog 143 37 L_value_name R_value_name := ⟨_, _, Tryd.func143, rfl, by kernel_rfl, by kernel_rfl, rfl⟩

theorem name_at (b : Bld) (s : List UInt8) (hl : b.bytes.length + 3 * s.length + 1 ≤ 1000000000) : MCallE Tryd.prog 143 [.ptr (.x 0) 0, .d (.str s)] [b.at (.x 0)] (.tuple []) [Bld.at (.x 0) (.has (b.bytes ++ [47] ++ nameP s))] := by
  refine lift_value_name.mcall (by kernel_rfl) rfl ?_
  simp (maxSteps := 2000000) only [go_sem, Nat.reduceEqDiff, Nat.reduceBEq, Nat.reduceLT, Nat.reduceLeDiff, Nat.reduceAdd, Nat.reduceSub, Nat.reduceMul, ↓reduceIte, reduceCtorEq, Nat.reduceBNe, Nat.reduceSubDiff, Int.reduceLT, Int.reduceLE, Int.reduceEq, Int.reduceNeg, Int.reduceAdd, Int.reduceMul, Int.reduceSub, Int.reduceToNat, L_value_name, R_value_name]
  refine bldCall (.x 0) rfl (writeByte_at b 47 (by omega)) rfl rfl rfl rfl ?_
  simp (maxSteps := 2000000) only [go_sem, Nat.reduceEqDiff, Nat.reduceBEq, Nat.reduceLT, Nat.reduceLeDiff, Nat.reduceAdd, Nat.reduceSub, Nat.reduceMul, ↓reduceIte, reduceCtorEq, Nat.reduceBNe, Nat.reduceSubDiff, Int.reduceLT, Int.reduceLE, Int.reduceEq, Int.reduceNeg, Int.reduceAdd, Int.reduceMul, Int.reduceSub, Int.reduceToNat]
  refine run_loop (fun i : Nat => ⟨[(0, .ptr (.x 0) 0), (1, .d (.str s)), (7, .d (.str s)), (8, .d (.int .i64 s.length)), (9, .d (.int .i64 i))], [],
      [(0, Bld.at (.x 0) (.has (b.bytes ++ [47] ++ nameP (s.take i))))]⟩)
    (fun i => i ≤ s.length) (fun i => s.length - i) 0 ?_ ?_ ?_
  · refine Weak.mk ?_ ?_ ?_ <;> simp (maxSteps := 2000000) only [go_sem, Nat.reduceEqDiff, Nat.reduceBEq, Nat.reduceLT, Nat.reduceLeDiff, Nat.reduceAdd, Nat.reduceSub, Nat.reduceMul, ↓reduceIte, reduceCtorEq, Nat.reduceBNe, Nat.reduceSubDiff, Int.reduceLT, Int.reduceLE, Int.reduceEq, Int.reduceNeg, Int.reduceAdd, Int.reduceMul, Int.reduceSub, Int.reduceToNat, Sub, Int.natCast_add, Int.natCast_mul, List.take_zero, nameP, List.flatMap_nil]
  · omega
  · intro i hi
    have hle := nameP_length (s.take i)
    rw [List.length_take] at hle
    have ht : ([48, 49, 50, 51, 52, 53, 54, 55, 56, 57, 65, 66, 67, 68, 69, 70] : List UInt8) = hexTab := rfl
    simp (maxSteps := 2000000) only [run_skip, run_reg, run_dreg, run_seq, run_cond, run_block, run_exit, run_ret, pop_code, pop_goal, pop_blk, pop_nil, pop_ret_code, pop_ret_goal, pop_ret_blk, pop_exit_code, pop_exit_goal, pop_exit_blk, run_dead, pop_dead, pop_ret_dead, pop_exit_dead, St.dead, adelL, adel, ops_nil, ops_val, ops_asg, ops_nils, ops_box, ops_allo, ops_app, ops_bsl, ops_st, ops_sla, ops_call, ops_guard, dps_nil, dps_val, dps_asg, dps_nils, dps_box, dps_allo, dps_app, appD, dps_bsl, dps_st, dps_sla, dps_call, dps_guard, pev, St.ev, St.get, St.put, acons, St.mark, St.obj, St.setObj, aget, aset, amap, initρ, asgS, nilS, newO, newB, boxS, dnsL, appS, bslS, bspS, slaS, List.all_cons, List.all_nil, List.any_cons, List.any_nil, Bool.or_false, Bool.false_or, Bool.true_or, Bool.or_true, Bool.or_self, stS, stD, setA, St.erase, St.drop, AV.erase, AV.rename, AV.drop, AV.has, AV.isPtr, dropObj, srcL, evL, evP, evO, rdAll, rdL, allSz, fLd, fLdX, fLdA, AV.nsr, AV.rd1, rd1L, fIaR, fIaD, AV.solid, solidN, List.all, dps_primC, chkK_cons, chkK_nil, exists_eq_left', AV.locFree, fLdP, fFa, fIa, fIaA, fFld, fillD, lookP, setR, fExt, AV.simple, fMkI, fAsT, fNck, fEqB, fEqS, eqCs, eqC, fEqN, okN, fNil, isNil, fNot, fNeg, fCvI, fI2s, fIdxS, fSubS, fSub, loOf, hiOf, fLen, fLenK, fMm, fPick, fB, fB2s, fMkF, allSimple, hasLocal, isLocal, binD, binI, binS, AV.rd, D.cells, D.one, Res.av, putO, PutG_some, PutG_if, PutG_if', PutG_mif, StG_some, StG_if, BoolG_d, GuardG_d, GuardR_d, GuardR_u, IteG, Classical.not_not, retK_ret, retK_normal, RetG_some, resS, resL, resV, mkRes, Nat.reduceEqDiff, Nat.reduceBEq, Nat.reduceLT, Nat.reduceLeDiff, Nat.reduceAdd, Nat.reduceSub, Nat.reduceMul, Nat.zero_add, ↓reduceIte, Option.getD_some, Option.getD_none, Option.map_some, Option.map_none, Option.some.injEq, reduceCtorEq, Bool.not_true, Bool.not_false, Bool.not_eq_true', Bool.not_eq_false', decide_eq_true_eq, decide_eq_false_iff_not, decide_true, decide_false, true_implies, false_implies, true_and, and_true, and_self, implies_true, List.length_cons, List.length_nil, List.set_cons_zero, List.set_cons_succ, List.getElem?_cons_zero, List.getElem?_cons_succ, List.take_succ_cons, List.take_zero, List.drop_succ_cons, List.drop_zero, List.take_nil, List.drop_nil, List.map_cons, List.map_nil, List.cons_append, List.nil_append, List.append_nil, beq_self_eq_true, Bool.and_true, Bool.true_and, Bool.false_and, Bool.and_false, Lab.t.injEq, Lab.c.injEq, Ref.l.injEq, Ref.x.injEq, Bool.false_eq_true, Bool.true_eq_false, eq_self_iff_true, if_true, if_false, Bool.not_eq_true, Bool.not_eq_false, and_false, false_and, or_true, true_or, or_false, false_or, ne_eq, not_true_eq_false, not_false_eq_true, beq_iff_eq, Nat.reduceBNe, Nat.le_refl, Nat.reduceSubDiff, Int.reduceLT, gt_iff_lt, Int.reduceLE, Int.reduceEq, Int.reduceNeg, Int.reduceAdd, Int.reduceMul, Int.reduceSub, Int.reduceToNat, Int.toNat_zero, Int.toNat_one, Int.natCast_zero, Int.cast_ofNat_Int, Int.natCast_one, IntWalk.i64_in, IntWalk.u8_in, ops_prim, dps_prim, retM_normal, retM_ret, RetM_some, resR, resOwn, resAL, resA, okRes, mkA, objsOf, passA, amod, AV.den, AV.pub, passI, passQ, labsQ, eraseL, nsD, retO, backS, setObjs, AObj.ren, AV.ren, AV.ren1, renL, ren1L, renR, renQ, AV.unown, memR, List.getD_cons_zero, List.getD_cons_succ, initA, numO, AV.wf, AV.wf1, wfL, wf1L, wfR, Bool.and_self, decide_true]
    refine ⟨fun hlt => ?_, fun hge => ?_⟩
    · obtain ⟨c, hc⟩ := get_some (l := s) (i := i) (by omega)
      have hc8 := u8_lt c
      have e1 : Int.fdiv (c.toNat : Int) (2 ^ min 4 IntKind.u8.bits) = ((c.toNat / 16 : Nat) : Int) := shr_u8 c.toNat 4
      have e2 : IntKind.u8.wrap (((BitVec.ofInt IntKind.u8.bits (c.toNat : Int) &&& BitVec.ofInt IntKind.u8.bits 15).toNat : Nat) : Int) = ((c.toNat % 16 : Nat) : Int) := by
        rw [← and15]; exact and_u8 (m := 15) hc8 (by decide)
      have t1 : getI hexTab ((c.toNat / 16 : Nat) : Int) = some (hexTab.getD (c.toNat / 16) 0) := tab_get (by omega)
      have t2 : getI hexTab ((c.toNat % 16 : Nat) : Int) = some (hexTab.getD (c.toNat % 16) 0) := tab_get (by omega)
      simp (maxSteps := 2000000) (disch := omega) only [run_skip, run_reg, run_dreg, run_seq, run_cond, run_block, run_exit, run_ret, pop_code, pop_goal, pop_blk, pop_nil, pop_ret_code, pop_ret_goal, pop_ret_blk, pop_exit_code, pop_exit_goal, pop_exit_blk, run_dead, pop_dead, pop_ret_dead, pop_exit_dead, St.dead, adelL, adel, ops_nil, ops_val, ops_asg, ops_nils, ops_box, ops_allo, ops_app, ops_bsl, ops_st, ops_sla, ops_call, ops_guard, dps_nil, dps_val, dps_asg, dps_nils, dps_box, dps_allo, dps_app, appD, dps_bsl, dps_st, dps_sla, dps_call, dps_guard, pev, St.ev, St.get, St.put, acons, St.mark, St.obj, St.setObj, aget, aset, amap, initρ, asgS, nilS, newO, newB, boxS, dnsL, appS, bslS, bspS, slaS, List.all_cons, List.all_nil, List.any_cons, List.any_nil, Bool.or_false, Bool.false_or, Bool.true_or, Bool.or_true, Bool.or_self, stS, stD, setA, St.erase, St.drop, AV.erase, AV.rename, AV.drop, AV.has, AV.isPtr, dropObj, srcL, evL, evP, evO, rdAll, rdL, allSz, fLd, fLdX, fLdA, AV.nsr, AV.rd1, rd1L, fIaR, fIaD, AV.solid, solidN, List.all, dps_primC, chkK_cons, chkK_nil, exists_eq_left', AV.locFree, fLdP, fFa, fIa, fIaA, fFld, fillD, lookP, setR, fExt, AV.simple, fMkI, fAsT, fNck, fEqB, fEqS, eqCs, eqC, fEqN, okN, fNil, isNil, fNot, fNeg, fCvI, fI2s, fIdxS, fSubS, fSub, loOf, hiOf, fLen, fLenK, fMm, fPick, fB, fB2s, fMkF, allSimple, hasLocal, isLocal, binD, binI, binS, AV.rd, D.cells, D.one, Res.av, putO, PutG_some, PutG_if, PutG_if', PutG_mif, StG_some, StG_if, BoolG_d, GuardG_d, GuardR_d, GuardR_u, IteG, Classical.not_not, retK_ret, retK_normal, RetG_some, resS, resL, resV, mkRes, Nat.reduceEqDiff, Nat.reduceBEq, Nat.reduceLT, Nat.reduceLeDiff, Nat.reduceAdd, Nat.reduceSub, Nat.reduceMul, Nat.zero_add, ↓reduceIte, Option.getD_some, Option.getD_none, Option.map_some, Option.map_none, Option.some.injEq, reduceCtorEq, Bool.not_true, Bool.not_false, Bool.not_eq_true', Bool.not_eq_false', decide_eq_true_eq, decide_eq_false_iff_not, decide_true, decide_false, true_implies, false_implies, true_and, and_true, and_self, implies_true, List.length_cons, List.length_nil, List.set_cons_zero, List.set_cons_succ, List.getElem?_cons_zero, List.getElem?_cons_succ, List.take_succ_cons, List.take_zero, List.drop_succ_cons, List.drop_zero, List.take_nil, List.drop_nil, List.map_cons, List.map_nil, List.cons_append, List.nil_append, List.append_nil, beq_self_eq_true, Bool.and_true, Bool.true_and, Bool.false_and, Bool.and_false, Lab.t.injEq, Lab.c.injEq, Ref.l.injEq, Ref.x.injEq, Bool.false_eq_true, Bool.true_eq_false, eq_self_iff_true, if_true, if_false, Bool.not_eq_true, Bool.not_eq_false, and_false, false_and, or_true, true_or, or_false, false_or, ne_eq, not_true_eq_false, not_false_eq_true, beq_iff_eq, Nat.reduceBNe, Nat.le_refl, Nat.reduceSubDiff, Int.reduceLT, gt_iff_lt, Int.reduceLE, Int.reduceEq, Int.reduceNeg, Int.reduceAdd, Int.reduceMul, Int.reduceSub, Int.reduceToNat, Int.toNat_zero, Int.toNat_one, Int.natCast_zero, Int.cast_ofNat_Int, Int.natCast_one, IntWalk.i64_in, IntWalk.u8_in, ops_prim, dps_prim, retM_normal, retM_ret, RetM_some, resR, resOwn, resAL, resA, okRes, mkA, objsOf, passA, amod, AV.den, AV.pub, passI, passQ, labsQ, eraseL, nsD, retO, backS, setObjs, AObj.ren, AV.ren, AV.ren1, renL, ren1L, renR, renQ, AV.unown, memR, List.getD_cons_zero, List.getD_cons_succ, initA, numO, AV.wf, AV.wf1, wfL, wf1L, wfR, Bool.and_self, decide_true, getI_nat s, hc]
      refine CallG.of (plain_call c) ?_
      simp (maxSteps := 2000000) (disch := omega) only [run_skip, run_reg, run_dreg, run_seq, run_cond, run_block, run_exit, run_ret, pop_code, pop_goal, pop_blk, pop_nil, pop_ret_code, pop_ret_goal, pop_ret_blk, pop_exit_code, pop_exit_goal, pop_exit_blk, run_dead, pop_dead, pop_ret_dead, pop_exit_dead, St.dead, adelL, adel, ops_nil, ops_val, ops_asg, ops_nils, ops_box, ops_allo, ops_app, ops_bsl, ops_st, ops_sla, ops_call, ops_guard, dps_nil, dps_val, dps_asg, dps_nils, dps_box, dps_allo, dps_app, appD, dps_bsl, dps_st, dps_sla, dps_call, dps_guard, pev, St.ev, St.get, St.put, acons, St.mark, St.obj, St.setObj, aget, aset, amap, initρ, asgS, nilS, newO, newB, boxS, dnsL, appS, bslS, bspS, slaS, List.all_cons, List.all_nil, List.any_cons, List.any_nil, Bool.or_false, Bool.false_or, Bool.true_or, Bool.or_true, Bool.or_self, stS, stD, setA, St.erase, St.drop, AV.erase, AV.rename, AV.drop, AV.has, AV.isPtr, dropObj, srcL, evL, evP, evO, rdAll, rdL, allSz, fLd, fLdX, fLdA, AV.nsr, AV.rd1, rd1L, fIaR, fIaD, AV.solid, solidN, List.all, dps_primC, chkK_cons, chkK_nil, exists_eq_left', AV.locFree, fLdP, fFa, fIa, fIaA, fFld, fillD, lookP, setR, fExt, AV.simple, fMkI, fAsT, fNck, fEqB, fEqS, eqCs, eqC, fEqN, okN, fNil, isNil, fNot, fNeg, fCvI, fI2s, fIdxS, fSubS, fSub, loOf, hiOf, fLen, fLenK, fMm, fPick, fB, fB2s, fMkF, allSimple, hasLocal, isLocal, binD, binI, binS, AV.rd, D.cells, D.one, Res.av, putO, PutG_some, PutG_if, PutG_if', PutG_mif, StG_some, StG_if, BoolG_d, GuardG_d, GuardR_d, GuardR_u, IteG, Classical.not_not, retK_ret, retK_normal, RetG_some, resS, resL, resV, mkRes, Nat.reduceEqDiff, Nat.reduceBEq, Nat.reduceLT, Nat.reduceLeDiff, Nat.reduceAdd, Nat.reduceSub, Nat.reduceMul, Nat.zero_add, ↓reduceIte, Option.getD_some, Option.getD_none, Option.map_some, Option.map_none, Option.some.injEq, reduceCtorEq, Bool.not_true, Bool.not_false, Bool.not_eq_true', Bool.not_eq_false', decide_eq_true_eq, decide_eq_false_iff_not, decide_true, decide_false, true_implies, false_implies, true_and, and_true, and_self, implies_true, List.length_cons, List.length_nil, List.set_cons_zero, List.set_cons_succ, List.getElem?_cons_zero, List.getElem?_cons_succ, List.take_succ_cons, List.take_zero, List.drop_succ_cons, List.drop_zero, List.take_nil, List.drop_nil, List.map_cons, List.map_nil, List.cons_append, List.nil_append, List.append_nil, beq_self_eq_true, Bool.and_true, Bool.true_and, Bool.false_and, Bool.and_false, Lab.t.injEq, Lab.c.injEq, Ref.l.injEq, Ref.x.injEq, Bool.false_eq_true, Bool.true_eq_false, eq_self_iff_true, if_true, if_false, Bool.not_eq_true, Bool.not_eq_false, and_false, false_and, or_true, true_or, or_false, false_or, ne_eq, not_true_eq_false, not_false_eq_true, beq_iff_eq, Nat.reduceBNe, Nat.le_refl, Nat.reduceSubDiff, Int.reduceLT, gt_iff_lt, Int.reduceLE, Int.reduceEq, Int.reduceNeg, Int.reduceAdd, Int.reduceMul, Int.reduceSub, Int.reduceToNat, Int.toNat_zero, Int.toNat_one, Int.natCast_zero, Int.cast_ofNat_Int, Int.natCast_one, IntWalk.i64_in, IntWalk.u8_in, ops_prim, dps_prim, retM_normal, retM_ret, RetM_some, resR, resOwn, resAL, resA, okRes, mkA, objsOf, passA, amod, AV.den, AV.pub, passI, passQ, labsQ, eraseL, nsD, retO, backS, setObjs, AObj.ren, AV.ren, AV.ren1, renL, ren1L, renR, renQ, AV.unown, memR, List.getD_cons_zero, List.getD_cons_succ, initA, numO, AV.wf, AV.wf1, wfL, wf1L, wfR, Bool.and_self, decide_true, getI_nat s, hc]
      refine ⟨fun p1 => ?_, fun p1 => ?_⟩
      · refine bldCall (.x 0) rfl (writeByte_at (.has (b.bytes ++ [47] ++ nameP (s.take i))) c (by simp only [Bld.bytes_has, List.length_append, List.length_cons, List.length_nil]; omega)) rfl rfl rfl rfl ?_
        simp (maxSteps := 2000000) (disch := omega) only [go_sem, Nat.reduceEqDiff, Nat.reduceBEq, Nat.reduceLT, Nat.reduceLeDiff, Nat.reduceAdd, Nat.reduceSub, Nat.reduceMul, ↓reduceIte, reduceCtorEq, Nat.reduceBNe, Nat.reduceSubDiff, Int.reduceLT, Int.reduceLE, Int.reduceEq, Int.reduceNeg, Int.reduceAdd, Int.reduceMul, Int.reduceSub, Int.reduceToNat]
        refine ⟨i + 1, ?_, by omega, by omega⟩
        have : nameB c = [c] := by simp [nameB, p1]
        refine Weak.mk ?_ ?_ ?_ <;> simp (maxSteps := 2000000) only [go_sem, Nat.reduceEqDiff, Nat.reduceBEq, Nat.reduceLT, Nat.reduceLeDiff, Nat.reduceAdd, Nat.reduceSub, Nat.reduceMul, ↓reduceIte, reduceCtorEq, Nat.reduceBNe, Nat.reduceSubDiff, Int.reduceLT, Int.reduceLE, Int.reduceEq, Int.reduceNeg, Int.reduceAdd, Int.reduceMul, Int.reduceSub, Int.reduceToNat, Sub, Int.natCast_add, Int.natCast_mul, nameP_next hc, Bld.bytes_has, this, List.append_assoc]
      · simp (maxSteps := 2000000) (disch := omega) only [run_skip, run_reg, run_dreg, run_seq, run_cond, run_block, run_exit, run_ret, pop_code, pop_goal, pop_blk, pop_nil, pop_ret_code, pop_ret_goal, pop_ret_blk, pop_exit_code, pop_exit_goal, pop_exit_blk, run_dead, pop_dead, pop_ret_dead, pop_exit_dead, St.dead, adelL, adel, ops_nil, ops_val, ops_asg, ops_nils, ops_box, ops_allo, ops_app, ops_bsl, ops_st, ops_sla, ops_call, ops_guard, dps_nil, dps_val, dps_asg, dps_nils, dps_box, dps_allo, dps_app, appD, dps_bsl, dps_st, dps_sla, dps_call, dps_guard, pev, St.ev, St.get, St.put, acons, St.mark, St.obj, St.setObj, aget, aset, amap, initρ, asgS, nilS, newO, newB, boxS, dnsL, appS, bslS, bspS, slaS, List.all_cons, List.all_nil, List.any_cons, List.any_nil, Bool.or_false, Bool.false_or, Bool.true_or, Bool.or_true, Bool.or_self, stS, stD, setA, St.erase, St.drop, AV.erase, AV.rename, AV.drop, AV.has, AV.isPtr, dropObj, srcL, evL, evP, evO, rdAll, rdL, allSz, fLd, fLdX, fLdA, AV.nsr, AV.rd1, rd1L, fIaR, fIaD, AV.solid, solidN, List.all, dps_primC, chkK_cons, chkK_nil, exists_eq_left', AV.locFree, fLdP, fFa, fIa, fIaA, fFld, fillD, lookP, setR, fExt, AV.simple, fMkI, fAsT, fNck, fEqB, fEqS, eqCs, eqC, fEqN, okN, fNil, isNil, fNot, fNeg, fCvI, fI2s, fIdxS, fSubS, fSub, loOf, hiOf, fLen, fLenK, fMm, fPick, fB, fB2s, fMkF, allSimple, hasLocal, isLocal, binD, binI, binS, AV.rd, D.cells, D.one, Res.av, putO, PutG_some, PutG_if, PutG_if', PutG_mif, StG_some, StG_if, BoolG_d, GuardG_d, GuardR_d, GuardR_u, IteG, Classical.not_not, retK_ret, retK_normal, RetG_some, resS, resL, resV, mkRes, Nat.reduceEqDiff, Nat.reduceBEq, Nat.reduceLT, Nat.reduceLeDiff, Nat.reduceAdd, Nat.reduceSub, Nat.reduceMul, Nat.zero_add, ↓reduceIte, Option.getD_some, Option.getD_none, Option.map_some, Option.map_none, Option.some.injEq, reduceCtorEq, Bool.not_true, Bool.not_false, Bool.not_eq_true', Bool.not_eq_false', decide_eq_true_eq, decide_eq_false_iff_not, decide_true, decide_false, true_implies, false_implies, true_and, and_true, and_self, implies_true, List.length_cons, List.length_nil, List.set_cons_zero, List.set_cons_succ, List.getElem?_cons_zero, List.getElem?_cons_succ, List.take_succ_cons, List.take_zero, List.drop_succ_cons, List.drop_zero, List.take_nil, List.drop_nil, List.map_cons, List.map_nil, List.cons_append, List.nil_append, List.append_nil, beq_self_eq_true, Bool.and_true, Bool.true_and, Bool.false_and, Bool.and_false, Lab.t.injEq, Lab.c.injEq, Ref.l.injEq, Ref.x.injEq, Bool.false_eq_true, Bool.true_eq_false, eq_self_iff_true, if_true, if_false, Bool.not_eq_true, Bool.not_eq_false, and_false, false_and, or_true, true_or, or_false, false_or, ne_eq, not_true_eq_false, not_false_eq_true, beq_iff_eq, Nat.reduceBNe, Nat.le_refl, Nat.reduceSubDiff, Int.reduceLT, gt_iff_lt, Int.reduceLE, Int.reduceEq, Int.reduceNeg, Int.reduceAdd, Int.reduceMul, Int.reduceSub, Int.reduceToNat, Int.toNat_zero, Int.toNat_one, Int.natCast_zero, Int.cast_ofNat_Int, Int.natCast_one, IntWalk.i64_in, IntWalk.u8_in, ops_prim, dps_prim, retM_normal, retM_ret, RetM_some, resR, resOwn, resAL, resA, okRes, mkA, objsOf, passA, amod, AV.den, AV.pub, passI, passQ, labsQ, eraseL, nsD, retO, backS, setObjs, AObj.ren, AV.ren, AV.ren1, renL, ren1L, renR, renQ, AV.unown, memR, List.getD_cons_zero, List.getD_cons_succ, initA, numO, AV.wf, AV.wf1, wfL, wf1L, wfR, Bool.and_self, decide_true, ht, getI_nat s, hc, e1, e2, t1, t2, bytesOf2]
        refine bldCall (.x 0) rfl (writeString_at (.has (b.bytes ++ [47] ++ nameP (s.take i))) [35, hexTab.getD (c.toNat / 16) 0, hexTab.getD (c.toNat % 16) 0] (by simp only [Bld.bytes_has, List.length_append, List.length_cons, List.length_nil]; omega)) rfl rfl rfl rfl ?_
        simp (maxSteps := 2000000) (disch := omega) only [go_sem, Nat.reduceEqDiff, Nat.reduceBEq, Nat.reduceLT, Nat.reduceLeDiff, Nat.reduceAdd, Nat.reduceSub, Nat.reduceMul, ↓reduceIte, reduceCtorEq, Nat.reduceBNe, Nat.reduceSubDiff, Int.reduceLT, Int.reduceLE, Int.reduceEq, Int.reduceNeg, Int.reduceAdd, Int.reduceMul, Int.reduceSub, Int.reduceToNat]
        refine ⟨i + 1, ?_, by omega, by omega⟩
        have : nameB c = [35, hexTab.getD (c.toNat / 16) 0, hexTab.getD (c.toNat % 16) 0] := by simp [nameB, p1]
        refine Weak.mk ?_ ?_ ?_ <;> simp (maxSteps := 2000000) only [go_sem, Nat.reduceEqDiff, Nat.reduceBEq, Nat.reduceLT, Nat.reduceLeDiff, Nat.reduceAdd, Nat.reduceSub, Nat.reduceMul, ↓reduceIte, reduceCtorEq, Nat.reduceBNe, Nat.reduceSubDiff, Int.reduceLT, Int.reduceLE, Int.reduceEq, Int.reduceNeg, Int.reduceAdd, Int.reduceMul, Int.reduceSub, Int.reduceToNat, Sub, Int.natCast_add, Int.natCast_mul, nameP_next hc, Bld.bytes_has, this, List.append_assoc]
    · rw [List.take_of_length_le (by omega)]
end Go.Av.Tryd
