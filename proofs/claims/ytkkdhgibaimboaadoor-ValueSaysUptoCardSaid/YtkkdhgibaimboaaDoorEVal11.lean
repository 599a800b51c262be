import Derived.Test.YtkkdhgibaimboaaDoorEVal10
/- Values of a file: the texts of them, as they are written. -/
set_option linter.unusedSimpArgs false
namespace Go.Av.Tryd
open Go.Proofs

theorem textF_whole (k : Nat) : textF ((k : Int) * 1000) = Lib.decDigits k := by
  have h1 : ¬ ((k : Int) * 1000 < 0) := by omega
  have h2 : ((k : Int) * 1000).natAbs = k * 1000 := by omega
  unfold textF
  rw [if_neg h1, h2]
  have h3 : k * 1000 / 1000 = k := by omega
  have h4 : k * 1000 % 1000 = 0 := by omega
  rw [h3, h4]
  have h5 : fracT 0 = [] := by decide
  simp [h5]

/-- value.write -/
def L_value_write : LCode :=
  .seq (.reg [⟨some 3, .box (.t 1), none⟩]) (.seq (.reg [⟨some 12, .val (.fa 0 (.t 3)), none⟩, ⟨some 13, .val (.ld false 1 (.t 12)), none⟩]) (.block 0 (.seq (.reg [⟨some 17, .val 
  (.bin .eql (.t 13) (.k (.d (.int .i64 1)))), none⟩, ⟨some 16, .asg (.t 17), none⟩]) (.cond (.t 16) (.reg [⟨some 18, .val (.cp (.t 0)), none⟩, ⟨some 19, .bsl 9 1 [.k (.d (.str 
  [102, 97, 108, 115, 101])), .k (.d (.str [116, 114, 117, 101]))], none⟩, ⟨some 20, .val (.fa 1 (.t 3)), none⟩, ⟨some 21, .val (.ld false 1 (.t 20)), none⟩, ⟨some 22, .val (.ia 1 
  (.t 19) (.t 21)), none⟩, ⟨some 23, .val (.ld false 1 (.t 22)), none⟩, ⟨some 24, .prim .call [.k (.fn (.func 97) [] []), .t 18, .t 23] [], none⟩]) (.seq (.reg [⟨some 26, .val 
  (.bin .eql (.t 13) (.k (.d (.int .i64 2)))), none⟩, ⟨some 25, .asg (.t 26), none⟩]) (.cond (.t 25) (.seq (.reg [⟨some 28, .val (.fa 1 (.t 3)), none⟩, ⟨some 29, .val (.ld false 1 
  (.t 28)), none⟩, ⟨some 30, .call 25 [.t 29], none⟩, ⟨some 27, .val (.cp (.t 30)), none⟩, ⟨some 31, .val (.ext 0 (.t 27)), none⟩, ⟨some 32, .val (.ext 1 (.t 27)), none⟩, ⟨some 4, 
  .asg (.t 31), none⟩, ⟨some 5, .asg (.t 32), none⟩]) (.reg [⟨some 33, .val (.cp (.t 0)), none⟩, ⟨some 34, .val (.cp (.t 4)), none⟩, ⟨some 35, .prim .call [.k (.fn (.func 97) [] 
  []), .t 33, .t 34] [], none⟩])) (.seq (.reg [⟨some 37, .val (.bin .eql (.t 13) (.k (.d (.int .i64 3)))), none⟩, ⟨some 36, .asg (.t 37), none⟩]) (.cond (.t 36) (.reg [⟨some 38, 
  .val (.cp (.t 0)), none⟩, ⟨some 39, .val (.fa 2 (.t 3)), none⟩, ⟨some 40, .val (.ld false 1 (.t 39)), none⟩, ⟨some 41, .prim .call [.k (.fn (.func 142) [] []), .t 38, .t 40] [], 
  none⟩]) (.seq (.reg [⟨some 43, .val (.bin .eql (.t 13) (.k (.d (.int .i64 4)))), none⟩, ⟨some 42, .asg (.t 43), none⟩]) (.cond (.t 42) (.reg [⟨some 44, .val (.cp (.t 0)), none⟩, 
  ⟨some 45, .val (.fa 2 (.t 3)), none⟩, ⟨some 46, .val (.ld false 1 (.t 45)), none⟩, ⟨some 47, .prim .call [.k (.fn (.func 143) [] []), .t 44, .t 46] [], none⟩]) (.seq (.reg [⟨some 
  49, .val (.bin .eql (.t 13) (.k (.d (.int .i64 5)))), none⟩, ⟨some 48, .asg (.t 49), none⟩]) (.cond (.t 48) (.seq (.reg [⟨some 50, .val (.cp (.t 0)), none⟩, ⟨some 51, .prim .call 
  [.k (.fn (.func 138) [] []), .t 50, .k (.d (.int .u8 91))] [], none⟩]) (.seq (.seq (.reg [⟨some 52, .val (.fa 3 (.t 3)), none⟩, ⟨some 53, .val (.ld false 1 (.t 52)), none⟩, ⟨some 
  54, .val (.len false (.t 53)), none⟩, ⟨some 55, .val (.cp (.k (.d (.int .i64 0)))), none⟩]) (.block 1 (.loop (.seq (.reg [⟨some 56, .val (.bin .lss (.t 55) (.t 54)), none⟩]) 
  (.seq (.cond (.t 56) .skip (.exit 1)) (.seq (.block 2 (.seq (.reg [⟨some 57, .val (.cp (.t 55)), none⟩, ⟨some 58, .val (.ia 5 (.t 53) (.t 55)), none⟩, ⟨some 59, .val (.ld true 5 
  (.t 58)), none⟩, ⟨some 7, .allo [.int .i64 0, .int .i64 0, .str [], .list [], .list []], none⟩, ⟨some 6, .asg (.t 57), none⟩, ⟨none, .st 5 (.t 7) (.t 59), none⟩]) (.seq (.seq 
  (.reg [⟨some 60, .val (.cp (.t 6)), none⟩, ⟨some 61, .val (.bin .gtr (.t 60) (.k (.d (.int .i64 0)))), none⟩]) (.cond (.t 61) (.reg [⟨some 62, .val (.cp (.t 0)), none⟩, ⟨some 63, 
  .prim .call [.k (.fn (.func 138) [] []), .t 62, .k (.d (.int .u8 32))] [], none⟩]) .skip)) (.reg [⟨some 64, .val (.cp (.t 0)), none⟩, ⟨some 65, .val (.ld true 5 (.t 7)), none⟩, 
  ⟨some 66, .prim .call [.k (.fn (.func 107) [] []), .t 64, .t 65] [], none⟩])))) (.reg [⟨some 67, .val (.bin .add (.t 55) (.k (.d (.int .i64 1)))), none⟩, ⟨some 55, .val (.cp (.t 
  67)), none⟩]))))))) (.reg [⟨some 68, .val (.cp (.t 0)), none⟩, ⟨some 69, .prim .call [.k (.fn (.func 138) [] []), .t 68, .k (.d (.int .u8 93))] [], none⟩]))) (.seq (.reg [⟨some 
  71, .val (.bin .eql (.t 13) (.k (.d (.int .i64 6)))), none⟩, ⟨some 70, .asg (.t 71), none⟩]) (.cond (.t 70) (.seq (.reg [⟨some 72, .val (.cp (.t 0)), none⟩, ⟨some 73, .prim .call 
  [.k (.fn (.func 97) [] []), .t 72, .k (.d (.str [60, 60]))] [], none⟩]) (.seq (.seq (.reg [⟨some 74, .val (.fa 4 (.t 3)), none⟩, ⟨some 75, .val (.ld false 1 (.t 74)), none⟩, 
  ⟨some 76, .val (.len false (.t 75)), none⟩, ⟨some 77, .val (.cp (.k (.d (.int .i64 0)))), none⟩]) (.block 3 (.loop (.seq (.reg [⟨some 78, .val (.bin .lss (.t 77) (.t 76)), 
  none⟩]) (.seq (.cond (.t 78) .skip (.exit 3)) (.seq (.block 4 (.seq (.reg [⟨some 79, .val (.ia 6 (.t 75) (.t 77)), none⟩, ⟨some 80, .val (.ld true 6 (.t 79)), none⟩, ⟨some 9, 
  .allo [.str [], .int .i64 0, .int .i64 0, .str [], .list [], .list []], none⟩, ⟨none, .st 6 (.t 9) (.t 80), none⟩]) (.seq (.reg [⟨some 81, .val (.cp (.t 0)), none⟩, ⟨some 82, 
  .prim .call [.k (.fn (.func 138) [] []), .t 81, .k (.d (.int .u8 32))] [], none⟩]) (.seq (.reg [⟨some 83, .val (.cp (.t 0)), none⟩, ⟨some 84, .val (.fa 0 (.t 9)), none⟩, ⟨some 
  85, .val (.ld false 1 (.t 84)), none⟩, ⟨some 86, .prim .call [.k (.fn (.func 143) [] []), .t 83, .t 85] [], none⟩]) (.seq (.reg [⟨some 87, .val (.cp (.t 0)), none⟩, ⟨some 88, 
  .prim .call [.k (.fn (.func 138) [] []), .t 87, .k (.d (.int .u8 32))] [], none⟩]) (.reg [⟨some 89, .val (.cp (.t 0)), none⟩, ⟨some 90, .val (.fa 1 (.t 9)), none⟩, ⟨some 91, .val 
  (.ld true 5 (.t 90)), none⟩, ⟨some 92, .prim .call [.k (.fn (.func 107) [] []), .t 89, .t 91] [], none⟩])))))) (.reg [⟨some 93, .val (.bin .add (.t 77) (.k (.d (.int .i64 1)))), 
  none⟩, ⟨some 77, .val (.cp (.t 93)), none⟩]))))))) (.reg [⟨some 94, .val (.cp (.t 0)), none⟩, ⟨some 95, .prim .call [.k (.fn (.func 97) [] []), .t 94, .k (.d (.str [32, 62, 
  62]))] [], none⟩]))) (.seq (.reg [⟨some 97, .val (.bin .eql (.t 13) (.k (.d (.int .i64 7)))), none⟩, ⟨some 96, .asg (.t 97), none⟩]) (.cond (.t 96) (.seq (.reg [⟨some 99, .val 
  (.fa 1 (.t 3)), none⟩, ⟨some 100, .val (.ld false 1 (.t 99)), none⟩, ⟨some 101, .val (.bin .mul (.t 100) (.k (.d (.int .i64 1000)))), none⟩, ⟨some 102, .call 25 [.t 101], none⟩, 
  ⟨some 98, .val (.cp (.t 102)), none⟩, ⟨some 103, .val (.ext 0 (.t 98)), none⟩, ⟨some 104, .val (.ext 1 (.t 98)), none⟩, ⟨some 10, .asg (.t 103), none⟩, ⟨some 11, .asg (.t 104), 
  none⟩]) (.reg [⟨some 105, .val (.cp (.t 0)), none⟩, ⟨some 106, .val (.cp (.t 10)), none⟩, ⟨some 107, .val (.bin .add (.t 106) (.k (.d (.str [32, 48, 32, 82])))), none⟩, ⟨some 
  108, .prim .call [.k (.fn (.func 97) [] []), .t 105, .t 107] [], none⟩])) (.reg [⟨some 14, .val (.cp (.t 0)), none⟩, ⟨some 15, .prim .call [.k (.fn (.func 97) [] []), .t 14, .k 
  (.d (.str [110, 117, 108, 108]))] [], none⟩])))))))))))))))))
def R_value_write : List LRes := []
theorem lift_value_write : Lifts Tryd.prog 107 109 L_value_write R_value_write := ⟨_, _, Tryd.func107, rfl, by kernel_rfl, by kernel_rfl, rfl⟩

theorem write_at : ∀ (m : Nat) (v : Val) (b : Bld), SizeOf.sizeOf v ≤ m → v.sm 1048576 = true → wellV v = true → b.bytes.length + (textV v).length ≤ 900000000 →
    MCallE Tryd.prog 107 [.ptr (.x 0) 0, .d v.d] [b.at (.x 0)] (.tuple []) [Bld.at (.x 0) (.has (b.bytes ++ textV v))] := by
  intro m
  induction m with
  | zero => intro v b h; cases v; simp at h
  | succ m ih =>
    intro v b hv hsm hw htl
    obtain ⟨hsl0, hll, hfl, hsl, hsf⟩ := Val.sm_iff.1 hsm
    have hvl := valsD_length v.l
    have hfl' := fldsD_length v.f
    generalize hR : textV v = R at htl ⊢
    rw [textV_eq] at hR
    rw [Val.d_eq]
    rcases wellV_k hw with hk | hk | hk | hk | hk | hk | hk | hk
    · refine lift_value_write.mcall (by kernel_rfl) rfl ?_
      rw [hk] at hR
      simp only [Int.reduceEq, ↓reduceIte] at hR
      simp (maxSteps := 2000000) only [go_sem, Nat.reduceEqDiff, Nat.reduceBEq, Nat.reduceLT, Nat.reduceLeDiff, Nat.reduceAdd, Nat.reduceSub, Nat.reduceMul, ↓reduceIte, reduceCtorEq, Nat.reduceBNe, Nat.reduceSubDiff, Int.reduceLT, Int.reduceLE, Int.reduceEq, Int.reduceNeg, Int.reduceAdd, Int.reduceMul, Int.reduceSub, Int.reduceToNat, L_value_write, R_value_write, hk, hvl, hfl']
      refine bldCall (.x 0) rfl (writeString_at b [110, 117, 108, 108] (by rw [List.length_append, hR]; omega)) rfl rfl rfl rfl ?_
      simp (maxSteps := 2000000) only [go_sem, Nat.reduceEqDiff, Nat.reduceBEq, Nat.reduceLT, Nat.reduceLeDiff, Nat.reduceAdd, Nat.reduceSub, Nat.reduceMul, ↓reduceIte, reduceCtorEq, Nat.reduceBNe, Nat.reduceSubDiff, Int.reduceLT, Int.reduceLE, Int.reduceEq, Int.reduceNeg, Int.reduceAdd, Int.reduceMul, Int.reduceSub, Int.reduceToNat]
      rw [hR]
    · have hn := wellV_1 hw hk
      rw [hk] at hR
      simp only [Int.reduceEq, ↓reduceIte] at hR
      rcases hn with hn | hn
      · refine lift_value_write.mcall (by kernel_rfl) rfl ?_
        rw [hn] at hR
        simp only [Int.reduceEq, ↓reduceIte] at hR
        simp (maxSteps := 2000000) only [go_sem, Nat.reduceEqDiff, Nat.reduceBEq, Nat.reduceLT, Nat.reduceLeDiff, Nat.reduceAdd, Nat.reduceSub, Nat.reduceMul, ↓reduceIte, reduceCtorEq, Nat.reduceBNe, Nat.reduceSubDiff, Int.reduceLT, Int.reduceLE, Int.reduceEq, Int.reduceNeg, Int.reduceAdd, Int.reduceMul, Int.reduceSub, Int.reduceToNat, L_value_write, R_value_write, hk, hn, hvl, hfl']
        have hg : getI [D.str [102, 97, 108, 115, 101], D.str [116, 114, 117, 101]] 0 = some (.str [102, 97, 108, 115, 101]) := rfl
        simp (maxSteps := 2000000) only [go_sem, Nat.reduceEqDiff, Nat.reduceBEq, Nat.reduceLT, Nat.reduceLeDiff, Nat.reduceAdd, Nat.reduceSub, Nat.reduceMul, ↓reduceIte, reduceCtorEq, Nat.reduceBNe, Nat.reduceSubDiff, Int.reduceLT, Int.reduceLE, Int.reduceEq, Int.reduceNeg, Int.reduceAdd, Int.reduceMul, Int.reduceSub, Int.reduceToNat, hg]
        refine bldCall (.x 0) rfl (writeString_at b [102, 97, 108, 115, 101] (by rw [List.length_append, hR]; omega)) rfl rfl rfl rfl ?_
        simp (maxSteps := 2000000) only [go_sem, Nat.reduceEqDiff, Nat.reduceBEq, Nat.reduceLT, Nat.reduceLeDiff, Nat.reduceAdd, Nat.reduceSub, Nat.reduceMul, ↓reduceIte, reduceCtorEq, Nat.reduceBNe, Nat.reduceSubDiff, Int.reduceLT, Int.reduceLE, Int.reduceEq, Int.reduceNeg, Int.reduceAdd, Int.reduceMul, Int.reduceSub, Int.reduceToNat]
        rw [hR]
      · refine lift_value_write.mcall (by kernel_rfl) rfl ?_
        rw [hn] at hR
        simp only [↓reduceIte] at hR
        simp (maxSteps := 2000000) only [go_sem, Nat.reduceEqDiff, Nat.reduceBEq, Nat.reduceLT, Nat.reduceLeDiff, Nat.reduceAdd, Nat.reduceSub, Nat.reduceMul, ↓reduceIte, reduceCtorEq, Nat.reduceBNe, Nat.reduceSubDiff, Int.reduceLT, Int.reduceLE, Int.reduceEq, Int.reduceNeg, Int.reduceAdd, Int.reduceMul, Int.reduceSub, Int.reduceToNat, L_value_write, R_value_write, hk, hn, hvl, hfl']
        have hg : getI [D.str [102, 97, 108, 115, 101], D.str [116, 114, 117, 101]] 1 = some (.str [116, 114, 117, 101]) := rfl
        simp (maxSteps := 2000000) only [go_sem, Nat.reduceEqDiff, Nat.reduceBEq, Nat.reduceLT, Nat.reduceLeDiff, Nat.reduceAdd, Nat.reduceSub, Nat.reduceMul, ↓reduceIte, reduceCtorEq, Nat.reduceBNe, Nat.reduceSubDiff, Int.reduceLT, Int.reduceLE, Int.reduceEq, Int.reduceNeg, Int.reduceAdd, Int.reduceMul, Int.reduceSub, Int.reduceToNat, hg]
        refine bldCall (.x 0) rfl (writeString_at b [116, 114, 117, 101] (by rw [List.length_append, hR]; omega)) rfl rfl rfl rfl ?_
        simp (maxSteps := 2000000) only [go_sem, Nat.reduceEqDiff, Nat.reduceBEq, Nat.reduceLT, Nat.reduceLeDiff, Nat.reduceAdd, Nat.reduceSub, Nat.reduceMul, ↓reduceIte, reduceCtorEq, Nat.reduceBNe, Nat.reduceSubDiff, Int.reduceLT, Int.reduceLE, Int.reduceEq, Int.reduceNeg, Int.reduceAdd, Int.reduceMul, Int.reduceSub, Int.reduceToNat]
        rw [hR]
    · refine lift_value_write.mcall (by kernel_rfl) rfl ?_
      have hL := wellV_2 hw hk
      rw [hk] at hR
      simp only [Int.reduceEq, ↓reduceIte] at hR
      have hc := text_call v.n
      rw [resT, if_pos hL] at hc
      simp (maxSteps := 2000000) only [go_sem, Nat.reduceEqDiff, Nat.reduceBEq, Nat.reduceLT, Nat.reduceLeDiff, Nat.reduceAdd, Nat.reduceSub, Nat.reduceMul, ↓reduceIte, reduceCtorEq, Nat.reduceBNe, Nat.reduceSubDiff, Int.reduceLT, Int.reduceLE, Int.reduceEq, Int.reduceNeg, Int.reduceAdd, Int.reduceMul, Int.reduceSub, Int.reduceToNat, L_value_write, R_value_write, hk, hvl, hfl']
      refine CallG.of hc ?_
      simp (maxSteps := 2000000) only [go_sem, Nat.reduceEqDiff, Nat.reduceBEq, Nat.reduceLT, Nat.reduceLeDiff, Nat.reduceAdd, Nat.reduceSub, Nat.reduceMul, ↓reduceIte, reduceCtorEq, Nat.reduceBNe, Nat.reduceSubDiff, Int.reduceLT, Int.reduceLE, Int.reduceEq, Int.reduceNeg, Int.reduceAdd, Int.reduceMul, Int.reduceSub, Int.reduceToNat]
      refine bldCall (.x 0) rfl (writeString_at b (textF v.n) (by rw [List.length_append, hR]; omega)) rfl rfl rfl rfl ?_
      simp (maxSteps := 2000000) only [go_sem, Nat.reduceEqDiff, Nat.reduceBEq, Nat.reduceLT, Nat.reduceLeDiff, Nat.reduceAdd, Nat.reduceSub, Nat.reduceMul, ↓reduceIte, reduceCtorEq, Nat.reduceBNe, Nat.reduceSubDiff, Int.reduceLT, Int.reduceLE, Int.reduceEq, Int.reduceNeg, Int.reduceAdd, Int.reduceMul, Int.reduceSub, Int.reduceToNat]
      rw [hR]
    · refine lift_value_write.mcall (by kernel_rfl) rfl ?_
      rw [hk] at hR
      simp only [Int.reduceEq, ↓reduceIte] at hR
      simp (maxSteps := 2000000) only [go_sem, Nat.reduceEqDiff, Nat.reduceBEq, Nat.reduceLT, Nat.reduceLeDiff, Nat.reduceAdd, Nat.reduceSub, Nat.reduceMul, ↓reduceIte, reduceCtorEq, Nat.reduceBNe, Nat.reduceSubDiff, Int.reduceLT, Int.reduceLE, Int.reduceEq, Int.reduceNeg, Int.reduceAdd, Int.reduceMul, Int.reduceSub, Int.reduceToNat, L_value_write, R_value_write, hk, hvl, hfl']
      refine bldCall (.x 0) rfl (str_at b v.s (by omega)) rfl rfl rfl rfl ?_
      simp (maxSteps := 2000000) only [go_sem, Nat.reduceEqDiff, Nat.reduceBEq, Nat.reduceLT, Nat.reduceLeDiff, Nat.reduceAdd, Nat.reduceSub, Nat.reduceMul, ↓reduceIte, reduceCtorEq, Nat.reduceBNe, Nat.reduceSubDiff, Int.reduceLT, Int.reduceLE, Int.reduceEq, Int.reduceNeg, Int.reduceAdd, Int.reduceMul, Int.reduceSub, Int.reduceToNat]
      rw [← hR]; simp only [List.append_assoc]
    · refine lift_value_write.mcall (by kernel_rfl) rfl ?_
      rw [hk] at hR
      simp only [Int.reduceEq, ↓reduceIte] at hR
      simp (maxSteps := 2000000) only [go_sem, Nat.reduceEqDiff, Nat.reduceBEq, Nat.reduceLT, Nat.reduceLeDiff, Nat.reduceAdd, Nat.reduceSub, Nat.reduceMul, ↓reduceIte, reduceCtorEq, Nat.reduceBNe, Nat.reduceSubDiff, Int.reduceLT, Int.reduceLE, Int.reduceEq, Int.reduceNeg, Int.reduceAdd, Int.reduceMul, Int.reduceSub, Int.reduceToNat, L_value_write, R_value_write, hk, hvl, hfl']
      refine bldCall (.x 0) rfl (name_at b v.s (by omega)) rfl rfl rfl rfl ?_
      simp (maxSteps := 2000000) only [go_sem, Nat.reduceEqDiff, Nat.reduceBEq, Nat.reduceLT, Nat.reduceLeDiff, Nat.reduceAdd, Nat.reduceSub, Nat.reduceMul, ↓reduceIte, reduceCtorEq, Nat.reduceBNe, Nat.reduceSubDiff, Int.reduceLT, Int.reduceLE, Int.reduceEq, Int.reduceNeg, Int.reduceAdd, Int.reduceMul, Int.reduceSub, Int.reduceToNat]
      rw [← hR]; simp only [List.append_assoc]
    · refine lift_value_write.mcall (by kernel_rfl) rfl ?_
      rw [hk] at hR
      simp only [Int.reduceEq, ↓reduceIte] at hR
      have hRl := congrArg List.length hR
      simp only [List.length_append, List.length_cons, List.length_nil] at hRl
      simp (maxSteps := 2000000) only [go_sem, Nat.reduceEqDiff, Nat.reduceBEq, Nat.reduceLT, Nat.reduceLeDiff, Nat.reduceAdd, Nat.reduceSub, Nat.reduceMul, ↓reduceIte, reduceCtorEq, Nat.reduceBNe, Nat.reduceSubDiff, Int.reduceLT, Int.reduceLE, Int.reduceEq, Int.reduceNeg, Int.reduceAdd, Int.reduceMul, Int.reduceSub, Int.reduceToNat, L_value_write, R_value_write, hk, hvl, hfl']
      refine bldCall (.x 0) rfl (writeByte_at b 91 (by omega)) rfl rfl rfl rfl ?_
      simp (maxSteps := 2000000) only [go_sem, Nat.reduceEqDiff, Nat.reduceBEq, Nat.reduceLT, Nat.reduceLeDiff, Nat.reduceAdd, Nat.reduceSub, Nat.reduceMul, ↓reduceIte, reduceCtorEq, Nat.reduceBNe, Nat.reduceSubDiff, Int.reduceLT, Int.reduceLE, Int.reduceEq, Int.reduceNeg, Int.reduceAdd, Int.reduceMul, Int.reduceSub, Int.reduceToNat]
      refine run_loop (fun i : Nat => ⟨[(0, .ptr (.x 0) 0), (3, .ptr (.l 3) 0), (53, .d (.list (valsD v.l))), (54, .d (.int .i64 v.l.length)), (55, .d (.int .i64 i))],
          [(3, .cells [.d (.int .i64 5), .d (.int .i64 v.n), .d (.str v.s), .d (.list (valsD v.l)), .d (.list (fldsD v.f))])],
          [(0, Bld.at (.x 0) (.has (b.bytes ++ [91] ++ textL false (v.l.take i))))]⟩)
        (fun i => i ≤ v.l.length) (fun i => v.l.length - i) 0 ?_ ?_ ?_
      · refine Weak.mk ?_ ?_ ?_ <;> simp (maxSteps := 2000000) only [go_sem, Nat.reduceEqDiff, Nat.reduceBEq, Nat.reduceLT, Nat.reduceLeDiff, Nat.reduceAdd, Nat.reduceSub, Nat.reduceMul, ↓reduceIte, reduceCtorEq, Nat.reduceBNe, Nat.reduceSubDiff, Int.reduceLT, Int.reduceLE, Int.reduceEq, Int.reduceNeg, Int.reduceAdd, Int.reduceMul, Int.reduceSub, Int.reduceToNat, Sub, Int.natCast_add, Int.natCast_mul, List.take_zero, textL, hvl]
      · omega
      · intro i hi
        simp (maxSteps := 2000000) only [go_sem, Nat.reduceEqDiff, Nat.reduceBEq, Nat.reduceLT, Nat.reduceLeDiff, Nat.reduceAdd, Nat.reduceSub, Nat.reduceMul, ↓reduceIte, reduceCtorEq, Nat.reduceBNe, Nat.reduceSubDiff, Int.reduceLT, Int.reduceLE, Int.reduceEq, Int.reduceNeg, Int.reduceAdd, Int.reduceMul, Int.reduceSub, Int.reduceToNat, hvl]
        refine ⟨fun hlt => ?_, fun hge => ?_⟩
        · obtain ⟨x, hx⟩ := get_some (l := v.l) (i := i) (by omega)
          have hm := List.mem_of_getElem? hx
          have hn := textL_next hx
          have hle := textL_take_le (l := v.l) (i := i + 1)
          have hnl := congrArg List.length hn
          simp only [List.length_append] at hnl
          by_cases i0 : 0 < i
          · rw [if_pos i0] at hn hnl
            have i0' : ((0 : Int) < (i : Int)) = True := by simp only [eq_iff_iff, iff_true]; omega
            simp only [List.length_cons, List.length_nil] at hnl
            have hc := ih x (.has (b.bytes ++ [91] ++ textL false (v.l.take i) ++ [32])) (by have := size_l hm; omega) (hsl x hm) (wellV_5 hw hk hm) (by simp only [Bld.bytes_has, List.length_append, List.length_cons, List.length_nil]; omega)
            rw [Val.d_eq] at hc
            simp (maxSteps := 2000000) (disch := omega) only [go_sem, Nat.reduceEqDiff, Nat.reduceBEq, Nat.reduceLT, Nat.reduceLeDiff, Nat.reduceAdd, Nat.reduceSub, Nat.reduceMul, ↓reduceIte, reduceCtorEq, Nat.reduceBNe, Nat.reduceSubDiff, Int.reduceLT, Int.reduceLE, Int.reduceEq, Int.reduceNeg, Int.reduceAdd, Int.reduceMul, Int.reduceSub, Int.reduceToNat, getI_nat, valsD_get, hx, Val.d_eq, i0']
            refine bldCall (.x 0) rfl (writeByte_at (.has (b.bytes ++ [91] ++ textL false (v.l.take i))) 32 (by simp only [Bld.bytes_has, List.length_append, List.length_cons, List.length_nil]; omega)) rfl rfl rfl rfl ?_
            simp (maxSteps := 2000000) (disch := omega) only [go_sem, Nat.reduceEqDiff, Nat.reduceBEq, Nat.reduceLT, Nat.reduceLeDiff, Nat.reduceAdd, Nat.reduceSub, Nat.reduceMul, ↓reduceIte, reduceCtorEq, Nat.reduceBNe, Nat.reduceSubDiff, Int.reduceLT, Int.reduceLE, Int.reduceEq, Int.reduceNeg, Int.reduceAdd, Int.reduceMul, Int.reduceSub, Int.reduceToNat, Bld.bytes_has]
            refine bldCall (.x 0) rfl (hc) rfl rfl rfl rfl ?_
            simp (maxSteps := 2000000) (disch := omega) only [go_sem, Nat.reduceEqDiff, Nat.reduceBEq, Nat.reduceLT, Nat.reduceLeDiff, Nat.reduceAdd, Nat.reduceSub, Nat.reduceMul, ↓reduceIte, reduceCtorEq, Nat.reduceBNe, Nat.reduceSubDiff, Int.reduceLT, Int.reduceLE, Int.reduceEq, Int.reduceNeg, Int.reduceAdd, Int.reduceMul, Int.reduceSub, Int.reduceToNat]
            refine ⟨i + 1, ?_, by omega, by omega⟩
            refine Weak.mk ?_ ?_ ?_ <;> simp (maxSteps := 2000000) only [go_sem, Nat.reduceEqDiff, Nat.reduceBEq, Nat.reduceLT, Nat.reduceLeDiff, Nat.reduceAdd, Nat.reduceSub, Nat.reduceMul, ↓reduceIte, reduceCtorEq, Nat.reduceBNe, Nat.reduceSubDiff, Int.reduceLT, Int.reduceLE, Int.reduceEq, Int.reduceNeg, Int.reduceAdd, Int.reduceMul, Int.reduceSub, Int.reduceToNat, Sub, Int.natCast_add, Int.natCast_mul, hn, Bld.bytes_has, List.append_assoc]
          · rw [if_neg i0] at hn hnl
            have i0' : ((0 : Int) < (i : Int)) = False := by simp only [eq_iff_iff, iff_false]; omega
            simp only [List.length_nil] at hnl
            have hc := ih x (.has (b.bytes ++ [91] ++ textL false (v.l.take i))) (by have := size_l hm; omega) (hsl x hm) (wellV_5 hw hk hm) (by simp only [Bld.bytes_has, List.length_append, List.length_cons, List.length_nil]; omega)
            rw [Val.d_eq] at hc
            simp (maxSteps := 2000000) (disch := omega) only [go_sem, Nat.reduceEqDiff, Nat.reduceBEq, Nat.reduceLT, Nat.reduceLeDiff, Nat.reduceAdd, Nat.reduceSub, Nat.reduceMul, ↓reduceIte, reduceCtorEq, Nat.reduceBNe, Nat.reduceSubDiff, Int.reduceLT, Int.reduceLE, Int.reduceEq, Int.reduceNeg, Int.reduceAdd, Int.reduceMul, Int.reduceSub, Int.reduceToNat, getI_nat, valsD_get, hx, Val.d_eq, i0']
            refine bldCall (.x 0) rfl (hc) rfl rfl rfl rfl ?_
            simp (maxSteps := 2000000) (disch := omega) only [go_sem, Nat.reduceEqDiff, Nat.reduceBEq, Nat.reduceLT, Nat.reduceLeDiff, Nat.reduceAdd, Nat.reduceSub, Nat.reduceMul, ↓reduceIte, reduceCtorEq, Nat.reduceBNe, Nat.reduceSubDiff, Int.reduceLT, Int.reduceLE, Int.reduceEq, Int.reduceNeg, Int.reduceAdd, Int.reduceMul, Int.reduceSub, Int.reduceToNat]
            refine ⟨i + 1, ?_, by omega, by omega⟩
            refine Weak.mk ?_ ?_ ?_ <;> simp (maxSteps := 2000000) only [go_sem, Nat.reduceEqDiff, Nat.reduceBEq, Nat.reduceLT, Nat.reduceLeDiff, Nat.reduceAdd, Nat.reduceSub, Nat.reduceMul, ↓reduceIte, reduceCtorEq, Nat.reduceBNe, Nat.reduceSubDiff, Int.reduceLT, Int.reduceLE, Int.reduceEq, Int.reduceNeg, Int.reduceAdd, Int.reduceMul, Int.reduceSub, Int.reduceToNat, Sub, Int.natCast_add, Int.natCast_mul, hn, Bld.bytes_has, List.append_assoc, List.nil_append]
        · rw [List.take_of_length_le (by omega)]
          refine bldCall (.x 0) rfl (writeByte_at (.has (b.bytes ++ [91] ++ textL false v.l)) 93 (by simp only [Bld.bytes_has, List.length_append, List.length_cons, List.length_nil]; omega)) rfl rfl rfl rfl ?_
          simp (maxSteps := 2000000) only [go_sem, Nat.reduceEqDiff, Nat.reduceBEq, Nat.reduceLT, Nat.reduceLeDiff, Nat.reduceAdd, Nat.reduceSub, Nat.reduceMul, ↓reduceIte, reduceCtorEq, Nat.reduceBNe, Nat.reduceSubDiff, Int.reduceLT, Int.reduceLE, Int.reduceEq, Int.reduceNeg, Int.reduceAdd, Int.reduceMul, Int.reduceSub, Int.reduceToNat, Bld.bytes_has]
          rw [← hR]; simp only [List.append_assoc]
    · refine lift_value_write.mcall (by kernel_rfl) rfl ?_
      rw [hk] at hR
      simp only [Int.reduceEq, ↓reduceIte] at hR
      have hRl := congrArg List.length hR
      simp only [List.length_append, List.length_cons, List.length_nil] at hRl
      simp (maxSteps := 2000000) only [go_sem, Nat.reduceEqDiff, Nat.reduceBEq, Nat.reduceLT, Nat.reduceLeDiff, Nat.reduceAdd, Nat.reduceSub, Nat.reduceMul, ↓reduceIte, reduceCtorEq, Nat.reduceBNe, Nat.reduceSubDiff, Int.reduceLT, Int.reduceLE, Int.reduceEq, Int.reduceNeg, Int.reduceAdd, Int.reduceMul, Int.reduceSub, Int.reduceToNat, L_value_write, R_value_write, hk, hvl, hfl']
      refine bldCall (.x 0) rfl (writeString_at b [60, 60] (by simp only [List.length_append, List.length_cons, List.length_nil]; omega)) rfl rfl rfl rfl ?_
      simp (maxSteps := 2000000) only [go_sem, Nat.reduceEqDiff, Nat.reduceBEq, Nat.reduceLT, Nat.reduceLeDiff, Nat.reduceAdd, Nat.reduceSub, Nat.reduceMul, ↓reduceIte, reduceCtorEq, Nat.reduceBNe, Nat.reduceSubDiff, Int.reduceLT, Int.reduceLE, Int.reduceEq, Int.reduceNeg, Int.reduceAdd, Int.reduceMul, Int.reduceSub, Int.reduceToNat]
      refine run_loop (fun i : Nat => ⟨[(0, .ptr (.x 0) 0), (3, .ptr (.l 3) 0), (75, .d (.list (fldsD v.f))), (76, .d (.int .i64 v.f.length)), (77, .d (.int .i64 i))],
          [(3, .cells [.d (.int .i64 6), .d (.int .i64 v.n), .d (.str v.s), .d (.list (valsD v.l)), .d (.list (fldsD v.f))])],
          [(0, Bld.at (.x 0) (.has (b.bytes ++ [60, 60] ++ textX (v.f.take i))))]⟩)
        (fun i => i ≤ v.f.length) (fun i => v.f.length - i) 0 ?_ ?_ ?_
      · refine Weak.mk ?_ ?_ ?_ <;> simp (maxSteps := 2000000) only [go_sem, Nat.reduceEqDiff, Nat.reduceBEq, Nat.reduceLT, Nat.reduceLeDiff, Nat.reduceAdd, Nat.reduceSub, Nat.reduceMul, ↓reduceIte, reduceCtorEq, Nat.reduceBNe, Nat.reduceSubDiff, Int.reduceLT, Int.reduceLE, Int.reduceEq, Int.reduceNeg, Int.reduceAdd, Int.reduceMul, Int.reduceSub, Int.reduceToNat, Sub, Int.natCast_add, Int.natCast_mul, List.take_zero, textX, hfl']
      · omega
      · intro i hi
        simp (maxSteps := 2000000) only [go_sem, Nat.reduceEqDiff, Nat.reduceBEq, Nat.reduceLT, Nat.reduceLeDiff, Nat.reduceAdd, Nat.reduceSub, Nat.reduceMul, ↓reduceIte, reduceCtorEq, Nat.reduceBNe, Nat.reduceSubDiff, Int.reduceLT, Int.reduceLE, Int.reduceEq, Int.reduceNeg, Int.reduceAdd, Int.reduceMul, Int.reduceSub, Int.reduceToNat, hfl']
        refine ⟨fun hlt => ?_, fun hge => ?_⟩
        · obtain ⟨x, hx⟩ := get_some (l := v.f) (i := i) (by omega)
          have hm := List.mem_of_getElem? hx
          have hn := textX_next hx
          have hle := textX_take_le (l := v.f) (i := i + 1)
          have hnl := congrArg List.length hn
          simp only [textG, List.length_append, List.length_cons, List.length_nil] at hnl
          have hsx := Fld.sm_iff.1 (hsf x hm)
          have hsx1 := hsx.1
          have hc := ih x.v (.has (b.bytes ++ [60, 60] ++ textX (v.f.take i) ++ [32] ++ [47] ++ nameP x.name ++ [32])) (by have := size_f hm; omega) hsx.2 (wellV_6 hw hk hm) (by simp only [Bld.bytes_has, List.length_append, List.length_cons, List.length_nil]; omega)
          rw [Val.d_eq] at hc
          simp (maxSteps := 2000000) (disch := omega) only [go_sem, Nat.reduceEqDiff, Nat.reduceBEq, Nat.reduceLT, Nat.reduceLeDiff, Nat.reduceAdd, Nat.reduceSub, Nat.reduceMul, ↓reduceIte, reduceCtorEq, Nat.reduceBNe, Nat.reduceSubDiff, Int.reduceLT, Int.reduceLE, Int.reduceEq, Int.reduceNeg, Int.reduceAdd, Int.reduceMul, Int.reduceSub, Int.reduceToNat, getI_nat, fldsD_get, hx, Fld.d_eq]
          refine bldCall (.x 0) rfl (writeByte_at (.has (b.bytes ++ [60, 60] ++ textX (v.f.take i))) 32 (by simp only [Bld.bytes_has, List.length_append, List.length_cons, List.length_nil]; omega)) rfl rfl rfl rfl ?_
          simp (maxSteps := 2000000) (disch := omega) only [go_sem, Nat.reduceEqDiff, Nat.reduceBEq, Nat.reduceLT, Nat.reduceLeDiff, Nat.reduceAdd, Nat.reduceSub, Nat.reduceMul, ↓reduceIte, reduceCtorEq, Nat.reduceBNe, Nat.reduceSubDiff, Int.reduceLT, Int.reduceLE, Int.reduceEq, Int.reduceNeg, Int.reduceAdd, Int.reduceMul, Int.reduceSub, Int.reduceToNat, Bld.bytes_has]
          refine bldCall (.x 0) rfl (name_at (.has (b.bytes ++ [60, 60] ++ textX (v.f.take i) ++ [32])) x.name (by simp only [Bld.bytes_has, List.length_append, List.length_cons, List.length_nil]; omega)) rfl rfl rfl rfl ?_
          simp (maxSteps := 2000000) (disch := omega) only [go_sem, Nat.reduceEqDiff, Nat.reduceBEq, Nat.reduceLT, Nat.reduceLeDiff, Nat.reduceAdd, Nat.reduceSub, Nat.reduceMul, ↓reduceIte, reduceCtorEq, Nat.reduceBNe, Nat.reduceSubDiff, Int.reduceLT, Int.reduceLE, Int.reduceEq, Int.reduceNeg, Int.reduceAdd, Int.reduceMul, Int.reduceSub, Int.reduceToNat, Bld.bytes_has]
          refine bldCall (.x 0) rfl (writeByte_at (.has (b.bytes ++ [60, 60] ++ textX (v.f.take i) ++ [32] ++ [47] ++ nameP x.name)) 32 (by simp only [Bld.bytes_has, List.length_append, List.length_cons, List.length_nil]; omega)) rfl rfl rfl rfl ?_
          simp (maxSteps := 2000000) (disch := omega) only [go_sem, Nat.reduceEqDiff, Nat.reduceBEq, Nat.reduceLT, Nat.reduceLeDiff, Nat.reduceAdd, Nat.reduceSub, Nat.reduceMul, ↓reduceIte, reduceCtorEq, Nat.reduceBNe, Nat.reduceSubDiff, Int.reduceLT, Int.reduceLE, Int.reduceEq, Int.reduceNeg, Int.reduceAdd, Int.reduceMul, Int.reduceSub, Int.reduceToNat, Bld.bytes_has]
          refine bldCall (.x 0) rfl (hc) rfl rfl rfl rfl ?_
          simp (maxSteps := 2000000) (disch := omega) only [go_sem, Nat.reduceEqDiff, Nat.reduceBEq, Nat.reduceLT, Nat.reduceLeDiff, Nat.reduceAdd, Nat.reduceSub, Nat.reduceMul, ↓reduceIte, reduceCtorEq, Nat.reduceBNe, Nat.reduceSubDiff, Int.reduceLT, Int.reduceLE, Int.reduceEq, Int.reduceNeg, Int.reduceAdd, Int.reduceMul, Int.reduceSub, Int.reduceToNat]
          refine ⟨i + 1, ?_, by omega, by omega⟩
          refine Weak.mk ?_ ?_ ?_ <;> simp (maxSteps := 2000000) only [go_sem, Nat.reduceEqDiff, Nat.reduceBEq, Nat.reduceLT, Nat.reduceLeDiff, Nat.reduceAdd, Nat.reduceSub, Nat.reduceMul, ↓reduceIte, reduceCtorEq, Nat.reduceBNe, Nat.reduceSubDiff, Int.reduceLT, Int.reduceLE, Int.reduceEq, Int.reduceNeg, Int.reduceAdd, Int.reduceMul, Int.reduceSub, Int.reduceToNat, Sub, Int.natCast_add, Int.natCast_mul, hn, Bld.bytes_has, textG, List.append_assoc]
        · rw [List.take_of_length_le (by omega)]
          refine bldCall (.x 0) rfl (writeString_at (.has (b.bytes ++ [60, 60] ++ textX v.f)) [32, 62, 62] (by simp only [Bld.bytes_has, List.length_append, List.length_cons, List.length_nil]; omega)) rfl rfl rfl rfl ?_
          simp (maxSteps := 2000000) only [go_sem, Nat.reduceEqDiff, Nat.reduceBEq, Nat.reduceLT, Nat.reduceLeDiff, Nat.reduceAdd, Nat.reduceSub, Nat.reduceMul, ↓reduceIte, reduceCtorEq, Nat.reduceBNe, Nat.reduceSubDiff, Int.reduceLT, Int.reduceLE, Int.reduceEq, Int.reduceNeg, Int.reduceAdd, Int.reduceMul, Int.reduceSub, Int.reduceToNat, Bld.bytes_has]
          rw [← hR]; simp only [List.append_assoc]
    · refine lift_value_write.mcall (by kernel_rfl) rfl ?_
      have hL := wellV_7 hw hk
      rw [hk] at hR
      simp only [Int.reduceEq, ↓reduceIte] at hR
      have hc := text_call (v.n * 1000)
      have hLim : Lim (v.n * 1000) := by unfold Lim; omega
      have hz : v.n = ((v.n.toNat : Nat) : Int) := by omega
      have hT : textF (v.n * 1000) = Lib.decDigits v.n.toNat := by rw [hz]; exact textF_whole _
      rw [resT, if_pos hLim, hT] at hc
      simp (maxSteps := 2000000) (disch := omega) only [go_sem, Nat.reduceEqDiff, Nat.reduceBEq, Nat.reduceLT, Nat.reduceLeDiff, Nat.reduceAdd, Nat.reduceSub, Nat.reduceMul, ↓reduceIte, reduceCtorEq, Nat.reduceBNe, Nat.reduceSubDiff, Int.reduceLT, Int.reduceLE, Int.reduceEq, Int.reduceNeg, Int.reduceAdd, Int.reduceMul, Int.reduceSub, Int.reduceToNat, L_value_write, R_value_write, hk, hvl, hfl']
      refine CallG.of hc ?_
      simp (maxSteps := 2000000) only [go_sem, Nat.reduceEqDiff, Nat.reduceBEq, Nat.reduceLT, Nat.reduceLeDiff, Nat.reduceAdd, Nat.reduceSub, Nat.reduceMul, ↓reduceIte, reduceCtorEq, Nat.reduceBNe, Nat.reduceSubDiff, Int.reduceLT, Int.reduceLE, Int.reduceEq, Int.reduceNeg, Int.reduceAdd, Int.reduceMul, Int.reduceSub, Int.reduceToNat]
      have hRl := congrArg List.length hR
      simp only [List.length_append, List.length_cons, List.length_nil] at hRl
      refine ⟨by omega, ?_⟩
      refine bldCall (.x 0) rfl (writeString_at b (Lib.decDigits v.n.toNat ++ [32, 48, 32, 82]) (by rw [List.length_append, hR]; omega)) rfl rfl rfl rfl ?_
      simp (maxSteps := 2000000) only [go_sem, Nat.reduceEqDiff, Nat.reduceBEq, Nat.reduceLT, Nat.reduceLeDiff, Nat.reduceAdd, Nat.reduceSub, Nat.reduceMul, ↓reduceIte, reduceCtorEq, Nat.reduceBNe, Nat.reduceSubDiff, Int.reduceLT, Int.reduceLE, Int.reduceEq, Int.reduceNeg, Int.reduceAdd, Int.reduceMul, Int.reduceSub, Int.reduceToNat]
      rw [hR]

/-! ### The whole text -/
theorem textF_len {a : Int} (h : Lim a) : (textF a).length ≤ 100 := by
  unfold Lim at h
  have h1 := nDigits_le (a.natAbs / 1000) 6 (by omega)
  have h2 : (trimR (fracD (a.natAbs % 1000))).length ≤ 3 := by
    unfold trimR; rw [List.length_reverse]
    exact Nat.le_trans (List.dropWhile_sublist _).length_le (by rw [List.length_reverse]; exact Nat.le_refl 3)
  have h3 : (fracT (a.natAbs % 1000)).length ≤ 4 := by
    unfold fracT
    split
    · simp
    · simp only [List.length_cons]; omega
  have h4 : (if a < 0 then [(45 : UInt8)] else []).length ≤ 1 := by split <;> simp
  unfold textF
  simp only [List.length_append]; omega
theorem nameMay_len {s : List UInt8} (h : nameMay s = true) : s.length ≤ 200 := by
  unfold nameMay at h; simp only [Bool.and_eq_true, decide_eq_true_eq] at h; exact h.2.1
theorem wellV_3 {v : Val} (h : wellV v = true) (hk : v.kind = 3) : v.s.length ≤ 200 := by rw [wellV_eq, hk] at h; simp at h; exact h.2.1
theorem wellV_4 {v : Val} (h : wellV v = true) (hk : v.kind = 4) : v.s.length ≤ 200 := by rw [wellV_eq, hk] at h; simp at h; exact nameMay_len h.2.1
theorem wellV_6a {v : Val} (h : wellV v = true) (hk : v.kind = 6) : ∀ x ∈ v.f, nameMay x.name = true ∧ wellV x.v = true := by rw [wellV_eq, hk] at h; simp at h; exact fun x hx => wellF_mem h.2.2.2 hx
mutual
theorem textV_len : ∀ (v : Val), wellV v = true → (textV v).length + 700 ≤ 2000 * (ptV v).1
  | .mk k n s l f, hw => by
    have hl : k = 5 → (textL false l).length ≤ 2000 * (ptL l).1 := fun e => textL_len l false (fun x hx => wellV_5 hw e hx)
    have hf : k = 6 → (textX f).length ≤ 2000 * (ptF f).1 := fun e => textX_len f (wellV_6a hw e)
    have h1 := strP_length s
    have h2 := nameP_length s
    have h3 : k = 3 → s.length ≤ 200 := fun e => wellV_3 hw e
    have h4 : k = 4 → s.length ≤ 200 := fun e => wellV_4 hw e
    have h5 : k = 2 → (textF n).length ≤ 100 := fun e => textF_len (wellV_2 hw e)
    have h6 : k = 7 → (Lib.decDigits n.toNat).length ≤ 3 := fun e => by
      have := wellV_7 hw e
      simp only [Val.n] at this
      exact nDigits_le _ 2 (by omega)
    simp only [textV, ptV]
    split
    · split <;> simp <;> omega
    split
    · rename_i e; have := h5 e; omega
    split
    · rename_i e; have := h3 e; simp only [List.length_append, List.length_cons, List.length_nil]; omega
    split
    · rename_i e; have := h4 e; simp only [List.length_append, List.length_cons, List.length_nil]; omega
    split
    · rename_i e; have := hl e; simp only [List.length_append, List.length_cons, List.length_nil]; omega
    split
    · rename_i e; have := hf e; simp only [List.length_append, List.length_cons, List.length_nil]; omega
    split
    · rename_i e; have := h6 e; simp only [List.length_append, List.length_cons, List.length_nil]; omega
    · simp only [List.length_cons, List.length_nil]; omega
theorem textL_len : ∀ (l : List Val) (sep : Bool), (∀ x ∈ l, wellV x = true) → (textL sep l).length ≤ 2000 * (ptL l).1
  | [], _, _ => by simp [textL]
  | v :: r, sep, h2 => by
    have a := textV_len v (h2 v (by simp))
    have b := textL_len r true (fun x hx => h2 x (by simp [hx]))
    have c : (if sep = true then [(32 : UInt8)] else []).length ≤ 1 := by split <;> simp
    simp only [textL, ptL, List.length_append]; omega
theorem textX_len : ∀ (l : List Fld), (∀ x ∈ l, nameMay x.name = true ∧ wellV x.v = true) → (textX l).length ≤ 2000 * (ptF l).1
  | [], _ => by simp [textX]
  | .mk nm v :: r, h2 => by
    have z := h2 (.mk nm v) (by simp)
    simp only [Fld.name, Fld.v] at z
    have a := textV_len v z.2
    have b := textX_len r (fun x hx => h2 x (by simp [hx]))
    have c := nameP_length nm
    have d := nameMay_len z.1
    simp only [textX, ptF, List.length_append, List.length_cons, List.length_nil]; omega
end
theorem faultV_0 {v : Val} : faultV v = 0 ↔ (¬ (300 < (ptV v).1 ∨ 8 < (ptV v).2) ∧ wellV v = true) := by
  unfold faultV
  split
  · rename_i h; simp only [h, not_true, false_and, iff_false]; omega
  · rename_i h
    split
    · rename_i h2; simp [h, h2]
    · rename_i h2; simp [h2]

def textR (v : Val) : Res := if faultV v = 0 then .tup [.str (textV v), .nil] else .tup [.str [], errD (faultV v)]

/-- value.Text -/
def L_value_Text : LCode :=
  .seq (.reg [⟨some 1, .box (.t 0), none⟩, ⟨some 2, .asg (.k (.d (.str []))), none⟩, ⟨some 3, .asg (.k (.d .nil)), none⟩]) (.seq (.reg [⟨some 6, .val (.ld true 5 (.t 1)), none⟩, 
  ⟨some 7, .call 56 [.t 6], none⟩, ⟨some 4, .asg (.t 7), none⟩]) (.seq (.seq (.reg [⟨some 8, .val (.cp (.t 4)), none⟩, ⟨some 9, .val (.eqN 0 true (.t 8)), none⟩]) (.cond (.t 9) 
  (.seq (.reg [⟨some 10, .val (.cp (.t 4)), none⟩, ⟨some 2, .asg (.k (.d (.str []))), none⟩, ⟨some 3, .asg (.t 10), none⟩]) .ret) .skip)) (.seq (.reg [⟨some 5, .allo [.nilpT 147, 
  .list []], none⟩]) (.seq (.reg [⟨some 11, .val (.ld true 5 (.t 1)), none⟩, ⟨some 12, .prim .call [.k (.fn (.func 107) [] []), .t 5, .t 11] [], none⟩]) (.seq (.reg [⟨some 13, 
  .prim .call [.k (.fn (.func 100) [] []), .t 5] [], none⟩, ⟨some 2, .asg (.t 13), none⟩, ⟨some 3, .asg (.k (.d .nil)), none⟩]) .ret)))))
def R_value_Text : List LRes := [.tmp 2, .tmp 3]
theorem lift_value_Text : Lifts Tryd.prog 55 14 L_value_Text R_value_Text := ⟨_, _, Tryd.func55, rfl, by kernel_rfl, by kernel_rfl, rfl⟩

theorem textV_call (v : Val) (hsm : v.sm 1048576 = true) : PCall Tryd.prog 55 [v.d] (fun r => r = textR v) := by
  have hc := checkV_call v hsm
  by_cases h0 : faultV v = 0
  · obtain ⟨h1, hw⟩ := faultV_0.1 h0
    have hl := textV_len v hw
    have h2 := write_at _ v .new (Nat.le_refl _) hsm hw (by simp only [Bld.bytes, List.length_nil]; omega)
    have h3 := string_call (.has (textV v)) (by simp only [Bld.bytes]; omega)
    rw [textR, if_pos h0]
    rw [h0, show errD 0 = .nil from rfl] at hc
    rw [Val.d_eq] at *
    refine lift_value_Text.call rfl ?_
    simp (maxSteps := 2000000) only [go_sem, Nat.reduceEqDiff, Nat.reduceBEq, Nat.reduceLT, Nat.reduceLeDiff, Nat.reduceAdd, Nat.reduceSub, Nat.reduceMul, ↓reduceIte, reduceCtorEq, Nat.reduceBNe, Nat.reduceSubDiff, Int.reduceLT, Int.reduceLE, Int.reduceEq, Int.reduceNeg, Int.reduceAdd, Int.reduceMul, Int.reduceSub, Int.reduceToNat, L_value_Text, R_value_Text]
    refine CallG.of hc ?_
    simp (maxSteps := 2000000) only [go_sem, Nat.reduceEqDiff, Nat.reduceBEq, Nat.reduceLT, Nat.reduceLeDiff, Nat.reduceAdd, Nat.reduceSub, Nat.reduceMul, ↓reduceIte, reduceCtorEq, Nat.reduceBNe, Nat.reduceSubDiff, Int.reduceLT, Int.reduceLE, Int.reduceEq, Int.reduceNeg, Int.reduceAdd, Int.reduceMul, Int.reduceSub, Int.reduceToNat]
    simp only [Bld.obj, Bld.said, Bld.bytes] at h3
    refine bldCall (.l 5) rfl (h2) rfl rfl rfl rfl ?_
    simp (maxSteps := 2000000) only [go_sem, Nat.reduceEqDiff, Nat.reduceBEq, Nat.reduceLT, Nat.reduceLeDiff, Nat.reduceAdd, Nat.reduceSub, Nat.reduceMul, ↓reduceIte, reduceCtorEq, Nat.reduceBNe, Nat.reduceSubDiff, Int.reduceLT, Int.reduceLE, Int.reduceEq, Int.reduceNeg, Int.reduceAdd, Int.reduceMul, Int.reduceSub, Int.reduceToNat, Bld.at, Bld.bytes]
    refine PrimG.mcall ([.l 5]) ([]) rfl (h3) rfl rfl (by simp only [objsAt, St.obj, aget, AObj.ren, AV.ren, AV.ren1, renL, ren1L, renR, renQ, List.getD_cons_zero, List.getD_cons_succ, and_true, and_self, Nat.reduceEqDiff, ↓reduceIte, reduceCtorEq]) rfl rfl rfl ⟨rfl, rfl⟩ ?_
    simp (maxSteps := 2000000) only [go_sem, Nat.reduceEqDiff, Nat.reduceBEq, Nat.reduceLT, Nat.reduceLeDiff, Nat.reduceAdd, Nat.reduceSub, Nat.reduceMul, ↓reduceIte, reduceCtorEq, Nat.reduceBNe, Nat.reduceSubDiff, Int.reduceLT, Int.reduceLE, Int.reduceEq, Int.reduceNeg, Int.reduceAdd, Int.reduceMul, Int.reduceSub, Int.reduceToNat]
  · rw [textR, if_neg h0]
    rw [errD_ne h0] at hc ⊢
    rw [Val.d_eq] at *
    refine lift_value_Text.call rfl ?_
    simp (maxSteps := 2000000) only [go_sem, Nat.reduceEqDiff, Nat.reduceBEq, Nat.reduceLT, Nat.reduceLeDiff, Nat.reduceAdd, Nat.reduceSub, Nat.reduceMul, ↓reduceIte, reduceCtorEq, Nat.reduceBNe, Nat.reduceSubDiff, Int.reduceLT, Int.reduceLE, Int.reduceEq, Int.reduceNeg, Int.reduceAdd, Int.reduceMul, Int.reduceSub, Int.reduceToNat, L_value_Text, R_value_Text]
    refine CallG.of hc ?_
    simp (maxSteps := 2000000) only [go_sem, Nat.reduceEqDiff, Nat.reduceBEq, Nat.reduceLT, Nat.reduceLeDiff, Nat.reduceAdd, Nat.reduceSub, Nat.reduceMul, ↓reduceIte, reduceCtorEq, Nat.reduceBNe, Nat.reduceSubDiff, Int.reduceLT, Int.reduceLE, Int.reduceEq, Int.reduceNeg, Int.reduceAdd, Int.reduceMul, Int.reduceSub, Int.reduceToNat]
end Go.Av.Tryd
