import Derived.Test.YtkkdhgibaimboaaDoorEVal8
/- Values of a file: names and strings as the document writes them. -/
set_option linter.unusedSimpArgs false
namespace Go.Av.Tryd
open Go.Proofs

def strB (c : UInt8) : List UInt8 := if c = 40 ∨ c = 41 ∨ c = 92 then [92, c] else if 32 ≤ c.toNat ∧ c.toNat ≤ 126 then [c] else [92, UInt8.ofNat (48 + c.toNat / 64), UInt8.ofNat (48 + c.toNat / 8 % 8), UInt8.ofNat (48 + c.toNat % 8)]
def strP (s : List UInt8) : List UInt8 := s.flatMap strB
theorem strB_length (c : UInt8) : (strB c).length ≤ 4 := by
  unfold strB
  repeat' split
  all_goals simp
theorem strP_length (s : List UInt8) : (strP s).length ≤ 4 * s.length := by
  induction s with
  | nil => simp [strP]
  | cons c s ih =>
    have : strP (c :: s) = strB c ++ strP s := rfl
    rw [this, List.length_append]
    have := strB_length c
    simp only [List.length_cons]
    omega
theorem strP_next {s : List UInt8} {i : Nat} {c : UInt8} (h : s[i]? = some c) : strP (s.take (i + 1)) = strP (s.take i) ++ strB c := by
  simp [strP, take_next h]

theorem and7 (n : Nat) : n &&& 7 = n % 8 := Nat.and_two_pow_sub_one_eq_mod n 3
theorem bytesOf3n (a b c : Nat) : bytesOf [.int .u8 (48 + (a : Int)), .int .u8 (48 + (b : Int)), .int .u8 (48 + (c : Int))] = some [UInt8.ofNat (48 + a), UInt8.ofNat (48 + b), UInt8.ofNat (48 + c)] := by
  have h : ∀ x : Nat, (48 + (x : Int)).toNat = 48 + x := fun x => by omega
  simp only [bytesOf, h, Option.map_some]
theorem bytesOf4n (z : UInt8) (a b c : Nat) : bytesOf [.int .u8 z.toNat, .int .u8 (48 + (a : Int)), .int .u8 (48 + (b : Int)), .int .u8 (48 + (c : Int))] = some [z, UInt8.ofNat (48 + a), UInt8.ofNat (48 + b), UInt8.ofNat (48 + c)] := by
  have h := bytesOf3n a b c
  rw [bytesOf]
  simp only [h, Option.map_some]
  simp

/-- value.str -/
def L_value_str : LCode :=
  .seq (.reg [⟨some 6, .val (.cp (.t 0)), none⟩, ⟨some 7, .prim .call [.k (.fn (.func 138) [] []), .t 6, .k (.d (.int .u8 40))] [], none⟩]) (.seq (.seq (.reg [⟨some 8, .val (.cp (.t 
  1)), none⟩, ⟨some 9, .val (.len true (.t 8)), none⟩, ⟨some 10, .val (.cp (.k (.d (.int .i64 0)))), none⟩]) (.block 0 (.loop (.seq (.reg [⟨some 11, .val (.bin .lss (.t 10) (.t 
  9)), none⟩]) (.seq (.cond (.t 11) .skip (.exit 0)) (.seq (.block 1 (.seq (.reg [⟨some 12, .val (.cp (.t 10)), none⟩, ⟨some 4, .asg (.t 12), none⟩]) (.seq (.reg [⟨some 13, .val 
  (.cp (.t 1)), none⟩, ⟨some 14, .val (.cp (.t 4)), none⟩, ⟨some 15, .val (.idxS (.t 13) (.t 14)), none⟩, ⟨some 5, .asg (.t 15), none⟩]) (.block 2 (.seq (.reg [⟨some 32, .val (.cp 
  (.t 5)), none⟩, ⟨some 33, .val (.bin .eql (.t 32) (.k (.d (.int .u8 40)))), none⟩, ⟨some 34, .val (.cp (.t 33)), none⟩, ⟨some 35, .val (.cp (.t 5)), some (34, false)⟩, ⟨some 36, 
  .val (.bin .eql (.t 35) (.k (.d (.int .u8 41)))), some (34, false)⟩, ⟨some 37, .val (.pick (.t 34) (.k (.d (.bool true))) (.t 36)), none⟩, ⟨some 38, .val (.cp (.t 37)), none⟩, 
  ⟨some 39, .val (.cp (.t 5)), some (38, false)⟩, ⟨some 40, .val (.bin .eql (.t 39) (.k (.d (.int .u8 92)))), some (38, false)⟩, ⟨some 41, .val (.pick (.t 38) (.k (.d (.bool 
  true))) (.t 40)), none⟩, ⟨some 31, .asg (.t 41), none⟩]) (.cond (.t 31) (.reg [⟨some 42, .val (.cp (.t 0)), none⟩, ⟨some 43, .val (.cp (.t 5)), none⟩, ⟨some 44, .val (.cvI .i32 
  (.t 43)), none⟩, ⟨some 45, .val (.i2s (.t 44)), none⟩, ⟨some 46, .val (.bin .add (.k (.d (.str [92]))) (.t 45)), none⟩, ⟨some 47, .prim .call [.k (.fn (.func 97) [] []), .t 42, 
  .t 46] [], none⟩]) (.seq (.reg [⟨some 49, .val (.cp (.t 5)), none⟩, ⟨some 50, .val (.bin .geq (.t 49) (.k (.d (.int .u8 32)))), none⟩, ⟨some 51, .val (.cp (.t 50)), none⟩, ⟨some 
  52, .val (.cp (.t 5)), some (51, true)⟩, ⟨some 53, .val (.bin .leq (.t 52) (.k (.d (.int .u8 126)))), some (51, true)⟩, ⟨some 54, .val (.pick (.t 51) (.t 53) (.k (.d (.bool 
  false)))), none⟩, ⟨some 48, .asg (.t 54), none⟩]) (.cond (.t 48) (.reg [⟨some 55, .val (.cp (.t 0)), none⟩, ⟨some 56, .val (.cp (.t 5)), none⟩, ⟨some 57, .prim .call [.k (.fn 
  (.func 138) [] []), .t 55, .t 56] [], none⟩]) (.reg [⟨some 16, .val (.cp (.t 0)), none⟩, ⟨some 17, .val (.cp (.t 5)), none⟩, ⟨some 18, .val (.bin .shr (.t 17) (.k (.d (.int .u64 
  6)))), none⟩, ⟨some 19, .val (.bin .add (.k (.d (.int .u8 48))) (.t 18)), none⟩, ⟨some 20, .val (.cp (.t 5)), none⟩, ⟨some 21, .val (.bin .shr (.t 20) (.k (.d (.int .u64 3)))), 
  none⟩, ⟨some 22, .val (.bin .and (.t 21) (.k (.d (.int .u8 7)))), none⟩, ⟨some 23, .val (.bin .add (.k (.d (.int .u8 48))) (.t 22)), none⟩, ⟨some 24, .val (.cp (.t 5)), none⟩, 
  ⟨some 25, .val (.bin .and (.t 24) (.k (.d (.int .u8 7)))), none⟩, ⟨some 26, .val (.bin .add (.k (.d (.int .u8 48))) (.t 25)), none⟩, ⟨some 27, .bsl 5 1 [.t 19, .t 23, .t 26], 
  none⟩, ⟨some 28, .val (.b2s (.t 27)), none⟩, ⟨some 29, .val (.bin .add (.k (.d (.str [92]))) (.t 28)), none⟩, ⟨some 30, .prim .call [.k (.fn (.func 97) [] []), .t 16, .t 29] [], 
  none⟩]))))))))) (.reg [⟨some 58, .val (.bin .add (.t 10) (.k (.d (.int .i64 1)))), none⟩, ⟨some 10, .val (.cp (.t 58)), none⟩]))))))) (.reg [⟨some 59, .val (.cp (.t 0)), none⟩, 
  ⟨some 60, .prim .call [.k (.fn (.func 138) [] []), .t 59, .k (.d (.int .u8 41))] [], none⟩]))
def R_value_str : List LRes := []
theorem lift_value_str : Lifts Tryd.prog 142 61 L_value_str R_value_str := ⟨_, _, Tryd.func142, rfl, by kernel_rfl, by kernel_rfl, rfl⟩

theorem str_at (b : Bld) (s : List UInt8) (hl : b.bytes.length + 4 * s.length + 2 ≤ 1000000000) : MCallE Tryd.prog 142 [.ptr (.x 0) 0, .d (.str s)] [b.at (.x 0)] (.tuple []) [Bld.at (.x 0) (.has (b.bytes ++ [40] ++ strP s ++ [41]))] := by
  refine lift_value_str.mcall (by kernel_rfl) rfl ?_
  simp (maxSteps := 2000000) only [go_sem, Nat.reduceEqDiff, Nat.reduceBEq, Nat.reduceLT, Nat.reduceLeDiff, Nat.reduceAdd, Nat.reduceSub, Nat.reduceMul, ↓reduceIte, reduceCtorEq, Nat.reduceBNe, Nat.reduceSubDiff, Int.reduceLT, Int.reduceLE, Int.reduceEq, Int.reduceNeg, Int.reduceAdd, Int.reduceMul, Int.reduceSub, Int.reduceToNat, L_value_str, R_value_str]
  refine bldCall (.x 0) rfl (writeByte_at b 40 (by omega)) rfl rfl rfl rfl ?_
  simp (maxSteps := 2000000) only [go_sem, Nat.reduceEqDiff, Nat.reduceBEq, Nat.reduceLT, Nat.reduceLeDiff, Nat.reduceAdd, Nat.reduceSub, Nat.reduceMul, ↓reduceIte, reduceCtorEq, Nat.reduceBNe, Nat.reduceSubDiff, Int.reduceLT, Int.reduceLE, Int.reduceEq, Int.reduceNeg, Int.reduceAdd, Int.reduceMul, Int.reduceSub, Int.reduceToNat]
  refine run_loop (fun i : Nat => ⟨[(0, .ptr (.x 0) 0), (1, .d (.str s)), (8, .d (.str s)), (9, .d (.int .i64 s.length)), (10, .d (.int .i64 i))], [],
      [(0, Bld.at (.x 0) (.has (b.bytes ++ [40] ++ strP (s.take i))))]⟩)
    (fun i => i ≤ s.length) (fun i => s.length - i) 0 ?_ ?_ ?_
  · refine Weak.mk ?_ ?_ ?_ <;> simp (maxSteps := 2000000) only [go_sem, Nat.reduceEqDiff, Nat.reduceBEq, Nat.reduceLT, Nat.reduceLeDiff, Nat.reduceAdd, Nat.reduceSub, Nat.reduceMul, ↓reduceIte, reduceCtorEq, Nat.reduceBNe, Nat.reduceSubDiff, Int.reduceLT, Int.reduceLE, Int.reduceEq, Int.reduceNeg, Int.reduceAdd, Int.reduceMul, Int.reduceSub, Int.reduceToNat, Sub, Int.natCast_add, Int.natCast_mul, List.take_zero, strP, List.flatMap_nil]
  · omega
  · intro i hi
    have hle := strP_length (s.take i)
    rw [List.length_take] at hle
    simp (maxSteps := 2000000) only [go_sem, Nat.reduceEqDiff, Nat.reduceBEq, Nat.reduceLT, Nat.reduceLeDiff, Nat.reduceAdd, Nat.reduceSub, Nat.reduceMul, ↓reduceIte, reduceCtorEq, Nat.reduceBNe, Nat.reduceSubDiff, Int.reduceLT, Int.reduceLE, Int.reduceEq, Int.reduceNeg, Int.reduceAdd, Int.reduceMul, Int.reduceSub, Int.reduceToNat]
    refine ⟨fun hlt => ?_, fun hge => ?_⟩
    · obtain ⟨c, hc⟩ := get_some (l := s) (i := i) (by omega)
      have hc8 := u8_lt c
      have cc : ∀ k : Nat, c.toNat = k → c = UInt8.ofNat k := fun k h => by rw [← h]; simp
      rcases (by omega : c.toNat = 40 ∨ c.toNat = 41 ∨ c.toNat = 92 ∨ (c.toNat ≠ 40 ∧ c.toNat ≠ 41 ∧ c.toNat ≠ 92 ∧ 32 ≤ c.toNat ∧ c.toNat ≤ 126) ∨ (c.toNat ≠ 40 ∧ c.toNat ≠ 41 ∧ c.toNat ≠ 92 ∧ ¬ (32 ≤ c.toNat ∧ c.toNat ≤ 126))) with q | q | q | q | q
      · have i32 : IntKind.i32.wrap (c.toNat : Int) = c.toNat := IntWalk.i32_in _ (by omega)
        have en : (Utf8.encode (c.toNat : Int)).data.toList = [c] := encode_ascii (by omega)
        have n40 : ((c.toNat : Int) = 40) = True := by simp only [eq_iff_iff, iff_true]; omega
        have n41 : ((c.toNat : Int) = 41) = False := by simp only [eq_iff_iff, iff_false]; omega
        have n92 : ((c.toNat : Int) = 92) = False := by simp only [eq_iff_iff, iff_false]; omega
        simp (maxSteps := 2000000) (disch := omega) only [go_sem, Nat.reduceEqDiff, Nat.reduceBEq, Nat.reduceLT, Nat.reduceLeDiff, Nat.reduceAdd, Nat.reduceSub, Nat.reduceMul, ↓reduceIte, reduceCtorEq, Nat.reduceBNe, Nat.reduceSubDiff, Int.reduceLT, Int.reduceLE, Int.reduceEq, Int.reduceNeg, Int.reduceAdd, Int.reduceMul, Int.reduceSub, Int.reduceToNat, getI_nat s, hc, n40, n41, n92, i32, en]
        refine bldCall (.x 0) rfl (writeString_at (.has (b.bytes ++ [40] ++ strP (s.take i))) [92, c] (by simp only [Bld.bytes_has, List.length_append, List.length_cons, List.length_nil]; omega)) rfl rfl rfl rfl ?_
        simp (maxSteps := 2000000) (disch := omega) only [go_sem, Nat.reduceEqDiff, Nat.reduceBEq, Nat.reduceLT, Nat.reduceLeDiff, Nat.reduceAdd, Nat.reduceSub, Nat.reduceMul, ↓reduceIte, reduceCtorEq, Nat.reduceBNe, Nat.reduceSubDiff, Int.reduceLT, Int.reduceLE, Int.reduceEq, Int.reduceNeg, Int.reduceAdd, Int.reduceMul, Int.reduceSub, Int.reduceToNat]
        refine ⟨i + 1, ?_, by omega, by omega⟩
        have hb : strB c = [92, c] := by rw [cc _ q]; rfl
        refine Weak.mk ?_ ?_ ?_ <;> simp (maxSteps := 2000000) only [go_sem, Nat.reduceEqDiff, Nat.reduceBEq, Nat.reduceLT, Nat.reduceLeDiff, Nat.reduceAdd, Nat.reduceSub, Nat.reduceMul, ↓reduceIte, reduceCtorEq, Nat.reduceBNe, Nat.reduceSubDiff, Int.reduceLT, Int.reduceLE, Int.reduceEq, Int.reduceNeg, Int.reduceAdd, Int.reduceMul, Int.reduceSub, Int.reduceToNat, Sub, Int.natCast_add, Int.natCast_mul, strP_next hc, Bld.bytes_has, hb, List.append_assoc]
      · have i32 : IntKind.i32.wrap (c.toNat : Int) = c.toNat := IntWalk.i32_in _ (by omega)
        have en : (Utf8.encode (c.toNat : Int)).data.toList = [c] := encode_ascii (by omega)
        have n40 : ((c.toNat : Int) = 40) = False := by simp only [eq_iff_iff, iff_false]; omega
        have n41 : ((c.toNat : Int) = 41) = True := by simp only [eq_iff_iff, iff_true]; omega
        have n92 : ((c.toNat : Int) = 92) = False := by simp only [eq_iff_iff, iff_false]; omega
        simp (maxSteps := 2000000) (disch := omega) only [go_sem, Nat.reduceEqDiff, Nat.reduceBEq, Nat.reduceLT, Nat.reduceLeDiff, Nat.reduceAdd, Nat.reduceSub, Nat.reduceMul, ↓reduceIte, reduceCtorEq, Nat.reduceBNe, Nat.reduceSubDiff, Int.reduceLT, Int.reduceLE, Int.reduceEq, Int.reduceNeg, Int.reduceAdd, Int.reduceMul, Int.reduceSub, Int.reduceToNat, getI_nat s, hc, n40, n41, n92, i32, en]
        refine bldCall (.x 0) rfl (writeString_at (.has (b.bytes ++ [40] ++ strP (s.take i))) [92, c] (by simp only [Bld.bytes_has, List.length_append, List.length_cons, List.length_nil]; omega)) rfl rfl rfl rfl ?_
        simp (maxSteps := 2000000) (disch := omega) only [go_sem, Nat.reduceEqDiff, Nat.reduceBEq, Nat.reduceLT, Nat.reduceLeDiff, Nat.reduceAdd, Nat.reduceSub, Nat.reduceMul, ↓reduceIte, reduceCtorEq, Nat.reduceBNe, Nat.reduceSubDiff, Int.reduceLT, Int.reduceLE, Int.reduceEq, Int.reduceNeg, Int.reduceAdd, Int.reduceMul, Int.reduceSub, Int.reduceToNat]
        refine ⟨i + 1, ?_, by omega, by omega⟩
        have hb : strB c = [92, c] := by rw [cc _ q]; rfl
        refine Weak.mk ?_ ?_ ?_ <;> simp (maxSteps := 2000000) only [go_sem, Nat.reduceEqDiff, Nat.reduceBEq, Nat.reduceLT, Nat.reduceLeDiff, Nat.reduceAdd, Nat.reduceSub, Nat.reduceMul, ↓reduceIte, reduceCtorEq, Nat.reduceBNe, Nat.reduceSubDiff, Int.reduceLT, Int.reduceLE, Int.reduceEq, Int.reduceNeg, Int.reduceAdd, Int.reduceMul, Int.reduceSub, Int.reduceToNat, Sub, Int.natCast_add, Int.natCast_mul, strP_next hc, Bld.bytes_has, hb, List.append_assoc]
      · have i32 : IntKind.i32.wrap (c.toNat : Int) = c.toNat := IntWalk.i32_in _ (by omega)
        have en : (Utf8.encode (c.toNat : Int)).data.toList = [c] := encode_ascii (by omega)
        have n40 : ((c.toNat : Int) = 40) = False := by simp only [eq_iff_iff, iff_false]; omega
        have n41 : ((c.toNat : Int) = 41) = False := by simp only [eq_iff_iff, iff_false]; omega
        have n92 : ((c.toNat : Int) = 92) = True := by simp only [eq_iff_iff, iff_true]; omega
        simp (maxSteps := 2000000) (disch := omega) only [go_sem, Nat.reduceEqDiff, Nat.reduceBEq, Nat.reduceLT, Nat.reduceLeDiff, Nat.reduceAdd, Nat.reduceSub, Nat.reduceMul, ↓reduceIte, reduceCtorEq, Nat.reduceBNe, Nat.reduceSubDiff, Int.reduceLT, Int.reduceLE, Int.reduceEq, Int.reduceNeg, Int.reduceAdd, Int.reduceMul, Int.reduceSub, Int.reduceToNat, getI_nat s, hc, n40, n41, n92, i32, en]
        refine bldCall (.x 0) rfl (writeString_at (.has (b.bytes ++ [40] ++ strP (s.take i))) [92, c] (by simp only [Bld.bytes_has, List.length_append, List.length_cons, List.length_nil]; omega)) rfl rfl rfl rfl ?_
        simp (maxSteps := 2000000) (disch := omega) only [go_sem, Nat.reduceEqDiff, Nat.reduceBEq, Nat.reduceLT, Nat.reduceLeDiff, Nat.reduceAdd, Nat.reduceSub, Nat.reduceMul, ↓reduceIte, reduceCtorEq, Nat.reduceBNe, Nat.reduceSubDiff, Int.reduceLT, Int.reduceLE, Int.reduceEq, Int.reduceNeg, Int.reduceAdd, Int.reduceMul, Int.reduceSub, Int.reduceToNat]
        refine ⟨i + 1, ?_, by omega, by omega⟩
        have hb : strB c = [92, c] := by rw [cc _ q]; rfl
        refine Weak.mk ?_ ?_ ?_ <;> simp (maxSteps := 2000000) only [go_sem, Nat.reduceEqDiff, Nat.reduceBEq, Nat.reduceLT, Nat.reduceLeDiff, Nat.reduceAdd, Nat.reduceSub, Nat.reduceMul, ↓reduceIte, reduceCtorEq, Nat.reduceBNe, Nat.reduceSubDiff, Int.reduceLT, Int.reduceLE, Int.reduceEq, Int.reduceNeg, Int.reduceAdd, Int.reduceMul, Int.reduceSub, Int.reduceToNat, Sub, Int.natCast_add, Int.natCast_mul, strP_next hc, Bld.bytes_has, hb, List.append_assoc]
      · obtain ⟨q1, q2, q3, q4, q5⟩ := q
        have n40 : ((c.toNat : Int) = 40) = False := by simp only [eq_iff_iff, iff_false]; omega
        have n41 : ((c.toNat : Int) = 41) = False := by simp only [eq_iff_iff, iff_false]; omega
        have n92 : ((c.toNat : Int) = 92) = False := by simp only [eq_iff_iff, iff_false]; omega
        have L32 : ((32 : Int) ≤ c.toNat) = True := by simp only [eq_iff_iff, iff_true]; omega
        have G126 : ((c.toNat : Int) ≤ 126) = True := by simp only [eq_iff_iff, iff_true]; omega
        simp (maxSteps := 2000000) (disch := omega) only [go_sem, Nat.reduceEqDiff, Nat.reduceBEq, Nat.reduceLT, Nat.reduceLeDiff, Nat.reduceAdd, Nat.reduceSub, Nat.reduceMul, ↓reduceIte, reduceCtorEq, Nat.reduceBNe, Nat.reduceSubDiff, Int.reduceLT, Int.reduceLE, Int.reduceEq, Int.reduceNeg, Int.reduceAdd, Int.reduceMul, Int.reduceSub, Int.reduceToNat, getI_nat s, hc, n40, n41, n92, L32, G126]
        refine bldCall (.x 0) rfl (writeByte_at (.has (b.bytes ++ [40] ++ strP (s.take i))) c (by simp only [Bld.bytes_has, List.length_append, List.length_cons, List.length_nil]; omega)) rfl rfl rfl rfl ?_
        simp (maxSteps := 2000000) (disch := omega) only [go_sem, Nat.reduceEqDiff, Nat.reduceBEq, Nat.reduceLT, Nat.reduceLeDiff, Nat.reduceAdd, Nat.reduceSub, Nat.reduceMul, ↓reduceIte, reduceCtorEq, Nat.reduceBNe, Nat.reduceSubDiff, Int.reduceLT, Int.reduceLE, Int.reduceEq, Int.reduceNeg, Int.reduceAdd, Int.reduceMul, Int.reduceSub, Int.reduceToNat]
        refine ⟨i + 1, ?_, by omega, by omega⟩
        have hb : strB c = [c] := by
          have z : ¬ (c = 40 ∨ c = 41 ∨ c = 92) := by
            rintro (rfl | rfl | rfl)
            · exact q1 rfl
            · exact q2 rfl
            · exact q3 rfl
          simp [strB, z, q4, q5]
        refine Weak.mk ?_ ?_ ?_ <;> simp (maxSteps := 2000000) only [go_sem, Nat.reduceEqDiff, Nat.reduceBEq, Nat.reduceLT, Nat.reduceLeDiff, Nat.reduceAdd, Nat.reduceSub, Nat.reduceMul, ↓reduceIte, reduceCtorEq, Nat.reduceBNe, Nat.reduceSubDiff, Int.reduceLT, Int.reduceLE, Int.reduceEq, Int.reduceNeg, Int.reduceAdd, Int.reduceMul, Int.reduceSub, Int.reduceToNat, Sub, Int.natCast_add, Int.natCast_mul, strP_next hc, Bld.bytes_has, hb, List.append_assoc]
      · obtain ⟨q1, q2, q3, q4⟩ := q
        have e1 : Int.fdiv (c.toNat : Int) (2 ^ min 6 IntKind.u8.bits) = ((c.toNat / 64 : Nat) : Int) := shr_u8 c.toNat 6
        have e2 : Int.fdiv (c.toNat : Int) (2 ^ min 3 IntKind.u8.bits) = ((c.toNat / 8 : Nat) : Int) := shr_u8 c.toNat 3
        have e3 : IntKind.u8.wrap (((BitVec.ofInt IntKind.u8.bits ((c.toNat / 8 : Nat) : Int) &&& BitVec.ofInt IntKind.u8.bits 7).toNat : Nat) : Int) = ((c.toNat / 8 % 8 : Nat) : Int) := by
          rw [← and7]; exact and_u8 (m := 7) (by omega) (by decide)
        have e4 : IntKind.u8.wrap (((BitVec.ofInt IntKind.u8.bits (c.toNat : Int) &&& BitVec.ofInt IntKind.u8.bits 7).toNat : Nat) : Int) = ((c.toNat % 8 : Nat) : Int) := by
          rw [← and7]; exact and_u8 (m := 7) hc8 (by decide)
        have hb : strB c = [92, UInt8.ofNat (48 + c.toNat / 64), UInt8.ofNat (48 + c.toNat / 8 % 8), UInt8.ofNat (48 + c.toNat % 8)] := by
          have z : ¬ (c = 40 ∨ c = 41 ∨ c = 92) := by
            rintro (rfl | rfl | rfl)
            · exact q1 rfl
            · exact q2 rfl
            · exact q3 rfl
          unfold strB
          rw [if_neg z, if_neg q4]
        rcases (by omega : ¬ 32 ≤ c.toNat ∨ (32 ≤ c.toNat ∧ ¬ c.toNat ≤ 126)) with r | r
        · skip
          have n40 : ((c.toNat : Int) = 40) = False := by simp only [eq_iff_iff, iff_false]; omega
          have n41 : ((c.toNat : Int) = 41) = False := by simp only [eq_iff_iff, iff_false]; omega
          have n92 : ((c.toNat : Int) = 92) = False := by simp only [eq_iff_iff, iff_false]; omega
          have L32 : ((32 : Int) ≤ c.toNat) = False := by simp only [eq_iff_iff, iff_false]; omega
          simp (maxSteps := 2000000) (disch := omega) only [run_skip, run_reg, run_dreg, run_seq, run_cond, run_block, run_exit, run_ret, pop_code, pop_goal, pop_blk, pop_nil, pop_ret_code, pop_ret_goal, pop_ret_blk, pop_exit_code, pop_exit_goal, pop_exit_blk, run_dead, pop_dead, pop_ret_dead, pop_exit_dead, St.dead, adelL, adel, ops_nil, ops_val, ops_asg, ops_nils, ops_box, ops_allo, ops_app, ops_bsl, ops_st, ops_sla, ops_call, ops_guard, dps_nil, dps_val, dps_asg, dps_nils, dps_box, dps_allo, dps_app, appD, dps_bsl, dps_st, dps_sla, dps_call, dps_guard, pev, St.ev, St.get, St.put, acons, St.mark, St.obj, St.setObj, aget, aset, amap, initρ, asgS, nilS, newO, newB, boxS, dnsL, appS, bslS, bspS, slaS, List.all_cons, List.all_nil, List.any_cons, List.any_nil, Bool.or_false, Bool.false_or, Bool.true_or, Bool.or_true, Bool.or_self, stS, stD, setA, St.erase, St.drop, AV.erase, AV.rename, AV.drop, AV.has, AV.isPtr, dropObj, srcL, evL, evP, evO, rdAll, rdL, allSz, fLd, fLdX, fLdA, AV.nsr, AV.rd1, rd1L, fIaR, fIaD, AV.solid, solidN, List.all, dps_primC, chkK_cons, chkK_nil, exists_eq_left', AV.locFree, fLdP, fFa, fIa, fIaA, fFld, fillD, lookP, setR, fExt, AV.simple, fMkI, fAsT, fNck, fEqB, fEqS, eqCs, eqC, fEqN, okN, fNil, isNil, fNot, fNeg, fCvI, fI2s, fIdxS, fSubS, fSub, loOf, hiOf, fLen, fLenK, fMm, fPick, fB, fB2s, fMkF, allSimple, hasLocal, isLocal, binD, binI, binS, AV.rd, D.cells, D.one, Res.av, putO, PutG_some, PutG_if, PutG_if', PutG_mif, StG_some, StG_if, BoolG_d, GuardG_d, GuardR_d, GuardR_u, IteG, Classical.not_not, retK_ret, retK_normal, RetG_some, resS, resL, resV, mkRes, Nat.reduceEqDiff, Nat.reduceBEq, Nat.reduceLT, Nat.reduceLeDiff, Nat.reduceAdd, Nat.reduceSub, Nat.reduceMul, Nat.zero_add, ↓reduceIte, Option.getD_some, Option.getD_none, Option.map_some, Option.map_none, Option.some.injEq, reduceCtorEq, Bool.not_true, Bool.not_false, Bool.not_eq_true', Bool.not_eq_false', decide_eq_true_eq, decide_eq_false_iff_not, decide_true, decide_false, true_implies, false_implies, true_and, and_true, and_self, implies_true, List.length_cons, List.length_nil, List.set_cons_zero, List.set_cons_succ, List.getElem?_cons_zero, List.getElem?_cons_succ, List.take_succ_cons, List.take_zero, List.drop_succ_cons, List.drop_zero, List.take_nil, List.drop_nil, List.map_cons, List.map_nil, List.cons_append, List.nil_append, List.append_nil, beq_self_eq_true, Bool.and_true, Bool.true_and, Bool.false_and, Bool.and_false, Lab.t.injEq, Lab.c.injEq, Ref.l.injEq, Ref.x.injEq, Bool.false_eq_true, Bool.true_eq_false, eq_self_iff_true, if_true, if_false, Bool.not_eq_true, Bool.not_eq_false, and_false, false_and, or_true, true_or, or_false, false_or, ne_eq, not_true_eq_false, not_false_eq_true, beq_iff_eq, Nat.reduceBNe, Nat.le_refl, Nat.reduceSubDiff, Int.reduceLT, gt_iff_lt, Int.reduceLE, Int.reduceEq, Int.reduceNeg, Int.reduceAdd, Int.reduceMul, Int.reduceSub, Int.reduceToNat, Int.toNat_zero, Int.toNat_one, Int.natCast_zero, Int.cast_ofNat_Int, Int.natCast_one, IntWalk.i64_in, IntWalk.u8_in, ops_prim, dps_prim, retM_normal, retM_ret, RetM_some, resR, resOwn, resAL, resA, okRes, mkA, objsOf, passA, amod, AV.den, AV.pub, passI, passQ, labsQ, eraseL, nsD, retO, backS, setObjs, AObj.ren, AV.ren, AV.ren1, renL, ren1L, renR, renQ, AV.unown, memR, List.getD_cons_zero, List.getD_cons_succ, initA, numO, AV.wf, AV.wf1, wfL, wf1L, wfR, Bool.and_self, decide_true, getI_nat s, hc, n40, n41, n92, L32, e1, e2, e3, e4, bytesOf3n]
          refine bldCall (.x 0) rfl (writeString_at (.has (b.bytes ++ [40] ++ strP (s.take i))) [92, UInt8.ofNat (48 + c.toNat / 64), UInt8.ofNat (48 + c.toNat / 8 % 8), UInt8.ofNat (48 + c.toNat % 8)] (by simp only [Bld.bytes_has, List.length_append, List.length_cons, List.length_nil]; omega)) rfl rfl rfl rfl ?_
          simp (maxSteps := 2000000) (disch := omega) only [go_sem, Nat.reduceEqDiff, Nat.reduceBEq, Nat.reduceLT, Nat.reduceLeDiff, Nat.reduceAdd, Nat.reduceSub, Nat.reduceMul, ↓reduceIte, reduceCtorEq, Nat.reduceBNe, Nat.reduceSubDiff, Int.reduceLT, Int.reduceLE, Int.reduceEq, Int.reduceNeg, Int.reduceAdd, Int.reduceMul, Int.reduceSub, Int.reduceToNat]
          refine ⟨i + 1, ?_, by omega, by omega⟩
          refine Weak.mk ?_ ?_ ?_ <;> simp (maxSteps := 2000000) only [go_sem, Nat.reduceEqDiff, Nat.reduceBEq, Nat.reduceLT, Nat.reduceLeDiff, Nat.reduceAdd, Nat.reduceSub, Nat.reduceMul, ↓reduceIte, reduceCtorEq, Nat.reduceBNe, Nat.reduceSubDiff, Int.reduceLT, Int.reduceLE, Int.reduceEq, Int.reduceNeg, Int.reduceAdd, Int.reduceMul, Int.reduceSub, Int.reduceToNat, Sub, Int.natCast_add, Int.natCast_mul, strP_next hc, Bld.bytes_has, hb, List.append_assoc]
        · skip
          have n40 : ((c.toNat : Int) = 40) = False := by simp only [eq_iff_iff, iff_false]; omega
          have n41 : ((c.toNat : Int) = 41) = False := by simp only [eq_iff_iff, iff_false]; omega
          have n92 : ((c.toNat : Int) = 92) = False := by simp only [eq_iff_iff, iff_false]; omega
          have L32 : ((32 : Int) ≤ c.toNat) = True := by simp only [eq_iff_iff, iff_true]; omega
          have G126 : ((c.toNat : Int) ≤ 126) = False := by simp only [eq_iff_iff, iff_false]; omega
          simp (maxSteps := 2000000) (disch := omega) only [run_skip, run_reg, run_dreg, run_seq, run_cond, run_block, run_exit, run_ret, pop_code, pop_goal, pop_blk, pop_nil, pop_ret_code, pop_ret_goal, pop_ret_blk, pop_exit_code, pop_exit_goal, pop_exit_blk, run_dead, pop_dead, pop_ret_dead, pop_exit_dead, St.dead, adelL, adel, ops_nil, ops_val, ops_asg, ops_nils, ops_box, ops_allo, ops_app, ops_bsl, ops_st, ops_sla, ops_call, ops_guard, dps_nil, dps_val, dps_asg, dps_nils, dps_box, dps_allo, dps_app, appD, dps_bsl, dps_st, dps_sla, dps_call, dps_guard, pev, St.ev, St.get, St.put, acons, St.mark, St.obj, St.setObj, aget, aset, amap, initρ, asgS, nilS, newO, newB, boxS, dnsL, appS, bslS, bspS, slaS, List.all_cons, List.all_nil, List.any_cons, List.any_nil, Bool.or_false, Bool.false_or, Bool.true_or, Bool.or_true, Bool.or_self, stS, stD, setA, St.erase, St.drop, AV.erase, AV.rename, AV.drop, AV.has, AV.isPtr, dropObj, srcL, evL, evP, evO, rdAll, rdL, allSz, fLd, fLdX, fLdA, AV.nsr, AV.rd1, rd1L, fIaR, fIaD, AV.solid, solidN, List.all, dps_primC, chkK_cons, chkK_nil, exists_eq_left', AV.locFree, fLdP, fFa, fIa, fIaA, fFld, fillD, lookP, setR, fExt, AV.simple, fMkI, fAsT, fNck, fEqB, fEqS, eqCs, eqC, fEqN, okN, fNil, isNil, fNot, fNeg, fCvI, fI2s, fIdxS, fSubS, fSub, loOf, hiOf, fLen, fLenK, fMm, fPick, fB, fB2s, fMkF, allSimple, hasLocal, isLocal, binD, binI, binS, AV.rd, D.cells, D.one, Res.av, putO, PutG_some, PutG_if, PutG_if', PutG_mif, StG_some, StG_if, BoolG_d, GuardG_d, GuardR_d, GuardR_u, IteG, Classical.not_not, retK_ret, retK_normal, RetG_some, resS, resL, resV, mkRes, Nat.reduceEqDiff, Nat.reduceBEq, Nat.reduceLT, Nat.reduceLeDiff, Nat.reduceAdd, Nat.reduceSub, Nat.reduceMul, Nat.zero_add, ↓reduceIte, Option.getD_some, Option.getD_none, Option.map_some, Option.map_none, Option.some.injEq, reduceCtorEq, Bool.not_true, Bool.not_false, Bool.not_eq_true', Bool.not_eq_false', decide_eq_true_eq, decide_eq_false_iff_not, decide_true, decide_false, true_implies, false_implies, true_and, and_true, and_self, implies_true, List.length_cons, List.length_nil, List.set_cons_zero, List.set_cons_succ, List.getElem?_cons_zero, List.getElem?_cons_succ, List.take_succ_cons, List.take_zero, List.drop_succ_cons, List.drop_zero, List.take_nil, List.drop_nil, List.map_cons, List.map_nil, List.cons_append, List.nil_append, List.append_nil, beq_self_eq_true, Bool.and_true, Bool.true_and, Bool.false_and, Bool.and_false, Lab.t.injEq, Lab.c.injEq, Ref.l.injEq, Ref.x.injEq, Bool.false_eq_true, Bool.true_eq_false, eq_self_iff_true, if_true, if_false, Bool.not_eq_true, Bool.not_eq_false, and_false, false_and, or_true, true_or, or_false, false_or, ne_eq, not_true_eq_false, not_false_eq_true, beq_iff_eq, Nat.reduceBNe, Nat.le_refl, Nat.reduceSubDiff, Int.reduceLT, gt_iff_lt, Int.reduceLE, Int.reduceEq, Int.reduceNeg, Int.reduceAdd, Int.reduceMul, Int.reduceSub, Int.reduceToNat, Int.toNat_zero, Int.toNat_one, Int.natCast_zero, Int.cast_ofNat_Int, Int.natCast_one, IntWalk.i64_in, IntWalk.u8_in, ops_prim, dps_prim, retM_normal, retM_ret, RetM_some, resR, resOwn, resAL, resA, okRes, mkA, objsOf, passA, amod, AV.den, AV.pub, passI, passQ, labsQ, eraseL, nsD, retO, backS, setObjs, AObj.ren, AV.ren, AV.ren1, renL, ren1L, renR, renQ, AV.unown, memR, List.getD_cons_zero, List.getD_cons_succ, initA, numO, AV.wf, AV.wf1, wfL, wf1L, wfR, Bool.and_self, decide_true, getI_nat s, hc, n40, n41, n92, L32, G126, e1, e2, e3, e4, bytesOf3n]
          refine bldCall (.x 0) rfl (writeString_at (.has (b.bytes ++ [40] ++ strP (s.take i))) [92, UInt8.ofNat (48 + c.toNat / 64), UInt8.ofNat (48 + c.toNat / 8 % 8), UInt8.ofNat (48 + c.toNat % 8)] (by simp only [Bld.bytes_has, List.length_append, List.length_cons, List.length_nil]; omega)) rfl rfl rfl rfl ?_
          simp (maxSteps := 2000000) (disch := omega) only [go_sem, Nat.reduceEqDiff, Nat.reduceBEq, Nat.reduceLT, Nat.reduceLeDiff, Nat.reduceAdd, Nat.reduceSub, Nat.reduceMul, ↓reduceIte, reduceCtorEq, Nat.reduceBNe, Nat.reduceSubDiff, Int.reduceLT, Int.reduceLE, Int.reduceEq, Int.reduceNeg, Int.reduceAdd, Int.reduceMul, Int.reduceSub, Int.reduceToNat]
          refine ⟨i + 1, ?_, by omega, by omega⟩
          refine Weak.mk ?_ ?_ ?_ <;> simp (maxSteps := 2000000) only [go_sem, Nat.reduceEqDiff, Nat.reduceBEq, Nat.reduceLT, Nat.reduceLeDiff, Nat.reduceAdd, Nat.reduceSub, Nat.reduceMul, ↓reduceIte, reduceCtorEq, Nat.reduceBNe, Nat.reduceSubDiff, Int.reduceLT, Int.reduceLE, Int.reduceEq, Int.reduceNeg, Int.reduceAdd, Int.reduceMul, Int.reduceSub, Int.reduceToNat, Sub, Int.natCast_add, Int.natCast_mul, strP_next hc, Bld.bytes_has, hb, List.append_assoc]
    · have hll := strP_length s
      rw [List.take_of_length_le (by omega)]
      refine bldCall (.x 0) rfl (writeByte_at (.has (b.bytes ++ [40] ++ strP s)) 41 (by simp only [Bld.bytes_has, List.length_append, List.length_cons, List.length_nil]; omega)) rfl rfl rfl rfl ?_
      simp (maxSteps := 2000000) only [go_sem, Nat.reduceEqDiff, Nat.reduceBEq, Nat.reduceLT, Nat.reduceLeDiff, Nat.reduceAdd, Nat.reduceSub, Nat.reduceMul, ↓reduceIte, reduceCtorEq, Nat.reduceBNe, Nat.reduceSubDiff, Int.reduceLT, Int.reduceLE, Int.reduceEq, Int.reduceNeg, Int.reduceAdd, Int.reduceMul, Int.reduceSub, Int.reduceToNat, Bld.bytes_has]

/-- foliowrightref.NameText -/
def L_foliowrightref_NameText : LCode :=
  .seq (.reg [⟨some 2, .asg (.k (.d (.str []))), none⟩]) (.seq (.reg [⟨some 3, .asg (.k (.d (.str [47]))), none⟩]) (.seq (.seq (.reg [⟨some 4, .asg (.k (.d (.int .i64 0))), none⟩]) 
  (.block 0 (.loop (.seq (.seq (.reg [⟨some 7, .val (.cp (.t 4)), none⟩, ⟨some 8, .val (.cp (.t 0)), none⟩, ⟨some 9, .val (.len true (.t 8)), none⟩, ⟨some 10, .val (.bin .lss (.t 
  7) (.t 9)), none⟩]) (.cond (.t 10) .skip (.exit 0))) (.seq (.block 1 (.seq (.reg [⟨some 13, .val (.cp (.t 0)), none⟩, ⟨some 14, .val (.cp (.t 4)), none⟩, ⟨some 15, .val (.idxS 
  (.t 13) (.t 14)), none⟩, ⟨some 5, .asg (.t 15), none⟩]) (.seq (.reg [⟨some 16, .val (.cp (.t 5)), none⟩, ⟨some 17, .val (.bin .eql (.t 16) (.k (.d (.int .u8 40)))), none⟩, ⟨some 
  18, .val (.cp (.t 17)), none⟩, ⟨some 19, .val (.cp (.t 5)), some (18, false)⟩, ⟨some 20, .val (.bin .eql (.t 19) (.k (.d (.int .u8 41)))), some (18, false)⟩, ⟨some 21, .val 
  (.pick (.t 18) (.k (.d (.bool true))) (.t 20)), none⟩, ⟨some 22, .val (.cp (.t 21)), none⟩, ⟨some 23, .val (.cp (.t 5)), some (22, false)⟩, ⟨some 24, .val (.bin .eql (.t 23) (.k 
  (.d (.int .u8 60)))), some (22, false)⟩, ⟨some 25, .val (.pick (.t 22) (.k (.d (.bool true))) (.t 24)), none⟩, ⟨some 26, .val (.cp (.t 25)), none⟩, ⟨some 27, .val (.cp (.t 5)), 
  some (26, false)⟩, ⟨some 28, .val (.bin .eql (.t 27) (.k (.d (.int .u8 62)))), some (26, false)⟩, ⟨some 29, .val (.pick (.t 26) (.k (.d (.bool true))) (.t 28)), none⟩, ⟨some 30, 
  .val (.cp (.t 29)), none⟩, ⟨some 31, .val (.cp (.t 5)), some (30, false)⟩, ⟨some 32, .val (.bin .eql (.t 31) (.k (.d (.int .u8 91)))), some (30, false)⟩, ⟨some 33, .val (.pick 
  (.t 30) (.k (.d (.bool true))) (.t 32)), none⟩, ⟨some 34, .val (.cp (.t 33)), none⟩, ⟨some 35, .val (.cp (.t 5)), some (34, false)⟩, ⟨some 36, .val (.bin .eql (.t 35) (.k (.d 
  (.int .u8 93)))), some (34, false)⟩, ⟨some 37, .val (.pick (.t 34) (.k (.d (.bool true))) (.t 36)), none⟩, ⟨some 38, .val (.cp (.t 37)), none⟩, ⟨some 39, .val (.cp (.t 5)), some 
  (38, false)⟩, ⟨some 40, .val (.bin .eql (.t 39) (.k (.d (.int .u8 123)))), some (38, false)⟩, ⟨some 41, .val (.pick (.t 38) (.k (.d (.bool true))) (.t 40)), none⟩, ⟨some 42, .val 
  (.cp (.t 41)), none⟩, ⟨some 43, .val (.cp (.t 5)), some (42, false)⟩, ⟨some 44, .val (.bin .eql (.t 43) (.k (.d (.int .u8 125)))), some (42, false)⟩, ⟨some 45, .val (.pick (.t 
  42) (.k (.d (.bool true))) (.t 44)), none⟩, ⟨some 46, .val (.cp (.t 45)), none⟩, ⟨some 47, .val (.cp (.t 5)), some (46, false)⟩, ⟨some 48, .val (.bin .eql (.t 47) (.k (.d (.int 
  .u8 47)))), some (46, false)⟩, ⟨some 49, .val (.pick (.t 46) (.k (.d (.bool true))) (.t 48)), none⟩, ⟨some 50, .val (.cp (.t 49)), none⟩, ⟨some 51, .val (.cp (.t 5)), some (50, 
  false)⟩, ⟨some 52, .val (.bin .eql (.t 51) (.k (.d (.int .u8 37)))), some (50, false)⟩, ⟨some 53, .val (.pick (.t 50) (.k (.d (.bool true))) (.t 52)), none⟩, ⟨some 54, .val (.cp 
  (.t 53)), none⟩, ⟨some 55, .val (.cp (.t 5)), some (54, false)⟩, ⟨some 56, .val (.bin .eql (.t 55) (.k (.d (.int .u8 35)))), some (54, false)⟩, ⟨some 57, .val (.pick (.t 54) (.k 
  (.d (.bool true))) (.t 56)), none⟩, ⟨some 6, .asg (.t 57), none⟩]) (.seq (.reg [⟨some 58, .val (.cp (.t 5)), none⟩, ⟨some 59, .val (.bin .gtr (.t 58) (.k (.d (.int .u8 32)))), 
  none⟩, ⟨some 60, .val (.cp (.t 59)), none⟩, ⟨some 61, .val (.cp (.t 5)), some (60, true)⟩, ⟨some 62, .val (.bin .lss (.t 61) (.k (.d (.int .u8 127)))), some (60, true)⟩, ⟨some 
  63, .val (.pick (.t 60) (.t 62) (.k (.d (.bool false)))), none⟩, ⟨some 64, .val (.cp (.t 63)), none⟩, ⟨some 65, .val (.cp (.t 6)), some (64, true)⟩, ⟨some 66, .val (.not (.t 
  65)), some (64, true)⟩, ⟨some 67, .val (.pick (.t 64) (.t 66) (.k (.d (.bool false)))), none⟩]) (.cond (.t 67) (.reg [⟨some 68, .val (.cp (.t 3)), none⟩, ⟨some 69, .val (.cp (.t 
  5)), none⟩, ⟨some 70, .bsl 5 1 [.t 69], none⟩, ⟨some 71, .val (.b2s (.t 70)), none⟩, ⟨some 72, .val (.bin .add (.t 68) (.t 71)), none⟩, ⟨some 3, .asg (.t 72), none⟩]) (.dreg 
  [⟨some 73, .val (.cp (.t 3)), none⟩, ⟨some 74, .val (.cp (.t 5)), none⟩, ⟨some 75, .val (.bin .quo (.t 74) (.k (.d (.int .u8 16)))), none⟩, ⟨some 76, .val (.idxS (.k (.d (.str 
  [48, 49, 50, 51, 52, 53, 54, 55, 56, 57, 65, 66, 67, 68, 69, 70]))) (.t 75)), none⟩, ⟨some 77, .val (.cp (.t 5)), none⟩, ⟨some 78, .val (.bin .rem (.t 77) (.k (.d (.int .u8 
  16)))), none⟩, ⟨some 79, .val (.idxS (.k (.d (.str [48, 49, 50, 51, 52, 53, 54, 55, 56, 57, 65, 66, 67, 68, 69, 70]))) (.t 78)), none⟩, ⟨some 80, .bsl 5 1 [.k (.d (.int .u8 35)), 
  .t 76, .t 79], none⟩, ⟨some 81, .val (.b2s (.t 80)), none⟩, ⟨some 82, .val (.bin .add (.t 73) (.t 81)), none⟩, ⟨some 3, .asg (.t 82), none⟩])))))) (.reg [⟨some 11, .val (.cp (.t 
  4)), none⟩, ⟨some 12, .val (.bin .add (.t 11) (.k (.d (.int .i64 1)))), none⟩, ⟨some 4, .asg (.t 12), none⟩])))))) (.seq (.reg [⟨some 83, .val (.cp (.t 3)), none⟩, ⟨some 2, .asg 
  (.t 83), none⟩]) .ret)))
def R_foliowrightref_NameText : List LRes := [.tmp 2]
theorem lift_foliowrightref_NameText : Lifts Tryd.prog 111 84 L_foliowrightref_NameText R_foliowrightref_NameText := ⟨_, _, Tryd.func111, rfl, by kernel_rfl, by kernel_rfl, rfl⟩

theorem nameText_call (s : List UInt8) (hl : 3 * s.length + 1 ≤ 1000000000) : PCall Tryd.prog 111 [.str s] (fun r => r = .one (.str ([47] ++ nameP s))) := by
  refine lift_foliowrightref_NameText.call rfl ?_
  simp (maxSteps := 2000000) only [go_sem, Nat.reduceEqDiff, Nat.reduceBEq, Nat.reduceLT, Nat.reduceLeDiff, Nat.reduceAdd, Nat.reduceSub, Nat.reduceMul, ↓reduceIte, reduceCtorEq, Nat.reduceBNe, Nat.reduceSubDiff, Int.reduceLT, Int.reduceLE, Int.reduceEq, Int.reduceNeg, Int.reduceAdd, Int.reduceMul, Int.reduceSub, Int.reduceToNat, L_foliowrightref_NameText, R_foliowrightref_NameText]
  refine run_loop (fun i : Nat => ⟨[(0, .d (.str s)), (3, .d (.str ([47] ++ nameP (s.take i)))), (4, .d (.int .i64 i))], [], []⟩)
    (fun i => i ≤ s.length) (fun i => s.length - i) 0 ?_ ?_ ?_
  · refine Weak.mk ?_ ?_ ?_ <;> simp (maxSteps := 2000000) only [go_sem, Nat.reduceEqDiff, Nat.reduceBEq, Nat.reduceLT, Nat.reduceLeDiff, Nat.reduceAdd, Nat.reduceSub, Nat.reduceMul, ↓reduceIte, reduceCtorEq, Nat.reduceBNe, Nat.reduceSubDiff, Int.reduceLT, Int.reduceLE, Int.reduceEq, Int.reduceNeg, Int.reduceAdd, Int.reduceMul, Int.reduceSub, Int.reduceToNat, Sub, Int.natCast_add, Int.natCast_mul, List.take_zero, nameP, List.flatMap_nil]
  · omega
  · intro i hi
    simp (maxSteps := 2000000) only [go_sem, Nat.reduceEqDiff, Nat.reduceBEq, Nat.reduceLT, Nat.reduceLeDiff, Nat.reduceAdd, Nat.reduceSub, Nat.reduceMul, ↓reduceIte, reduceCtorEq, Nat.reduceBNe, Nat.reduceSubDiff, Int.reduceLT, Int.reduceLE, Int.reduceEq, Int.reduceNeg, Int.reduceAdd, Int.reduceMul, Int.reduceSub, Int.reduceToNat]
    refine ⟨fun hlt => ?_, fun hge => ?_⟩
    · obtain ⟨c, hc⟩ := get_some (l := s) (i := i) (by omega)
      have hc8 := u8_lt c
      have cc : ∀ k : Nat, c.toNat = k → c = UInt8.ofNat k := fun k h => by rw [← h]; simp
      have ht : ([48, 49, 50, 51, 52, 53, 54, 55, 56, 57, 65, 66, 67, 68, 69, 70] : List UInt8) = hexTab := rfl
      have hle := nameP_length (s.take i)
      rw [List.length_take] at hle
      rcases (by omega : c.toNat = 40 ∨ c.toNat = 41 ∨ c.toNat = 60 ∨ c.toNat = 62 ∨ c.toNat = 91 ∨ c.toNat = 93 ∨ c.toNat = 123 ∨ c.toNat = 125 ∨ c.toNat = 47 ∨ c.toNat = 37 ∨ c.toNat = 35 ∨ (c.toNat ≠ 40 ∧ c.toNat ≠ 41 ∧ c.toNat ≠ 60 ∧ c.toNat ≠ 62 ∧ c.toNat ≠ 91 ∧ c.toNat ≠ 93 ∧ c.toNat ≠ 123 ∧ c.toNat ≠ 125 ∧ c.toNat ≠ 47 ∧ c.toNat ≠ 37 ∧ c.toNat ≠ 35)) with q | q | q | q | q | q | q | q | q | q | q | q
      · skip
        have e1 : Int.tdiv (c.toNat : Int) 16 = ((c.toNat / 16 : Nat) : Int) := rfl
        have e2 : Int.tmod (c.toNat : Int) 16 = ((c.toNat % 16 : Nat) : Int) := rfl
        have w1 : IntKind.u8.wrap ((c.toNat / 16 : Nat) : Int) = ((c.toNat / 16 : Nat) : Int) := IntWalk.u8_in _ (by omega)
        have w2 : IntKind.u8.wrap ((c.toNat % 16 : Nat) : Int) = ((c.toNat % 16 : Nat) : Int) := IntWalk.u8_in _ (by omega)
        have t1 : getI hexTab ((c.toNat / 16 : Nat) : Int) = some (hexTab.getD (c.toNat / 16) 0) := tab_get (by omega)
        have t2 : getI hexTab ((c.toNat % 16 : Nat) : Int) = some (hexTab.getD (c.toNat % 16) 0) := tab_get (by omega)
        have b3 := bytesOf3 35 (hexTab.getD (c.toNat / 16) 0) (hexTab.getD (c.toNat % 16) 0)
        have z35 : ((UInt8.toNat 35 : Nat) : Int) = 35 := rfl
        rw [z35] at b3
        have n40 : ((c.toNat : Int) = 40) = True := by simp only [eq_iff_iff, iff_true]; omega
        have n41 : ((c.toNat : Int) = 41) = False := by simp only [eq_iff_iff, iff_false]; omega
        have n60 : ((c.toNat : Int) = 60) = False := by simp only [eq_iff_iff, iff_false]; omega
        have n62 : ((c.toNat : Int) = 62) = False := by simp only [eq_iff_iff, iff_false]; omega
        have n91 : ((c.toNat : Int) = 91) = False := by simp only [eq_iff_iff, iff_false]; omega
        have n93 : ((c.toNat : Int) = 93) = False := by simp only [eq_iff_iff, iff_false]; omega
        have n123 : ((c.toNat : Int) = 123) = False := by simp only [eq_iff_iff, iff_false]; omega
        have n125 : ((c.toNat : Int) = 125) = False := by simp only [eq_iff_iff, iff_false]; omega
        have n47 : ((c.toNat : Int) = 47) = False := by simp only [eq_iff_iff, iff_false]; omega
        have n37 : ((c.toNat : Int) = 37) = False := by simp only [eq_iff_iff, iff_false]; omega
        have n35 : ((c.toNat : Int) = 35) = False := by simp only [eq_iff_iff, iff_false]; omega
        have l32 : ((32 : Int) < c.toNat) = True := by simp only [eq_iff_iff, iff_true]; omega
        have g127 : ((c.toNat : Int) < 127) = True := by simp only [eq_iff_iff, iff_true]; omega
        simp (maxSteps := 2000000) (disch := omega) only [go_sem, Nat.reduceEqDiff, Nat.reduceBEq, Nat.reduceLT, Nat.reduceLeDiff, Nat.reduceAdd, Nat.reduceSub, Nat.reduceMul, ↓reduceIte, reduceCtorEq, Nat.reduceBNe, Nat.reduceSubDiff, Int.reduceLT, Int.reduceLE, Int.reduceEq, Int.reduceNeg, Int.reduceAdd, Int.reduceMul, Int.reduceSub, Int.reduceToNat, getI_nat s, hc, ht, n40, n41, n60, n62, n91, n93, n123, n125, n47, n37, n35, l32, g127, e1, e2, w1, w2, t1, t2, b3]
        refine ⟨by omega, i + 1, ?_, by omega, by omega⟩
        have hb : nameB c = [35, hexTab.getD (c.toNat / 16) 0, hexTab.getD (c.toNat % 16) 0] := by rw [cc _ q]; rfl
        refine Weak.mk ?_ ?_ ?_ <;> simp (maxSteps := 2000000) only [go_sem, Nat.reduceEqDiff, Nat.reduceBEq, Nat.reduceLT, Nat.reduceLeDiff, Nat.reduceAdd, Nat.reduceSub, Nat.reduceMul, ↓reduceIte, reduceCtorEq, Nat.reduceBNe, Nat.reduceSubDiff, Int.reduceLT, Int.reduceLE, Int.reduceEq, Int.reduceNeg, Int.reduceAdd, Int.reduceMul, Int.reduceSub, Int.reduceToNat, Sub, Int.natCast_add, Int.natCast_mul, nameP_next hc, hb, List.append_assoc]
      · skip
        have e1 : Int.tdiv (c.toNat : Int) 16 = ((c.toNat / 16 : Nat) : Int) := rfl
        have e2 : Int.tmod (c.toNat : Int) 16 = ((c.toNat % 16 : Nat) : Int) := rfl
        have w1 : IntKind.u8.wrap ((c.toNat / 16 : Nat) : Int) = ((c.toNat / 16 : Nat) : Int) := IntWalk.u8_in _ (by omega)
        have w2 : IntKind.u8.wrap ((c.toNat % 16 : Nat) : Int) = ((c.toNat % 16 : Nat) : Int) := IntWalk.u8_in _ (by omega)
        have t1 : getI hexTab ((c.toNat / 16 : Nat) : Int) = some (hexTab.getD (c.toNat / 16) 0) := tab_get (by omega)
        have t2 : getI hexTab ((c.toNat % 16 : Nat) : Int) = some (hexTab.getD (c.toNat % 16) 0) := tab_get (by omega)
        have b3 := bytesOf3 35 (hexTab.getD (c.toNat / 16) 0) (hexTab.getD (c.toNat % 16) 0)
        have z35 : ((UInt8.toNat 35 : Nat) : Int) = 35 := rfl
        rw [z35] at b3
        have n40 : ((c.toNat : Int) = 40) = False := by simp only [eq_iff_iff, iff_false]; omega
        have n41 : ((c.toNat : Int) = 41) = True := by simp only [eq_iff_iff, iff_true]; omega
        have n60 : ((c.toNat : Int) = 60) = False := by simp only [eq_iff_iff, iff_false]; omega
        have n62 : ((c.toNat : Int) = 62) = False := by simp only [eq_iff_iff, iff_false]; omega
        have n91 : ((c.toNat : Int) = 91) = False := by simp only [eq_iff_iff, iff_false]; omega
        have n93 : ((c.toNat : Int) = 93) = False := by simp only [eq_iff_iff, iff_false]; omega
        have n123 : ((c.toNat : Int) = 123) = False := by simp only [eq_iff_iff, iff_false]; omega
        have n125 : ((c.toNat : Int) = 125) = False := by simp only [eq_iff_iff, iff_false]; omega
        have n47 : ((c.toNat : Int) = 47) = False := by simp only [eq_iff_iff, iff_false]; omega
        have n37 : ((c.toNat : Int) = 37) = False := by simp only [eq_iff_iff, iff_false]; omega
        have n35 : ((c.toNat : Int) = 35) = False := by simp only [eq_iff_iff, iff_false]; omega
        have l32 : ((32 : Int) < c.toNat) = True := by simp only [eq_iff_iff, iff_true]; omega
        have g127 : ((c.toNat : Int) < 127) = True := by simp only [eq_iff_iff, iff_true]; omega
        simp (maxSteps := 2000000) (disch := omega) only [go_sem, Nat.reduceEqDiff, Nat.reduceBEq, Nat.reduceLT, Nat.reduceLeDiff, Nat.reduceAdd, Nat.reduceSub, Nat.reduceMul, ↓reduceIte, reduceCtorEq, Nat.reduceBNe, Nat.reduceSubDiff, Int.reduceLT, Int.reduceLE, Int.reduceEq, Int.reduceNeg, Int.reduceAdd, Int.reduceMul, Int.reduceSub, Int.reduceToNat, getI_nat s, hc, ht, n40, n41, n60, n62, n91, n93, n123, n125, n47, n37, n35, l32, g127, e1, e2, w1, w2, t1, t2, b3]
        refine ⟨by omega, i + 1, ?_, by omega, by omega⟩
        have hb : nameB c = [35, hexTab.getD (c.toNat / 16) 0, hexTab.getD (c.toNat % 16) 0] := by rw [cc _ q]; rfl
        refine Weak.mk ?_ ?_ ?_ <;> simp (maxSteps := 2000000) only [go_sem, Nat.reduceEqDiff, Nat.reduceBEq, Nat.reduceLT, Nat.reduceLeDiff, Nat.reduceAdd, Nat.reduceSub, Nat.reduceMul, ↓reduceIte, reduceCtorEq, Nat.reduceBNe, Nat.reduceSubDiff, Int.reduceLT, Int.reduceLE, Int.reduceEq, Int.reduceNeg, Int.reduceAdd, Int.reduceMul, Int.reduceSub, Int.reduceToNat, Sub, Int.natCast_add, Int.natCast_mul, nameP_next hc, hb, List.append_assoc]
      · skip
        have e1 : Int.tdiv (c.toNat : Int) 16 = ((c.toNat / 16 : Nat) : Int) := rfl
        have e2 : Int.tmod (c.toNat : Int) 16 = ((c.toNat % 16 : Nat) : Int) := rfl
        have w1 : IntKind.u8.wrap ((c.toNat / 16 : Nat) : Int) = ((c.toNat / 16 : Nat) : Int) := IntWalk.u8_in _ (by omega)
        have w2 : IntKind.u8.wrap ((c.toNat % 16 : Nat) : Int) = ((c.toNat % 16 : Nat) : Int) := IntWalk.u8_in _ (by omega)
        have t1 : getI hexTab ((c.toNat / 16 : Nat) : Int) = some (hexTab.getD (c.toNat / 16) 0) := tab_get (by omega)
        have t2 : getI hexTab ((c.toNat % 16 : Nat) : Int) = some (hexTab.getD (c.toNat % 16) 0) := tab_get (by omega)
        have b3 := bytesOf3 35 (hexTab.getD (c.toNat / 16) 0) (hexTab.getD (c.toNat % 16) 0)
        have z35 : ((UInt8.toNat 35 : Nat) : Int) = 35 := rfl
        rw [z35] at b3
        have n40 : ((c.toNat : Int) = 40) = False := by simp only [eq_iff_iff, iff_false]; omega
        have n41 : ((c.toNat : Int) = 41) = False := by simp only [eq_iff_iff, iff_false]; omega
        have n60 : ((c.toNat : Int) = 60) = True := by simp only [eq_iff_iff, iff_true]; omega
        have n62 : ((c.toNat : Int) = 62) = False := by simp only [eq_iff_iff, iff_false]; omega
        have n91 : ((c.toNat : Int) = 91) = False := by simp only [eq_iff_iff, iff_false]; omega
        have n93 : ((c.toNat : Int) = 93) = False := by simp only [eq_iff_iff, iff_false]; omega
        have n123 : ((c.toNat : Int) = 123) = False := by simp only [eq_iff_iff, iff_false]; omega
        have n125 : ((c.toNat : Int) = 125) = False := by simp only [eq_iff_iff, iff_false]; omega
        have n47 : ((c.toNat : Int) = 47) = False := by simp only [eq_iff_iff, iff_false]; omega
        have n37 : ((c.toNat : Int) = 37) = False := by simp only [eq_iff_iff, iff_false]; omega
        have n35 : ((c.toNat : Int) = 35) = False := by simp only [eq_iff_iff, iff_false]; omega
        have l32 : ((32 : Int) < c.toNat) = True := by simp only [eq_iff_iff, iff_true]; omega
        have g127 : ((c.toNat : Int) < 127) = True := by simp only [eq_iff_iff, iff_true]; omega
        simp (maxSteps := 2000000) (disch := omega) only [go_sem, Nat.reduceEqDiff, Nat.reduceBEq, Nat.reduceLT, Nat.reduceLeDiff, Nat.reduceAdd, Nat.reduceSub, Nat.reduceMul, ↓reduceIte, reduceCtorEq, Nat.reduceBNe, Nat.reduceSubDiff, Int.reduceLT, Int.reduceLE, Int.reduceEq, Int.reduceNeg, Int.reduceAdd, Int.reduceMul, Int.reduceSub, Int.reduceToNat, getI_nat s, hc, ht, n40, n41, n60, n62, n91, n93, n123, n125, n47, n37, n35, l32, g127, e1, e2, w1, w2, t1, t2, b3]
        refine ⟨by omega, i + 1, ?_, by omega, by omega⟩
        have hb : nameB c = [35, hexTab.getD (c.toNat / 16) 0, hexTab.getD (c.toNat % 16) 0] := by rw [cc _ q]; rfl
        refine Weak.mk ?_ ?_ ?_ <;> simp (maxSteps := 2000000) only [go_sem, Nat.reduceEqDiff, Nat.reduceBEq, Nat.reduceLT, Nat.reduceLeDiff, Nat.reduceAdd, Nat.reduceSub, Nat.reduceMul, ↓reduceIte, reduceCtorEq, Nat.reduceBNe, Nat.reduceSubDiff, Int.reduceLT, Int.reduceLE, Int.reduceEq, Int.reduceNeg, Int.reduceAdd, Int.reduceMul, Int.reduceSub, Int.reduceToNat, Sub, Int.natCast_add, Int.natCast_mul, nameP_next hc, hb, List.append_assoc]
      · skip
        have e1 : Int.tdiv (c.toNat : Int) 16 = ((c.toNat / 16 : Nat) : Int) := rfl
        have e2 : Int.tmod (c.toNat : Int) 16 = ((c.toNat % 16 : Nat) : Int) := rfl
        have w1 : IntKind.u8.wrap ((c.toNat / 16 : Nat) : Int) = ((c.toNat / 16 : Nat) : Int) := IntWalk.u8_in _ (by omega)
        have w2 : IntKind.u8.wrap ((c.toNat % 16 : Nat) : Int) = ((c.toNat % 16 : Nat) : Int) := IntWalk.u8_in _ (by omega)
        have t1 : getI hexTab ((c.toNat / 16 : Nat) : Int) = some (hexTab.getD (c.toNat / 16) 0) := tab_get (by omega)
        have t2 : getI hexTab ((c.toNat % 16 : Nat) : Int) = some (hexTab.getD (c.toNat % 16) 0) := tab_get (by omega)
        have b3 := bytesOf3 35 (hexTab.getD (c.toNat / 16) 0) (hexTab.getD (c.toNat % 16) 0)
        have z35 : ((UInt8.toNat 35 : Nat) : Int) = 35 := rfl
        rw [z35] at b3
        have n40 : ((c.toNat : Int) = 40) = False := by simp only [eq_iff_iff, iff_false]; omega
        have n41 : ((c.toNat : Int) = 41) = False := by simp only [eq_iff_iff, iff_false]; omega
        have n60 : ((c.toNat : Int) = 60) = False := by simp only [eq_iff_iff, iff_false]; omega
        have n62 : ((c.toNat : Int) = 62) = True := by simp only [eq_iff_iff, iff_true]; omega
        have n91 : ((c.toNat : Int) = 91) = False := by simp only [eq_iff_iff, iff_false]; omega
        have n93 : ((c.toNat : Int) = 93) = False := by simp only [eq_iff_iff, iff_false]; omega
        have n123 : ((c.toNat : Int) = 123) = False := by simp only [eq_iff_iff, iff_false]; omega
        have n125 : ((c.toNat : Int) = 125) = False := by simp only [eq_iff_iff, iff_false]; omega
        have n47 : ((c.toNat : Int) = 47) = False := by simp only [eq_iff_iff, iff_false]; omega
        have n37 : ((c.toNat : Int) = 37) = False := by simp only [eq_iff_iff, iff_false]; omega
        have n35 : ((c.toNat : Int) = 35) = False := by simp only [eq_iff_iff, iff_false]; omega
        have l32 : ((32 : Int) < c.toNat) = True := by simp only [eq_iff_iff, iff_true]; omega
        have g127 : ((c.toNat : Int) < 127) = True := by simp only [eq_iff_iff, iff_true]; omega
        simp (maxSteps := 2000000) (disch := omega) only [go_sem, Nat.reduceEqDiff, Nat.reduceBEq, Nat.reduceLT, Nat.reduceLeDiff, Nat.reduceAdd, Nat.reduceSub, Nat.reduceMul, ↓reduceIte, reduceCtorEq, Nat.reduceBNe, Nat.reduceSubDiff, Int.reduceLT, Int.reduceLE, Int.reduceEq, Int.reduceNeg, Int.reduceAdd, Int.reduceMul, Int.reduceSub, Int.reduceToNat, getI_nat s, hc, ht, n40, n41, n60, n62, n91, n93, n123, n125, n47, n37, n35, l32, g127, e1, e2, w1, w2, t1, t2, b3]
        refine ⟨by omega, i + 1, ?_, by omega, by omega⟩
        have hb : nameB c = [35, hexTab.getD (c.toNat / 16) 0, hexTab.getD (c.toNat % 16) 0] := by rw [cc _ q]; rfl
        refine Weak.mk ?_ ?_ ?_ <;> simp (maxSteps := 2000000) only [go_sem, Nat.reduceEqDiff, Nat.reduceBEq, Nat.reduceLT, Nat.reduceLeDiff, Nat.reduceAdd, Nat.reduceSub, Nat.reduceMul, ↓reduceIte, reduceCtorEq, Nat.reduceBNe, Nat.reduceSubDiff, Int.reduceLT, Int.reduceLE, Int.reduceEq, Int.reduceNeg, Int.reduceAdd, Int.reduceMul, Int.reduceSub, Int.reduceToNat, Sub, Int.natCast_add, Int.natCast_mul, nameP_next hc, hb, List.append_assoc]
      · skip
        have e1 : Int.tdiv (c.toNat : Int) 16 = ((c.toNat / 16 : Nat) : Int) := rfl
        have e2 : Int.tmod (c.toNat : Int) 16 = ((c.toNat % 16 : Nat) : Int) := rfl
        have w1 : IntKind.u8.wrap ((c.toNat / 16 : Nat) : Int) = ((c.toNat / 16 : Nat) : Int) := IntWalk.u8_in _ (by omega)
        have w2 : IntKind.u8.wrap ((c.toNat % 16 : Nat) : Int) = ((c.toNat % 16 : Nat) : Int) := IntWalk.u8_in _ (by omega)
        have t1 : getI hexTab ((c.toNat / 16 : Nat) : Int) = some (hexTab.getD (c.toNat / 16) 0) := tab_get (by omega)
        have t2 : getI hexTab ((c.toNat % 16 : Nat) : Int) = some (hexTab.getD (c.toNat % 16) 0) := tab_get (by omega)
        have b3 := bytesOf3 35 (hexTab.getD (c.toNat / 16) 0) (hexTab.getD (c.toNat % 16) 0)
        have z35 : ((UInt8.toNat 35 : Nat) : Int) = 35 := rfl
        rw [z35] at b3
        have n40 : ((c.toNat : Int) = 40) = False := by simp only [eq_iff_iff, iff_false]; omega
        have n41 : ((c.toNat : Int) = 41) = False := by simp only [eq_iff_iff, iff_false]; omega
        have n60 : ((c.toNat : Int) = 60) = False := by simp only [eq_iff_iff, iff_false]; omega
        have n62 : ((c.toNat : Int) = 62) = False := by simp only [eq_iff_iff, iff_false]; omega
        have n91 : ((c.toNat : Int) = 91) = True := by simp only [eq_iff_iff, iff_true]; omega
        have n93 : ((c.toNat : Int) = 93) = False := by simp only [eq_iff_iff, iff_false]; omega
        have n123 : ((c.toNat : Int) = 123) = False := by simp only [eq_iff_iff, iff_false]; omega
        have n125 : ((c.toNat : Int) = 125) = False := by simp only [eq_iff_iff, iff_false]; omega
        have n47 : ((c.toNat : Int) = 47) = False := by simp only [eq_iff_iff, iff_false]; omega
        have n37 : ((c.toNat : Int) = 37) = False := by simp only [eq_iff_iff, iff_false]; omega
        have n35 : ((c.toNat : Int) = 35) = False := by simp only [eq_iff_iff, iff_false]; omega
        have l32 : ((32 : Int) < c.toNat) = True := by simp only [eq_iff_iff, iff_true]; omega
        have g127 : ((c.toNat : Int) < 127) = True := by simp only [eq_iff_iff, iff_true]; omega
        simp (maxSteps := 2000000) (disch := omega) only [go_sem, Nat.reduceEqDiff, Nat.reduceBEq, Nat.reduceLT, Nat.reduceLeDiff, Nat.reduceAdd, Nat.reduceSub, Nat.reduceMul, ↓reduceIte, reduceCtorEq, Nat.reduceBNe, Nat.reduceSubDiff, Int.reduceLT, Int.reduceLE, Int.reduceEq, Int.reduceNeg, Int.reduceAdd, Int.reduceMul, Int.reduceSub, Int.reduceToNat, getI_nat s, hc, ht, n40, n41, n60, n62, n91, n93, n123, n125, n47, n37, n35, l32, g127, e1, e2, w1, w2, t1, t2, b3]
        refine ⟨by omega, i + 1, ?_, by omega, by omega⟩
        have hb : nameB c = [35, hexTab.getD (c.toNat / 16) 0, hexTab.getD (c.toNat % 16) 0] := by rw [cc _ q]; rfl
        refine Weak.mk ?_ ?_ ?_ <;> simp (maxSteps := 2000000) only [go_sem, Nat.reduceEqDiff, Nat.reduceBEq, Nat.reduceLT, Nat.reduceLeDiff, Nat.reduceAdd, Nat.reduceSub, Nat.reduceMul, ↓reduceIte, reduceCtorEq, Nat.reduceBNe, Nat.reduceSubDiff, Int.reduceLT, Int.reduceLE, Int.reduceEq, Int.reduceNeg, Int.reduceAdd, Int.reduceMul, Int.reduceSub, Int.reduceToNat, Sub, Int.natCast_add, Int.natCast_mul, nameP_next hc, hb, List.append_assoc]
      · skip
        have e1 : Int.tdiv (c.toNat : Int) 16 = ((c.toNat / 16 : Nat) : Int) := rfl
        have e2 : Int.tmod (c.toNat : Int) 16 = ((c.toNat % 16 : Nat) : Int) := rfl
        have w1 : IntKind.u8.wrap ((c.toNat / 16 : Nat) : Int) = ((c.toNat / 16 : Nat) : Int) := IntWalk.u8_in _ (by omega)
        have w2 : IntKind.u8.wrap ((c.toNat % 16 : Nat) : Int) = ((c.toNat % 16 : Nat) : Int) := IntWalk.u8_in _ (by omega)
        have t1 : getI hexTab ((c.toNat / 16 : Nat) : Int) = some (hexTab.getD (c.toNat / 16) 0) := tab_get (by omega)
        have t2 : getI hexTab ((c.toNat % 16 : Nat) : Int) = some (hexTab.getD (c.toNat % 16) 0) := tab_get (by omega)
        have b3 := bytesOf3 35 (hexTab.getD (c.toNat / 16) 0) (hexTab.getD (c.toNat % 16) 0)
        have z35 : ((UInt8.toNat 35 : Nat) : Int) = 35 := rfl
        rw [z35] at b3
        have n40 : ((c.toNat : Int) = 40) = False := by simp only [eq_iff_iff, iff_false]; omega
        have n41 : ((c.toNat : Int) = 41) = False := by simp only [eq_iff_iff, iff_false]; omega
        have n60 : ((c.toNat : Int) = 60) = False := by simp only [eq_iff_iff, iff_false]; omega
        have n62 : ((c.toNat : Int) = 62) = False := by simp only [eq_iff_iff, iff_false]; omega
        have n91 : ((c.toNat : Int) = 91) = False := by simp only [eq_iff_iff, iff_false]; omega
        have n93 : ((c.toNat : Int) = 93) = True := by simp only [eq_iff_iff, iff_true]; omega
        have n123 : ((c.toNat : Int) = 123) = False := by simp only [eq_iff_iff, iff_false]; omega
        have n125 : ((c.toNat : Int) = 125) = False := by simp only [eq_iff_iff, iff_false]; omega
        have n47 : ((c.toNat : Int) = 47) = False := by simp only [eq_iff_iff, iff_false]; omega
        have n37 : ((c.toNat : Int) = 37) = False := by simp only [eq_iff_iff, iff_false]; omega
        have n35 : ((c.toNat : Int) = 35) = False := by simp only [eq_iff_iff, iff_false]; omega
        have l32 : ((32 : Int) < c.toNat) = True := by simp only [eq_iff_iff, iff_true]; omega
        have g127 : ((c.toNat : Int) < 127) = True := by simp only [eq_iff_iff, iff_true]; omega
        simp (maxSteps := 2000000) (disch := omega) only [go_sem, Nat.reduceEqDiff, Nat.reduceBEq, Nat.reduceLT, Nat.reduceLeDiff, Nat.reduceAdd, Nat.reduceSub, Nat.reduceMul, ↓reduceIte, reduceCtorEq, Nat.reduceBNe, Nat.reduceSubDiff, Int.reduceLT, Int.reduceLE, Int.reduceEq, Int.reduceNeg, Int.reduceAdd, Int.reduceMul, Int.reduceSub, Int.reduceToNat, getI_nat s, hc, ht, n40, n41, n60, n62, n91, n93, n123, n125, n47, n37, n35, l32, g127, e1, e2, w1, w2, t1, t2, b3]
        refine ⟨by omega, i + 1, ?_, by omega, by omega⟩
        have hb : nameB c = [35, hexTab.getD (c.toNat / 16) 0, hexTab.getD (c.toNat % 16) 0] := by rw [cc _ q]; rfl
        refine Weak.mk ?_ ?_ ?_ <;> simp (maxSteps := 2000000) only [go_sem, Nat.reduceEqDiff, Nat.reduceBEq, Nat.reduceLT, Nat.reduceLeDiff, Nat.reduceAdd, Nat.reduceSub, Nat.reduceMul, ↓reduceIte, reduceCtorEq, Nat.reduceBNe, Nat.reduceSubDiff, Int.reduceLT, Int.reduceLE, Int.reduceEq, Int.reduceNeg, Int.reduceAdd, Int.reduceMul, Int.reduceSub, Int.reduceToNat, Sub, Int.natCast_add, Int.natCast_mul, nameP_next hc, hb, List.append_assoc]
      · skip
        have e1 : Int.tdiv (c.toNat : Int) 16 = ((c.toNat / 16 : Nat) : Int) := rfl
        have e2 : Int.tmod (c.toNat : Int) 16 = ((c.toNat % 16 : Nat) : Int) := rfl
        have w1 : IntKind.u8.wrap ((c.toNat / 16 : Nat) : Int) = ((c.toNat / 16 : Nat) : Int) := IntWalk.u8_in _ (by omega)
        have w2 : IntKind.u8.wrap ((c.toNat % 16 : Nat) : Int) = ((c.toNat % 16 : Nat) : Int) := IntWalk.u8_in _ (by omega)
        have t1 : getI hexTab ((c.toNat / 16 : Nat) : Int) = some (hexTab.getD (c.toNat / 16) 0) := tab_get (by omega)
        have t2 : getI hexTab ((c.toNat % 16 : Nat) : Int) = some (hexTab.getD (c.toNat % 16) 0) := tab_get (by omega)
        have b3 := bytesOf3 35 (hexTab.getD (c.toNat / 16) 0) (hexTab.getD (c.toNat % 16) 0)
        have z35 : ((UInt8.toNat 35 : Nat) : Int) = 35 := rfl
        rw [z35] at b3
        have n40 : ((c.toNat : Int) = 40) = False := by simp only [eq_iff_iff, iff_false]; omega
        have n41 : ((c.toNat : Int) = 41) = False := by simp only [eq_iff_iff, iff_false]; omega
        have n60 : ((c.toNat : Int) = 60) = False := by simp only [eq_iff_iff, iff_false]; omega
        have n62 : ((c.toNat : Int) = 62) = False := by simp only [eq_iff_iff, iff_false]; omega
        have n91 : ((c.toNat : Int) = 91) = False := by simp only [eq_iff_iff, iff_false]; omega
        have n93 : ((c.toNat : Int) = 93) = False := by simp only [eq_iff_iff, iff_false]; omega
        have n123 : ((c.toNat : Int) = 123) = True := by simp only [eq_iff_iff, iff_true]; omega
        have n125 : ((c.toNat : Int) = 125) = False := by simp only [eq_iff_iff, iff_false]; omega
        have n47 : ((c.toNat : Int) = 47) = False := by simp only [eq_iff_iff, iff_false]; omega
        have n37 : ((c.toNat : Int) = 37) = False := by simp only [eq_iff_iff, iff_false]; omega
        have n35 : ((c.toNat : Int) = 35) = False := by simp only [eq_iff_iff, iff_false]; omega
        have l32 : ((32 : Int) < c.toNat) = True := by simp only [eq_iff_iff, iff_true]; omega
        have g127 : ((c.toNat : Int) < 127) = True := by simp only [eq_iff_iff, iff_true]; omega
        simp (maxSteps := 2000000) (disch := omega) only [go_sem, Nat.reduceEqDiff, Nat.reduceBEq, Nat.reduceLT, Nat.reduceLeDiff, Nat.reduceAdd, Nat.reduceSub, Nat.reduceMul, ↓reduceIte, reduceCtorEq, Nat.reduceBNe, Nat.reduceSubDiff, Int.reduceLT, Int.reduceLE, Int.reduceEq, Int.reduceNeg, Int.reduceAdd, Int.reduceMul, Int.reduceSub, Int.reduceToNat, getI_nat s, hc, ht, n40, n41, n60, n62, n91, n93, n123, n125, n47, n37, n35, l32, g127, e1, e2, w1, w2, t1, t2, b3]
        refine ⟨by omega, i + 1, ?_, by omega, by omega⟩
        have hb : nameB c = [35, hexTab.getD (c.toNat / 16) 0, hexTab.getD (c.toNat % 16) 0] := by rw [cc _ q]; rfl
        refine Weak.mk ?_ ?_ ?_ <;> simp (maxSteps := 2000000) only [go_sem, Nat.reduceEqDiff, Nat.reduceBEq, Nat.reduceLT, Nat.reduceLeDiff, Nat.reduceAdd, Nat.reduceSub, Nat.reduceMul, ↓reduceIte, reduceCtorEq, Nat.reduceBNe, Nat.reduceSubDiff, Int.reduceLT, Int.reduceLE, Int.reduceEq, Int.reduceNeg, Int.reduceAdd, Int.reduceMul, Int.reduceSub, Int.reduceToNat, Sub, Int.natCast_add, Int.natCast_mul, nameP_next hc, hb, List.append_assoc]
      · skip
        have e1 : Int.tdiv (c.toNat : Int) 16 = ((c.toNat / 16 : Nat) : Int) := rfl
        have e2 : Int.tmod (c.toNat : Int) 16 = ((c.toNat % 16 : Nat) : Int) := rfl
        have w1 : IntKind.u8.wrap ((c.toNat / 16 : Nat) : Int) = ((c.toNat / 16 : Nat) : Int) := IntWalk.u8_in _ (by omega)
        have w2 : IntKind.u8.wrap ((c.toNat % 16 : Nat) : Int) = ((c.toNat % 16 : Nat) : Int) := IntWalk.u8_in _ (by omega)
        have t1 : getI hexTab ((c.toNat / 16 : Nat) : Int) = some (hexTab.getD (c.toNat / 16) 0) := tab_get (by omega)
        have t2 : getI hexTab ((c.toNat % 16 : Nat) : Int) = some (hexTab.getD (c.toNat % 16) 0) := tab_get (by omega)
        have b3 := bytesOf3 35 (hexTab.getD (c.toNat / 16) 0) (hexTab.getD (c.toNat % 16) 0)
        have z35 : ((UInt8.toNat 35 : Nat) : Int) = 35 := rfl
        rw [z35] at b3
        have n40 : ((c.toNat : Int) = 40) = False := by simp only [eq_iff_iff, iff_false]; omega
        have n41 : ((c.toNat : Int) = 41) = False := by simp only [eq_iff_iff, iff_false]; omega
        have n60 : ((c.toNat : Int) = 60) = False := by simp only [eq_iff_iff, iff_false]; omega
        have n62 : ((c.toNat : Int) = 62) = False := by simp only [eq_iff_iff, iff_false]; omega
        have n91 : ((c.toNat : Int) = 91) = False := by simp only [eq_iff_iff, iff_false]; omega
        have n93 : ((c.toNat : Int) = 93) = False := by simp only [eq_iff_iff, iff_false]; omega
        have n123 : ((c.toNat : Int) = 123) = False := by simp only [eq_iff_iff, iff_false]; omega
        have n125 : ((c.toNat : Int) = 125) = True := by simp only [eq_iff_iff, iff_true]; omega
        have n47 : ((c.toNat : Int) = 47) = False := by simp only [eq_iff_iff, iff_false]; omega
        have n37 : ((c.toNat : Int) = 37) = False := by simp only [eq_iff_iff, iff_false]; omega
        have n35 : ((c.toNat : Int) = 35) = False := by simp only [eq_iff_iff, iff_false]; omega
        have l32 : ((32 : Int) < c.toNat) = True := by simp only [eq_iff_iff, iff_true]; omega
        have g127 : ((c.toNat : Int) < 127) = True := by simp only [eq_iff_iff, iff_true]; omega
        simp (maxSteps := 2000000) (disch := omega) only [go_sem, Nat.reduceEqDiff, Nat.reduceBEq, Nat.reduceLT, Nat.reduceLeDiff, Nat.reduceAdd, Nat.reduceSub, Nat.reduceMul, ↓reduceIte, reduceCtorEq, Nat.reduceBNe, Nat.reduceSubDiff, Int.reduceLT, Int.reduceLE, Int.reduceEq, Int.reduceNeg, Int.reduceAdd, Int.reduceMul, Int.reduceSub, Int.reduceToNat, getI_nat s, hc, ht, n40, n41, n60, n62, n91, n93, n123, n125, n47, n37, n35, l32, g127, e1, e2, w1, w2, t1, t2, b3]
        refine ⟨by omega, i + 1, ?_, by omega, by omega⟩
        have hb : nameB c = [35, hexTab.getD (c.toNat / 16) 0, hexTab.getD (c.toNat % 16) 0] := by rw [cc _ q]; rfl
        refine Weak.mk ?_ ?_ ?_ <;> simp (maxSteps := 2000000) only [go_sem, Nat.reduceEqDiff, Nat.reduceBEq, Nat.reduceLT, Nat.reduceLeDiff, Nat.reduceAdd, Nat.reduceSub, Nat.reduceMul, ↓reduceIte, reduceCtorEq, Nat.reduceBNe, Nat.reduceSubDiff, Int.reduceLT, Int.reduceLE, Int.reduceEq, Int.reduceNeg, Int.reduceAdd, Int.reduceMul, Int.reduceSub, Int.reduceToNat, Sub, Int.natCast_add, Int.natCast_mul, nameP_next hc, hb, List.append_assoc]
      · skip
        have e1 : Int.tdiv (c.toNat : Int) 16 = ((c.toNat / 16 : Nat) : Int) := rfl
        have e2 : Int.tmod (c.toNat : Int) 16 = ((c.toNat % 16 : Nat) : Int) := rfl
        have w1 : IntKind.u8.wrap ((c.toNat / 16 : Nat) : Int) = ((c.toNat / 16 : Nat) : Int) := IntWalk.u8_in _ (by omega)
        have w2 : IntKind.u8.wrap ((c.toNat % 16 : Nat) : Int) = ((c.toNat % 16 : Nat) : Int) := IntWalk.u8_in _ (by omega)
        have t1 : getI hexTab ((c.toNat / 16 : Nat) : Int) = some (hexTab.getD (c.toNat / 16) 0) := tab_get (by omega)
        have t2 : getI hexTab ((c.toNat % 16 : Nat) : Int) = some (hexTab.getD (c.toNat % 16) 0) := tab_get (by omega)
        have b3 := bytesOf3 35 (hexTab.getD (c.toNat / 16) 0) (hexTab.getD (c.toNat % 16) 0)
        have z35 : ((UInt8.toNat 35 : Nat) : Int) = 35 := rfl
        rw [z35] at b3
        have n40 : ((c.toNat : Int) = 40) = False := by simp only [eq_iff_iff, iff_false]; omega
        have n41 : ((c.toNat : Int) = 41) = False := by simp only [eq_iff_iff, iff_false]; omega
        have n60 : ((c.toNat : Int) = 60) = False := by simp only [eq_iff_iff, iff_false]; omega
        have n62 : ((c.toNat : Int) = 62) = False := by simp only [eq_iff_iff, iff_false]; omega
        have n91 : ((c.toNat : Int) = 91) = False := by simp only [eq_iff_iff, iff_false]; omega
        have n93 : ((c.toNat : Int) = 93) = False := by simp only [eq_iff_iff, iff_false]; omega
        have n123 : ((c.toNat : Int) = 123) = False := by simp only [eq_iff_iff, iff_false]; omega
        have n125 : ((c.toNat : Int) = 125) = False := by simp only [eq_iff_iff, iff_false]; omega
        have n47 : ((c.toNat : Int) = 47) = True := by simp only [eq_iff_iff, iff_true]; omega
        have n37 : ((c.toNat : Int) = 37) = False := by simp only [eq_iff_iff, iff_false]; omega
        have n35 : ((c.toNat : Int) = 35) = False := by simp only [eq_iff_iff, iff_false]; omega
        have l32 : ((32 : Int) < c.toNat) = True := by simp only [eq_iff_iff, iff_true]; omega
        have g127 : ((c.toNat : Int) < 127) = True := by simp only [eq_iff_iff, iff_true]; omega
        simp (maxSteps := 2000000) (disch := omega) only [go_sem, Nat.reduceEqDiff, Nat.reduceBEq, Nat.reduceLT, Nat.reduceLeDiff, Nat.reduceAdd, Nat.reduceSub, Nat.reduceMul, ↓reduceIte, reduceCtorEq, Nat.reduceBNe, Nat.reduceSubDiff, Int.reduceLT, Int.reduceLE, Int.reduceEq, Int.reduceNeg, Int.reduceAdd, Int.reduceMul, Int.reduceSub, Int.reduceToNat, getI_nat s, hc, ht, n40, n41, n60, n62, n91, n93, n123, n125, n47, n37, n35, l32, g127, e1, e2, w1, w2, t1, t2, b3]
        refine ⟨by omega, i + 1, ?_, by omega, by omega⟩
        have hb : nameB c = [35, hexTab.getD (c.toNat / 16) 0, hexTab.getD (c.toNat % 16) 0] := by rw [cc _ q]; rfl
        refine Weak.mk ?_ ?_ ?_ <;> simp (maxSteps := 2000000) only [go_sem, Nat.reduceEqDiff, Nat.reduceBEq, Nat.reduceLT, Nat.reduceLeDiff, Nat.reduceAdd, Nat.reduceSub, Nat.reduceMul, ↓reduceIte, reduceCtorEq, Nat.reduceBNe, Nat.reduceSubDiff, Int.reduceLT, Int.reduceLE, Int.reduceEq, Int.reduceNeg, Int.reduceAdd, Int.reduceMul, Int.reduceSub, Int.reduceToNat, Sub, Int.natCast_add, Int.natCast_mul, nameP_next hc, hb, List.append_assoc]
      · skip
        have e1 : Int.tdiv (c.toNat : Int) 16 = ((c.toNat / 16 : Nat) : Int) := rfl
        have e2 : Int.tmod (c.toNat : Int) 16 = ((c.toNat % 16 : Nat) : Int) := rfl
        have w1 : IntKind.u8.wrap ((c.toNat / 16 : Nat) : Int) = ((c.toNat / 16 : Nat) : Int) := IntWalk.u8_in _ (by omega)
        have w2 : IntKind.u8.wrap ((c.toNat % 16 : Nat) : Int) = ((c.toNat % 16 : Nat) : Int) := IntWalk.u8_in _ (by omega)
        have t1 : getI hexTab ((c.toNat / 16 : Nat) : Int) = some (hexTab.getD (c.toNat / 16) 0) := tab_get (by omega)
        have t2 : getI hexTab ((c.toNat % 16 : Nat) : Int) = some (hexTab.getD (c.toNat % 16) 0) := tab_get (by omega)
        have b3 := bytesOf3 35 (hexTab.getD (c.toNat / 16) 0) (hexTab.getD (c.toNat % 16) 0)
        have z35 : ((UInt8.toNat 35 : Nat) : Int) = 35 := rfl
        rw [z35] at b3
        have n40 : ((c.toNat : Int) = 40) = False := by simp only [eq_iff_iff, iff_false]; omega
        have n41 : ((c.toNat : Int) = 41) = False := by simp only [eq_iff_iff, iff_false]; omega
        have n60 : ((c.toNat : Int) = 60) = False := by simp only [eq_iff_iff, iff_false]; omega
        have n62 : ((c.toNat : Int) = 62) = False := by simp only [eq_iff_iff, iff_false]; omega
        have n91 : ((c.toNat : Int) = 91) = False := by simp only [eq_iff_iff, iff_false]; omega
        have n93 : ((c.toNat : Int) = 93) = False := by simp only [eq_iff_iff, iff_false]; omega
        have n123 : ((c.toNat : Int) = 123) = False := by simp only [eq_iff_iff, iff_false]; omega
        have n125 : ((c.toNat : Int) = 125) = False := by simp only [eq_iff_iff, iff_false]; omega
        have n47 : ((c.toNat : Int) = 47) = False := by simp only [eq_iff_iff, iff_false]; omega
        have n37 : ((c.toNat : Int) = 37) = True := by simp only [eq_iff_iff, iff_true]; omega
        have n35 : ((c.toNat : Int) = 35) = False := by simp only [eq_iff_iff, iff_false]; omega
        have l32 : ((32 : Int) < c.toNat) = True := by simp only [eq_iff_iff, iff_true]; omega
        have g127 : ((c.toNat : Int) < 127) = True := by simp only [eq_iff_iff, iff_true]; omega
        simp (maxSteps := 2000000) (disch := omega) only [go_sem, Nat.reduceEqDiff, Nat.reduceBEq, Nat.reduceLT, Nat.reduceLeDiff, Nat.reduceAdd, Nat.reduceSub, Nat.reduceMul, ↓reduceIte, reduceCtorEq, Nat.reduceBNe, Nat.reduceSubDiff, Int.reduceLT, Int.reduceLE, Int.reduceEq, Int.reduceNeg, Int.reduceAdd, Int.reduceMul, Int.reduceSub, Int.reduceToNat, getI_nat s, hc, ht, n40, n41, n60, n62, n91, n93, n123, n125, n47, n37, n35, l32, g127, e1, e2, w1, w2, t1, t2, b3]
        refine ⟨by omega, i + 1, ?_, by omega, by omega⟩
        have hb : nameB c = [35, hexTab.getD (c.toNat / 16) 0, hexTab.getD (c.toNat % 16) 0] := by rw [cc _ q]; rfl
        refine Weak.mk ?_ ?_ ?_ <;> simp (maxSteps := 2000000) only [go_sem, Nat.reduceEqDiff, Nat.reduceBEq, Nat.reduceLT, Nat.reduceLeDiff, Nat.reduceAdd, Nat.reduceSub, Nat.reduceMul, ↓reduceIte, reduceCtorEq, Nat.reduceBNe, Nat.reduceSubDiff, Int.reduceLT, Int.reduceLE, Int.reduceEq, Int.reduceNeg, Int.reduceAdd, Int.reduceMul, Int.reduceSub, Int.reduceToNat, Sub, Int.natCast_add, Int.natCast_mul, nameP_next hc, hb, List.append_assoc]
      · skip
        have e1 : Int.tdiv (c.toNat : Int) 16 = ((c.toNat / 16 : Nat) : Int) := rfl
        have e2 : Int.tmod (c.toNat : Int) 16 = ((c.toNat % 16 : Nat) : Int) := rfl
        have w1 : IntKind.u8.wrap ((c.toNat / 16 : Nat) : Int) = ((c.toNat / 16 : Nat) : Int) := IntWalk.u8_in _ (by omega)
        have w2 : IntKind.u8.wrap ((c.toNat % 16 : Nat) : Int) = ((c.toNat % 16 : Nat) : Int) := IntWalk.u8_in _ (by omega)
        have t1 : getI hexTab ((c.toNat / 16 : Nat) : Int) = some (hexTab.getD (c.toNat / 16) 0) := tab_get (by omega)
        have t2 : getI hexTab ((c.toNat % 16 : Nat) : Int) = some (hexTab.getD (c.toNat % 16) 0) := tab_get (by omega)
        have b3 := bytesOf3 35 (hexTab.getD (c.toNat / 16) 0) (hexTab.getD (c.toNat % 16) 0)
        have z35 : ((UInt8.toNat 35 : Nat) : Int) = 35 := rfl
        rw [z35] at b3
        have n40 : ((c.toNat : Int) = 40) = False := by simp only [eq_iff_iff, iff_false]; omega
        have n41 : ((c.toNat : Int) = 41) = False := by simp only [eq_iff_iff, iff_false]; omega
        have n60 : ((c.toNat : Int) = 60) = False := by simp only [eq_iff_iff, iff_false]; omega
        have n62 : ((c.toNat : Int) = 62) = False := by simp only [eq_iff_iff, iff_false]; omega
        have n91 : ((c.toNat : Int) = 91) = False := by simp only [eq_iff_iff, iff_false]; omega
        have n93 : ((c.toNat : Int) = 93) = False := by simp only [eq_iff_iff, iff_false]; omega
        have n123 : ((c.toNat : Int) = 123) = False := by simp only [eq_iff_iff, iff_false]; omega
        have n125 : ((c.toNat : Int) = 125) = False := by simp only [eq_iff_iff, iff_false]; omega
        have n47 : ((c.toNat : Int) = 47) = False := by simp only [eq_iff_iff, iff_false]; omega
        have n37 : ((c.toNat : Int) = 37) = False := by simp only [eq_iff_iff, iff_false]; omega
        have n35 : ((c.toNat : Int) = 35) = True := by simp only [eq_iff_iff, iff_true]; omega
        have l32 : ((32 : Int) < c.toNat) = True := by simp only [eq_iff_iff, iff_true]; omega
        have g127 : ((c.toNat : Int) < 127) = True := by simp only [eq_iff_iff, iff_true]; omega
        simp (maxSteps := 2000000) (disch := omega) only [go_sem, Nat.reduceEqDiff, Nat.reduceBEq, Nat.reduceLT, Nat.reduceLeDiff, Nat.reduceAdd, Nat.reduceSub, Nat.reduceMul, ↓reduceIte, reduceCtorEq, Nat.reduceBNe, Nat.reduceSubDiff, Int.reduceLT, Int.reduceLE, Int.reduceEq, Int.reduceNeg, Int.reduceAdd, Int.reduceMul, Int.reduceSub, Int.reduceToNat, getI_nat s, hc, ht, n40, n41, n60, n62, n91, n93, n123, n125, n47, n37, n35, l32, g127, e1, e2, w1, w2, t1, t2, b3]
        refine ⟨by omega, i + 1, ?_, by omega, by omega⟩
        have hb : nameB c = [35, hexTab.getD (c.toNat / 16) 0, hexTab.getD (c.toNat % 16) 0] := by rw [cc _ q]; rfl
        refine Weak.mk ?_ ?_ ?_ <;> simp (maxSteps := 2000000) only [go_sem, Nat.reduceEqDiff, Nat.reduceBEq, Nat.reduceLT, Nat.reduceLeDiff, Nat.reduceAdd, Nat.reduceSub, Nat.reduceMul, ↓reduceIte, reduceCtorEq, Nat.reduceBNe, Nat.reduceSubDiff, Int.reduceLT, Int.reduceLE, Int.reduceEq, Int.reduceNeg, Int.reduceAdd, Int.reduceMul, Int.reduceSub, Int.reduceToNat, Sub, Int.natCast_add, Int.natCast_mul, nameP_next hc, hb, List.append_assoc]
      · obtain ⟨q40, q41, q60, q62, q91, q93, q123, q125, q47, q37, q35⟩ := q
        have hz : ¬ c ∈ ([40, 41, 60, 62, 91, 93, 123, 125, 47, 37, 35] : List UInt8) := by
          simp only [List.mem_cons, List.not_mem_nil, or_false, not_or]
          exact ⟨fun e => q40 (by rw [e]; rfl), fun e => q41 (by rw [e]; rfl), fun e => q60 (by rw [e]; rfl), fun e => q62 (by rw [e]; rfl), fun e => q91 (by rw [e]; rfl), fun e => q93 (by rw [e]; rfl), fun e => q123 (by rw [e]; rfl), fun e => q125 (by rw [e]; rfl), fun e => q47 (by rw [e]; rfl), fun e => q37 (by rw [e]; rfl), fun e => q35 (by rw [e]; rfl)⟩
        by_cases r : 32 < c.toNat ∧ c.toNat < 127
        · obtain ⟨r1, r2⟩ := r
          have n40 : ((c.toNat : Int) = 40) = False := by simp only [eq_iff_iff, iff_false]; omega
          have n41 : ((c.toNat : Int) = 41) = False := by simp only [eq_iff_iff, iff_false]; omega
          have n60 : ((c.toNat : Int) = 60) = False := by simp only [eq_iff_iff, iff_false]; omega
          have n62 : ((c.toNat : Int) = 62) = False := by simp only [eq_iff_iff, iff_false]; omega
          have n91 : ((c.toNat : Int) = 91) = False := by simp only [eq_iff_iff, iff_false]; omega
          have n93 : ((c.toNat : Int) = 93) = False := by simp only [eq_iff_iff, iff_false]; omega
          have n123 : ((c.toNat : Int) = 123) = False := by simp only [eq_iff_iff, iff_false]; omega
          have n125 : ((c.toNat : Int) = 125) = False := by simp only [eq_iff_iff, iff_false]; omega
          have n47 : ((c.toNat : Int) = 47) = False := by simp only [eq_iff_iff, iff_false]; omega
          have n37 : ((c.toNat : Int) = 37) = False := by simp only [eq_iff_iff, iff_false]; omega
          have n35 : ((c.toNat : Int) = 35) = False := by simp only [eq_iff_iff, iff_false]; omega
          have l32 : ((32 : Int) < c.toNat) = True := by simp only [eq_iff_iff, iff_true]; omega
          have g127 : ((c.toNat : Int) < 127) = True := by simp only [eq_iff_iff, iff_true]; omega
          have b1 : bytesOf [.int .u8 (c.toNat : Int)] = some [c] := bytesOf_bytesD [c]
          simp (maxSteps := 2000000) (disch := omega) only [go_sem, Nat.reduceEqDiff, Nat.reduceBEq, Nat.reduceLT, Nat.reduceLeDiff, Nat.reduceAdd, Nat.reduceSub, Nat.reduceMul, ↓reduceIte, reduceCtorEq, Nat.reduceBNe, Nat.reduceSubDiff, Int.reduceLT, Int.reduceLE, Int.reduceEq, Int.reduceNeg, Int.reduceAdd, Int.reduceMul, Int.reduceSub, Int.reduceToNat, getI_nat s, hc, n40, n41, n60, n62, n91, n93, n123, n125, n47, n37, n35, l32, g127, b1]
          refine ⟨by omega, i + 1, ?_, by omega, by omega⟩
          have r3 : c.toNat ≤ 126 := by omega
          have hb : nameB c = [c] := by simp only [nameB, plainB, hz, r1, r3, decide_true, decide_false, Bool.not_false, Bool.and_self, if_true]
          refine Weak.mk ?_ ?_ ?_ <;> simp (maxSteps := 2000000) only [go_sem, Nat.reduceEqDiff, Nat.reduceBEq, Nat.reduceLT, Nat.reduceLeDiff, Nat.reduceAdd, Nat.reduceSub, Nat.reduceMul, ↓reduceIte, reduceCtorEq, Nat.reduceBNe, Nat.reduceSubDiff, Int.reduceLT, Int.reduceLE, Int.reduceEq, Int.reduceNeg, Int.reduceAdd, Int.reduceMul, Int.reduceSub, Int.reduceToNat, Sub, Int.natCast_add, Int.natCast_mul, nameP_next hc, hb, List.append_assoc]
        · have hp : plainB c = false := by
            unfold plainB
            by_cases r1 : 32 < c.toNat
            · have : ¬ c.toNat ≤ 126 := by omega
              simp [this]
            · simp [r1]
          have e1 : Int.tdiv (c.toNat : Int) 16 = ((c.toNat / 16 : Nat) : Int) := rfl
          have e2 : Int.tmod (c.toNat : Int) 16 = ((c.toNat % 16 : Nat) : Int) := rfl
          have w1 : IntKind.u8.wrap ((c.toNat / 16 : Nat) : Int) = ((c.toNat / 16 : Nat) : Int) := IntWalk.u8_in _ (by omega)
          have w2 : IntKind.u8.wrap ((c.toNat % 16 : Nat) : Int) = ((c.toNat % 16 : Nat) : Int) := IntWalk.u8_in _ (by omega)
          have t1 : getI hexTab ((c.toNat / 16 : Nat) : Int) = some (hexTab.getD (c.toNat / 16) 0) := tab_get (by omega)
          have t2 : getI hexTab ((c.toNat % 16 : Nat) : Int) = some (hexTab.getD (c.toNat % 16) 0) := tab_get (by omega)
          have b3 := bytesOf3 35 (hexTab.getD (c.toNat / 16) 0) (hexTab.getD (c.toNat % 16) 0)
          have z35 : ((UInt8.toNat 35 : Nat) : Int) = 35 := rfl
          rw [z35] at b3
          have hb : nameB c = [35, hexTab.getD (c.toNat / 16) 0, hexTab.getD (c.toNat % 16) 0] := by unfold nameB; rw [hp]; rfl
          rcases (by omega : ¬ 32 < c.toNat ∨ (32 < c.toNat ∧ ¬ c.toNat < 127)) with r | r
          · skip
            have n40 : ((c.toNat : Int) = 40) = False := by simp only [eq_iff_iff, iff_false]; omega
            have n41 : ((c.toNat : Int) = 41) = False := by simp only [eq_iff_iff, iff_false]; omega
            have n60 : ((c.toNat : Int) = 60) = False := by simp only [eq_iff_iff, iff_false]; omega
            have n62 : ((c.toNat : Int) = 62) = False := by simp only [eq_iff_iff, iff_false]; omega
            have n91 : ((c.toNat : Int) = 91) = False := by simp only [eq_iff_iff, iff_false]; omega
            have n93 : ((c.toNat : Int) = 93) = False := by simp only [eq_iff_iff, iff_false]; omega
            have n123 : ((c.toNat : Int) = 123) = False := by simp only [eq_iff_iff, iff_false]; omega
            have n125 : ((c.toNat : Int) = 125) = False := by simp only [eq_iff_iff, iff_false]; omega
            have n47 : ((c.toNat : Int) = 47) = False := by simp only [eq_iff_iff, iff_false]; omega
            have n37 : ((c.toNat : Int) = 37) = False := by simp only [eq_iff_iff, iff_false]; omega
            have n35 : ((c.toNat : Int) = 35) = False := by simp only [eq_iff_iff, iff_false]; omega
            have l32 : ((32 : Int) < c.toNat) = False := by simp only [eq_iff_iff, iff_false]; omega
            simp (maxSteps := 2000000) (disch := omega) only [go_sem, Nat.reduceEqDiff, Nat.reduceBEq, Nat.reduceLT, Nat.reduceLeDiff, Nat.reduceAdd, Nat.reduceSub, Nat.reduceMul, ↓reduceIte, reduceCtorEq, Nat.reduceBNe, Nat.reduceSubDiff, Int.reduceLT, Int.reduceLE, Int.reduceEq, Int.reduceNeg, Int.reduceAdd, Int.reduceMul, Int.reduceSub, Int.reduceToNat, getI_nat s, hc, ht, n40, n41, n60, n62, n91, n93, n123, n125, n47, n37, n35, l32, e1, e2, w1, w2, t1, t2, b3]
            refine ⟨by omega, i + 1, ?_, by omega, by omega⟩
            refine Weak.mk ?_ ?_ ?_ <;> simp (maxSteps := 2000000) only [go_sem, Nat.reduceEqDiff, Nat.reduceBEq, Nat.reduceLT, Nat.reduceLeDiff, Nat.reduceAdd, Nat.reduceSub, Nat.reduceMul, ↓reduceIte, reduceCtorEq, Nat.reduceBNe, Nat.reduceSubDiff, Int.reduceLT, Int.reduceLE, Int.reduceEq, Int.reduceNeg, Int.reduceAdd, Int.reduceMul, Int.reduceSub, Int.reduceToNat, Sub, Int.natCast_add, Int.natCast_mul, nameP_next hc, hb, List.append_assoc]
          · skip
            have n40 : ((c.toNat : Int) = 40) = False := by simp only [eq_iff_iff, iff_false]; omega
            have n41 : ((c.toNat : Int) = 41) = False := by simp only [eq_iff_iff, iff_false]; omega
            have n60 : ((c.toNat : Int) = 60) = False := by simp only [eq_iff_iff, iff_false]; omega
            have n62 : ((c.toNat : Int) = 62) = False := by simp only [eq_iff_iff, iff_false]; omega
            have n91 : ((c.toNat : Int) = 91) = False := by simp only [eq_iff_iff, iff_false]; omega
            have n93 : ((c.toNat : Int) = 93) = False := by simp only [eq_iff_iff, iff_false]; omega
            have n123 : ((c.toNat : Int) = 123) = False := by simp only [eq_iff_iff, iff_false]; omega
            have n125 : ((c.toNat : Int) = 125) = False := by simp only [eq_iff_iff, iff_false]; omega
            have n47 : ((c.toNat : Int) = 47) = False := by simp only [eq_iff_iff, iff_false]; omega
            have n37 : ((c.toNat : Int) = 37) = False := by simp only [eq_iff_iff, iff_false]; omega
            have n35 : ((c.toNat : Int) = 35) = False := by simp only [eq_iff_iff, iff_false]; omega
            have l32 : ((32 : Int) < c.toNat) = True := by simp only [eq_iff_iff, iff_true]; omega
            have g127 : ((c.toNat : Int) < 127) = False := by simp only [eq_iff_iff, iff_false]; omega
            simp (maxSteps := 2000000) (disch := omega) only [go_sem, Nat.reduceEqDiff, Nat.reduceBEq, Nat.reduceLT, Nat.reduceLeDiff, Nat.reduceAdd, Nat.reduceSub, Nat.reduceMul, ↓reduceIte, reduceCtorEq, Nat.reduceBNe, Nat.reduceSubDiff, Int.reduceLT, Int.reduceLE, Int.reduceEq, Int.reduceNeg, Int.reduceAdd, Int.reduceMul, Int.reduceSub, Int.reduceToNat, getI_nat s, hc, ht, n40, n41, n60, n62, n91, n93, n123, n125, n47, n37, n35, l32, g127, e1, e2, w1, w2, t1, t2, b3]
            refine ⟨by omega, i + 1, ?_, by omega, by omega⟩
            refine Weak.mk ?_ ?_ ?_ <;> simp (maxSteps := 2000000) only [go_sem, Nat.reduceEqDiff, Nat.reduceBEq, Nat.reduceLT, Nat.reduceLeDiff, Nat.reduceAdd, Nat.reduceSub, Nat.reduceMul, ↓reduceIte, reduceCtorEq, Nat.reduceBNe, Nat.reduceSubDiff, Int.reduceLT, Int.reduceLE, Int.reduceEq, Int.reduceNeg, Int.reduceAdd, Int.reduceMul, Int.reduceSub, Int.reduceToNat, Sub, Int.natCast_add, Int.natCast_mul, nameP_next hc, hb, List.append_assoc]
    · rw [List.take_of_length_le (by omega)]
end Go.Av.Tryd
