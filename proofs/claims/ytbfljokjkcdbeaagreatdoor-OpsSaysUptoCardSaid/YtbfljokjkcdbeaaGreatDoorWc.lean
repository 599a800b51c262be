import Derived.Test.YtbfljokjkcdbeaaGreatDoorWb
import Derived.Test.YtbfljokjkcdbeaaGreatDoorWa
import Derived.Shelf.Strconv.Itoa3
set_option linter.unusedSimpArgs false
namespace Go.Av.Tryz
open Go.Proofs
def strB (c : UInt8) : List UInt8 := if c = 40 ∨ c = 41 ∨ c = 92 then [92, c] else if 32 ≤ c.toNat ∧ c.toNat ≤ 126 then [c] else [92, UInt8.ofNat (48 + c.toNat / 64), UInt8.ofNat (48 + c.toNat / 8 % 8), UInt8.ofNat (48 + c.toNat % 8)]
def strP (s : List UInt8) : List UInt8 := s.flatMap strB
theorem strB_length (c : UInt8) : (strB c).length ≤ 4 := by
 unfold strB
 repeat' split
 all_goals simp
theorem strP_length (s : List UInt8) : (strP s).length ≤ 4 * s.length := by
 induction s with
 | nil => simp [strP]
 | cons c s ih =>
  have : strP (c :: s) = strB c ++ strP s := rfl
  rw [this, List.length_append]
  have := strB_length c
  simp only [List.length_cons]
  omega
theorem strP_next {s : List UInt8} {i : Nat} {c : UInt8} (h : s[i]? = some c) : strP (s.take (i + 1)) = strP (s.take i) ++ strB c := by
 simp [strP, take_next h]
theorem and7 (n : Nat) : n &&& 7 = n % 8 := Nat.and_two_pow_sub_one_eq_mod n 3
theorem bytesOf3n (a b c : Nat) : bytesOf [.int .u8 (48 + (a : Int)), .int .u8 (48 + (b : Int)), .int .u8 (48 + (c : Int))] = some [UInt8.ofNat (48 + a), UInt8.ofNat (48 + b), UInt8.ofNat (48 + c)] := by
 have h : ∀ x : Nat, (48 + (x : Int)).toNat = 48 + x := fun x => by omega
 simp only [bytesOf, h, Option.map_some]
theorem bytesOf4n (z : UInt8) (a b c : Nat) : bytesOf [.int .u8 z.toNat, .int .u8 (48 + (a : Int)), .int .u8 (48 + (b : Int)), .int .u8 (48 + (c : Int))] = some [z, UInt8.ofNat (48 + a), UInt8.ofNat (48 + b), UInt8.ofNat (48 + c)] := by
 have h := bytesOf3n a b c
 rw [bytesOf]
 simp only [h, Option.map_some]
 simp
def L_value_str : LCode :=
 .seq (.reg [Qc 6 0, ⟨some 7, .prim .call [.k (.fn (.func 55) [] []), .t 6, .k (.d (.int .u8 40))] [], none⟩]) (.seq (.seq (.reg [Qc 8 1, Q 9 (.len true (.t 8)), Q 10 (.cp (Ki 0))]) 
 (.block 0 (.loop (.seq (.reg [Q 11 (.bin .lss (.t 10) (.t 9))]) (.seq (.cond (.t 11) .skip (.exit 0)) (.seq (.block 1 (.seq (.reg [Qc 12 10, Qa 4 12]) (.seq (.reg [Qc 13 1, Qc 14 
 4, Q 15 (.idxS (.t 13) (.t 14)), Qa 5 15]) (.block 2 (.seq (.reg [Qc 32 5, Q 33 (.bin .eql (.t 32) (Kb 40)), Qc 34 33, Qd 35 5 34 false, Qg 36 (.bin .eql (.t 35) (Kb 41)) 34 
 false, Q 37 (.pick (.t 34) KT (.t 36)), Qc 38 37, Qd 39 5 38 false, Qg 40 (.bin .eql (.t 39) (Kb 92)) 38 false, Q 41 (.pick (.t 38) KT (.t 40)), Qa 31 41]) (.cond (.t 31) (.reg 
 [Qc 42 0, Qc 43 5, Q 44 (.cvI .i32 (.t 43)), Q 45 (.i2s (.t 44)), Q 46 (.bin .add (.k (.d (.str [92]))) (.t 45)), ⟨some 47, .prim .call [.k (.fn (.func 25) [] []), .t 42, .t 46] 
 [], none⟩]) (.seq (.reg [Qc 49 5, Q 50 (.bin .geq (.t 49) (Kb 32)), Qc 51 50, Qd 52 5 51 true, Qg 53 (.bin .leq (.t 52) (Kb 126)) 51 true, Q 54 (.pick (.t 51) (.t 53) KF), Qa 48 
 54]) (.cond (.t 48) (.reg [Qc 55 0, Qc 56 5, ⟨some 57, .prim .call [.k (.fn (.func 55) [] []), .t 55, .t 56] [], none⟩]) (.reg [Qc 16 0, Qc 17 5, Q 18 (.bin .shr (.t 17) (.k (.d 
 (.int .u64 6)))), Q 19 (.bin .add (Kb 48) (.t 18)), Qc 20 5, Q 21 (.bin .shr (.t 20) (.k (.d (.int .u64 3)))), Q 22 (.bin .and (.t 21) (Kb 7)), Q 23 (.bin .add (Kb 48) (.t 22)), 
 Qc 24 5, Q 25 (.bin .and (.t 24) (Kb 7)), Q 26 (.bin .add (Kb 48) (.t 25)), ⟨some 27, .bsl 5 1 [.t 19, .t 23, .t 26], none⟩, Q 28 (.b2s (.t 27)), Q 29 (.bin .add (.k (.d (.str 
 [92]))) (.t 28)), ⟨some 30, .prim .call [.k (.fn (.func 25) [] []), .t 16, .t 29] [], none⟩]))))))))) (.reg [Q 58 (.bin .add (.t 10) (Ki 1)), Qc 10 58]))))))) (.reg [Qc 59 0, 
 ⟨some 60, .prim .call [.k (.fn (.func 55) [] []), .t 59, .k (.d (.int .u8 41))] [], none⟩]))
def R_value_str : List LRes := []
theorem lift_value_str : Lifts Tryz.prog 53 61 L_value_str R_value_str := ⟨_, _, Tryz.func53, rfl, by kernel_rfl, by kernel_rfl, rfl⟩
theorem str_at (b : Bld) (s : List UInt8) (hl : b.bytes.length + 4 * s.length + 2 ≤ 1000000000) : MCallE Tryz.prog 53 [.ptr (.x 0) 0, .d (.str s)] [b.at (.x 0)] (.tuple []) [Bld.at (.x 0) (.has (b.bytes ++ [40] ++ strP s ++ [41]))] := by
 refine lift_value_str.mcall (by kernel_rfl) rfl ?_
 simp (maxSteps := 2000000) only [go_sem, ↓reduceIte, L_value_str, R_value_str]
 refine bldCall (.x 0) rfl (writeByte_at b 40 (by omega)) rfl rfl rfl rfl ?_
 simp (maxSteps := 2000000) only [go_sem, ↓reduceIte]
 refine run_loop (fun i : Nat => ⟨[(0, .ptr (.x 0) 0), (1, .d (.str s)), (8, .d (.str s)), (9, .d (.int .i64 s.length)), (10, .d (.int .i64 i))], [],
   [(0, Bld.at (.x 0) (.has (b.bytes ++ [40] ++ strP (s.take i))))]⟩)
  (fun i => i ≤ s.length) (fun i => s.length - i) 0 ?_ ?_ ?_
 ·refine Weak.mk ?_ ?_ ?_ <;> simp (maxSteps := 2000000) only [go_sem, ↓reduceIte, Sub, Int.natCast_add, Int.natCast_mul, List.take_zero, strP, List.flatMap_nil]
 ·omega
 ·intro i hi
  have hle := strP_length (s.take i)
  rw [List.length_take] at hle
  simp (maxSteps := 2000000) only [go_sem, ↓reduceIte]
  refine ⟨fun hlt => ?_, fun hge => ?_⟩
  ·obtain ⟨c, hc⟩ := get_some (l := s) (i := i) (by omega)
   have hc8 := u8_lt c
   have cc : ∀ k : Nat, c.toNat = k → c = UInt8.ofNat k := fun k h => by rw [← h]; simp
   rcases (by omega : c.toNat = 40 ∨ c.toNat = 41 ∨ c.toNat = 92 ∨ (c.toNat ≠ 40 ∧ c.toNat ≠ 41 ∧ c.toNat ≠ 92 ∧ 32 ≤ c.toNat ∧ c.toNat ≤ 126) ∨ (c.toNat ≠ 40 ∧ c.toNat ≠ 41 ∧ c.toNat ≠ 92 ∧ ¬ (32 ≤ c.toNat ∧ c.toNat ≤ 126))) with q | q | q | q | q
   ·have i32 : IntKind.i32.wrap (c.toNat : Int) = c.toNat := IntWalk.i32_in _ (by omega)
    have en : (Utf8.encode (c.toNat : Int)).data.toList = [c] := encode_ascii (by omega)
    have n40 : ((c.toNat : Int) = 40) = True := eq_true (by omega)
    have n41 : ((c.toNat : Int) = 41) = False := eq_false (by omega)
    have n92 : ((c.toNat : Int) = 92) = False := eq_false (by omega)
    simp (maxSteps := 2000000) (disch := omega) only [go_sem, ↓reduceIte, getI_nat s, hc, n40, n41, n92, i32, en]
    refine bldCall (.x 0) rfl (writeString_at (.has (b.bytes ++ [40] ++ strP (s.take i))) [92, c] (by simp only [Bld.bytes_has, List.length_append, List.length_cons, List.length_nil]; omega)) rfl rfl rfl rfl ?_
    simp (maxSteps := 2000000) (disch := omega) only [go_sem, ↓reduceIte]
    refine ⟨i + 1, ?_, by omega, by omega⟩
    have hb : strB c = [92, c] := by rw [cc _ q]; rfl
    refine Weak.mk ?_ ?_ ?_ <;> simp (maxSteps := 2000000) only [go_sem, ↓reduceIte, Sub, Int.natCast_add, Int.natCast_mul, strP_next hc, Bld.bytes_has, hb, List.append_assoc]
   ·have i32 : IntKind.i32.wrap (c.toNat : Int) = c.toNat := IntWalk.i32_in _ (by omega)
    have en : (Utf8.encode (c.toNat : Int)).data.toList = [c] := encode_ascii (by omega)
    have n40 : ((c.toNat : Int) = 40) = False := eq_false (by omega)
    have n41 : ((c.toNat : Int) = 41) = True := eq_true (by omega)
    have n92 : ((c.toNat : Int) = 92) = False := eq_false (by omega)
    simp (maxSteps := 2000000) (disch := omega) only [go_sem, ↓reduceIte, getI_nat s, hc, n40, n41, n92, i32, en]
    refine bldCall (.x 0) rfl (writeString_at (.has (b.bytes ++ [40] ++ strP (s.take i))) [92, c] (by simp only [Bld.bytes_has, List.length_append, List.length_cons, List.length_nil]; omega)) rfl rfl rfl rfl ?_
    simp (maxSteps := 2000000) (disch := omega) only [go_sem, ↓reduceIte]
    refine ⟨i + 1, ?_, by omega, by omega⟩
    have hb : strB c = [92, c] := by rw [cc _ q]; rfl
    refine Weak.mk ?_ ?_ ?_ <;> simp (maxSteps := 2000000) only [go_sem, ↓reduceIte, Sub, Int.natCast_add, Int.natCast_mul, strP_next hc, Bld.bytes_has, hb, List.append_assoc]
   ·have i32 : IntKind.i32.wrap (c.toNat : Int) = c.toNat := IntWalk.i32_in _ (by omega)
    have en : (Utf8.encode (c.toNat : Int)).data.toList = [c] := encode_ascii (by omega)
    have n40 : ((c.toNat : Int) = 40) = False := eq_false (by omega)
    have n41 : ((c.toNat : Int) = 41) = False := eq_false (by omega)
    have n92 : ((c.toNat : Int) = 92) = True := eq_true (by omega)
    simp (maxSteps := 2000000) (disch := omega) only [go_sem, ↓reduceIte, getI_nat s, hc, n40, n41, n92, i32, en]
    refine bldCall (.x 0) rfl (writeString_at (.has (b.bytes ++ [40] ++ strP (s.take i))) [92, c] (by simp only [Bld.bytes_has, List.length_append, List.length_cons, List.length_nil]; omega)) rfl rfl rfl rfl ?_
    simp (maxSteps := 2000000) (disch := omega) only [go_sem, ↓reduceIte]
    refine ⟨i + 1, ?_, by omega, by omega⟩
    have hb : strB c = [92, c] := by rw [cc _ q]; rfl
    refine Weak.mk ?_ ?_ ?_ <;> simp (maxSteps := 2000000) only [go_sem, ↓reduceIte, Sub, Int.natCast_add, Int.natCast_mul, strP_next hc, Bld.bytes_has, hb, List.append_assoc]
   ·obtain ⟨q1, q2, q3, q4, q5⟩ := q
    have n40 : ((c.toNat : Int) = 40) = False := eq_false (by omega)
    have n41 : ((c.toNat : Int) = 41) = False := eq_false (by omega)
    have n92 : ((c.toNat : Int) = 92) = False := eq_false (by omega)
    have L32 : ((32 : Int) ≤ c.toNat) = True := eq_true (by omega)
    have G126 : ((c.toNat : Int) ≤ 126) = True := eq_true (by omega)
    simp (maxSteps := 2000000) (disch := omega) only [go_sem, ↓reduceIte, getI_nat s, hc, n40, n41, n92, L32, G126]
    refine bldCall (.x 0) rfl (writeByte_at (.has (b.bytes ++ [40] ++ strP (s.take i))) c (by simp only [Bld.bytes_has, List.length_append, List.length_cons, List.length_nil]; omega)) rfl rfl rfl rfl ?_
    simp (maxSteps := 2000000) (disch := omega) only [go_sem, ↓reduceIte]
    refine ⟨i + 1, ?_, by omega, by omega⟩
    have hb : strB c = [c] := by
     have z : ¬ (c = 40 ∨ c = 41 ∨ c = 92) := by
      rintro (rfl | rfl | rfl)
      ·exact q1 rfl
      ·exact q2 rfl
      ·exact q3 rfl
     simp [strB, z, q4, q5]
    refine Weak.mk ?_ ?_ ?_ <;> simp (maxSteps := 2000000) only [go_sem, ↓reduceIte, Sub, Int.natCast_add, Int.natCast_mul, strP_next hc, Bld.bytes_has, hb, List.append_assoc]
   ·obtain ⟨q1, q2, q3, q4⟩ := q
    have e1 : Int.fdiv (c.toNat : Int) (2 ^ min 6 IntKind.u8.bits) = ((c.toNat / 64 : Nat) : Int) := shr_u8 c.toNat 6
    have e2 : Int.fdiv (c.toNat : Int) (2 ^ min 3 IntKind.u8.bits) = ((c.toNat / 8 : Nat) : Int) := shr_u8 c.toNat 3
    have e3 : IntKind.u8.wrap (((BitVec.ofInt IntKind.u8.bits ((c.toNat / 8 : Nat) : Int) &&& BitVec.ofInt IntKind.u8.bits 7).toNat : Nat) : Int) = ((c.toNat / 8 % 8 : Nat) : Int) := by
     rw [← and7]; exact and_u8 (m := 7) (by omega) (by decide)
    have e4 : IntKind.u8.wrap (((BitVec.ofInt IntKind.u8.bits (c.toNat : Int) &&& BitVec.ofInt IntKind.u8.bits 7).toNat : Nat) : Int) = ((c.toNat % 8 : Nat) : Int) := by
     rw [← and7]; exact and_u8 (m := 7) hc8 (by decide)
    have hb : strB c = [92, UInt8.ofNat (48 + c.toNat / 64), UInt8.ofNat (48 + c.toNat / 8 % 8), UInt8.ofNat (48 + c.toNat % 8)] := by
     have z : ¬ (c = 40 ∨ c = 41 ∨ c = 92) := by
      rintro (rfl | rfl | rfl)
      ·exact q1 rfl
      ·exact q2 rfl
      ·exact q3 rfl
     unfold strB
     rw [if_neg z, if_neg q4]
    rcases (by omega : ¬ 32 ≤ c.toNat ∨ (32 ≤ c.toNat ∧ ¬ c.toNat ≤ 126)) with r | r
    ·skip
     have n40 : ((c.toNat : Int) = 40) = False := eq_false (by omega)
     have n41 : ((c.toNat : Int) = 41) = False := eq_false (by omega)
     have n92 : ((c.toNat : Int) = 92) = False := eq_false (by omega)
     have L32 : ((32 : Int) ≤ c.toNat) = False := eq_false (by omega)
     simp (maxSteps := 2000000) (disch := omega) only [getI_nat s, hc, Option.map_some, PutG_some, St.put, acons, ops_asg, asgS, St.ev, St.get, aget, ↓reduceIte, Option.getD_some, ops_nil, pop_code, run_block, run_seq, run_reg, ops_val, pev, fB, binD, binI, n40, decide_false, ops_guard, St.mark, aset, putO, Bool.not_false, GuardR_d, Nat.reduceEqDiff, n41, fPick, Bool.false_eq_true, n92, run_cond, BoolG_d, L32, Bool.not_true, reduceCtorEq, Int.reduceLT, Int.reduceToNat, e1, IntWalk.u8_in, e2, e3, e4, ops_bsl, bslS, evL, rdAll, AV.rd, allSz, D.cells, List.length_cons, List.length_nil, Nat.zero_add, beq_self_eq_true, Bool.and_self, Nat.reduceAdd, Nat.reduceMul, Nat.reduceLeDiff, ne_eq, not_false_eq_true, and_self, St.erase, amap, AV.erase, StG_some, fB2s, bytesOf3n, binS, Int.cast_ofNat_Int, Int.reduceLE, List.cons_append, List.nil_append, ops_prim]
     refine bldCall (.x 0) rfl (writeString_at (.has (b.bytes ++ [40] ++ strP (s.take i))) [92, UInt8.ofNat (48 + c.toNat / 64), UInt8.ofNat (48 + c.toNat / 8 % 8), UInt8.ofNat (48 + c.toNat % 8)] (by simp only [Bld.bytes_has, List.length_append, List.length_cons, List.length_nil]; omega)) rfl rfl rfl rfl ?_
     simp (maxSteps := 2000000) (disch := omega) only [go_sem, ↓reduceIte]
     refine ⟨i + 1, ?_, by omega, by omega⟩
     refine Weak.mk ?_ ?_ ?_ <;> simp (maxSteps := 2000000) only [go_sem, ↓reduceIte, Sub, Int.natCast_add, Int.natCast_mul, strP_next hc, Bld.bytes_has, hb, List.append_assoc]
    ·skip
     have n40 : ((c.toNat : Int) = 40) = False := eq_false (by omega)
     have n41 : ((c.toNat : Int) = 41) = False := eq_false (by omega)
     have n92 : ((c.toNat : Int) = 92) = False := eq_false (by omega)
     have L32 : ((32 : Int) ≤ c.toNat) = True := eq_true (by omega)
     have G126 : ((c.toNat : Int) ≤ 126) = False := eq_false (by omega)
     simp (maxSteps := 2000000) (disch := omega) only [getI_nat s, hc, Option.map_some, PutG_some, St.put, acons, ops_asg, asgS, St.ev, St.get, aget, ↓reduceIte, Option.getD_some, ops_nil, pop_code, run_block, run_seq, run_reg, ops_val, pev, fB, binD, binI, n40, decide_false, ops_guard, St.mark, aset, putO, Bool.not_false, GuardR_d, Nat.reduceEqDiff, n41, fPick, Bool.false_eq_true, n92, run_cond, BoolG_d, L32, decide_true, Bool.not_true, G126, reduceCtorEq, Int.reduceLT, Int.reduceToNat, e1, IntWalk.u8_in, e2, e3, e4, ops_bsl, bslS, evL, rdAll, AV.rd, allSz, D.cells, List.length_cons, List.length_nil, Nat.zero_add, beq_self_eq_true, Bool.and_self, Nat.reduceAdd, Nat.reduceMul, Nat.reduceLeDiff, ne_eq, not_false_eq_true, and_self, St.erase, amap, AV.erase, StG_some, fB2s, bytesOf3n, binS, Int.cast_ofNat_Int, Int.reduceLE, List.cons_append, List.nil_append, ops_prim]
     refine bldCall (.x 0) rfl (writeString_at (.has (b.bytes ++ [40] ++ strP (s.take i))) [92, UInt8.ofNat (48 + c.toNat / 64), UInt8.ofNat (48 + c.toNat / 8 % 8), UInt8.ofNat (48 + c.toNat % 8)] (by simp only [Bld.bytes_has, List.length_append, List.length_cons, List.length_nil]; omega)) rfl rfl rfl rfl ?_
     simp (maxSteps := 2000000) (disch := omega) only [go_sem, ↓reduceIte]
     refine ⟨i + 1, ?_, by omega, by omega⟩
     refine Weak.mk ?_ ?_ ?_ <;> simp (maxSteps := 2000000) only [go_sem, ↓reduceIte, Sub, Int.natCast_add, Int.natCast_mul, strP_next hc, Bld.bytes_has, hb, List.append_assoc]
  ·have hll := strP_length s
   rw [List.take_of_length_le (by omega)]
   refine bldCall (.x 0) rfl (writeByte_at (.has (b.bytes ++ [40] ++ strP s)) 41 (by simp only [Bld.bytes_has, List.length_append, List.length_cons, List.length_nil]; omega)) rfl rfl rfl rfl ?_
   simp (maxSteps := 2000000) only [go_sem, ↓reduceIte, Bld.bytes_has]
def L_foliowrightref_NameText : LCode :=
 .seq (.reg [Qx 2 (.k (.d (.str [])))]) (.seq (.reg [Qx 3 (.k (.d (.str [47])))]) (.seq (.seq (.reg [Qx 4 (Ki 0)]) (.block 0 (.loop (.seq (.seq (.reg [Qc 7 4, Qc 8 0, Q 9 (.len true 
 (.t 8)), Q 10 (.bin .lss (.t 7) (.t 9))]) (.cond (.t 10) .skip (.exit 0))) (.seq (.block 1 (.seq (.reg [Qc 13 0, Qc 14 4, Q 15 (.idxS (.t 13) (.t 14)), Qa 5 15]) (.seq (.reg [Qc 
 16 5, Q 17 (.bin .eql (.t 16) (Kb 40)), Qc 18 17, Qd 19 5 18 false, Qg 20 (.bin .eql (.t 19) (Kb 41)) 18 false, Q 21 (.pick (.t 18) KT (.t 20)), Qc 22 21, Qd 23 5 22 false, Qg 24 
 (.bin .eql (.t 23) (Kb 60)) 22 false, Q 25 (.pick (.t 22) KT (.t 24)), Qc 26 25, Qd 27 5 26 false, Qg 28 (.bin .eql (.t 27) (Kb 62)) 26 false, Q 29 (.pick (.t 26) KT (.t 28)), Qc 
 30 29, Qd 31 5 30 false, Qg 32 (.bin .eql (.t 31) (Kb 91)) 30 false, Q 33 (.pick (.t 30) KT (.t 32)), Qc 34 33, Qd 35 5 34 false, Qg 36 (.bin .eql (.t 35) (Kb 93)) 34 false, Q 37 
 (.pick (.t 34) KT (.t 36)), Qc 38 37, Qd 39 5 38 false, Qg 40 (.bin .eql (.t 39) (Kb 123)) 38 false, Q 41 (.pick (.t 38) KT (.t 40)), Qc 42 41, Qd 43 5 42 false, Qg 44 (.bin .eql 
 (.t 43) (Kb 125)) 42 false, Q 45 (.pick (.t 42) KT (.t 44)), Qc 46 45, Qd 47 5 46 false, Qg 48 (.bin .eql (.t 47) (Kb 47)) 46 false, Q 49 (.pick (.t 46) KT (.t 48)), Qc 50 49, Qd 
 51 5 50 false, Qg 52 (.bin .eql (.t 51) (Kb 37)) 50 false, Q 53 (.pick (.t 50) KT (.t 52)), Qc 54 53, Qd 55 5 54 false, Qg 56 (.bin .eql (.t 55) (Kb 35)) 54 false, Q 57 (.pick 
 (.t 54) KT (.t 56)), Qa 6 57]) (.seq (.reg [Qc 58 5, Q 59 (.bin .gtr (.t 58) (Kb 32)), Qc 60 59, Qd 61 5 60 true, Qg 62 (.bin .lss (.t 61) (Kb 127)) 60 true, Q 63 (.pick (.t 60) 
 (.t 62) KF), Qc 64 63, Qd 65 6 64 true, Qg 66 (.not (.t 65)) 64 true, Q 67 (.pick (.t 64) (.t 66) KF)]) (.cond (.t 67) (.reg [Qc 68 3, Qc 69 5, ⟨some 70, .bsl 5 1 [.t 69], none⟩, 
 Q 71 (.b2s (.t 70)), Q 72 (.bin .add (.t 68) (.t 71)), Qa 3 72]) (.dreg [Qc 73 3, Qc 74 5, Q 75 (.bin .quo (.t 74) (Kb 16)), Q 76 (.idxS (.k (.d (.str [48, 49, 50, 51, 52, 53, 
 54, 55, 56, 57, 65, 66, 67, 68, 69, 70]))) (.t 75)), Qc 77 5, Q 78 (.bin .rem (.t 77) (Kb 16)), Q 79 (.idxS (.k (.d (.str [48, 49, 50, 51, 52, 53, 54, 55, 56, 57, 65, 66, 67, 68, 
 69, 70]))) (.t 78)), ⟨some 80, .bsl 5 1 [.k (.d (.int .u8 35)), .t 76, .t 79], none⟩, Q 81 (.b2s (.t 80)), Q 82 (.bin .add (.t 73) (.t 81)), Qa 3 82])))))) (.reg [Qc 11 4, Q 12 
 (.bin .add (.t 11) (Ki 1)), Qa 4 12])))))) (.seq (.reg [Qc 83 3, Qa 2 83]) .ret)))
def R_foliowrightref_NameText : List LRes := [.tmp 2]
theorem lift_foliowrightref_NameText : Lifts Tryz.prog 48 84 L_foliowrightref_NameText R_foliowrightref_NameText := ⟨_, _, Tryz.func48, rfl, by kernel_rfl, by kernel_rfl, rfl⟩
theorem nameText_call (s : List UInt8) (hl : 3 * s.length + 1 ≤ 1000000000) : PCall Tryz.prog 48 [.str s] (fun r => r = .one (.str ([47] ++ nameP s))) := by
 refine lift_foliowrightref_NameText.call rfl ?_
 simp (maxSteps := 2000000) only [go_sem, ↓reduceIte, L_foliowrightref_NameText, R_foliowrightref_NameText]
 refine run_loop (fun i : Nat => ⟨[(0, .d (.str s)), (3, .d (.str ([47] ++ nameP (s.take i)))), (4, .d (.int .i64 i))], [], []⟩)
  (fun i => i ≤ s.length) (fun i => s.length - i) 0 ?_ ?_ ?_
 ·refine Weak.mk ?_ ?_ ?_ <;> simp (maxSteps := 2000000) only [go_sem, ↓reduceIte, Sub, Int.natCast_add, Int.natCast_mul, List.take_zero, nameP, List.flatMap_nil]
 ·omega
 ·intro i hi
  simp (maxSteps := 2000000) only [go_sem, ↓reduceIte]
  refine ⟨fun hlt => ?_, fun hge => ?_⟩
  ·obtain ⟨c, hc⟩ := get_some (l := s) (i := i) (by omega)
   have hc8 := u8_lt c
   have cc : ∀ k : Nat, c.toNat = k → c = UInt8.ofNat k := fun k h => by rw [← h]; simp
   have ht : ([48, 49, 50, 51, 52, 53, 54, 55, 56, 57, 65, 66, 67, 68, 69, 70] : List UInt8) = hexTab := rfl
   have hle := nameP_length (s.take i)
   rw [List.length_take] at hle
   rcases (by omega : c.toNat = 40 ∨ c.toNat = 41 ∨ c.toNat = 60 ∨ c.toNat = 62 ∨ c.toNat = 91 ∨ c.toNat = 93 ∨ c.toNat = 123 ∨ c.toNat = 125 ∨ c.toNat = 47 ∨ c.toNat = 37 ∨ c.toNat = 35 ∨ (c.toNat ≠ 40 ∧ c.toNat ≠ 41 ∧ c.toNat ≠ 60 ∧ c.toNat ≠ 62 ∧ c.toNat ≠ 91 ∧ c.toNat ≠ 93 ∧ c.toNat ≠ 123 ∧ c.toNat ≠ 125 ∧ c.toNat ≠ 47 ∧ c.toNat ≠ 37 ∧ c.toNat ≠ 35)) with q | q | q | q | q | q | q | q | q | q | q | q
   ·skip
    have e1 : Int.tdiv (c.toNat : Int) 16 = ((c.toNat / 16 : Nat) : Int) := rfl
    have e2 : Int.tmod (c.toNat : Int) 16 = ((c.toNat % 16 : Nat) : Int) := rfl
    have w1 : IntKind.u8.wrap ((c.toNat / 16 : Nat) : Int) = ((c.toNat / 16 : Nat) : Int) := IntWalk.u8_in _ (by omega)
    have w2 : IntKind.u8.wrap ((c.toNat % 16 : Nat) : Int) = ((c.toNat % 16 : Nat) : Int) := IntWalk.u8_in _ (by omega)
    have t1 : getI hexTab ((c.toNat / 16 : Nat) : Int) = some (hexTab.getD (c.toNat / 16) 0) := tab_get (by omega)
    have t2 : getI hexTab ((c.toNat % 16 : Nat) : Int) = some (hexTab.getD (c.toNat % 16) 0) := tab_get (by omega)
    have b3 := bytesOf3 35 (hexTab.getD (c.toNat / 16) 0) (hexTab.getD (c.toNat % 16) 0)
    have z35 : ((UInt8.toNat 35 : Nat) : Int) = 35 := rfl
    rw [z35] at b3
    have n40 : ((c.toNat : Int) = 40) = True := eq_true (by omega)
    have n41 : ((c.toNat : Int) = 41) = False := eq_false (by omega)
    have n60 : ((c.toNat : Int) = 60) = False := eq_false (by omega)
    have n62 : ((c.toNat : Int) = 62) = False := eq_false (by omega)
    have n91 : ((c.toNat : Int) = 91) = False := eq_false (by omega)
    have n93 : ((c.toNat : Int) = 93) = False := eq_false (by omega)
    have n123 : ((c.toNat : Int) = 123) = False := eq_false (by omega)
    have n125 : ((c.toNat : Int) = 125) = False := eq_false (by omega)
    have n47 : ((c.toNat : Int) = 47) = False := eq_false (by omega)
    have n37 : ((c.toNat : Int) = 37) = False := eq_false (by omega)
    have n35 : ((c.toNat : Int) = 35) = False := eq_false (by omega)
    have l32 : ((32 : Int) < c.toNat) = True := eq_true (by omega)
    have g127 : ((c.toNat : Int) < 127) = True := eq_true (by omega)
    simp (maxSteps := 2000000) (disch := omega) only [go_sem, ↓reduceIte, getI_nat s, hc, ht, n40, n41, n60, n62, n91, n93, n123, n125, n47, n37, n35, l32, g127, e1, e2, w1, w2, t1, t2, b3]
    refine ⟨by omega, i + 1, ?_, by omega, by omega⟩
    have hb : nameB c = [35, hexTab.getD (c.toNat / 16) 0, hexTab.getD (c.toNat % 16) 0] := by rw [cc _ q]; rfl
    refine Weak.mk ?_ ?_ ?_ <;> simp (maxSteps := 2000000) only [go_sem, ↓reduceIte, Sub, Int.natCast_add, Int.natCast_mul, nameP_next hc, hb, List.append_assoc]
   ·skip
    have e1 : Int.tdiv (c.toNat : Int) 16 = ((c.toNat / 16 : Nat) : Int) := rfl
    have e2 : Int.tmod (c.toNat : Int) 16 = ((c.toNat % 16 : Nat) : Int) := rfl
    have w1 : IntKind.u8.wrap ((c.toNat / 16 : Nat) : Int) = ((c.toNat / 16 : Nat) : Int) := IntWalk.u8_in _ (by omega)
    have w2 : IntKind.u8.wrap ((c.toNat % 16 : Nat) : Int) = ((c.toNat % 16 : Nat) : Int) := IntWalk.u8_in _ (by omega)
    have t1 : getI hexTab ((c.toNat / 16 : Nat) : Int) = some (hexTab.getD (c.toNat / 16) 0) := tab_get (by omega)
    have t2 : getI hexTab ((c.toNat % 16 : Nat) : Int) = some (hexTab.getD (c.toNat % 16) 0) := tab_get (by omega)
    have b3 := bytesOf3 35 (hexTab.getD (c.toNat / 16) 0) (hexTab.getD (c.toNat % 16) 0)
    have z35 : ((UInt8.toNat 35 : Nat) : Int) = 35 := rfl
    rw [z35] at b3
    have n40 : ((c.toNat : Int) = 40) = False := eq_false (by omega)
    have n41 : ((c.toNat : Int) = 41) = True := eq_true (by omega)
    have n60 : ((c.toNat : Int) = 60) = False := eq_false (by omega)
    have n62 : ((c.toNat : Int) = 62) = False := eq_false (by omega)
    have n91 : ((c.toNat : Int) = 91) = False := eq_false (by omega)
    have n93 : ((c.toNat : Int) = 93) = False := eq_false (by omega)
    have n123 : ((c.toNat : Int) = 123) = False := eq_false (by omega)
    have n125 : ((c.toNat : Int) = 125) = False := eq_false (by omega)
    have n47 : ((c.toNat : Int) = 47) = False := eq_false (by omega)
    have n37 : ((c.toNat : Int) = 37) = False := eq_false (by omega)
    have n35 : ((c.toNat : Int) = 35) = False := eq_false (by omega)
    have l32 : ((32 : Int) < c.toNat) = True := eq_true (by omega)
    have g127 : ((c.toNat : Int) < 127) = True := eq_true (by omega)
    simp (maxSteps := 2000000) (disch := omega) only [go_sem, ↓reduceIte, getI_nat s, hc, ht, n40, n41, n60, n62, n91, n93, n123, n125, n47, n37, n35, l32, g127, e1, e2, w1, w2, t1, t2, b3]
    refine ⟨by omega, i + 1, ?_, by omega, by omega⟩
    have hb : nameB c = [35, hexTab.getD (c.toNat / 16) 0, hexTab.getD (c.toNat % 16) 0] := by rw [cc _ q]; rfl
    refine Weak.mk ?_ ?_ ?_ <;> simp (maxSteps := 2000000) only [go_sem, ↓reduceIte, Sub, Int.natCast_add, Int.natCast_mul, nameP_next hc, hb, List.append_assoc]
   ·skip
    have e1 : Int.tdiv (c.toNat : Int) 16 = ((c.toNat / 16 : Nat) : Int) := rfl
    have e2 : Int.tmod (c.toNat : Int) 16 = ((c.toNat % 16 : Nat) : Int) := rfl
    have w1 : IntKind.u8.wrap ((c.toNat / 16 : Nat) : Int) = ((c.toNat / 16 : Nat) : Int) := IntWalk.u8_in _ (by omega)
    have w2 : IntKind.u8.wrap ((c.toNat % 16 : Nat) : Int) = ((c.toNat % 16 : Nat) : Int) := IntWalk.u8_in _ (by omega)
    have t1 : getI hexTab ((c.toNat / 16 : Nat) : Int) = some (hexTab.getD (c.toNat / 16) 0) := tab_get (by omega)
    have t2 : getI hexTab ((c.toNat % 16 : Nat) : Int) = some (hexTab.getD (c.toNat % 16) 0) := tab_get (by omega)
    have b3 := bytesOf3 35 (hexTab.getD (c.toNat / 16) 0) (hexTab.getD (c.toNat % 16) 0)
    have z35 : ((UInt8.toNat 35 : Nat) : Int) = 35 := rfl
    rw [z35] at b3
    have n40 : ((c.toNat : Int) = 40) = False := eq_false (by omega)
    have n41 : ((c.toNat : Int) = 41) = False := eq_false (by omega)
    have n60 : ((c.toNat : Int) = 60) = True := eq_true (by omega)
    have n62 : ((c.toNat : Int) = 62) = False := eq_false (by omega)
    have n91 : ((c.toNat : Int) = 91) = False := eq_false (by omega)
    have n93 : ((c.toNat : Int) = 93) = False := eq_false (by omega)
    have n123 : ((c.toNat : Int) = 123) = False := eq_false (by omega)
    have n125 : ((c.toNat : Int) = 125) = False := eq_false (by omega)
    have n47 : ((c.toNat : Int) = 47) = False := eq_false (by omega)
    have n37 : ((c.toNat : Int) = 37) = False := eq_false (by omega)
    have n35 : ((c.toNat : Int) = 35) = False := eq_false (by omega)
    have l32 : ((32 : Int) < c.toNat) = True := eq_true (by omega)
    have g127 : ((c.toNat : Int) < 127) = True := eq_true (by omega)
    simp (maxSteps := 2000000) (disch := omega) only [go_sem, ↓reduceIte, getI_nat s, hc, ht, n40, n41, n60, n62, n91, n93, n123, n125, n47, n37, n35, l32, g127, e1, e2, w1, w2, t1, t2, b3]
    refine ⟨by omega, i + 1, ?_, by omega, by omega⟩
    have hb : nameB c = [35, hexTab.getD (c.toNat / 16) 0, hexTab.getD (c.toNat % 16) 0] := by rw [cc _ q]; rfl
    refine Weak.mk ?_ ?_ ?_ <;> simp (maxSteps := 2000000) only [go_sem, ↓reduceIte, Sub, Int.natCast_add, Int.natCast_mul, nameP_next hc, hb, List.append_assoc]
   ·skip
    have e1 : Int.tdiv (c.toNat : Int) 16 = ((c.toNat / 16 : Nat) : Int) := rfl
    have e2 : Int.tmod (c.toNat : Int) 16 = ((c.toNat % 16 : Nat) : Int) := rfl
    have w1 : IntKind.u8.wrap ((c.toNat / 16 : Nat) : Int) = ((c.toNat / 16 : Nat) : Int) := IntWalk.u8_in _ (by omega)
    have w2 : IntKind.u8.wrap ((c.toNat % 16 : Nat) : Int) = ((c.toNat % 16 : Nat) : Int) := IntWalk.u8_in _ (by omega)
    have t1 : getI hexTab ((c.toNat / 16 : Nat) : Int) = some (hexTab.getD (c.toNat / 16) 0) := tab_get (by omega)
    have t2 : getI hexTab ((c.toNat % 16 : Nat) : Int) = some (hexTab.getD (c.toNat % 16) 0) := tab_get (by omega)
    have b3 := bytesOf3 35 (hexTab.getD (c.toNat / 16) 0) (hexTab.getD (c.toNat % 16) 0)
    have z35 : ((UInt8.toNat 35 : Nat) : Int) = 35 := rfl
    rw [z35] at b3
    have n40 : ((c.toNat : Int) = 40) = False := eq_false (by omega)
    have n41 : ((c.toNat : Int) = 41) = False := eq_false (by omega)
    have n60 : ((c.toNat : Int) = 60) = False := eq_false (by omega)
    have n62 : ((c.toNat : Int) = 62) = True := eq_true (by omega)
    have n91 : ((c.toNat : Int) = 91) = False := eq_false (by omega)
    have n93 : ((c.toNat : Int) = 93) = False := eq_false (by omega)
    have n123 : ((c.toNat : Int) = 123) = False := eq_false (by omega)
    have n125 : ((c.toNat : Int) = 125) = False := eq_false (by omega)
    have n47 : ((c.toNat : Int) = 47) = False := eq_false (by omega)
    have n37 : ((c.toNat : Int) = 37) = False := eq_false (by omega)
    have n35 : ((c.toNat : Int) = 35) = False := eq_false (by omega)
    have l32 : ((32 : Int) < c.toNat) = True := eq_true (by omega)
    have g127 : ((c.toNat : Int) < 127) = True := eq_true (by omega)
    simp (maxSteps := 2000000) (disch := omega) only [go_sem, ↓reduceIte, getI_nat s, hc, ht, n40, n41, n60, n62, n91, n93, n123, n125, n47, n37, n35, l32, g127, e1, e2, w1, w2, t1, t2, b3]
    refine ⟨by omega, i + 1, ?_, by omega, by omega⟩
    have hb : nameB c = [35, hexTab.getD (c.toNat / 16) 0, hexTab.getD (c.toNat % 16) 0] := by rw [cc _ q]; rfl
    refine Weak.mk ?_ ?_ ?_ <;> simp (maxSteps := 2000000) only [go_sem, ↓reduceIte, Sub, Int.natCast_add, Int.natCast_mul, nameP_next hc, hb, List.append_assoc]
   ·skip
    have e1 : Int.tdiv (c.toNat : Int) 16 = ((c.toNat / 16 : Nat) : Int) := rfl
    have e2 : Int.tmod (c.toNat : Int) 16 = ((c.toNat % 16 : Nat) : Int) := rfl
    have w1 : IntKind.u8.wrap ((c.toNat / 16 : Nat) : Int) = ((c.toNat / 16 : Nat) : Int) := IntWalk.u8_in _ (by omega)
    have w2 : IntKind.u8.wrap ((c.toNat % 16 : Nat) : Int) = ((c.toNat % 16 : Nat) : Int) := IntWalk.u8_in _ (by omega)
    have t1 : getI hexTab ((c.toNat / 16 : Nat) : Int) = some (hexTab.getD (c.toNat / 16) 0) := tab_get (by omega)
    have t2 : getI hexTab ((c.toNat % 16 : Nat) : Int) = some (hexTab.getD (c.toNat % 16) 0) := tab_get (by omega)
    have b3 := bytesOf3 35 (hexTab.getD (c.toNat / 16) 0) (hexTab.getD (c.toNat % 16) 0)
    have z35 : ((UInt8.toNat 35 : Nat) : Int) = 35 := rfl
    rw [z35] at b3
    have n40 : ((c.toNat : Int) = 40) = False := eq_false (by omega)
    have n41 : ((c.toNat : Int) = 41) = False := eq_false (by omega)
    have n60 : ((c.toNat : Int) = 60) = False := eq_false (by omega)
    have n62 : ((c.toNat : Int) = 62) = False := eq_false (by omega)
    have n91 : ((c.toNat : Int) = 91) = True := eq_true (by omega)
    have n93 : ((c.toNat : Int) = 93) = False := eq_false (by omega)
    have n123 : ((c.toNat : Int) = 123) = False := eq_false (by omega)
    have n125 : ((c.toNat : Int) = 125) = False := eq_false (by omega)
    have n47 : ((c.toNat : Int) = 47) = False := eq_false (by omega)
    have n37 : ((c.toNat : Int) = 37) = False := eq_false (by omega)
    have n35 : ((c.toNat : Int) = 35) = False := eq_false (by omega)
    have l32 : ((32 : Int) < c.toNat) = True := eq_true (by omega)
    have g127 : ((c.toNat : Int) < 127) = True := eq_true (by omega)
    simp (maxSteps := 2000000) (disch := omega) only [go_sem, ↓reduceIte, getI_nat s, hc, ht, n40, n41, n60, n62, n91, n93, n123, n125, n47, n37, n35, l32, g127, e1, e2, w1, w2, t1, t2, b3]
    refine ⟨by omega, i + 1, ?_, by omega, by omega⟩
    have hb : nameB c = [35, hexTab.getD (c.toNat / 16) 0, hexTab.getD (c.toNat % 16) 0] := by rw [cc _ q]; rfl
    refine Weak.mk ?_ ?_ ?_ <;> simp (maxSteps := 2000000) only [go_sem, ↓reduceIte, Sub, Int.natCast_add, Int.natCast_mul, nameP_next hc, hb, List.append_assoc]
   ·skip
    have e1 : Int.tdiv (c.toNat : Int) 16 = ((c.toNat / 16 : Nat) : Int) := rfl
    have e2 : Int.tmod (c.toNat : Int) 16 = ((c.toNat % 16 : Nat) : Int) := rfl
    have w1 : IntKind.u8.wrap ((c.toNat / 16 : Nat) : Int) = ((c.toNat / 16 : Nat) : Int) := IntWalk.u8_in _ (by omega)
    have w2 : IntKind.u8.wrap ((c.toNat % 16 : Nat) : Int) = ((c.toNat % 16 : Nat) : Int) := IntWalk.u8_in _ (by omega)
    have t1 : getI hexTab ((c.toNat / 16 : Nat) : Int) = some (hexTab.getD (c.toNat / 16) 0) := tab_get (by omega)
    have t2 : getI hexTab ((c.toNat % 16 : Nat) : Int) = some (hexTab.getD (c.toNat % 16) 0) := tab_get (by omega)
    have b3 := bytesOf3 35 (hexTab.getD (c.toNat / 16) 0) (hexTab.getD (c.toNat % 16) 0)
    have z35 : ((UInt8.toNat 35 : Nat) : Int) = 35 := rfl
    rw [z35] at b3
    have n40 : ((c.toNat : Int) = 40) = False := eq_false (by omega)
    have n41 : ((c.toNat : Int) = 41) = False := eq_false (by omega)
    have n60 : ((c.toNat : Int) = 60) = False := eq_false (by omega)
    have n62 : ((c.toNat : Int) = 62) = False := eq_false (by omega)
    have n91 : ((c.toNat : Int) = 91) = False := eq_false (by omega)
    have n93 : ((c.toNat : Int) = 93) = True := eq_true (by omega)
    have n123 : ((c.toNat : Int) = 123) = False := eq_false (by omega)
    have n125 : ((c.toNat : Int) = 125) = False := eq_false (by omega)
    have n47 : ((c.toNat : Int) = 47) = False := eq_false (by omega)
    have n37 : ((c.toNat : Int) = 37) = False := eq_false (by omega)
    have n35 : ((c.toNat : Int) = 35) = False := eq_false (by omega)
    have l32 : ((32 : Int) < c.toNat) = True := eq_true (by omega)
    have g127 : ((c.toNat : Int) < 127) = True := eq_true (by omega)
    simp (maxSteps := 2000000) (disch := omega) only [go_sem, ↓reduceIte, getI_nat s, hc, ht, n40, n41, n60, n62, n91, n93, n123, n125, n47, n37, n35, l32, g127, e1, e2, w1, w2, t1, t2, b3]
    refine ⟨by omega, i + 1, ?_, by omega, by omega⟩
    have hb : nameB c = [35, hexTab.getD (c.toNat / 16) 0, hexTab.getD (c.toNat % 16) 0] := by rw [cc _ q]; rfl
    refine Weak.mk ?_ ?_ ?_ <;> simp (maxSteps := 2000000) only [go_sem, ↓reduceIte, Sub, Int.natCast_add, Int.natCast_mul, nameP_next hc, hb, List.append_assoc]
   ·skip
    have e1 : Int.tdiv (c.toNat : Int) 16 = ((c.toNat / 16 : Nat) : Int) := rfl
    have e2 : Int.tmod (c.toNat : Int) 16 = ((c.toNat % 16 : Nat) : Int) := rfl
    have w1 : IntKind.u8.wrap ((c.toNat / 16 : Nat) : Int) = ((c.toNat / 16 : Nat) : Int) := IntWalk.u8_in _ (by omega)
    have w2 : IntKind.u8.wrap ((c.toNat % 16 : Nat) : Int) = ((c.toNat % 16 : Nat) : Int) := IntWalk.u8_in _ (by omega)
    have t1 : getI hexTab ((c.toNat / 16 : Nat) : Int) = some (hexTab.getD (c.toNat / 16) 0) := tab_get (by omega)
    have t2 : getI hexTab ((c.toNat % 16 : Nat) : Int) = some (hexTab.getD (c.toNat % 16) 0) := tab_get (by omega)
    have b3 := bytesOf3 35 (hexTab.getD (c.toNat / 16) 0) (hexTab.getD (c.toNat % 16) 0)
    have z35 : ((UInt8.toNat 35 : Nat) : Int) = 35 := rfl
    rw [z35] at b3
    have n40 : ((c.toNat : Int) = 40) = False := eq_false (by omega)
    have n41 : ((c.toNat : Int) = 41) = False := eq_false (by omega)
    have n60 : ((c.toNat : Int) = 60) = False := eq_false (by omega)
    have n62 : ((c.toNat : Int) = 62) = False := eq_false (by omega)
    have n91 : ((c.toNat : Int) = 91) = False := eq_false (by omega)
    have n93 : ((c.toNat : Int) = 93) = False := eq_false (by omega)
    have n123 : ((c.toNat : Int) = 123) = True := eq_true (by omega)
    have n125 : ((c.toNat : Int) = 125) = False := eq_false (by omega)
    have n47 : ((c.toNat : Int) = 47) = False := eq_false (by omega)
    have n37 : ((c.toNat : Int) = 37) = False := eq_false (by omega)
    have n35 : ((c.toNat : Int) = 35) = False := eq_false (by omega)
    have l32 : ((32 : Int) < c.toNat) = True := eq_true (by omega)
    have g127 : ((c.toNat : Int) < 127) = True := eq_true (by omega)
    simp (maxSteps := 2000000) (disch := omega) only [go_sem, ↓reduceIte, getI_nat s, hc, ht, n40, n41, n60, n62, n91, n93, n123, n125, n47, n37, n35, l32, g127, e1, e2, w1, w2, t1, t2, b3]
    refine ⟨by omega, i + 1, ?_, by omega, by omega⟩
    have hb : nameB c = [35, hexTab.getD (c.toNat / 16) 0, hexTab.getD (c.toNat % 16) 0] := by rw [cc _ q]; rfl
    refine Weak.mk ?_ ?_ ?_ <;> simp (maxSteps := 2000000) only [go_sem, ↓reduceIte, Sub, Int.natCast_add, Int.natCast_mul, nameP_next hc, hb, List.append_assoc]
   ·skip
    have e1 : Int.tdiv (c.toNat : Int) 16 = ((c.toNat / 16 : Nat) : Int) := rfl
    have e2 : Int.tmod (c.toNat : Int) 16 = ((c.toNat % 16 : Nat) : Int) := rfl
    have w1 : IntKind.u8.wrap ((c.toNat / 16 : Nat) : Int) = ((c.toNat / 16 : Nat) : Int) := IntWalk.u8_in _ (by omega)
    have w2 : IntKind.u8.wrap ((c.toNat % 16 : Nat) : Int) = ((c.toNat % 16 : Nat) : Int) := IntWalk.u8_in _ (by omega)
    have t1 : getI hexTab ((c.toNat / 16 : Nat) : Int) = some (hexTab.getD (c.toNat / 16) 0) := tab_get (by omega)
    have t2 : getI hexTab ((c.toNat % 16 : Nat) : Int) = some (hexTab.getD (c.toNat % 16) 0) := tab_get (by omega)
    have b3 := bytesOf3 35 (hexTab.getD (c.toNat / 16) 0) (hexTab.getD (c.toNat % 16) 0)
    have z35 : ((UInt8.toNat 35 : Nat) : Int) = 35 := rfl
    rw [z35] at b3
    have n40 : ((c.toNat : Int) = 40) = False := eq_false (by omega)
    have n41 : ((c.toNat : Int) = 41) = False := eq_false (by omega)
    have n60 : ((c.toNat : Int) = 60) = False := eq_false (by omega)
    have n62 : ((c.toNat : Int) = 62) = False := eq_false (by omega)
    have n91 : ((c.toNat : Int) = 91) = False := eq_false (by omega)
    have n93 : ((c.toNat : Int) = 93) = False := eq_false (by omega)
    have n123 : ((c.toNat : Int) = 123) = False := eq_false (by omega)
    have n125 : ((c.toNat : Int) = 125) = True := eq_true (by omega)
    have n47 : ((c.toNat : Int) = 47) = False := eq_false (by omega)
    have n37 : ((c.toNat : Int) = 37) = False := eq_false (by omega)
    have n35 : ((c.toNat : Int) = 35) = False := eq_false (by omega)
    have l32 : ((32 : Int) < c.toNat) = True := eq_true (by omega)
    have g127 : ((c.toNat : Int) < 127) = True := eq_true (by omega)
    simp (maxSteps := 2000000) (disch := omega) only [go_sem, ↓reduceIte, getI_nat s, hc, ht, n40, n41, n60, n62, n91, n93, n123, n125, n47, n37, n35, l32, g127, e1, e2, w1, w2, t1, t2, b3]
    refine ⟨by omega, i + 1, ?_, by omega, by omega⟩
    have hb : nameB c = [35, hexTab.getD (c.toNat / 16) 0, hexTab.getD (c.toNat % 16) 0] := by rw [cc _ q]; rfl
    refine Weak.mk ?_ ?_ ?_ <;> simp (maxSteps := 2000000) only [go_sem, ↓reduceIte, Sub, Int.natCast_add, Int.natCast_mul, nameP_next hc, hb, List.append_assoc]
   ·skip
    have e1 : Int.tdiv (c.toNat : Int) 16 = ((c.toNat / 16 : Nat) : Int) := rfl
    have e2 : Int.tmod (c.toNat : Int) 16 = ((c.toNat % 16 : Nat) : Int) := rfl
    have w1 : IntKind.u8.wrap ((c.toNat / 16 : Nat) : Int) = ((c.toNat / 16 : Nat) : Int) := IntWalk.u8_in _ (by omega)
    have w2 : IntKind.u8.wrap ((c.toNat % 16 : Nat) : Int) = ((c.toNat % 16 : Nat) : Int) := IntWalk.u8_in _ (by omega)
    have t1 : getI hexTab ((c.toNat / 16 : Nat) : Int) = some (hexTab.getD (c.toNat / 16) 0) := tab_get (by omega)
    have t2 : getI hexTab ((c.toNat % 16 : Nat) : Int) = some (hexTab.getD (c.toNat % 16) 0) := tab_get (by omega)
    have b3 := bytesOf3 35 (hexTab.getD (c.toNat / 16) 0) (hexTab.getD (c.toNat % 16) 0)
    have z35 : ((UInt8.toNat 35 : Nat) : Int) = 35 := rfl
    rw [z35] at b3
    have n40 : ((c.toNat : Int) = 40) = False := eq_false (by omega)
    have n41 : ((c.toNat : Int) = 41) = False := eq_false (by omega)
    have n60 : ((c.toNat : Int) = 60) = False := eq_false (by omega)
    have n62 : ((c.toNat : Int) = 62) = False := eq_false (by omega)
    have n91 : ((c.toNat : Int) = 91) = False := eq_false (by omega)
    have n93 : ((c.toNat : Int) = 93) = False := eq_false (by omega)
    have n123 : ((c.toNat : Int) = 123) = False := eq_false (by omega)
    have n125 : ((c.toNat : Int) = 125) = False := eq_false (by omega)
    have n47 : ((c.toNat : Int) = 47) = True := eq_true (by omega)
    have n37 : ((c.toNat : Int) = 37) = False := eq_false (by omega)
    have n35 : ((c.toNat : Int) = 35) = False := eq_false (by omega)
    have l32 : ((32 : Int) < c.toNat) = True := eq_true (by omega)
    have g127 : ((c.toNat : Int) < 127) = True := eq_true (by omega)
    simp (maxSteps := 2000000) (disch := omega) only [go_sem, ↓reduceIte, getI_nat s, hc, ht, n40, n41, n60, n62, n91, n93, n123, n125, n47, n37, n35, l32, g127, e1, e2, w1, w2, t1, t2, b3]
    refine ⟨by omega, i + 1, ?_, by omega, by omega⟩
    have hb : nameB c = [35, hexTab.getD (c.toNat / 16) 0, hexTab.getD (c.toNat % 16) 0] := by rw [cc _ q]; rfl
    refine Weak.mk ?_ ?_ ?_ <;> simp (maxSteps := 2000000) only [go_sem, ↓reduceIte, Sub, Int.natCast_add, Int.natCast_mul, nameP_next hc, hb, List.append_assoc]
   ·skip
    have e1 : Int.tdiv (c.toNat : Int) 16 = ((c.toNat / 16 : Nat) : Int) := rfl
    have e2 : Int.tmod (c.toNat : Int) 16 = ((c.toNat % 16 : Nat) : Int) := rfl
    have w1 : IntKind.u8.wrap ((c.toNat / 16 : Nat) : Int) = ((c.toNat / 16 : Nat) : Int) := IntWalk.u8_in _ (by omega)
    have w2 : IntKind.u8.wrap ((c.toNat % 16 : Nat) : Int) = ((c.toNat % 16 : Nat) : Int) := IntWalk.u8_in _ (by omega)
    have t1 : getI hexTab ((c.toNat / 16 : Nat) : Int) = some (hexTab.getD (c.toNat / 16) 0) := tab_get (by omega)
    have t2 : getI hexTab ((c.toNat % 16 : Nat) : Int) = some (hexTab.getD (c.toNat % 16) 0) := tab_get (by omega)
    have b3 := bytesOf3 35 (hexTab.getD (c.toNat / 16) 0) (hexTab.getD (c.toNat % 16) 0)
    have z35 : ((UInt8.toNat 35 : Nat) : Int) = 35 := rfl
    rw [z35] at b3
    have n40 : ((c.toNat : Int) = 40) = False := eq_false (by omega)
    have n41 : ((c.toNat : Int) = 41) = False := eq_false (by omega)
    have n60 : ((c.toNat : Int) = 60) = False := eq_false (by omega)
    have n62 : ((c.toNat : Int) = 62) = False := eq_false (by omega)
    have n91 : ((c.toNat : Int) = 91) = False := eq_false (by omega)
    have n93 : ((c.toNat : Int) = 93) = False := eq_false (by omega)
    have n123 : ((c.toNat : Int) = 123) = False := eq_false (by omega)
    have n125 : ((c.toNat : Int) = 125) = False := eq_false (by omega)
    have n47 : ((c.toNat : Int) = 47) = False := eq_false (by omega)
    have n37 : ((c.toNat : Int) = 37) = True := eq_true (by omega)
    have n35 : ((c.toNat : Int) = 35) = False := eq_false (by omega)
    have l32 : ((32 : Int) < c.toNat) = True := eq_true (by omega)
    have g127 : ((c.toNat : Int) < 127) = True := eq_true (by omega)
    simp (maxSteps := 2000000) (disch := omega) only [go_sem, ↓reduceIte, getI_nat s, hc, ht, n40, n41, n60, n62, n91, n93, n123, n125, n47, n37, n35, l32, g127, e1, e2, w1, w2, t1, t2, b3]
    refine ⟨by omega, i + 1, ?_, by omega, by omega⟩
    have hb : nameB c = [35, hexTab.getD (c.toNat / 16) 0, hexTab.getD (c.toNat % 16) 0] := by rw [cc _ q]; rfl
    refine Weak.mk ?_ ?_ ?_ <;> simp (maxSteps := 2000000) only [go_sem, ↓reduceIte, Sub, Int.natCast_add, Int.natCast_mul, nameP_next hc, hb, List.append_assoc]
   ·skip
    have e1 : Int.tdiv (c.toNat : Int) 16 = ((c.toNat / 16 : Nat) : Int) := rfl
    have e2 : Int.tmod (c.toNat : Int) 16 = ((c.toNat % 16 : Nat) : Int) := rfl
    have w1 : IntKind.u8.wrap ((c.toNat / 16 : Nat) : Int) = ((c.toNat / 16 : Nat) : Int) := IntWalk.u8_in _ (by omega)
    have w2 : IntKind.u8.wrap ((c.toNat % 16 : Nat) : Int) = ((c.toNat % 16 : Nat) : Int) := IntWalk.u8_in _ (by omega)
    have t1 : getI hexTab ((c.toNat / 16 : Nat) : Int) = some (hexTab.getD (c.toNat / 16) 0) := tab_get (by omega)
    have t2 : getI hexTab ((c.toNat % 16 : Nat) : Int) = some (hexTab.getD (c.toNat % 16) 0) := tab_get (by omega)
    have b3 := bytesOf3 35 (hexTab.getD (c.toNat / 16) 0) (hexTab.getD (c.toNat % 16) 0)
    have z35 : ((UInt8.toNat 35 : Nat) : Int) = 35 := rfl
    rw [z35] at b3
    have n40 : ((c.toNat : Int) = 40) = False := eq_false (by omega)
    have n41 : ((c.toNat : Int) = 41) = False := eq_false (by omega)
    have n60 : ((c.toNat : Int) = 60) = False := eq_false (by omega)
    have n62 : ((c.toNat : Int) = 62) = False := eq_false (by omega)
    have n91 : ((c.toNat : Int) = 91) = False := eq_false (by omega)
    have n93 : ((c.toNat : Int) = 93) = False := eq_false (by omega)
    have n123 : ((c.toNat : Int) = 123) = False := eq_false (by omega)
    have n125 : ((c.toNat : Int) = 125) = False := eq_false (by omega)
    have n47 : ((c.toNat : Int) = 47) = False := eq_false (by omega)
    have n37 : ((c.toNat : Int) = 37) = False := eq_false (by omega)
    have n35 : ((c.toNat : Int) = 35) = True := eq_true (by omega)
    have l32 : ((32 : Int) < c.toNat) = True := eq_true (by omega)
    have g127 : ((c.toNat : Int) < 127) = True := eq_true (by omega)
    simp (maxSteps := 2000000) (disch := omega) only [go_sem, ↓reduceIte, getI_nat s, hc, ht, n40, n41, n60, n62, n91, n93, n123, n125, n47, n37, n35, l32, g127, e1, e2, w1, w2, t1, t2, b3]
    refine ⟨by omega, i + 1, ?_, by omega, by omega⟩
    have hb : nameB c = [35, hexTab.getD (c.toNat / 16) 0, hexTab.getD (c.toNat % 16) 0] := by rw [cc _ q]; rfl
    refine Weak.mk ?_ ?_ ?_ <;> simp (maxSteps := 2000000) only [go_sem, ↓reduceIte, Sub, Int.natCast_add, Int.natCast_mul, nameP_next hc, hb, List.append_assoc]
   ·obtain ⟨q40, q41, q60, q62, q91, q93, q123, q125, q47, q37, q35⟩ := q
    have hz : ¬ c ∈ ([40, 41, 60, 62, 91, 93, 123, 125, 47, 37, 35] : List UInt8) := by
     simp only [List.mem_cons, List.not_mem_nil, or_false, not_or]
     exact ⟨fun e => q40 (by rw [e]; rfl), fun e => q41 (by rw [e]; rfl), fun e => q60 (by rw [e]; rfl), fun e => q62 (by rw [e]; rfl), fun e => q91 (by rw [e]; rfl), fun e => q93 (by rw [e]; rfl), fun e => q123 (by rw [e]; rfl), fun e => q125 (by rw [e]; rfl), fun e => q47 (by rw [e]; rfl), fun e => q37 (by rw [e]; rfl), fun e => q35 (by rw [e]; rfl)⟩
    by_cases r : 32 < c.toNat ∧ c.toNat < 127
    ·obtain ⟨r1, r2⟩ := r
     have n40 : ((c.toNat : Int) = 40) = False := eq_false (by omega)
     have n41 : ((c.toNat : Int) = 41) = False := eq_false (by omega)
     have n60 : ((c.toNat : Int) = 60) = False := eq_false (by omega)
     have n62 : ((c.toNat : Int) = 62) = False := eq_false (by omega)
     have n91 : ((c.toNat : Int) = 91) = False := eq_false (by omega)
     have n93 : ((c.toNat : Int) = 93) = False := eq_false (by omega)
     have n123 : ((c.toNat : Int) = 123) = False := eq_false (by omega)
     have n125 : ((c.toNat : Int) = 125) = False := eq_false (by omega)
     have n47 : ((c.toNat : Int) = 47) = False := eq_false (by omega)
     have n37 : ((c.toNat : Int) = 37) = False := eq_false (by omega)
     have n35 : ((c.toNat : Int) = 35) = False := eq_false (by omega)
     have l32 : ((32 : Int) < c.toNat) = True := eq_true (by omega)
     have g127 : ((c.toNat : Int) < 127) = True := eq_true (by omega)
     have b1 : bytesOf [.int .u8 (c.toNat : Int)] = some [c] := bytesOf_bytesD [c]
     simp (maxSteps := 2000000) (disch := omega) only [go_sem, ↓reduceIte, getI_nat s, hc, n40, n41, n60, n62, n91, n93, n123, n125, n47, n37, n35, l32, g127, b1]
     refine ⟨by omega, i + 1, ?_, by omega, by omega⟩
     have r3 : c.toNat ≤ 126 := by omega
     have hb : nameB c = [c] := by simp only [nameB, plainB, hz, r1, r3, decide_true, decide_false, Bool.not_false, Bool.and_self, if_true]
     refine Weak.mk ?_ ?_ ?_ <;> simp (maxSteps := 2000000) only [go_sem, ↓reduceIte, Sub, Int.natCast_add, Int.natCast_mul, nameP_next hc, hb, List.append_assoc]
    ·have hp : plainB c = false := by
      unfold plainB
      by_cases r1 : 32 < c.toNat
      ·have : ¬ c.toNat ≤ 126 := by omega
       simp [this]
      ·simp [r1]
     have e1 : Int.tdiv (c.toNat : Int) 16 = ((c.toNat / 16 : Nat) : Int) := rfl
     have e2 : Int.tmod (c.toNat : Int) 16 = ((c.toNat % 16 : Nat) : Int) := rfl
     have w1 : IntKind.u8.wrap ((c.toNat / 16 : Nat) : Int) = ((c.toNat / 16 : Nat) : Int) := IntWalk.u8_in _ (by omega)
     have w2 : IntKind.u8.wrap ((c.toNat % 16 : Nat) : Int) = ((c.toNat % 16 : Nat) : Int) := IntWalk.u8_in _ (by omega)
     have t1 : getI hexTab ((c.toNat / 16 : Nat) : Int) = some (hexTab.getD (c.toNat / 16) 0) := tab_get (by omega)
     have t2 : getI hexTab ((c.toNat % 16 : Nat) : Int) = some (hexTab.getD (c.toNat % 16) 0) := tab_get (by omega)
     have b3 := bytesOf3 35 (hexTab.getD (c.toNat / 16) 0) (hexTab.getD (c.toNat % 16) 0)
     have z35 : ((UInt8.toNat 35 : Nat) : Int) = 35 := rfl
     rw [z35] at b3
     have hb : nameB c = [35, hexTab.getD (c.toNat / 16) 0, hexTab.getD (c.toNat % 16) 0] := by unfold nameB; rw [hp]; rfl
     rcases (by omega : ¬ 32 < c.toNat ∨ (32 < c.toNat ∧ ¬ c.toNat < 127)) with r | r
     ·skip
      have n40 : ((c.toNat : Int) = 40) = False := eq_false (by omega)
      have n41 : ((c.toNat : Int) = 41) = False := eq_false (by omega)
      have n60 : ((c.toNat : Int) = 60) = False := eq_false (by omega)
      have n62 : ((c.toNat : Int) = 62) = False := eq_false (by omega)
      have n91 : ((c.toNat : Int) = 91) = False := eq_false (by omega)
      have n93 : ((c.toNat : Int) = 93) = False := eq_false (by omega)
      have n123 : ((c.toNat : Int) = 123) = False := eq_false (by omega)
      have n125 : ((c.toNat : Int) = 125) = False := eq_false (by omega)
      have n47 : ((c.toNat : Int) = 47) = False := eq_false (by omega)
      have n37 : ((c.toNat : Int) = 37) = False := eq_false (by omega)
      have n35 : ((c.toNat : Int) = 35) = False := eq_false (by omega)
      have l32 : ((32 : Int) < c.toNat) = False := eq_false (by omega)
      simp (maxSteps := 2000000) (disch := omega) only [go_sem, ↓reduceIte, getI_nat s, hc, ht, n40, n41, n60, n62, n91, n93, n123, n125, n47, n37, n35, l32, e1, e2, w1, w2, t1, t2, b3]
      refine ⟨by omega, i + 1, ?_, by omega, by omega⟩
      refine Weak.mk ?_ ?_ ?_ <;> simp (maxSteps := 2000000) only [go_sem, ↓reduceIte, Sub, Int.natCast_add, Int.natCast_mul, nameP_next hc, hb, List.append_assoc]
     ·skip
      have n40 : ((c.toNat : Int) = 40) = False := eq_false (by omega)
      have n41 : ((c.toNat : Int) = 41) = False := eq_false (by omega)
      have n60 : ((c.toNat : Int) = 60) = False := eq_false (by omega)
      have n62 : ((c.toNat : Int) = 62) = False := eq_false (by omega)
      have n91 : ((c.toNat : Int) = 91) = False := eq_false (by omega)
      have n93 : ((c.toNat : Int) = 93) = False := eq_false (by omega)
      have n123 : ((c.toNat : Int) = 123) = False := eq_false (by omega)
      have n125 : ((c.toNat : Int) = 125) = False := eq_false (by omega)
      have n47 : ((c.toNat : Int) = 47) = False := eq_false (by omega)
      have n37 : ((c.toNat : Int) = 37) = False := eq_false (by omega)
      have n35 : ((c.toNat : Int) = 35) = False := eq_false (by omega)
      have l32 : ((32 : Int) < c.toNat) = True := eq_true (by omega)
      have g127 : ((c.toNat : Int) < 127) = False := eq_false (by omega)
      simp (maxSteps := 2000000) (disch := omega) only [go_sem, ↓reduceIte, getI_nat s, hc, ht, n40, n41, n60, n62, n91, n93, n123, n125, n47, n37, n35, l32, g127, e1, e2, w1, w2, t1, t2, b3]
      refine ⟨by omega, i + 1, ?_, by omega, by omega⟩
      refine Weak.mk ?_ ?_ ?_ <;> simp (maxSteps := 2000000) only [go_sem, ↓reduceIte, Sub, Int.natCast_add, Int.natCast_mul, nameP_next hc, hb, List.append_assoc]
  ·rw [List.take_of_length_le (by omega)]
open Go.Shelf
set_option maxRecDepth 100000
def itoaLays_ren : Go.Shelf.Ren := ⟨fun | 171 => 80 | 243 => 96 | 246 => 111 | 283 => 122 | 284 => 123 | 285 => 124 | 286 => 125 | 129 => 133 | 317 => 132 | 318 => 134 | 319 => 135 | 320 => 136 | 337 => 139 | 338 => 140 | n => n, fun | 3 => 3 | 9 => 9 | 2 => 2 | 4 => 4 | 171 => 137 | 0 => 0 | 53 => 138 | 37 => 57 | 5 => 5 | 173 => 141 | 212 => 147 | 51 => 143 | 20 => 20 | 213 => 148 | 46 => 106 | 232 => 157 | 233 => 158 | n => n, fun | 17 => 1 | 18 => 4 | 19 => 5 | n => n⟩
theorem itoaLays : Go.Proofs.LaysM.n171 Tryz.prog itoaLays_ren where
 mixed := by kernel_rfl
 f129 := Tryz.func133.trans (congrArg some (by kernel_rfl))
 f171 := Tryz.func80.trans (congrArg some (by kernel_rfl))
 f243 := Tryz.func96.trans (congrArg some (by kernel_rfl))
 f246 := Tryz.func111.trans (congrArg some (by kernel_rfl))
 f283 := Tryz.func122.trans (congrArg some (by kernel_rfl))
 f284 := Tryz.func123.trans (congrArg some (by kernel_rfl))
 f285 := Tryz.func124.trans (congrArg some (by kernel_rfl))
 f286 := Tryz.func125.trans (congrArg some (by kernel_rfl))
 f317 := Tryz.func132.trans (congrArg some (by kernel_rfl))
 f318 := Tryz.func134.trans (congrArg some (by kernel_rfl))
 f319 := Tryz.func135.trans (congrArg some (by kernel_rfl))
 f320 := Tryz.func136.trans (congrArg some (by kernel_rfl))
 f337 := Tryz.func139.trans (congrArg some (by kernel_rfl))
 f338 := Tryz.func140.trans (congrArg some (by kernel_rfl))
 t0 := Tryz.underlying0
 a0 := Tryz.isAgg0
 z0 := Tryz.sizeOf0
 v0 := Tryz.zeroValue0
 t2 := Tryz.underlying2
 a2 := Tryz.isAgg2
 z2 := Tryz.sizeOf2
 v2 := Tryz.zeroValue2
 t3 := Tryz.underlying3
 a3 := Tryz.isAgg3
 z3 := Tryz.sizeOf3
 v3 := Tryz.zeroValue3
 t4 := Tryz.underlying4
 a4 := Tryz.isAgg4
 z4 := Tryz.sizeOf4
 v4 := Tryz.zeroValue4
 t5 := Tryz.underlying5
 a5 := Tryz.isAgg5
 z5 := Tryz.sizeOf5
 v5 := Tryz.zeroValue5
 t9 := Tryz.underlying9
 a9 := Tryz.isAgg9
 z9 := Tryz.sizeOf9
 v9 := Tryz.zeroValue9
 t20 := Tryz.underlying20
 a20 := Tryz.isAgg20
 z20 := Tryz.sizeOf20
 v20 := Tryz.zeroValue20
 t37 := Tryz.underlying57
 a37 := Tryz.isAgg57
 z37 := Tryz.sizeOf57
 v37 := Tryz.zeroValue57
 t46 := Tryz.underlying106
 a46 := Tryz.isAgg106
 z46 := Tryz.sizeOf106
 v46 := Tryz.zeroValue106
 t51 := Tryz.underlying143
 a51 := Tryz.isAgg143
 z51 := Tryz.sizeOf143
 v51 := Tryz.zeroValue143
 t53 := Tryz.underlying138
 a53 := Tryz.isAgg138
 z53 := Tryz.sizeOf138
 v53 := Tryz.zeroValue138
 t171 := Tryz.underlying137
 a171 := Tryz.isAgg137
 z171 := Tryz.sizeOf137
 v171 := Tryz.zeroValue137
 t173 := Tryz.underlying141
 a173 := Tryz.isAgg141
 z173 := Tryz.sizeOf141
 v173 := Tryz.zeroValue141
 t212 := Tryz.underlying147
 a212 := Tryz.isAgg147
 z212 := Tryz.sizeOf147
 v212 := Tryz.zeroValue147
 t213 := Tryz.underlying148
 a213 := Tryz.isAgg148
 z213 := Tryz.sizeOf148
 t232 := Tryz.underlying157
 a232 := Tryz.isAgg157
 z232 := Tryz.sizeOf157
 v232 := Tryz.zeroValue157
 t233 := Tryz.underlying158
 a233 := Tryz.isAgg158
 z233 := Tryz.sizeOf158
 v233 := Tryz.zeroValue158
 g17 := by kernel_rfl
 g18 := by kernel_rfl
 g19 := by kernel_rfl
 i0 := by kernel_rfl
 i2 := by kernel_rfl
 i3 := by kernel_rfl
 i4 := by kernel_rfl
 i5 := by kernel_rfl
 i9 := by kernel_rfl
 i20 := by kernel_rfl
 i37 := by kernel_rfl
 i46 := by kernel_rfl
 i51 := by kernel_rfl
 i53 := by kernel_rfl
 i171 := by kernel_rfl
 i173 := by kernel_rfl
 i212 := by kernel_rfl
 i232 := by kernel_rfl
 i233 := by kernel_rfl
 m17 := by kernel_rfl
 m18 := by kernel_rfl
 m19 := by kernel_rfl
theorem drewN_heap (w : World) (k : Nat) : (w.drewN k).heap = w.heap ∧ (w.drewN k).os = w.os ∧ (w.drewN k).tape = w.tape ∧ (w.drewN k).output = w.output := by
 exact ⟨rfl, rfl, rfl, rfl⟩
theorem itoa_call (n : Int) (h0 : -9223372036854775808 ≤ n) (h1 : n ≤ 9223372036854775807) : PCall Tryz.prog 80 [.int .i64 n] (fun r => r = .one (.str (Lib.itoa n))) := by
 intro f w vs hI ht hsz hrd
 have hv : vs = #[.int .i64 n] := by
  have h2 := hrd 0 _ rfl
  match vs, hsz with
  | ⟨[v]⟩, _ => cases h2; rfl
 subst hv
 refine (Any.strconv_Itoa itoaLays n h0 h1 w (hI.1 1 (by kernel_rfl))).mono fun e w' ⟨he, k, os, hw⟩ => ?_
 subst hw
 obtain ⟨d1, d2, d3, d4⟩ := drewN_heap w k
 have hheap : (Sort.grow (w.drewN k) os).heap = w.heap ++ os := by simp [Sort.grow]
 refine ⟨_, _, f, rfl, he, .str _, ⟨?_, fun b hb => ⟨?_, rfl⟩, fun b hb => ht b ?_, d2, d3, d4⟩⟩
 ·rw [hheap]; simp
 ·rw [hheap, Array.getElem?_append_left hb]
 ·rw [hheap] at hb; simp at hb; omega
def trimR (l : List UInt8) : List UInt8 := (l.reverse.dropWhile (· == 48)).reverse
theorem trimR_snoc (l : List UInt8) (c : UInt8) : trimR (l ++ [c]) = if c = 48 then trimR l else l ++ [c] := by
 unfold trimR
 rw [List.reverse_append, List.reverse_cons, List.reverse_nil, List.nil_append, List.cons_append, List.nil_append]
 by_cases h : c = 48
 ·rw [if_pos h]; simp [h]
 ·rw [if_neg h]; simp [h]
def L_strings_trimRightByte : LCode :=
 .seq (.reg [Qx 4 (.k (.d (.str [])))]) (.seq (.block 0 (.loop (.seq (.seq (.reg [Qc 5 0, Q 6 (.len true (.t 5)), Q 7 (.bin .gtr (.t 6) (Ki 0)), Qc 8 7, Qd 9 0 8 true, Qd 10 0 8 
 true, Qg 11 (.len true (.t 10)) 8 true, Qg 12 (.bin .sub (.t 11) (Ki 1)) 8 true, Qg 13 (.idxS (.t 9) (.t 12)) 8 true, Qd 14 1 8 true, Qg 15 (.bin .eql (.t 13) (.t 14)) 8 true, Q 
 16 (.pick (.t 8) (.t 15) KF)]) (.cond (.t 16) .skip (.exit 0))) (.block 1 (.reg [Qc 17 0, Qc 18 0, Q 19 (.len true (.t 18)), Q 20 (.bin .sub (.t 19) (Ki 1)), Q 21 (.subS (.t 17) 
 none (some (.t 20))), Qa 0 21]))))) (.seq (.reg [Qc 22 0, Qa 4 22]) .ret))
def R_strings_trimRightByte : List LRes := [.tmp 4]
theorem lift_strings_trimRightByte : Lifts Tryz.prog 97 23 L_strings_trimRightByte R_strings_trimRightByte := ⟨_, _, Tryz.func97, rfl, by kernel_rfl, by kernel_rfl, rfl⟩
theorem trimByte_call (s : List UInt8) (hs : s.length ≤ 1000000) : PCall Tryz.prog 97 [.str s, .int .u8 48] (fun r => r = .one (.str (trimR s))) := by
 refine lift_strings_trimRightByte.call rfl ?_
 simp (maxSteps := 2000000) only [go_sem, ↓reduceIte, L_strings_trimRightByte, R_strings_trimRightByte]
 refine run_loop (fun k : Nat => ⟨[(0, .d (.str (s.take k))), (1, .d (.int .u8 48))], [], []⟩)
  (fun k => k ≤ s.length ∧ trimR (s.take k) = trimR s) (fun k => k) s.length ?_ ?_ ?_
 ·refine weak_mk ?_ trivial
  simp (maxSteps := 2000000) only [go_sem, ↓reduceIte, Sub, Int.natCast_add, Int.natCast_mul, List.take_length]
 ·exact ⟨Nat.le_refl _, by rw [List.take_length]⟩
 ·rintro k ⟨hk, hF⟩
  have hlk : (s.take k).length = k := by rw [List.length_take]; omega
  have hlI : (((s.take k).length : Nat) : Int) = (k : Int) := by rw [hlk]
  simp (maxSteps := 2000000) (disch := omega) only [go_sem, ↓reduceIte, hlI]
  refine ⟨fun q1 => ?_, fun q1 => ?_⟩
  ·obtain ⟨c, hc⟩ := get_some (l := s) (i := k - 1) (by omega)
   have hsplit : s.take k = s.take (k - 1) ++ [c] := by
    rw [← take_next hc]; congr 1; omega
   have hg : getI (s.take k) ((k : Int) - 1) = some c := by
    have e : ((k : Int) - 1) = ((k - 1 : Nat) : Int) := by omega
    rw [e, getI_nat, List.getElem?_take, if_pos (by omega), hc]
   have hcut : cutI (s.take k) 0 ((k : Int) - 1) = s.take (k - 1) := by
    have e : ((k : Int) - 1) = ((k - 1 : Nat) : Int) := by omega
    rw [e]
    show cutI (s.take k) ((0 : Nat) : Int) _ = _
    rw [cutI_nat, List.take_take, List.drop_zero]; congr 1; omega
   simp (maxSteps := 2000000) (disch := omega) only [go_sem, ↓reduceIte, hg, hcut, hlI]
   refine ⟨fun q2 => ⟨⟨by omega, by omega⟩, k - 1, ?_, ⟨by omega, ?_⟩, by omega⟩, fun q2 => ?_⟩
   ·refine weak_mk ?_ trivial
    simp (maxSteps := 2000000) only [go_sem, ↓reduceIte, Sub, Int.natCast_add, Int.natCast_mul]
   ·rw [← hF, hsplit, trimR_snoc, if_pos (by
     have h48 : (48 : UInt8).toNat = 48 := rfl
     apply UInt8.toNat_inj.1; omega)]
   ·rw [← hF, hsplit, trimR_snoc, if_neg (fun h => q2 (by rw [h]; rfl))]
  ·have hk0 : k = 0 := by omega
   subst hk0
   rw [← hF]; rfl
def L_strings_TrimRight : LCode :=
 .seq (.reg [Qx 4 (.k (.d (.str [])))]) (.seq (.seq (.reg [Qc 7 0, Q 8 (.bin .eql (.t 7) (.k (.d (.str [])))), Qc 9 8, Qd 10 1 9 false, Qg 11 (.bin .eql (.t 10) (.k (.d (.str [])))) 
 9 false, Q 12 (.pick (.t 9) KT (.t 11))]) (.cond (.t 12) (.seq (.reg [Qc 13 0, Qa 4 13]) .ret) .skip)) (.seq (.seq (.reg [Qc 14 1, Q 15 (.len true (.t 14)), Q 16 (.bin .eql (.t 
 15) (Ki 1)), Qc 17 16, Qd 18 1 17 true, Qg 19 (.idxS (.t 18) (Ki 0)) 17 true, Qg 20 (.bin .lss (.t 19) (Kb 128)) 17 true, Q 21 (.pick (.t 17) (.t 20) KF)]) (.cond (.t 21) (.seq 
 (.reg [Qc 22 0, Qc 23 1, Q 24 (.idxS (.t 23) (Ki 0)), ⟨some 25, .call 97 [.t 22, .t 24], none⟩, Qa 4 25]) .ret) .skip)) (.seq (.seq (.reg [Qc 27 1, ⟨some 28, .call 98 [.t 27], 
 none⟩, Qc 26 28, Q 29 (.ext 0 (.t 26)), Q 30 (.ext 1 (.t 26)), ⟨some 5, .allo [.bool false, .bool false, .bool false, .bool false, .bool false, .bool false, .bool false, .bool 
 false, .bool false, .bool false, .bool false, .bool false, .bool false, .bool false, .bool false, .bool false, .bool false, .bool false, .bool false, .bool false, .bool false, 
 .bool false, .bool false, .bool false, .bool false, .bool false, .bool false, .bool false, .bool false, .bool false, .bool false, .bool false, .bool false, .bool false, .bool 
 false, .bool false, .bool false, .bool false, .bool false, .bool false, .bool false, .bool false, .bool false, .bool false, .bool false, .bool false, .bool false, .bool false, 
 .bool false, .bool false, .bool false, .bool false, .bool false, .bool false, .bool false, .bool false, .bool false, .bool false, .bool false, .bool false, .bool false, .bool 
 false, .bool false, .bool false, .bool false, .bool false, .bool false, .bool false, .bool false, .bool false, .bool false, .bool false, .bool false, .bool false, .bool false, 
 .bool false, .bool false, .bool false, .bool false, .bool false, .bool false, .bool false, .bool false, .bool false, .bool false, .bool false, .bool false, .bool false, .bool 
 false, .bool false, .bool false, .bool false, .bool false, .bool false, .bool false, .bool false, .bool false, .bool false, .bool false, .bool false, .bool false, .bool false, 
 .bool false, .bool false, .bool false, .bool false, .bool false, .bool false, .bool false, .bool false, .bool false, .bool false, .bool false, .bool false, .bool false, .bool 
 false, .bool false, .bool false, .bool false, .bool false, .bool false, .bool false, .bool false, .bool false, .bool false, .bool false, .bool false, .bool false, .bool false, 
 .bool false, .bool false, .bool false, .bool false, .bool false, .bool false, .bool false, .bool false, .bool false, .bool false, .bool false, .bool false, .bool false, .bool 
 false, .bool false, .bool false, .bool false, .bool false, .bool false, .bool false, .bool false, .bool false, .bool false, .bool false, .bool false, .bool false, .bool false, 
 .bool false, .bool false, .bool false, .bool false, .bool false, .bool false, .bool false, .bool false, .bool false, .bool false, .bool false, .bool false, .bool false, .bool 
 false, .bool false, .bool false, .bool false, .bool false, .bool false, .bool false, .bool false, .bool false, .bool false, .bool false, .bool false, .bool false, .bool false, 
 .bool false, .bool false, .bool false, .bool false, .bool false, .bool false, .bool false, .bool false, .bool false, .bool false, .bool false, .bool false, .bool false, .bool 
 false, .bool false, .bool false, .bool false, .bool false, .bool false, .bool false, .bool false, .bool false, .bool false, .bool false, .bool false, .bool false, .bool false, 
 .bool false, .bool false, .bool false, .bool false, .bool false, .bool false, .bool false, .bool false, .bool false, .bool false, .bool false, .bool false, .bool false, .bool 
 false, .bool false, .bool false, .bool false, .bool false, .bool false, .bool false, .bool false, .bool false, .bool false, .bool false, .bool false, .bool false, .bool false, 
 .bool false, .bool false, .bool false, .bool false, .bool false, .bool false, .bool false, .bool false, .bool false, .bool false, .bool false, .bool false, .bool false, .bool 
 false, .bool false, .bool false, .bool false, .bool false, .bool false], none⟩, ⟨none, .st 256 (.t 5) (.t 29), none⟩, Qa 6 30]) (.seq (.reg [Qc 31 6]) (.cond (.t 31) (.seq (.reg 
 [Qc 32 0, ⟨some 33, .prim .call [.k (.fn (.func 99) [] []), .t 32, .t 5] [], none⟩, Qa 4 33]) .ret) .skip))) (.seq (.reg [Qc 34 0, Qc 35 1, ⟨some 36, .call 100 [.t 34, .t 35], 
 none⟩, Qa 4 36]) .ret))))
def R_strings_TrimRight : List LRes := [.tmp 4]
theorem lift_strings_TrimRight : Lifts Tryz.prog 81 37 L_strings_TrimRight R_strings_TrimRight := ⟨_, _, Tryz.func81, rfl, by kernel_rfl, by kernel_rfl, rfl⟩
set_option maxRecDepth 10000 in
theorem trim_call (s : List UInt8) (hs : s.length ≤ 1000000) : PCall Tryz.prog 81 [.str s, .str [48]] (fun r => r = .one (.str (trimR s))) := by
 refine lift_strings_TrimRight.call rfl ?_
 have hg : getI ([48] : List UInt8) 0 = some 48 := rfl
 have h48 : ((UInt8.toNat 48 : Nat) : Int) = 48 := rfl
 by_cases h : s = []
 ·subst h
  simp (maxSteps := 2000000) only [go_sem, ↓reduceIte, L_strings_TrimRight, R_strings_TrimRight]
  rfl
 ·have h1 : (([48] : List UInt8) = []) = False := by simp
  have h2 : (s = []) = False := eq_false h
  simp (maxSteps := 2000000) only [go_sem, ↓reduceIte, L_strings_TrimRight, R_strings_TrimRight, h1, h2, hg, h48]
  refine CallG.of (trimByte_call s hs) ?_
  simp (maxSteps := 2000000) only [go_sem, ↓reduceIte]
def fracD (r : Nat) : List UInt8 := [UInt8.ofNat (48 + r / 100), UInt8.ofNat (48 + r / 10 % 10), UInt8.ofNat (48 + r % 10)]
theorem dec1000 {r : Nat} (h : r < 1000) : Lib.decDigits (1000 + r) = 49 :: fracD r := by
 rw [Lib.decDigits, dif_neg (by omega), Lib.decDigits, dif_neg (by omega), Lib.decDigits, dif_neg (by omega), Lib.decDigits, dif_pos (by omega)]
 have e1 : (1000 + r) / 10 / 10 / 10 = 1 := by omega
 have e2 : (1000 + r) / 10 / 10 % 10 = r / 100 := by omega
 have e3 : (1000 + r) / 10 % 10 = r / 10 % 10 := by omega
 have e4 : (1000 + r) % 10 = r % 10 := by omega
 rw [e1, e2, e3, e4]; rfl
def fracT (r : Nat) : List UInt8 := if trimR (fracD r) = [] then [] else 46 :: trimR (fracD r)
def textF (n : Int) : List UInt8 := (if n < 0 then [45] else []) ++ Lib.decDigits (n.natAbs / 1000) ++ fracT (n.natAbs % 1000)
def resT (n : Int) : Res := if Lim n then .tup [.str (textF n), .nil] else .tup [.str [], err 1]
theorem nDigits_le (u k : Nat) (h : u < 10 ^ (k + 1)) : (Lib.decDigits u).length ≤ k + 1 := by
 induction k generalizing u with
 | zero => rw [Lib.decDigits, dif_pos (by simpa using h)]; simp
 | succ k ih =>
  rw [Lib.decDigits]
  split
  ·simp
  ·rw [List.length_append]
   have := ih (u / 10) (by rw [Nat.pow_succ] at h; omega)
   simp; omega
def L_fix_Text : LCode :=
 .seq (.reg [Qx 2 (.k (.d (.str []))), Qx 3 (.k (.d .nil))]) (.seq (.reg [Qc 8 0, ⟨some 9, .call 76 [.t 8], none⟩, Qa 4 9]) (.seq (.seq (.reg [Qc 10 4, Q 11 (.eqN 0 true (.t 10))]) 
 (.cond (.t 11) (.seq (.reg [Qc 12 4, Qx 2 (.k (.d (.str []))), Qa 3 12]) .ret) .skip)) (.seq (.reg [Qx 5 (.k (.d (.str [])))]) (.seq (.seq (.reg [Qc 13 0, Q 14 (.bin .lss (.t 13) 
 (Ki 0))]) (.cond (.t 14) (.reg [Qc 15 0, Q 16 (.neg (.t 15)), Qx 5 (.k (.d (.str [45]))), Qa 0 16]) .skip)) (.seq (.reg [Qc 17 5, Qc 18 0, Q 19 (.bin .quo (.t 18) (Ki 1000)), 
 ⟨some 20, .call 80 [.t 19], none⟩, Q 21 (.bin .add (.t 17) (.t 20)), Qa 6 21]) (.seq (.reg [Qc 22 0, Q 23 (.bin .rem (.t 22) (Ki 1000)), Q 24 (.bin .add (Ki 1000) (.t 23)), ⟨some 
 25, .call 80 [.t 24], none⟩, Q 26 (.subS (.t 25) (some (Ki 1)) none), Qa 7 26]) (.seq (.reg [Qc 27 7, ⟨some 28, .call 81 [.t 27, .k (.d (.str [48]))], none⟩, Qa 7 28]) (.seq 
 (.seq (.reg [Qc 29 7, Q 30 (.bin .neq (.t 29) (.k (.d (.str []))))]) (.cond (.t 30) (.reg [Qc 31 6, Qc 32 7, Q 33 (.bin .add (.k (.d (.str [46]))) (.t 32)), Q 34 (.bin .add (.t 
 31) (.t 33)), Qa 6 34]) .skip)) (.seq (.reg [Qc 35 6, Qa 2 35, Qx 3 (.k (.d .nil))]) .ret)))))))))
def R_fix_Text : List LRes := [.tmp 2, .tmp 3]
theorem lift_fix_Text : Lifts Tryz.prog 52 36 L_fix_Text R_fix_Text := ⟨_, _, Tryz.func52, rfl, by kernel_rfl, by kernel_rfl, rfl⟩
theorem text_call (n : Int) : PCall Tryz.prog 52 [.int .i64 n] (fun r => r = resT n) := by
 refine lift_fix_Text.call rfl ?_
 simp (maxSteps := 2000000) only [go_sem, ↓reduceIte, L_fix_Text, R_fix_Text]
 unfold resT
 by_cases hl : Lim n
 ·rw [if_pos hl]
  refine CallG.of (check_ok hl) ?_
  unfold Lim at hl
  obtain ⟨m, hm⟩ : ∃ m : Nat, n.natAbs = m := ⟨_, rfl⟩
  have hm9 : m ≤ 1000000000 := by omega
  have hd1 : Int.tdiv (m : Int) 1000 = ((m / 1000 : Nat) : Int) := rfl
  have hd2 : Int.tmod (m : Int) 1000 = ((m % 1000 : Nat) : Int) := rfl
  have hi1 : Lib.itoa ((m / 1000 : Nat) : Int) = Lib.decDigits (m / 1000) := by unfold Lib.itoa; rw [if_neg (by omega)]; rfl
  have hi2 : Lib.itoa (1000 + ((m % 1000 : Nat) : Int)) = 49 :: fracD (m % 1000) := by
   unfold Lib.itoa; rw [if_neg (by omega), ← dec1000 (Nat.mod_lt _ (by decide))]; congr 1
  have hlen := nDigits_le (m / 1000) 6 (by omega)
  unfold textF
  rw [hm]
  generalize Lib.decDigits (m / 1000) = D1 at hi1 hlen ⊢
  have hcut : cutI (49 :: fracD (m % 1000)) 1 4 = fracD (m % 1000) := rfl
  have hfl : ((fracD (m % 1000)).length : Nat) = 3 := rfl
  have htl : (trimR (fracD (m % 1000))).length ≤ 3 := by
   unfold trimR; rw [List.length_reverse]
   exact Nat.le_trans (List.dropWhile_sublist _).length_le (by rw [List.length_reverse]; exact Nat.le_refl 3)
  by_cases hn : n < 0
  ·have e : 0 - n = (m : Int) := by omega
   simp (maxSteps := 2000000) (disch := omega) only [go_sem, ↓reduceIte, hn, e, hd1, hd2]
   refine CallG.of (itoa_call _ (by omega) (by omega)) ?_
   rw [hi1]
   simp (maxSteps := 2000000) (disch := omega) only [go_sem, ↓reduceIte, e, hd1, hd2]
   refine ⟨by omega, ?_⟩
   refine CallG.of (itoa_call _ (by omega) (by omega)) ?_
   rw [hi2]
   simp (maxSteps := 2000000) (disch := omega) only [go_sem, ↓reduceIte, hcut, hfl]
   refine CallG.of (trim_call _ (by rw [hfl]; omega)) ?_
   unfold fracT
   by_cases ht : trimR (fracD (m % 1000)) = []
   ·rw [if_pos ht, ht]
    simp (maxSteps := 2000000) only [go_sem, ↓reduceIte, List.append_nil]
   ·rw [if_neg ht]
    have ht' : (trimR (fracD (m % 1000)) = []) = False := eq_false ht
    simp (maxSteps := 2000000) (disch := omega) only [go_sem, ↓reduceIte, ht', List.append_assoc]
    exact ⟨by omega, by omega⟩
  ·have e : n = (m : Int) := by omega
   rw [e]
   have hn' : ¬ ((m : Int) < 0) := by omega
   simp (maxSteps := 2000000) (disch := omega) only [go_sem, ↓reduceIte, hn', hd1, hd2]
   refine CallG.of (itoa_call _ (by omega) (by omega)) ?_
   rw [hi1]
   simp (maxSteps := 2000000) (disch := omega) only [go_sem, ↓reduceIte, hd1, hd2]
   refine ⟨by omega, ?_⟩
   refine CallG.of (itoa_call _ (by omega) (by omega)) ?_
   rw [hi2]
   simp (maxSteps := 2000000) (disch := omega) only [go_sem, ↓reduceIte, hcut, hfl]
   refine CallG.of (trim_call _ (by rw [hfl]; omega)) ?_
   unfold fracT
   by_cases ht : trimR (fracD (m % 1000)) = []
   ·rw [if_pos ht, ht]
    simp (maxSteps := 2000000) only [go_sem, ↓reduceIte, List.append_nil]
   ·rw [if_neg ht]
    have ht' : (trimR (fracD (m % 1000)) = []) = False := eq_false ht
    simp (maxSteps := 2000000) (disch := omega) only [go_sem, ↓reduceIte, ht', List.append_assoc]
    exact ⟨by omega, by omega⟩
 ·rw [if_neg hl]
  refine CallG.of (check_bad hl) ?_
  simp (maxSteps := 2000000) only [go_sem, ↓reduceIte, err]
theorem bytes_one (k : Nat) : bytesOf [.int .u8 (k : Nat)] = some [UInt8.ofNat k] := rfl
def L_foliowrightref_Decimal : LCode :=
 .seq (.reg [Qx 2 (.k (.d (.str [])))]) (.seq (.seq (.reg [Qc 3 0, Q 4 (.bin .lss (.t 3) (Ki 0))]) (.cond (.t 4) (.seq (.reg [Qc 5 0, Q 6 (.neg (.t 5)), ⟨some 7, .call 49 [.t 6], 
 none⟩, Q 8 (.bin .add (.k (.d (.str [45]))) (.t 7)), Qa 2 8]) .ret) .skip)) (.seq (.seq (.reg [Qc 9 0, Q 10 (.bin .lss (.t 9) (Ki 10))]) (.cond (.t 10) (.seq (.reg [Qc 11 0, Q 12 
 (.bin .add (Ki 48) (.t 11)), Q 13 (.cvI .u8 (.t 12)), ⟨some 14, .bsl 5 1 [.t 13], none⟩, Q 15 (.b2s (.t 14)), Qa 2 15]) .ret) .skip)) (.seq (.dreg [Qc 16 0, Q 17 (.bin .quo (.t 
 16) (Ki 10)), ⟨some 18, .call 49 [.t 17], none⟩, Qc 19 0, Q 20 (.bin .rem (.t 19) (Ki 10)), Q 21 (.bin .add (Ki 48) (.t 20)), Q 22 (.cvI .u8 (.t 21)), ⟨some 23, .bsl 5 1 [.t 22], 
 none⟩, Q 24 (.b2s (.t 23)), Q 25 (.bin .add (.t 18) (.t 24)), Qa 2 25]) .ret)))
def R_foliowrightref_Decimal : List LRes := [.tmp 2]
theorem lift_foliowrightref_Decimal : Lifts Tryz.prog 49 26 L_foliowrightref_Decimal R_foliowrightref_Decimal := ⟨_, _, Tryz.func49, rfl, by kernel_rfl, by kernel_rfl, rfl⟩
theorem decimal_call (n : Nat) : n ≤ 1000000000 → PCall Tryz.prog 49 [.int .i64 n] (fun r => r = .one (.str (Lib.decDigits n))) := by
 induction n using Nat.strongRecOn with
 | _ n ih =>
  intro hn
  refine lift_foliowrightref_Decimal.call rfl ?_
  have q0 : ¬ ((n : Int) < 0) := by omega
  simp (maxSteps := 2000000) only [go_sem, ↓reduceIte, L_foliowrightref_Decimal, R_foliowrightref_Decimal, q0]
  rw [Lib.decDigits]
  refine ⟨fun q1 => ?_, fun q1 => ?_⟩
  ·rw [dif_pos (by omega)]
   have e : (48 : Int) + n = ((48 + n : Nat) : Int) := by omega
   simp (maxSteps := 2000000) (disch := omega) only [go_sem, ↓reduceIte, e, bytes_one]
  ·rw [dif_neg (by omega)]
   have e2 : Int.tdiv (n : Int) 10 = ((n / 10 : Nat) : Int) := rfl
   have e3 : Int.tmod (n : Int) 10 = ((n % 10 : Nat) : Int) := rfl
   have e4 : (48 : Int) + (n % 10 : Nat) = ((48 + n % 10 : Nat) : Int) := by omega
   have hl := nDigits_le (n / 10) 9 (by omega)
   simp (maxSteps := 2000000) (disch := omega) only [go_sem, ↓reduceIte, e2, e3]
   refine CallD.of (ih (n / 10) (by omega) (by omega)) ?_
   simp (maxSteps := 2000000) (disch := omega) only [go_sem, ↓reduceIte, e3, e4, bytes_one]
   try omega
theorem tail_step : ∀ i : Fin 1000, 0 < i.val → trimR (fracD i.val) = UInt8.ofNat (48 + i.val / 100) :: trimR (fracD (i.val % 100 * 10)) := by decide +kernel
theorem tail_next {r : Nat} (h : r < 1000) (h0 : 0 < r) : trimR (fracD r) = UInt8.ofNat (48 + r / 100) :: trimR (fracD (r % 100 * 10)) := tail_step ⟨r, h⟩ h0
theorem tail_le (r : Nat) : (trimR (fracD r)).length ≤ 3 := by
 unfold trimR; rw [List.length_reverse]
 exact Nat.le_trans (List.dropWhile_sublist _).length_le (by rw [List.length_reverse]; exact Nat.le_refl 3)
def msr (n : Nat) : Nat := if n = 0 then 0 else if n % 100 = 0 then 1 else if n % 10 = 0 then 2 else 3
theorem msr_lt : ∀ i : Fin 1000, 0 < i.val → msr (i.val % 100 * 10) < msr i.val := by decide +kernel
theorem textF_nat (m : Nat) : textF m = Lib.decDigits (m / 1000) ++ fracT (m % 1000) := by
 unfold textF
 rw [if_neg (by omega)]; rfl
theorem textF_neg (m : Nat) (h : 0 < m) : textF (-(m : Int)) = 45 :: textF m := by
 unfold textF
 rw [if_pos (by omega), if_neg (by omega)]
 simp
def L_foliowrightref_FixText : LCode :=
 .seq (.reg [Qx 2 (.k (.d (.str [])))]) (.seq (.seq (.reg [Qc 4 0, Q 5 (.bin .lss (.t 4) (Ki 0))]) (.cond (.t 5) (.seq (.reg [Qc 6 0, Q 7 (.neg (.t 6)), ⟨some 8, .call 46 [.t 7], 
 none⟩, Q 9 (.bin .add (.k (.d (.str [45]))) (.t 8)), Qa 2 9]) .ret) .skip)) (.seq (.reg [Qc 10 0, Q 11 (.bin .quo (.t 10) (Ki 1000)), ⟨some 12, .call 49 [.t 11], none⟩, Qa 3 12]) 
 (.seq (.reg [Qc 13 0, Q 14 (.bin .rem (.t 13) (Ki 1000)), Qa 0 14]) (.seq (.seq (.reg [Qc 15 0, Q 16 (.bin .eql (.t 15) (Ki 0))]) (.cond (.t 16) (.seq (.reg [Qc 17 3, Qa 2 17]) 
 .ret) .skip)) (.seq (.reg [Qc 18 3, Q 19 (.bin .add (.t 18) (.k (.d (.str [46])))), Qa 3 19]) (.seq (.block 0 (.loop (.seq (.seq (.reg [Qc 20 0, Q 21 (.bin .gtr (.t 20) (Ki 0))]) 
 (.cond (.t 21) .skip (.exit 0))) (.block 1 (.seq (.reg [Qc 22 3, Qc 23 0, Q 24 (.bin .quo (.t 23) (Ki 100)), ⟨some 25, .call 49 [.t 24], none⟩, Q 26 (.bin .add (.t 22) (.t 25)), 
 Qa 3 26]) (.reg [Qc 27 0, Q 28 (.bin .rem (.t 27) (Ki 100)), Q 29 (.bin .mul (.t 28) (Ki 10)), Qa 0 29])))))) (.seq (.reg [Qc 30 3, Qa 2 30]) .ret)))))))
def R_foliowrightref_FixText : List LRes := [.tmp 2]
theorem lift_foliowrightref_FixText : Lifts Tryz.prog 46 31 L_foliowrightref_FixText R_foliowrightref_FixText := ⟨_, _, Tryz.func46, rfl, by kernel_rfl, by kernel_rfl, rfl⟩
theorem fixText_nat (m : Nat) (hm : m ≤ 1000000000) : PCall Tryz.prog 46 [.int .i64 (m : Nat)] (fun r => r = .one (.str (textF m))) := by
  refine lift_foliowrightref_FixText.call rfl ?_
  have q0 : ¬ ((m : Int) < 0) := by omega
  have hd1 : Int.tdiv (m : Int) 1000 = ((m / 1000 : Nat) : Int) := rfl
  have hd2 : Int.tmod (m : Int) 1000 = ((m % 1000 : Nat) : Int) := rfl
  simp (maxSteps := 2000000) (disch := omega) only [go_sem, ↓reduceIte, L_foliowrightref_FixText, R_foliowrightref_FixText, q0, hd1]
  refine CallG.of (decimal_call _ (by omega)) ?_
  have hl := nDigits_le (m / 1000) 6 (by omega)
  rw [textF_nat]
  simp (maxSteps := 2000000) (disch := omega) only [go_sem, ↓reduceIte, hd2]
  generalize Lib.decDigits (m / 1000) = D1 at hl ⊢
  obtain ⟨r0, hr0⟩ : ∃ r0, m % 1000 = r0 := ⟨_, rfl⟩
  rw [hr0]
  have h1000 : r0 < 1000 := by omega
  refine ⟨fun q1 => ?_, fun q1 => ⟨by omega, ?_⟩⟩
  ·have : r0 = 0 := by omega
   subst this
   rw [show fracT 0 = [] from rfl, List.append_nil]
  ·have hf : fracT r0 = 46 :: trimR (fracD r0) := by
    unfold fracT; rw [if_neg]; rw [tail_next h1000 (by omega)]; simp
   rw [hf]
   refine run_loop (fun y : Nat × List UInt8 => ⟨[(0, .d (.int .i64 (y.1 : Nat))), (3, .d (.str y.2))], [], []⟩)
    (fun y => y.1 < 1000 ∧ y.2 ++ trimR (fracD y.1) = D1 ++ 46 :: trimR (fracD r0)) (fun y => msr y.1) (r0, D1 ++ [46]) ?_ ?_ ?_
   ·refine weak_mk ?_ trivial
    simp (maxSteps := 2000000) only [go_sem, ↓reduceIte, Sub, Int.natCast_add, Int.natCast_mul]
   ·exact ⟨h1000, by simp⟩
   ·rintro ⟨r, out⟩ ⟨hr, hF⟩
    simp only at hr hF
    have hl2 := tail_le r
    have hl3 := tail_le r0
    have hlen := congrArg List.length hF
    rw [List.length_append, List.length_append, List.length_cons] at hlen
    have e1 : Int.tdiv (r : Int) 100 = ((r / 100 : Nat) : Int) := rfl
    have e2 : Int.tmod (r : Int) 100 = ((r % 100 : Nat) : Int) := rfl
    simp (maxSteps := 2000000) (disch := omega) only [go_sem, ↓reduceIte, e1]
    refine ⟨fun q2 => ?_, fun q2 => ?_⟩
    ·refine CallG.of (decimal_call _ (by omega)) ?_
     rw [Lib.decDigits, dif_pos (by omega)]
     rw [tail_next hr (by omega)] at hF
     simp (maxSteps := 2000000) (disch := omega) only [go_sem, ↓reduceIte, e2]
     refine ⟨by omega, (r % 100 * 10, out ++ [UInt8.ofNat (48 + r / 100)]), ?_, ⟨by simp only; omega, by simpa using hF⟩, ?_⟩
     ·refine weak_mk ?_ trivial
      simp (maxSteps := 2000000) only [go_sem, ↓reduceIte, Sub, Int.natCast_add, Int.natCast_mul, Int.natCast_mul, Int.cast_ofNat_Int]
     ·exact msr_lt ⟨r, hr⟩ (by simp only; omega)
    ·have : r = 0 := by omega
     subst this
     have e0 : trimR (fracD 0) = [] := rfl
     rw [e0, List.append_nil] at hF
     rw [hF]
theorem fixText_call (n : Int) (hl : Lim n) : PCall Tryz.prog 46 [.int .i64 n] (fun r => r = .one (.str (textF n))) := by
 unfold Lim at hl
 by_cases h : n < 0
 ·obtain ⟨m, hm⟩ : ∃ m : Nat, -n = m := ⟨n.natAbs, by omega⟩
  have hn : n = -(m : Int) := by omega
  rw [hn, textF_neg m (by omega)]
  refine lift_foliowrightref_FixText.call rfl ?_
  have q0 : -(m : Int) < 0 := by omega
  have e : (0 : Int) - -(m : Int) = m := by omega
  simp (maxSteps := 2000000) (disch := omega) only [go_sem, ↓reduceIte, L_foliowrightref_FixText, R_foliowrightref_FixText, q0, e, Int.neg_neg]
  refine CallG.of (fixText_nat m (by omega)) ?_
  have hl2 := tail_le (m % 1000)
  have hl3 := nDigits_le (m / 1000) 9 (by omega)
  have hlt : (textF m).length ≤ 100 := by
   rw [textF_nat, List.length_append]; unfold fracT; split <;> simp <;> omega
  simp (maxSteps := 2000000) (disch := omega) only [go_sem, ↓reduceIte]
  try omega
 ·obtain ⟨m, hm⟩ : ∃ m : Nat, n = m := ⟨n.natAbs, by omega⟩
  rw [hm]
  exact fixText_nat m (by omega)
def L_foliowrightref_StrText : LCode :=
 .seq (.reg [Qx 2 (.k (.d (.str [])))]) (.seq (.reg [Qx 3 (.k (.d (.str [40])))]) (.seq (.seq (.reg [Qx 4 (Ki 0)]) (.block 0 (.loop (.seq (.seq (.reg [Qc 6 4, Qc 7 0, Q 8 (.len true 
 (.t 7)), Q 9 (.bin .lss (.t 6) (.t 8))]) (.cond (.t 9) .skip (.exit 0))) (.seq (.block 1 (.seq (.reg [Qc 12 0, Qc 13 4, Q 14 (.idxS (.t 12) (.t 13)), Qa 5 14]) (.seq (.reg [Qc 15 
 5, Q 16 (.bin .eql (.t 15) (Kb 40)), Qc 17 16, Qd 18 5 17 false, Qg 19 (.bin .eql (.t 18) (Kb 41)) 17 false, Q 20 (.pick (.t 17) KT (.t 19)), Qc 21 20, Qd 22 5 21 false, Qg 23 
 (.bin .eql (.t 22) (Kb 92)) 21 false, Q 24 (.pick (.t 21) KT (.t 23))]) (.cond (.t 24) (.reg [Qc 25 3, Qc 26 5, ⟨some 27, .bsl 5 1 [.k (.d (.int .u8 92)), .t 26], none⟩, Q 28 
 (.b2s (.t 27)), Q 29 (.bin .add (.t 25) (.t 28)), Qa 3 29]) (.seq (.reg [Qc 30 5, Q 31 (.bin .geq (.t 30) (Kb 32)), Qc 32 31, Qd 33 5 32 true, Qg 34 (.bin .lss (.t 33) (Kb 127)) 
 32 true, Q 35 (.pick (.t 32) (.t 34) KF)]) (.cond (.t 35) (.reg [Qc 36 3, Qc 37 5, ⟨some 38, .bsl 5 1 [.t 37], none⟩, Q 39 (.b2s (.t 38)), Q 40 (.bin .add (.t 36) (.t 39)), Qa 3 
 40]) (.reg [Qc 41 3, Qc 42 5, Q 43 (.bin .quo (.t 42) (Kb 64)), Q 44 (.bin .add (Kb 48) (.t 43)), Qc 45 5, Q 46 (.bin .quo (.t 45) (Kb 8)), Q 47 (.bin .rem (.t 46) (Kb 8)), Q 48 
 (.bin .add (Kb 48) (.t 47)), Qc 49 5, Q 50 (.bin .rem (.t 49) (Kb 8)), Q 51 (.bin .add (Kb 48) (.t 50)), ⟨some 52, .bsl 5 1 [.k (.d (.int .u8 92)), .t 44, .t 48, .t 51], none⟩, Q 
 53 (.b2s (.t 52)), Q 54 (.bin .add (.t 41) (.t 53)), Qa 3 54]))))))) (.reg [Qc 10 4, Q 11 (.bin .add (.t 10) (Ki 1)), Qa 4 11])))))) (.seq (.reg [Qc 55 3, Q 56 (.bin .add (.t 55) 
 (.k (.d (.str [41])))), Qa 2 56]) .ret)))
def R_foliowrightref_StrText : List LRes := [.tmp 2]
theorem lift_foliowrightref_StrText : Lifts Tryz.prog 47 57 L_foliowrightref_StrText R_foliowrightref_StrText := ⟨_, _, Tryz.func47, rfl, by kernel_rfl, by kernel_rfl, rfl⟩
theorem strText_call (s : List UInt8) (hl : 4 * s.length + 2 ≤ 1000000000) : PCall Tryz.prog 47 [.str s] (fun r => r = .one (.str ([40] ++ strP s ++ [41]))) := by
 refine lift_foliowrightref_StrText.call rfl ?_
 simp (maxSteps := 2000000) only [go_sem, ↓reduceIte, L_foliowrightref_StrText, R_foliowrightref_StrText]
 refine run_loop (fun i : Nat => ⟨[(0, .d (.str s)), (3, .d (.str ([40] ++ strP (s.take i)))), (4, .d (.int .i64 i))], [], []⟩)
  (fun i => i ≤ s.length) (fun i => s.length - i) 0 ?_ ?_ ?_
 ·refine Weak.mk ?_ ?_ ?_ <;> simp (maxSteps := 2000000) only [go_sem, ↓reduceIte, Sub, Int.natCast_add, Int.natCast_mul, List.take_zero, strP, List.flatMap_nil]
 ·omega
 ·intro i hi
  have hle := strP_length (s.take i)
  rw [List.length_take] at hle
  simp (maxSteps := 2000000) only [go_sem, ↓reduceIte]
  refine ⟨fun hlt => ?_, fun hge => ?_⟩
  ·obtain ⟨c, hc⟩ := get_some (l := s) (i := i) (by omega)
   have hc8 := u8_lt c
   have cc : ∀ k : Nat, c.toNat = k → c = UInt8.ofNat k := fun k h => by rw [← h]; simp
   rcases (by omega : c.toNat = 40 ∨ c.toNat = 41 ∨ c.toNat = 92 ∨ (c.toNat ≠ 40 ∧ c.toNat ≠ 41 ∧ c.toNat ≠ 92 ∧ 32 ≤ c.toNat ∧ c.toNat < 127) ∨ (c.toNat ≠ 40 ∧ c.toNat ≠ 41 ∧ c.toNat ≠ 92 ∧ ¬ (32 ≤ c.toNat ∧ c.toNat ≤ 126))) with q | q | q | q | q
   ·have b2 := bytesOf2 92 c
    have z92 : ((UInt8.toNat 92 : Nat) : Int) = 92 := rfl
    rw [z92] at b2
    have n40 : ((c.toNat : Int) = 40) = True := eq_true (by omega)
    have n41 : ((c.toNat : Int) = 41) = False := eq_false (by omega)
    have n92 : ((c.toNat : Int) = 92) = False := eq_false (by omega)
    simp (maxSteps := 2000000) (disch := omega) only [go_sem, ↓reduceIte, getI_nat s, hc, n40, n41, n92, b2]
    refine ⟨by omega, i + 1, ?_, by omega, by omega⟩
    have hb : strB c = [92, c] := by rw [cc _ q]; rfl
    refine Weak.mk ?_ ?_ ?_ <;> simp (maxSteps := 2000000) only [go_sem, ↓reduceIte, Sub, Int.natCast_add, Int.natCast_mul, strP_next hc, hb, List.append_assoc]
   ·have b2 := bytesOf2 92 c
    have z92 : ((UInt8.toNat 92 : Nat) : Int) = 92 := rfl
    rw [z92] at b2
    have n40 : ((c.toNat : Int) = 40) = False := eq_false (by omega)
    have n41 : ((c.toNat : Int) = 41) = True := eq_true (by omega)
    have n92 : ((c.toNat : Int) = 92) = False := eq_false (by omega)
    simp (maxSteps := 2000000) (disch := omega) only [go_sem, ↓reduceIte, getI_nat s, hc, n40, n41, n92, b2]
    refine ⟨by omega, i + 1, ?_, by omega, by omega⟩
    have hb : strB c = [92, c] := by rw [cc _ q]; rfl
    refine Weak.mk ?_ ?_ ?_ <;> simp (maxSteps := 2000000) only [go_sem, ↓reduceIte, Sub, Int.natCast_add, Int.natCast_mul, strP_next hc, hb, List.append_assoc]
   ·have b2 := bytesOf2 92 c
    have z92 : ((UInt8.toNat 92 : Nat) : Int) = 92 := rfl
    rw [z92] at b2
    have n40 : ((c.toNat : Int) = 40) = False := eq_false (by omega)
    have n41 : ((c.toNat : Int) = 41) = False := eq_false (by omega)
    have n92 : ((c.toNat : Int) = 92) = True := eq_true (by omega)
    simp (maxSteps := 2000000) (disch := omega) only [go_sem, ↓reduceIte, getI_nat s, hc, n40, n41, n92, b2]
    refine ⟨by omega, i + 1, ?_, by omega, by omega⟩
    have hb : strB c = [92, c] := by rw [cc _ q]; rfl
    refine Weak.mk ?_ ?_ ?_ <;> simp (maxSteps := 2000000) only [go_sem, ↓reduceIte, Sub, Int.natCast_add, Int.natCast_mul, strP_next hc, hb, List.append_assoc]
   ·obtain ⟨q1, q2, q3, q4, q5⟩ := q
    have b1 : bytesOf [.int .u8 (c.toNat : Int)] = some [c] := bytesOf_bytesD [c]
    have n40 : ((c.toNat : Int) = 40) = False := eq_false (by omega)
    have n41 : ((c.toNat : Int) = 41) = False := eq_false (by omega)
    have n92 : ((c.toNat : Int) = 92) = False := eq_false (by omega)
    have L32 : ((32 : Int) ≤ c.toNat) = True := eq_true (by omega)
    have g127 : ((c.toNat : Int) < 127) = True := eq_true (by omega)
    simp (maxSteps := 2000000) (disch := omega) only [go_sem, ↓reduceIte, getI_nat s, hc, n40, n41, n92, L32, g127, b1]
    refine ⟨by omega, i + 1, ?_, by omega, by omega⟩
    have hb : strB c = [c] := by
     have z : ¬ (c = 40 ∨ c = 41 ∨ c = 92) := by
      rintro (rfl | rfl | rfl)
      ·exact q1 rfl
      ·exact q2 rfl
      ·exact q3 rfl
     have q6 : c.toNat ≤ 126 := by omega
     simp [strB, z, q4, q6]
    refine Weak.mk ?_ ?_ ?_ <;> simp (maxSteps := 2000000) only [go_sem, ↓reduceIte, Sub, Int.natCast_add, Int.natCast_mul, strP_next hc, hb, List.append_assoc]
   ·obtain ⟨q1, q2, q3, q4⟩ := q
    have hb : strB c = [92, UInt8.ofNat (48 + c.toNat / 64), UInt8.ofNat (48 + c.toNat / 8 % 8), UInt8.ofNat (48 + c.toNat % 8)] := by
     have z : ¬ (c = 40 ∨ c = 41 ∨ c = 92) := by
      rintro (rfl | rfl | rfl)
      ·exact q1 rfl
      ·exact q2 rfl
      ·exact q3 rfl
     unfold strB
     rw [if_neg z, if_neg q4]
    have e1 : Int.tdiv (c.toNat : Int) 64 = ((c.toNat / 64 : Nat) : Int) := rfl
    have e2 : Int.tdiv (c.toNat : Int) 8 = ((c.toNat / 8 : Nat) : Int) := rfl
    have e3 : Int.tmod ((c.toNat / 8 : Nat) : Int) 8 = ((c.toNat / 8 % 8 : Nat) : Int) := rfl
    have e4 : Int.tmod (c.toNat : Int) 8 = ((c.toNat % 8 : Nat) : Int) := rfl
    have b4 := bytesOf4n 92 (c.toNat / 64) (c.toNat / 8 % 8) (c.toNat % 8)
    have z92 : ((UInt8.toNat 92 : Nat) : Int) = 92 := rfl
    rw [z92] at b4
    rcases (by omega : ¬ 32 ≤ c.toNat ∨ (32 ≤ c.toNat ∧ ¬ c.toNat < 127)) with r | r
    ·skip
     have n40 : ((c.toNat : Int) = 40) = False := eq_false (by omega)
     have n41 : ((c.toNat : Int) = 41) = False := eq_false (by omega)
     have n92 : ((c.toNat : Int) = 92) = False := eq_false (by omega)
     have L32 : ((32 : Int) ≤ c.toNat) = False := eq_false (by omega)
     simp (maxSteps := 2000000) (disch := omega) only [go_sem, ↓reduceIte, getI_nat s, hc, n40, n41, n92, L32, e1, e2, e3, e4, b4]
     refine ⟨by omega, i + 1, ?_, by omega, by omega⟩
     refine Weak.mk ?_ ?_ ?_ <;> simp (maxSteps := 2000000) only [go_sem, ↓reduceIte, Sub, Int.natCast_add, Int.natCast_mul, strP_next hc, hb, List.append_assoc]
    ·skip
     have n40 : ((c.toNat : Int) = 40) = False := eq_false (by omega)
     have n41 : ((c.toNat : Int) = 41) = False := eq_false (by omega)
     have n92 : ((c.toNat : Int) = 92) = False := eq_false (by omega)
     have L32 : ((32 : Int) ≤ c.toNat) = True := eq_true (by omega)
     have g127 : ((c.toNat : Int) < 127) = False := eq_false (by omega)
     simp (maxSteps := 2000000) (disch := omega) only [go_sem, ↓reduceIte, getI_nat s, hc, n40, n41, n92, L32, g127, e1, e2, e3, e4, b4]
     refine ⟨by omega, i + 1, ?_, by omega, by omega⟩
     refine Weak.mk ?_ ?_ ?_ <;> simp (maxSteps := 2000000) only [go_sem, ↓reduceIte, Sub, Int.natCast_add, Int.natCast_mul, strP_next hc, hb, List.append_assoc]
  ·have hll := strP_length s
   rw [List.take_of_length_le (by omega)]
   simp (maxSteps := 2000000) only [go_sem, ↓reduceIte]
   omega
mutual
def textV : Val → List UInt8
 | .mk k n s l f =>
  if k = 1 then (if n = 1 then [116, 114, 117, 101] else [102, 97, 108, 115, 101])
  else if k = 2 then textF n
  else if k = 3 then [40] ++ strP s ++ [41]
  else if k = 4 then [47] ++ nameP s
  else if k = 5 then [91] ++ textL false l ++ [93]
  else if k = 6 then [60, 60] ++ textX f ++ [32, 62, 62]
  else if k = 7 then Lib.decDigits n.toNat ++ [32, 48, 32, 82]
  else [110, 117, 108, 108]
def textL (sep : Bool) : List Val → List UInt8
 | [] => []
 | v :: r => (if sep then [32] else []) ++ textV v ++ textL true r
def textX : List Fld → List UInt8
 | [] => []
 | .mk nm v :: r => [32, 47] ++ nameP nm ++ [32] ++ textV v ++ textX r
end
theorem textV_eq (v : Val) : textV v =
  if v.kind = 1 then (if v.n = 1 then [116, 114, 117, 101] else [102, 97, 108, 115, 101])
  else if v.kind = 2 then textF v.n
  else if v.kind = 3 then [40] ++ strP v.s ++ [41]
  else if v.kind = 4 then [47] ++ nameP v.s
  else if v.kind = 5 then [91] ++ textL false v.l ++ [93]
  else if v.kind = 6 then [60, 60] ++ textX v.f ++ [32, 62, 62]
  else if v.kind = 7 then Lib.decDigits v.n.toNat ++ [32, 48, 32, 82]
  else [110, 117, 108, 108] := by cases v; simp only [textV]; rfl
theorem textL_append (sep : Bool) (a b : List Val) : textL sep (a ++ b) = textL sep a ++ textL (sep || decide (a ≠ [])) b := by
 induction a generalizing sep with
 | nil => simp [textL]
 | cons v r ih => simp [textL, ih, List.append_assoc]
theorem textL_next {l : List Val} {i : Nat} {x : Val} (hx : l[i]? = some x) : textL false (l.take (i + 1)) = textL false (l.take i) ++ (if 0 < i then [32] else []) ++ textV x := by
 rw [take_snoc hx, textL_append]
 have hl : i < l.length := (List.getElem?_eq_some_iff.1 hx).1
 by_cases h : 0 < i
 ·have : l.take i ≠ [] := fun e => by
   have h2 : (l.take i).length = 0 := by rw [e]; rfl
   rw [List.length_take] at h2; omega
  simp [textL, h, this]
 ·obtain rfl : i = 0 := by omega
  simp [textL]
theorem textL_take_le {l : List Val} {i : Nat} : (textL false (l.take i)).length ≤ (textL false l).length := by
 have h := textL_append false (l.take i) (l.drop i)
 rw [List.take_append_drop] at h
 rw [h, List.length_append]; omega
def textG (x : Fld) : List UInt8 := [32, 47] ++ nameP x.name ++ [32] ++ textV x.v
theorem textX_append (a b : List Fld) : textX (a ++ b) = textX a ++ textX b := by
 induction a with
 | nil => simp [textX]
 | cons x r ih => cases x; simp [textX, ih, List.append_assoc]
theorem textX_next {l : List Fld} {i : Nat} {x : Fld} (hx : l[i]? = some x) : textX (l.take (i + 1)) = textX (l.take i) ++ textG x := by
 rw [take_snoc hx, textX_append]
 cases x; simp [textX, textG, Fld.name, Fld.v]
theorem textX_take_le {l : List Fld} {i : Nat} : (textX (l.take i)).length ≤ (textX l).length := by
 have h := textX_append (l.take i) (l.drop i)
 rw [List.take_append_drop] at h
 rw [h, List.length_append]; omega
/-! ### What is well, part by part -/
theorem wellV_1 {v : Val} (h : wellV v = true) (hk : v.kind = 1) : v.n = 0 ∨ v.n = 1 := by rw [wellV_eq, hk] at h; simp at h; exact h.1
theorem wellV_2 {v : Val} (h : wellV v = true) (hk : v.kind = 2) : Lim v.n := by rw [wellV_eq, hk] at h; simp at h; exact h.1
theorem wellV_5 {v x : Val} (h : wellV v = true) (hk : v.kind = 5) (hx : x ∈ v.l) : wellV x = true := by
 rw [wellV_eq, hk] at h; simp at h
 have h1 := h.2.2.1
 rw [wellL_eq] at h1
 simp only [Bool.not_eq_true'] at h1
 rw [List.any_eq_false] at h1
 simpa using h1 x hx
theorem wellF_mem : ∀ {p : Option (List UInt8)} {l : List Fld} {x : Fld}, wellF p l = true → x ∈ l → nameMay x.name = true ∧ wellV x.v = true
 | p, .mk nm v :: r, x, h, hx => by
  simp only [wellF, Bool.and_eq_true] at h
  rcases List.mem_cons.1 hx with rfl | hx
  ·exact ⟨h.1.1, h.1.2.1⟩
  ·exact wellF_mem h.2 hx
theorem wellV_6 {v : Val} {x : Fld} (h : wellV v = true) (hk : v.kind = 6) (hx : x ∈ v.f) : wellV x.v = true := by
 rw [wellV_eq, hk] at h; simp at h
 exact (wellF_mem h.2.2.2 hx).2
theorem wellV_7 {v : Val} (h : wellV v = true) (hk : v.kind = 7) : 1 ≤ v.n ∧ v.n ≤ 60 := by rw [wellV_eq, hk] at h; simp at h; exact h.1
theorem wellV_k {v : Val} (h : wellV v = true) : v.kind = 0 ∨ v.kind = 1 ∨ v.kind = 2 ∨ v.kind = 3 ∨ v.kind = 4 ∨ v.kind = 5 ∨ v.kind = 6 ∨ v.kind = 7 := by
 rcases kinds v.kind with k | k | k | k | k | k | k | k | ⟨k0, k1, k2, k3, k4, k5, k6, k7⟩
 ·exact .inl k
 ·exact .inr (.inl k)
 ·exact .inr (.inr (.inl k))
 ·exact .inr (.inr (.inr (.inl k)))
 ·exact .inr (.inr (.inr (.inr (.inl k))))
 ·exact .inr (.inr (.inr (.inr (.inr (.inl k)))))
 ·exact .inr (.inr (.inr (.inr (.inr (.inr (.inl k))))))
 ·exact .inr (.inr (.inr (.inr (.inr (.inr (.inr k))))))
 ·rw [wellV_eq, if_neg k0, if_neg k1, if_neg k2, if_neg k3, if_neg k4, if_neg k5, if_neg k6, if_neg k7] at h; cases h
def L_foliowrightref_ValueText : LCode :=
 .seq (.reg [⟨some 1, .box (.t 0), none⟩, Qx 2 (.k (.d (.str [])))]) (.seq (.seq (.reg [Q 7 (.fa 0 (.t 1)), Q 8 (.ld false 1 (.t 7))]) (.block 0 (.seq (.reg [Q 10 (.bin .eql (.t 8) 
 (Ki 1)), Qa 9 10]) (.cond (.t 9) (.seq (.seq (.reg [Q 11 (.fa 1 (.t 1)), Q 12 (.ld false 1 (.t 11)), Q 13 (.bin .eql (.t 12) (Ki 1))]) (.cond (.t 13) (.seq (.reg [Qx 2 (.k (.d 
 (.str [116, 114, 117, 101])))]) .ret) .skip)) (.seq (.reg [Qx 2 (.k (.d (.str [102, 97, 108, 115, 101])))]) .ret)) (.seq (.reg [Q 15 (.bin .eql (.t 8) (Ki 2)), Qa 14 15]) (.cond 
 (.t 14) (.seq (.reg [Q 16 (.fa 1 (.t 1)), Q 17 (.ld false 1 (.t 16)), ⟨some 18, .call 46 [.t 17], none⟩, Qa 2 18]) .ret) (.seq (.reg [Q 20 (.bin .eql (.t 8) (Ki 3)), Qa 19 20]) 
 (.cond (.t 19) (.seq (.reg [Q 21 (.fa 2 (.t 1)), Q 22 (.ld false 1 (.t 21)), ⟨some 23, .call 47 [.t 22], none⟩, Qa 2 23]) .ret) (.seq (.reg [Q 25 (.bin .eql (.t 8) (Ki 4)), Qa 24 
 25]) (.cond (.t 24) (.seq (.reg [Q 26 (.fa 2 (.t 1)), Q 27 (.ld false 1 (.t 26)), ⟨some 28, .call 48 [.t 27], none⟩, Qa 2 28]) .ret) (.seq (.reg [Q 30 (.bin .eql (.t 8) (Ki 5)), 
 Qa 29 30]) (.cond (.t 29) (.seq (.reg [Qx 3 (.k (.d (.str [91])))]) (.seq (.seq (.reg [Qx 4 (Ki 0)]) (.block 1 (.loop (.seq (.seq (.reg [Qc 31 4, Q 32 (.fa 3 (.t 1)), Q 33 (.ld 
 false 1 (.t 32)), Q 34 (.len false (.t 33)), Q 35 (.bin .lss (.t 31) (.t 34))]) (.cond (.t 35) .skip (.exit 1))) (.seq (.block 2 (.seq (.seq (.reg [Qc 38 4, Q 39 (.bin .gtr (.t 
 38) (Ki 0))]) (.cond (.t 39) (.reg [Qc 40 3, Q 41 (.bin .add (.t 40) (.k (.d (.str [32])))), Qa 3 41]) .skip)) (.reg [Qc 42 3, Q 43 (.fa 3 (.t 1)), Q 44 (.ld false 1 (.t 43)), Qc 
 45 4, Q 46 (.ia 5 (.t 44) (.t 45)), Q 47 (.ld true 5 (.t 46)), ⟨some 48, .call 29 [.t 47], none⟩, Q 49 (.bin .add (.t 42) (.t 48)), Qa 3 49]))) (.reg [Qc 36 4, Q 37 (.bin .add 
 (.t 36) (Ki 1)), Qa 4 37])))))) (.seq (.reg [Qc 50 3, Q 51 (.bin .add (.t 50) (.k (.d (.str [93])))), Qa 2 51]) .ret))) (.seq (.reg [Q 53 (.bin .eql (.t 8) (Ki 6)), Qa 52 53]) 
 (.cond (.t 52) (.seq (.reg [Qx 5 (.k (.d (.str [60, 60])))]) (.seq (.seq (.reg [Qx 6 (Ki 0)]) (.block 3 (.loop (.seq (.seq (.reg [Qc 54 6, Q 55 (.fa 4 (.t 1)), Q 56 (.ld false 1 
 (.t 55)), Q 57 (.len false (.t 56)), Q 58 (.bin .lss (.t 54) (.t 57))]) (.cond (.t 58) .skip (.exit 3))) (.seq (.block 4 (.dreg [Qc 61 5, Q 62 (.bin .add (.t 61) (.k (.d (.str 
 [32])))), Q 63 (.fa 4 (.t 1)), Q 64 (.ld false 1 (.t 63)), Qc 65 6, Q 66 (.ia 6 (.t 64) (.t 65)), Q 67 (.fa 0 (.t 66)), Q 68 (.ld false 1 (.t 67)), ⟨some 69, .call 48 [.t 68], 
 none⟩, Q 70 (.bin .add (.t 62) (.t 69)), Q 71 (.bin .add (.t 70) (.k (.d (.str [32])))), Q 72 (.fa 4 (.t 1)), Q 73 (.ld false 1 (.t 72)), Qc 74 6, Q 75 (.ia 6 (.t 73) (.t 74)), Q 
 76 (.fa 1 (.t 75)), Q 77 (.ld true 5 (.t 76)), ⟨some 78, .call 29 [.t 77], none⟩, Q 79 (.bin .add (.t 71) (.t 78)), Qa 5 79])) (.reg [Qc 59 6, Q 60 (.bin .add (.t 59) (Ki 1)), Qa 
 6 60])))))) (.seq (.reg [Qc 80 5, Q 81 (.bin .add (.t 80) (.k (.d (.str [32, 62, 62])))), Qa 2 81]) .ret))) (.seq (.reg [Q 83 (.bin .eql (.t 8) (Ki 7)), Qa 82 83]) (.cond (.t 82) 
 (.seq (.reg [Q 84 (.fa 1 (.t 1)), Q 85 (.ld false 1 (.t 84)), ⟨some 86, .call 49 [.t 85], none⟩, Q 87 (.bin .add (.t 86) (.k (.d (.str [32, 48, 32, 82])))), Qa 2 87]) .ret) 
 .skip)))))))))))))))) (.seq (.reg [Qx 2 (.k (.d (.str [110, 117, 108, 108])))]) .ret))
def R_foliowrightref_ValueText : List LRes := [.tmp 2]
theorem lift_foliowrightref_ValueText : Lifts Tryz.prog 29 88 L_foliowrightref_ValueText R_foliowrightref_ValueText := ⟨_, _, Tryz.func29, rfl, by kernel_rfl, by kernel_rfl, rfl⟩
theorem valueText_call : ∀ (m : Nat) (v : Val), SizeOf.sizeOf v ≤ m → v.sm 1048576 = true → wellV v = true → (textV v).length ≤ 900000000 → PCall Tryz.prog 29 [v.d] (fun r => r = .one (.str (textV v))) := by
 intro m
 induction m with
 | zero => intro v h; cases v; simp at h
 | succ m ih =>
  intro v hv hsm hw htl
  obtain ⟨hsl0, hll, hfl, hsl, hsf⟩ := Val.sm_iff.1 hsm
  have hvl := valsD_length v.l
  have hfl' := fldsD_length v.f
  generalize hR : textV v = R at htl ⊢
  rw [textV_eq] at hR
  rw [Val.d_eq]
  rcases wellV_k hw with hk | hk | hk | hk | hk | hk | hk | hk
  ·refine lift_foliowrightref_ValueText.call rfl ?_
   rw [hk] at hR
   simp only [Int.reduceEq, ↓reduceIte] at hR
   simp (maxSteps := 2000000) only [go_sem, ↓reduceIte, L_foliowrightref_ValueText, R_foliowrightref_ValueText, hk, hvl, hfl']
   rw [hR]
  ·refine lift_foliowrightref_ValueText.call rfl ?_
   rw [hk] at hR
   simp only [Int.reduceEq, ↓reduceIte] at hR
   simp (maxSteps := 2000000) only [go_sem, ↓reduceIte, L_foliowrightref_ValueText, R_foliowrightref_ValueText, hk, hvl, hfl']
   refine ⟨fun h => ?_, fun h => ?_⟩
   ·rw [← hR, if_pos h]
   ·rw [← hR, if_neg h]
  ·refine lift_foliowrightref_ValueText.call rfl ?_
   have hL := wellV_2 hw hk
   rw [hk] at hR
   simp only [Int.reduceEq, ↓reduceIte] at hR
   simp (maxSteps := 2000000) only [go_sem, ↓reduceIte, L_foliowrightref_ValueText, R_foliowrightref_ValueText, hk, hvl, hfl']
   refine CallG.of (fixText_call _ hL) ?_
   simp (maxSteps := 2000000) only [go_sem, ↓reduceIte, hR]
  ·refine lift_foliowrightref_ValueText.call rfl ?_
   rw [hk] at hR
   simp only [Int.reduceEq, ↓reduceIte] at hR
   simp (maxSteps := 2000000) only [go_sem, ↓reduceIte, L_foliowrightref_ValueText, R_foliowrightref_ValueText, hk, hvl, hfl']
   refine CallG.of (strText_call _ (by omega)) ?_
   rw [hR]
   simp (maxSteps := 2000000) only [go_sem, ↓reduceIte]
  ·refine lift_foliowrightref_ValueText.call rfl ?_
   rw [hk] at hR
   simp only [Int.reduceEq, ↓reduceIte] at hR
   simp (maxSteps := 2000000) only [go_sem, ↓reduceIte, L_foliowrightref_ValueText, R_foliowrightref_ValueText, hk, hvl, hfl']
   refine CallG.of (nameText_call _ (by omega)) ?_
   rw [hR]
   simp (maxSteps := 2000000) only [go_sem, ↓reduceIte]
  ·refine lift_foliowrightref_ValueText.call rfl ?_
   rw [hk] at hR
   simp only [Int.reduceEq, ↓reduceIte] at hR
   simp (maxSteps := 2000000) only [go_sem, ↓reduceIte, L_foliowrightref_ValueText, R_foliowrightref_ValueText, hk, hvl, hfl']
   have hRl := congrArg List.length hR
   simp only [List.length_append, List.length_cons, List.length_nil] at hRl
   refine run_loop (fun i : Nat => ⟨[(1, .ptr (.l 1) 0), (3, .d (.str ([91] ++ textL false (v.l.take i)))), (4, .d (.int .i64 i))],
     [(1, .cells [.d (.int .i64 5), .d (.int .i64 v.n), .d (.str v.s), .d (.list (valsD v.l)), .d (.list (fldsD v.f))])], []⟩)
    (fun i => i ≤ v.l.length) (fun i => v.l.length - i) 0 ?_ ?_ ?_
   ·refine Weak.mk ?_ ?_ ?_ <;> simp (maxSteps := 2000000) only [go_sem, ↓reduceIte, Sub, Int.natCast_add, Int.natCast_mul, List.take_zero, textL]
   ·omega
   ·intro i hi
    simp (maxSteps := 2000000) only [go_sem, ↓reduceIte, hvl]
    refine ⟨fun hlt => ?_, fun hge => ?_⟩
    ·obtain ⟨x, hx⟩ := get_some (l := v.l) (i := i) (by omega)
     have hm := List.mem_of_getElem? hx
     have hn := textL_next hx
     have hle := textL_take_le (l := v.l) (i := i + 1)
     have hnl := congrArg List.length hn
     simp only [List.length_append] at hnl
     have hc := ih x (by have := size_l hm; omega) (hsl x hm) (wellV_5 hw hk hm) (by omega)
     rw [Val.d_eq] at hc
     by_cases i0 : 0 < i
     ·rw [if_pos i0] at hn hnl
      have i0' : ((0 : Int) < (i : Int)) = True := eq_true (by omega)
      simp only [List.length_cons, List.length_nil] at hnl
      simp (maxSteps := 2000000) (disch := omega) only [go_sem, ↓reduceIte, getI_nat, valsD_get, hx, Val.d_eq, i0']
      refine ⟨by omega, ?_⟩
      refine CallG.of hc ?_
      simp (maxSteps := 2000000) (disch := omega) only [go_sem, ↓reduceIte]
      refine ⟨by simp only [List.length_append, List.length_cons, List.length_nil]; omega, i + 1, ?_, by omega, by omega⟩
      refine Weak.mk ?_ ?_ ?_ <;> simp (maxSteps := 2000000) only [go_sem, ↓reduceIte, Sub, Int.natCast_add, Int.natCast_mul, hn, List.append_assoc]
     ·rw [if_neg i0] at hn hnl
      have i0' : ((0 : Int) < (i : Int)) = False := eq_false (by omega)
      simp only [List.length_nil] at hnl
      simp (maxSteps := 2000000) (disch := omega) only [go_sem, ↓reduceIte, getI_nat, valsD_get, hx, Val.d_eq, i0']
      refine CallG.of hc ?_
      simp (maxSteps := 2000000) (disch := omega) only [go_sem, ↓reduceIte]
      refine ⟨by omega, i + 1, ?_, by omega, by omega⟩
      refine Weak.mk ?_ ?_ ?_ <;> simp (maxSteps := 2000000) only [go_sem, ↓reduceIte, Sub, Int.natCast_add, Int.natCast_mul, hn, List.append_assoc]
    ·rw [List.take_of_length_le (by omega)]
     refine ⟨by omega, ?_⟩
     rw [← hR]; rfl
  ·refine lift_foliowrightref_ValueText.call rfl ?_
   rw [hk] at hR
   simp only [Int.reduceEq, ↓reduceIte] at hR
   simp (maxSteps := 2000000) only [go_sem, ↓reduceIte, L_foliowrightref_ValueText, R_foliowrightref_ValueText, hk, hvl, hfl']
   have hRl := congrArg List.length hR
   simp only [List.length_append, List.length_cons, List.length_nil] at hRl
   refine run_loop (fun i : Nat => ⟨[(1, .ptr (.l 1) 0), (5, .d (.str ([60, 60] ++ textX (v.f.take i)))), (6, .d (.int .i64 i))],
     [(1, .cells [.d (.int .i64 6), .d (.int .i64 v.n), .d (.str v.s), .d (.list (valsD v.l)), .d (.list (fldsD v.f))])], []⟩)
    (fun i => i ≤ v.f.length) (fun i => v.f.length - i) 0 ?_ ?_ ?_
   ·refine Weak.mk ?_ ?_ ?_ <;> simp (maxSteps := 2000000) only [go_sem, ↓reduceIte, Sub, Int.natCast_add, Int.natCast_mul, List.take_zero, textX]
   ·omega
   ·intro i hi
    simp (maxSteps := 2000000) only [go_sem, ↓reduceIte, hfl']
    refine ⟨fun hlt => ?_, fun hge => ?_⟩
    ·obtain ⟨x, hx⟩ := get_some (l := v.f) (i := i) (by omega)
     have hm := List.mem_of_getElem? hx
     have hn := textX_next hx
     have hle := textX_take_le (l := v.f) (i := i + 1)
     have hnl := congrArg List.length hn
     simp only [textG, List.length_append, List.length_cons, List.length_nil] at hnl
     have hsx := Fld.sm_iff.1 (hsf x hm)
     have hc := ih x.v (by have := size_f hm; omega) hsx.2 (wellV_6 hw hk hm) (by omega)
     rw [Val.d_eq] at hc
     simp (maxSteps := 2000000) (disch := omega) only [go_sem, ↓reduceIte, getI_nat, fldsD_get, hx, Fld.d_eq]
     refine ⟨by omega, ?_⟩
     refine CallD.of (nameText_call _ (by have := hsx.1; omega)) ?_
     simp (maxSteps := 2000000) (disch := omega) only [go_sem, ↓reduceIte, getI_nat, fldsD_get, hx, Fld.d_eq]
     refine ⟨by simp only [List.length_append, List.length_cons, List.length_nil]; omega, by simp only [List.length_append, List.length_cons, List.length_nil]; omega, ?_⟩
     refine CallD.of hc ?_
     simp (maxSteps := 2000000) (disch := omega) only [go_sem, ↓reduceIte]
     refine ⟨by simp only [List.length_append, List.length_cons, List.length_nil]; omega, i + 1, ?_, by omega, by omega⟩
     refine Weak.mk ?_ ?_ ?_ <;> simp (maxSteps := 2000000) only [go_sem, ↓reduceIte, Sub, Int.natCast_add, Int.natCast_mul, hn, textG, List.append_assoc]
    ·rw [List.take_of_length_le (by omega)]
     refine ⟨by omega, ?_⟩
     rw [← hR]; rfl
  ·refine lift_foliowrightref_ValueText.call rfl ?_
   have hL := wellV_7 hw hk
   rw [hk] at hR
   simp only [Int.reduceEq, ↓reduceIte] at hR
   simp (maxSteps := 2000000) only [go_sem, ↓reduceIte, L_foliowrightref_ValueText, R_foliowrightref_ValueText, hk, hvl, hfl']
   have hc := decimal_call v.n.toNat (by omega)
   have hz : ((v.n.toNat : Nat) : Int) = v.n := by omega
   rw [hz] at hc
   have hRl := congrArg List.length hR
   simp only [List.length_append, List.length_cons, List.length_nil] at hRl
   refine CallG.of hc ?_
   simp (maxSteps := 2000000) only [go_sem, ↓reduceIte, hR]
   omega
theorem textF_whole (k : Nat) : textF ((k : Int) * 1000) = Lib.decDigits k := by
 have h1 : ¬ ((k : Int) * 1000 < 0) := by omega
 have h2 : ((k : Int) * 1000).natAbs = k * 1000 := by omega
 unfold textF
 rw [if_neg h1, h2]
 have h3 : k * 1000 / 1000 = k := by omega
 have h4 : k * 1000 % 1000 = 0 := by omega
 rw [h3, h4]
 have h5 : fracT 0 = [] := by decide
 simp [h5]
def L_value_write : LCode :=
 .seq (.reg [⟨some 3, .box (.t 1), none⟩]) (.seq (.reg [Q 12 (.fa 0 (.t 3)), Q 13 (.ld false 1 (.t 12))]) (.block 0 (.seq (.reg [Q 17 (.bin .eql (.t 13) (Ki 1)), Qa 16 17]) (.cond 
 (.t 16) (.reg [Qc 18 0, ⟨some 19, .bsl 9 1 [.k (.d (.str [102, 97, 108, 115, 101])), .k (.d (.str [116, 114, 117, 101]))], none⟩, Q 20 (.fa 1 (.t 3)), Q 21 (.ld false 1 (.t 20)), 
 Q 22 (.ia 1 (.t 19) (.t 21)), Q 23 (.ld false 1 (.t 22)), ⟨some 24, .prim .call [.k (.fn (.func 25) [] []), .t 18, .t 23] [], none⟩]) (.seq (.reg [Q 26 (.bin .eql (.t 13) (Ki 
 2)), Qa 25 26]) (.cond (.t 25) (.seq (.reg [Q 28 (.fa 1 (.t 3)), Q 29 (.ld false 1 (.t 28)), ⟨some 30, .call 52 [.t 29], none⟩, Qc 27 30, Q 31 (.ext 0 (.t 27)), Q 32 (.ext 1 (.t 
 27)), Qa 4 31, Qa 5 32]) (.reg [Qc 33 0, Qc 34 4, ⟨some 35, .prim .call [.k (.fn (.func 25) [] []), .t 33, .t 34] [], none⟩])) (.seq (.reg [Q 37 (.bin .eql (.t 13) (Ki 3)), Qa 36 
 37]) (.cond (.t 36) (.reg [Qc 38 0, Q 39 (.fa 2 (.t 3)), Q 40 (.ld false 1 (.t 39)), ⟨some 41, .prim .call [.k (.fn (.func 53) [] []), .t 38, .t 40] [], none⟩]) (.seq (.reg [Q 43 
 (.bin .eql (.t 13) (Ki 4)), Qa 42 43]) (.cond (.t 42) (.reg [Qc 44 0, Q 45 (.fa 2 (.t 3)), Q 46 (.ld false 1 (.t 45)), ⟨some 47, .prim .call [.k (.fn (.func 54) [] []), .t 44, .t 
 46] [], none⟩]) (.seq (.reg [Q 49 (.bin .eql (.t 13) (Ki 5)), Qa 48 49]) (.cond (.t 48) (.seq (.reg [Qc 50 0, ⟨some 51, .prim .call [.k (.fn (.func 55) [] []), .t 50, .k (.d 
 (.int .u8 91))] [], none⟩]) (.seq (.seq (.reg [Q 52 (.fa 3 (.t 3)), Q 53 (.ld false 1 (.t 52)), Q 54 (.len false (.t 53)), Q 55 (.cp (Ki 0))]) (.block 1 (.loop (.seq (.reg [Q 56 
 (.bin .lss (.t 55) (.t 54))]) (.seq (.cond (.t 56) .skip (.exit 1)) (.seq (.block 2 (.seq (.reg [Qc 57 55, Q 58 (.ia 5 (.t 53) (.t 55)), Q 59 (.ld true 5 (.t 58)), ⟨some 7, .allo 
 [.int .i64 0, .int .i64 0, .str [], .list [], .list []], none⟩, Qa 6 57, ⟨none, .st 5 (.t 7) (.t 59), none⟩]) (.seq (.seq (.reg [Qc 60 6, Q 61 (.bin .gtr (.t 60) (Ki 0))]) (.cond 
 (.t 61) (.reg [Qc 62 0, ⟨some 63, .prim .call [.k (.fn (.func 55) [] []), .t 62, .k (.d (.int .u8 32))] [], none⟩]) .skip)) (.reg [Qc 64 0, Q 65 (.ld true 5 (.t 7)), ⟨some 66, 
 .prim .call [.k (.fn (.func 32) [] []), .t 64, .t 65] [], none⟩])))) (.reg [Q 67 (.bin .add (.t 55) (Ki 1)), Qc 55 67]))))))) (.reg [Qc 68 0, ⟨some 69, .prim .call [.k (.fn 
 (.func 55) [] []), .t 68, .k (.d (.int .u8 93))] [], none⟩]))) (.seq (.reg [Q 71 (.bin .eql (.t 13) (Ki 6)), Qa 70 71]) (.cond (.t 70) (.seq (.reg [Qc 72 0, ⟨some 73, .prim .call 
 [.k (.fn (.func 25) [] []), .t 72, .k (.d (.str [60, 60]))] [], none⟩]) (.seq (.seq (.reg [Q 74 (.fa 4 (.t 3)), Q 75 (.ld false 1 (.t 74)), Q 76 (.len false (.t 75)), Q 77 (.cp 
 (Ki 0))]) (.block 3 (.loop (.seq (.reg [Q 78 (.bin .lss (.t 77) (.t 76))]) (.seq (.cond (.t 78) .skip (.exit 3)) (.seq (.block 4 (.seq (.reg [Q 79 (.ia 6 (.t 75) (.t 77)), Q 80 
 (.ld true 6 (.t 79)), ⟨some 9, .allo [.str [], .int .i64 0, .int .i64 0, .str [], .list [], .list []], none⟩, ⟨none, .st 6 (.t 9) (.t 80), none⟩]) (.seq (.reg [Qc 81 0, ⟨some 82, 
 .prim .call [.k (.fn (.func 55) [] []), .t 81, .k (.d (.int .u8 32))] [], none⟩]) (.seq (.reg [Qc 83 0, Q 84 (.fa 0 (.t 9)), Q 85 (.ld false 1 (.t 84)), ⟨some 86, .prim .call [.k 
 (.fn (.func 54) [] []), .t 83, .t 85] [], none⟩]) (.seq (.reg [Qc 87 0, ⟨some 88, .prim .call [.k (.fn (.func 55) [] []), .t 87, .k (.d (.int .u8 32))] [], none⟩]) (.reg [Qc 89 
 0, Q 90 (.fa 1 (.t 9)), Q 91 (.ld true 5 (.t 90)), ⟨some 92, .prim .call [.k (.fn (.func 32) [] []), .t 89, .t 91] [], none⟩])))))) (.reg [Q 93 (.bin .add (.t 77) (Ki 1)), Qc 77 
 93]))))))) (.reg [Qc 94 0, ⟨some 95, .prim .call [.k (.fn (.func 25) [] []), .t 94, .k (.d (.str [32, 62, 62]))] [], none⟩]))) (.seq (.reg [Q 97 (.bin .eql (.t 13) (Ki 7)), Qa 96 
 97]) (.cond (.t 96) (.seq (.reg [Q 99 (.fa 1 (.t 3)), Q 100 (.ld false 1 (.t 99)), Q 101 (.bin .mul (.t 100) (Ki 1000)), ⟨some 102, .call 52 [.t 101], none⟩, Qc 98 102, Q 103 
 (.ext 0 (.t 98)), Q 104 (.ext 1 (.t 98)), Qa 10 103, Qa 11 104]) (.reg [Qc 105 0, Qc 106 10, Q 107 (.bin .add (.t 106) (.k (.d (.str [32, 48, 32, 82])))), ⟨some 108, .prim .call 
 [.k (.fn (.func 25) [] []), .t 105, .t 107] [], none⟩])) (.reg [Qc 14 0, ⟨some 15, .prim .call [.k (.fn (.func 25) [] []), .t 14, .k (.d (.str [110, 117, 108, 108]))] [], 
 none⟩])))))))))))))))))
def R_value_write : List LRes := []
theorem lift_value_write : Lifts Tryz.prog 32 109 L_value_write R_value_write := ⟨_, _, Tryz.func32, rfl, by kernel_rfl, by kernel_rfl, rfl⟩
theorem write_at : ∀ (m : Nat) (v : Val) (b : Bld), SizeOf.sizeOf v ≤ m → v.sm 1048576 = true → wellV v = true → b.bytes.length + (textV v).length ≤ 900000000 →
  MCallE Tryz.prog 32 [.ptr (.x 0) 0, .d v.d] [b.at (.x 0)] (.tuple []) [Bld.at (.x 0) (.has (b.bytes ++ textV v))] := by
 intro m
 induction m with
 | zero => intro v b h; cases v; simp at h
 | succ m ih =>
  intro v b hv hsm hw htl
  obtain ⟨hsl0, hll, hfl, hsl, hsf⟩ := Val.sm_iff.1 hsm
  have hvl := valsD_length v.l
  have hfl' := fldsD_length v.f
  generalize hR : textV v = R at htl ⊢
  rw [textV_eq] at hR
  rw [Val.d_eq]
  rcases wellV_k hw with hk | hk | hk | hk | hk | hk | hk | hk
  ·refine lift_value_write.mcall (by kernel_rfl) rfl ?_
   rw [hk] at hR
   simp only [Int.reduceEq, ↓reduceIte] at hR
   simp (maxSteps := 2000000) only [go_sem, ↓reduceIte, L_value_write, R_value_write, hk, hvl, hfl']
   refine bldCall (.x 0) rfl (writeString_at b [110, 117, 108, 108] (by rw [List.length_append, hR]; omega)) rfl rfl rfl rfl ?_
   simp (maxSteps := 2000000) only [go_sem, ↓reduceIte]
   rw [hR]
  ·have hn := wellV_1 hw hk
   rw [hk] at hR
   simp only [Int.reduceEq, ↓reduceIte] at hR
   rcases hn with hn | hn
   ·refine lift_value_write.mcall (by kernel_rfl) rfl ?_
    rw [hn] at hR
    simp only [Int.reduceEq, ↓reduceIte] at hR
    simp (maxSteps := 2000000) only [go_sem, ↓reduceIte, L_value_write, R_value_write, hk, hn, hvl, hfl']
    have hg : getI [D.str [102, 97, 108, 115, 101], D.str [116, 114, 117, 101]] 0 = some (.str [102, 97, 108, 115, 101]) := rfl
    simp (maxSteps := 2000000) only [go_sem, ↓reduceIte, hg]
    refine bldCall (.x 0) rfl (writeString_at b [102, 97, 108, 115, 101] (by rw [List.length_append, hR]; omega)) rfl rfl rfl rfl ?_
    simp (maxSteps := 2000000) only [go_sem, ↓reduceIte]
    rw [hR]
   ·refine lift_value_write.mcall (by kernel_rfl) rfl ?_
    rw [hn] at hR
    simp only [↓reduceIte] at hR
    simp (maxSteps := 2000000) only [go_sem, ↓reduceIte, L_value_write, R_value_write, hk, hn, hvl, hfl']
    have hg : getI [D.str [102, 97, 108, 115, 101], D.str [116, 114, 117, 101]] 1 = some (.str [116, 114, 117, 101]) := rfl
    simp (maxSteps := 2000000) only [go_sem, ↓reduceIte, hg]
    refine bldCall (.x 0) rfl (writeString_at b [116, 114, 117, 101] (by rw [List.length_append, hR]; omega)) rfl rfl rfl rfl ?_
    simp (maxSteps := 2000000) only [go_sem, ↓reduceIte]
    rw [hR]
  ·refine lift_value_write.mcall (by kernel_rfl) rfl ?_
   have hL := wellV_2 hw hk
   rw [hk] at hR
   simp only [Int.reduceEq, ↓reduceIte] at hR
   have hc := text_call v.n
   rw [resT, if_pos hL] at hc
   simp (maxSteps := 2000000) only [go_sem, ↓reduceIte, L_value_write, R_value_write, hk, hvl, hfl']
   refine CallG.of hc ?_
   simp (maxSteps := 2000000) only [go_sem, ↓reduceIte]
   refine bldCall (.x 0) rfl (writeString_at b (textF v.n) (by rw [List.length_append, hR]; omega)) rfl rfl rfl rfl ?_
   simp (maxSteps := 2000000) only [go_sem, ↓reduceIte]
   rw [hR]
  ·refine lift_value_write.mcall (by kernel_rfl) rfl ?_
   rw [hk] at hR
   simp only [Int.reduceEq, ↓reduceIte] at hR
   simp (maxSteps := 2000000) only [go_sem, ↓reduceIte, L_value_write, R_value_write, hk, hvl, hfl']
   refine bldCall (.x 0) rfl (str_at b v.s (by omega)) rfl rfl rfl rfl ?_
   simp (maxSteps := 2000000) only [go_sem, ↓reduceIte]
   rw [← hR]; simp only [List.append_assoc]
  ·refine lift_value_write.mcall (by kernel_rfl) rfl ?_
   rw [hk] at hR
   simp only [Int.reduceEq, ↓reduceIte] at hR
   simp (maxSteps := 2000000) only [go_sem, ↓reduceIte, L_value_write, R_value_write, hk, hvl, hfl']
   refine bldCall (.x 0) rfl (name_at b v.s (by omega)) rfl rfl rfl rfl ?_
   simp (maxSteps := 2000000) only [go_sem, ↓reduceIte]
   rw [← hR]; simp only [List.append_assoc]
  ·refine lift_value_write.mcall (by kernel_rfl) rfl ?_
   rw [hk] at hR
   simp only [Int.reduceEq, ↓reduceIte] at hR
   have hRl := congrArg List.length hR
   simp only [List.length_append, List.length_cons, List.length_nil] at hRl
   simp (maxSteps := 2000000) only [go_sem, ↓reduceIte, L_value_write, R_value_write, hk, hvl, hfl']
   refine bldCall (.x 0) rfl (writeByte_at b 91 (by omega)) rfl rfl rfl rfl ?_
   simp (maxSteps := 2000000) only [go_sem, ↓reduceIte]
   refine run_loop (fun i : Nat => ⟨[(0, .ptr (.x 0) 0), (3, .ptr (.l 3) 0), (53, .d (.list (valsD v.l))), (54, .d (.int .i64 v.l.length)), (55, .d (.int .i64 i))],
     [(3, .cells [.d (.int .i64 5), .d (.int .i64 v.n), .d (.str v.s), .d (.list (valsD v.l)), .d (.list (fldsD v.f))])],
     [(0, Bld.at (.x 0) (.has (b.bytes ++ [91] ++ textL false (v.l.take i))))]⟩)
    (fun i => i ≤ v.l.length) (fun i => v.l.length - i) 0 ?_ ?_ ?_
   ·refine Weak.mk ?_ ?_ ?_ <;> simp (maxSteps := 2000000) only [go_sem, ↓reduceIte, Sub, Int.natCast_add, Int.natCast_mul, List.take_zero, textL, hvl]
   ·omega
   ·intro i hi
    simp (maxSteps := 2000000) only [go_sem, ↓reduceIte, hvl]
    refine ⟨fun hlt => ?_, fun hge => ?_⟩
    ·obtain ⟨x, hx⟩ := get_some (l := v.l) (i := i) (by omega)
     have hm := List.mem_of_getElem? hx
     have hn := textL_next hx
     have hle := textL_take_le (l := v.l) (i := i + 1)
     have hnl := congrArg List.length hn
     simp only [List.length_append] at hnl
     by_cases i0 : 0 < i
     ·rw [if_pos i0] at hn hnl
      have i0' : ((0 : Int) < (i : Int)) = True := eq_true (by omega)
      simp only [List.length_cons, List.length_nil] at hnl
      have hc := ih x (.has (b.bytes ++ [91] ++ textL false (v.l.take i) ++ [32])) (by have := size_l hm; omega) (hsl x hm) (wellV_5 hw hk hm) (by simp only [Bld.bytes_has, List.length_append, List.length_cons, List.length_nil]; omega)
      rw [Val.d_eq] at hc
      simp (maxSteps := 2000000) (disch := omega) only [go_sem, ↓reduceIte, getI_nat, valsD_get, hx, Val.d_eq, i0']
      refine bldCall (.x 0) rfl (writeByte_at (.has (b.bytes ++ [91] ++ textL false (v.l.take i))) 32 (by simp only [Bld.bytes_has, List.length_append, List.length_cons, List.length_nil]; omega)) rfl rfl rfl rfl ?_
      simp (maxSteps := 2000000) (disch := omega) only [go_sem, ↓reduceIte, Bld.bytes_has]
      refine bldCall (.x 0) rfl (hc) rfl rfl rfl rfl ?_
      simp (maxSteps := 2000000) (disch := omega) only [go_sem, ↓reduceIte]
      refine ⟨i + 1, ?_, by omega, by omega⟩
      refine Weak.mk ?_ ?_ ?_ <;> simp (maxSteps := 2000000) only [go_sem, ↓reduceIte, Sub, Int.natCast_add, Int.natCast_mul, hn, Bld.bytes_has, List.append_assoc]
     ·rw [if_neg i0] at hn hnl
      have i0' : ((0 : Int) < (i : Int)) = False := eq_false (by omega)
      simp only [List.length_nil] at hnl
      have hc := ih x (.has (b.bytes ++ [91] ++ textL false (v.l.take i))) (by have := size_l hm; omega) (hsl x hm) (wellV_5 hw hk hm) (by simp only [Bld.bytes_has, List.length_append, List.length_cons, List.length_nil]; omega)
      rw [Val.d_eq] at hc
      simp (maxSteps := 2000000) (disch := omega) only [go_sem, ↓reduceIte, getI_nat, valsD_get, hx, Val.d_eq, i0']
      refine bldCall (.x 0) rfl (hc) rfl rfl rfl rfl ?_
      simp (maxSteps := 2000000) (disch := omega) only [go_sem, ↓reduceIte]
      refine ⟨i + 1, ?_, by omega, by omega⟩
      refine Weak.mk ?_ ?_ ?_ <;> simp (maxSteps := 2000000) only [go_sem, ↓reduceIte, Sub, Int.natCast_add, Int.natCast_mul, hn, Bld.bytes_has, List.append_assoc, List.nil_append]
    ·rw [List.take_of_length_le (by omega)]
     refine bldCall (.x 0) rfl (writeByte_at (.has (b.bytes ++ [91] ++ textL false v.l)) 93 (by simp only [Bld.bytes_has, List.length_append, List.length_cons, List.length_nil]; omega)) rfl rfl rfl rfl ?_
     simp (maxSteps := 2000000) only [go_sem, ↓reduceIte, Bld.bytes_has]
     rw [← hR]; simp only [List.append_assoc]
  ·refine lift_value_write.mcall (by kernel_rfl) rfl ?_
   rw [hk] at hR
   simp only [Int.reduceEq, ↓reduceIte] at hR
   have hRl := congrArg List.length hR
   simp only [List.length_append, List.length_cons, List.length_nil] at hRl
   simp (maxSteps := 2000000) only [go_sem, ↓reduceIte, L_value_write, R_value_write, hk, hvl, hfl']
   refine bldCall (.x 0) rfl (writeString_at b [60, 60] (by simp only [List.length_append, List.length_cons, List.length_nil]; omega)) rfl rfl rfl rfl ?_
   simp (maxSteps := 2000000) only [go_sem, ↓reduceIte]
   refine run_loop (fun i : Nat => ⟨[(0, .ptr (.x 0) 0), (3, .ptr (.l 3) 0), (75, .d (.list (fldsD v.f))), (76, .d (.int .i64 v.f.length)), (77, .d (.int .i64 i))],
     [(3, .cells [.d (.int .i64 6), .d (.int .i64 v.n), .d (.str v.s), .d (.list (valsD v.l)), .d (.list (fldsD v.f))])],
     [(0, Bld.at (.x 0) (.has (b.bytes ++ [60, 60] ++ textX (v.f.take i))))]⟩)
    (fun i => i ≤ v.f.length) (fun i => v.f.length - i) 0 ?_ ?_ ?_
   ·refine Weak.mk ?_ ?_ ?_ <;> simp (maxSteps := 2000000) only [go_sem, ↓reduceIte, Sub, Int.natCast_add, Int.natCast_mul, List.take_zero, textX, hfl']
   ·omega
   ·intro i hi
    simp (maxSteps := 2000000) only [go_sem, ↓reduceIte, hfl']
    refine ⟨fun hlt => ?_, fun hge => ?_⟩
    ·obtain ⟨x, hx⟩ := get_some (l := v.f) (i := i) (by omega)
     have hm := List.mem_of_getElem? hx
     have hn := textX_next hx
     have hle := textX_take_le (l := v.f) (i := i + 1)
     have hnl := congrArg List.length hn
     simp only [textG, List.length_append, List.length_cons, List.length_nil] at hnl
     have hsx := Fld.sm_iff.1 (hsf x hm)
     have hsx1 := hsx.1
     have hc := ih x.v (.has (b.bytes ++ [60, 60] ++ textX (v.f.take i) ++ [32] ++ [47] ++ nameP x.name ++ [32])) (by have := size_f hm; omega) hsx.2 (wellV_6 hw hk hm) (by simp only [Bld.bytes_has, List.length_append, List.length_cons, List.length_nil]; omega)
     rw [Val.d_eq] at hc
     simp (maxSteps := 2000000) (disch := omega) only [go_sem, ↓reduceIte, getI_nat, fldsD_get, hx, Fld.d_eq]
     refine bldCall (.x 0) rfl (writeByte_at (.has (b.bytes ++ [60, 60] ++ textX (v.f.take i))) 32 (by simp only [Bld.bytes_has, List.length_append, List.length_cons, List.length_nil]; omega)) rfl rfl rfl rfl ?_
     simp (maxSteps := 2000000) (disch := omega) only [go_sem, ↓reduceIte, Bld.bytes_has]
     refine bldCall (.x 0) rfl (name_at (.has (b.bytes ++ [60, 60] ++ textX (v.f.take i) ++ [32])) x.name (by simp only [Bld.bytes_has, List.length_append, List.length_cons, List.length_nil]; omega)) rfl rfl rfl rfl ?_
     simp (maxSteps := 2000000) (disch := omega) only [go_sem, ↓reduceIte, Bld.bytes_has]
     refine bldCall (.x 0) rfl (writeByte_at (.has (b.bytes ++ [60, 60] ++ textX (v.f.take i) ++ [32] ++ [47] ++ nameP x.name)) 32 (by simp only [Bld.bytes_has, List.length_append, List.length_cons, List.length_nil]; omega)) rfl rfl rfl rfl ?_
     simp (maxSteps := 2000000) (disch := omega) only [go_sem, ↓reduceIte, Bld.bytes_has]
     refine bldCall (.x 0) rfl (hc) rfl rfl rfl rfl ?_
     simp (maxSteps := 2000000) (disch := omega) only [go_sem, ↓reduceIte]
     refine ⟨i + 1, ?_, by omega, by omega⟩
     refine Weak.mk ?_ ?_ ?_ <;> simp (maxSteps := 2000000) only [go_sem, ↓reduceIte, Sub, Int.natCast_add, Int.natCast_mul, hn, Bld.bytes_has, textG, List.append_assoc]
    ·rw [List.take_of_length_le (by omega)]
     refine bldCall (.x 0) rfl (writeString_at (.has (b.bytes ++ [60, 60] ++ textX v.f)) [32, 62, 62] (by simp only [Bld.bytes_has, List.length_append, List.length_cons, List.length_nil]; omega)) rfl rfl rfl rfl ?_
     simp (maxSteps := 2000000) only [go_sem, ↓reduceIte, Bld.bytes_has]
     rw [← hR]; simp only [List.append_assoc]
  ·refine lift_value_write.mcall (by kernel_rfl) rfl ?_
   have hL := wellV_7 hw hk
   rw [hk] at hR
   simp only [Int.reduceEq, ↓reduceIte] at hR
   have hc := text_call (v.n * 1000)
   have hLim : Lim (v.n * 1000) := by unfold Lim; omega
   have hz : v.n = ((v.n.toNat : Nat) : Int) := by omega
   have hT : textF (v.n * 1000) = Lib.decDigits v.n.toNat := by rw [hz]; exact textF_whole _
   rw [resT, if_pos hLim, hT] at hc
   simp (maxSteps := 2000000) (disch := omega) only [go_sem, ↓reduceIte, L_value_write, R_value_write, hk, hvl, hfl']
   refine CallG.of hc ?_
   simp (maxSteps := 2000000) only [go_sem, ↓reduceIte]
   have hRl := congrArg List.length hR
   simp only [List.length_append, List.length_cons, List.length_nil] at hRl
   refine ⟨by omega, ?_⟩
   refine bldCall (.x 0) rfl (writeString_at b (Lib.decDigits v.n.toNat ++ [32, 48, 32, 82]) (by rw [List.length_append, hR]; omega)) rfl rfl rfl rfl ?_
   simp (maxSteps := 2000000) only [go_sem, ↓reduceIte]
   rw [hR]
/-! ### The whole text -/
theorem textF_len {a : Int} (h : Lim a) : (textF a).length ≤ 100 := by
 unfold Lim at h
 have h1 := nDigits_le (a.natAbs / 1000) 6 (by omega)
 have h2 : (trimR (fracD (a.natAbs % 1000))).length ≤ 3 := by
  unfold trimR; rw [List.length_reverse]
  exact Nat.le_trans (List.dropWhile_sublist _).length_le (by rw [List.length_reverse]; exact Nat.le_refl 3)
 have h3 : (fracT (a.natAbs % 1000)).length ≤ 4 := by
  unfold fracT
  split
  ·simp
  ·simp only [List.length_cons]; omega
 have h4 : (if a < 0 then [(45 : UInt8)] else []).length ≤ 1 := by split <;> simp
 unfold textF
 simp only [List.length_append]; omega
theorem nameMay_len {s : List UInt8} (h : nameMay s = true) : s.length ≤ 200 := by
 unfold nameMay at h; simp only [Bool.and_eq_true, decide_eq_true_eq] at h; exact h.2.1
theorem wellV_3 {v : Val} (h : wellV v = true) (hk : v.kind = 3) : v.s.length ≤ 200 := by rw [wellV_eq, hk] at h; simp at h; exact h.2.1
theorem wellV_4 {v : Val} (h : wellV v = true) (hk : v.kind = 4) : v.s.length ≤ 200 := by rw [wellV_eq, hk] at h; simp at h; exact nameMay_len h.2.1
theorem wellV_6a {v : Val} (h : wellV v = true) (hk : v.kind = 6) : ∀ x ∈ v.f, nameMay x.name = true ∧ wellV x.v = true := by rw [wellV_eq, hk] at h; simp at h; exact fun x hx => wellF_mem h.2.2.2 hx
mutual
theorem textV_len : ∀ (v : Val), wellV v = true → (textV v).length + 700 ≤ 2000 * (ptV v).1
 | .mk k n s l f, hw => by
  have hl : k = 5 → (textL false l).length ≤ 2000 * (ptL l).1 := fun e => textL_len l false (fun x hx => wellV_5 hw e hx)
  have hf : k = 6 → (textX f).length ≤ 2000 * (ptF f).1 := fun e => textX_len f (wellV_6a hw e)
  have h1 := strP_length s
  have h2 := nameP_length s
  have h3 : k = 3 → s.length ≤ 200 := fun e => wellV_3 hw e
  have h4 : k = 4 → s.length ≤ 200 := fun e => wellV_4 hw e
  have h5 : k = 2 → (textF n).length ≤ 100 := fun e => textF_len (wellV_2 hw e)
  have h6 : k = 7 → (Lib.decDigits n.toNat).length ≤ 3 := fun e => by
   have := wellV_7 hw e
   simp only [Val.n] at this
   exact nDigits_le _ 2 (by omega)
  simp only [textV, ptV]
  split
  ·split <;> simp <;> omega
  split
  ·rename_i e; have := h5 e; omega
  split
  ·rename_i e; have := h3 e; simp only [List.length_append, List.length_cons, List.length_nil]; omega
  split
  ·rename_i e; have := h4 e; simp only [List.length_append, List.length_cons, List.length_nil]; omega
  split
  ·rename_i e; have := hl e; simp only [List.length_append, List.length_cons, List.length_nil]; omega
  split
  ·rename_i e; have := hf e; simp only [List.length_append, List.length_cons, List.length_nil]; omega
  split
  ·rename_i e; have := h6 e; simp only [List.length_append, List.length_cons, List.length_nil]; omega
  ·simp only [List.length_cons, List.length_nil]; omega
theorem textL_len : ∀ (l : List Val) (sep : Bool), (∀ x ∈ l, wellV x = true) → (textL sep l).length ≤ 2000 * (ptL l).1
 | [], _, _ => by simp [textL]
 | v :: r, sep, h2 => by
  have a := textV_len v (h2 v (by simp))
  have b := textL_len r true (fun x hx => h2 x (by simp [hx]))
  have c : (if sep = true then [(32 : UInt8)] else []).length ≤ 1 := by split <;> simp
  simp only [textL, ptL, List.length_append]; omega
theorem textX_len : ∀ (l : List Fld), (∀ x ∈ l, nameMay x.name = true ∧ wellV x.v = true) → (textX l).length ≤ 2000 * (ptF l).1
 | [], _ => by simp [textX]
 | .mk nm v :: r, h2 => by
  have z := h2 (.mk nm v) (by simp)
  simp only [Fld.name, Fld.v] at z
  have a := textV_len v z.2
  have b := textX_len r (fun x hx => h2 x (by simp [hx]))
  have c := nameP_length nm
  have d := nameMay_len z.1
  simp only [textX, ptF, List.length_append, List.length_cons, List.length_nil]; omega
end
theorem faultV_0 {v : Val} : faultV v = 0 ↔ (¬ (300 < (ptV v).1 ∨ 8 < (ptV v).2) ∧ wellV v = true) := by
 unfold faultV
 split
 ·rename_i h; simp only [h, not_true, false_and, iff_false]; omega
 ·rename_i h
  split
  ·rename_i h2; simp [h, h2]
  ·rename_i h2; simp [h2]
def textR (v : Val) : Res := if faultV v = 0 then .tup [.str (textV v), .nil] else .tup [.str [], errD (faultV v)]
def L_value_Text : LCode :=
 .seq (.reg [⟨some 1, .box (.t 0), none⟩, Qx 2 (.k (.d (.str []))), Qx 3 (.k (.d .nil))]) (.seq (.reg [Q 6 (.ld true 5 (.t 1)), ⟨some 7, .call 31 [.t 6], none⟩, Qa 4 7]) (.seq (.seq 
 (.reg [Qc 8 4, Q 9 (.eqN 0 true (.t 8))]) (.cond (.t 9) (.seq (.reg [Qc 10 4, Qx 2 (.k (.d (.str []))), Qa 3 10]) .ret) .skip)) (.seq (.reg [⟨some 5, .allo [.nilpT 59, .list []], 
 none⟩]) (.seq (.reg [Q 11 (.ld true 5 (.t 1)), ⟨some 12, .prim .call [.k (.fn (.func 32) [] []), .t 5, .t 11] [], none⟩]) (.seq (.reg [⟨some 13, .prim .call [.k (.fn (.func 27) 
 [] []), .t 5] [], none⟩, Qa 2 13, Qx 3 (.k (.d .nil))]) .ret)))))
def R_value_Text : List LRes := [.tmp 2, .tmp 3]
theorem lift_value_Text : Lifts Tryz.prog 13 14 L_value_Text R_value_Text := ⟨_, _, Tryz.func13, rfl, by kernel_rfl, by kernel_rfl, rfl⟩
theorem textV_call (v : Val) (hsm : v.sm 1048576 = true) : PCall Tryz.prog 13 [v.d] (fun r => r = textR v) := by
 have hc := checkV_call v hsm
 by_cases h0 : faultV v = 0
 ·obtain ⟨h1, hw⟩ := faultV_0.1 h0
  have hl := textV_len v hw
  have h2 := write_at _ v .new (Nat.le_refl _) hsm hw (by simp only [Bld.bytes, List.length_nil]; omega)
  have h3 := string_call (.has (textV v)) (by simp only [Bld.bytes]; omega)
  rw [textR, if_pos h0]
  rw [h0, show errD 0 = .nil from rfl] at hc
  rw [Val.d_eq] at *
  refine lift_value_Text.call rfl ?_
  simp (maxSteps := 2000000) only [go_sem, ↓reduceIte, L_value_Text, R_value_Text]
  refine CallG.of hc ?_
  simp (maxSteps := 2000000) only [go_sem, ↓reduceIte]
  simp only [Bld.obj, Bld.said, Bld.bytes] at h3
  refine bldCall (.l 5) rfl (h2) rfl rfl rfl rfl ?_
  simp (maxSteps := 2000000) only [go_sem, ↓reduceIte, Bld.at, Bld.bytes]
  refine PrimG.mc1 (.l 5) rfl (h3) rfl rfl rfl rfl ⟨rfl, rfl⟩ ?_
  simp (maxSteps := 2000000) only [go_sem, ↓reduceIte]
 ·rw [textR, if_neg h0]
  rw [errD_ne h0] at hc ⊢
  rw [Val.d_eq] at *
  refine lift_value_Text.call rfl ?_
  simp (maxSteps := 2000000) only [go_sem, ↓reduceIte, L_value_Text, R_value_Text]
  refine CallG.of hc ?_
  simp (maxSteps := 2000000) only [go_sem, ↓reduceIte]
end Go.Av.Tryz
