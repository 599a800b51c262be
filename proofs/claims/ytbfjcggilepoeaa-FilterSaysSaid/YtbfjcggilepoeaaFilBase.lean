import Derived.Test.YtbfjcggilepoeaaAvLem2
import Derived.Test.YtbfjcggilepoeaaProg
set_option linter.unusedSimpArgs false
namespace Go.Av.Try
open Go.Proofs

/-- parse.Blank -/
def L_parse_Blank : LCode :=
  .seq (.reg [⟨some 2, .asg (.k (.d (.bool false))), none⟩]) (.seq (.reg [⟨some 3, .val (.cp (.t 0)), none⟩, ⟨some 4, .val (.bin .eql (.t 3) (.k (.d (.int .u8 0)))), none⟩, ⟨some 5, 
  .val (.cp (.t 4)), none⟩, ⟨some 6, .val (.cp (.t 0)), some (5, false)⟩, ⟨some 7, .val (.bin .eql (.t 6) (.k (.d (.int .u8 9)))), some (5, false)⟩, ⟨some 8, .val (.pick (.t 5) (.k 
  (.d (.bool true))) (.t 7)), none⟩, ⟨some 9, .val (.cp (.t 8)), none⟩, ⟨some 10, .val (.cp (.t 0)), some (9, false)⟩, ⟨some 11, .val (.bin .eql (.t 10) (.k (.d (.int .u8 10)))), 
  some (9, false)⟩, ⟨some 12, .val (.pick (.t 9) (.k (.d (.bool true))) (.t 11)), none⟩, ⟨some 13, .val (.cp (.t 12)), none⟩, ⟨some 14, .val (.cp (.t 0)), some (13, false)⟩, ⟨some 
  15, .val (.bin .eql (.t 14) (.k (.d (.int .u8 12)))), some (13, false)⟩, ⟨some 16, .val (.pick (.t 13) (.k (.d (.bool true))) (.t 15)), none⟩, ⟨some 17, .val (.cp (.t 16)), 
  none⟩, ⟨some 18, .val (.cp (.t 0)), some (17, false)⟩, ⟨some 19, .val (.bin .eql (.t 18) (.k (.d (.int .u8 13)))), some (17, false)⟩, ⟨some 20, .val (.pick (.t 17) (.k (.d (.bool 
  true))) (.t 19)), none⟩, ⟨some 21, .val (.cp (.t 20)), none⟩, ⟨some 22, .val (.cp (.t 0)), some (21, false)⟩, ⟨some 23, .val (.bin .eql (.t 22) (.k (.d (.int .u8 32)))), some 
  (21, false)⟩, ⟨some 24, .val (.pick (.t 21) (.k (.d (.bool true))) (.t 23)), none⟩, ⟨some 2, .asg (.t 24), none⟩]) .ret)
def R_parse_Blank : List LRes := [.tmp 2]
theorem lift_parse_Blank : Lifts Try.prog 37 25 L_parse_Blank R_parse_Blank := ⟨_, _, Try.func37, rfl, by kernel_rfl, by kernel_rfl, rfl⟩

/-- parse.Hex -/
def L_parse_Hex : LCode :=
  .seq (.reg [⟨some 2, .asg (.k (.d (.int .i64 0))), none⟩]) (.seq (.block 0 (.seq (.reg [⟨some 4, .val (.cp (.t 0)), none⟩, ⟨some 5, .val (.bin .geq (.t 4) (.k (.d (.int .u8 48)))), 
  none⟩, ⟨some 6, .val (.cp (.t 5)), none⟩, ⟨some 7, .val (.cp (.t 0)), some (6, true)⟩, ⟨some 8, .val (.bin .leq (.t 7) (.k (.d (.int .u8 57)))), some (6, true)⟩, ⟨some 9, .val 
  (.pick (.t 6) (.t 8) (.k (.d (.bool false)))), none⟩, ⟨some 3, .asg (.t 9), none⟩]) (.cond (.t 3) (.seq (.reg [⟨some 10, .val (.cp (.t 0)), none⟩, ⟨some 11, .val (.bin .sub (.t 
  10) (.k (.d (.int .u8 48)))), none⟩, ⟨some 12, .val (.cvI .i64 (.t 11)), none⟩, ⟨some 2, .asg (.t 12), none⟩]) .ret) (.seq (.reg [⟨some 14, .val (.cp (.t 0)), none⟩, ⟨some 15, 
  .val (.bin .geq (.t 14) (.k (.d (.int .u8 97)))), none⟩, ⟨some 16, .val (.cp (.t 15)), none⟩, ⟨some 17, .val (.cp (.t 0)), some (16, true)⟩, ⟨some 18, .val (.bin .leq (.t 17) (.k 
  (.d (.int .u8 102)))), some (16, true)⟩, ⟨some 19, .val (.pick (.t 16) (.t 18) (.k (.d (.bool false)))), none⟩, ⟨some 13, .asg (.t 19), none⟩]) (.cond (.t 13) (.seq (.reg [⟨some 
  20, .val (.cp (.t 0)), none⟩, ⟨some 21, .val (.bin .sub (.t 20) (.k (.d (.int .u8 97)))), none⟩, ⟨some 22, .val (.cvI .i64 (.t 21)), none⟩, ⟨some 23, .val (.bin .add (.t 22) (.k 
  (.d (.int .i64 10)))), none⟩, ⟨some 2, .asg (.t 23), none⟩]) .ret) (.seq (.reg [⟨some 25, .val (.cp (.t 0)), none⟩, ⟨some 26, .val (.bin .geq (.t 25) (.k (.d (.int .u8 65)))), 
  none⟩, ⟨some 27, .val (.cp (.t 26)), none⟩, ⟨some 28, .val (.cp (.t 0)), some (27, true)⟩, ⟨some 29, .val (.bin .leq (.t 28) (.k (.d (.int .u8 70)))), some (27, true)⟩, ⟨some 30, 
  .val (.pick (.t 27) (.t 29) (.k (.d (.bool false)))), none⟩, ⟨some 24, .asg (.t 30), none⟩]) (.cond (.t 24) (.seq (.reg [⟨some 31, .val (.cp (.t 0)), none⟩, ⟨some 32, .val (.bin 
  .sub (.t 31) (.k (.d (.int .u8 65)))), none⟩, ⟨some 33, .val (.cvI .i64 (.t 32)), none⟩, ⟨some 34, .val (.bin .add (.t 33) (.k (.d (.int .i64 10)))), none⟩, ⟨some 2, .asg (.t 
  34), none⟩]) .ret) .skip))))))) (.seq (.reg [⟨some 2, .asg (.k (.d (.int .i64 (-1)))), none⟩]) .ret))
def R_parse_Hex : List LRes := [.tmp 2]
theorem lift_parse_Hex : Lifts Try.prog 35 35 L_parse_Hex R_parse_Hex := ⟨_, _, Try.func35, rfl, by kernel_rfl, by kernel_rfl, rfl⟩


def blankB (n : Int) : Bool := decide (n = 0) || (decide (n = 9) || (decide (n = 10) || (decide (n = 12) || (decide (n = 13) || decide (n = 32)))))
def hexI (n : Int) : Int := if 48 ≤ n ∧ n ≤ 57 then n - 48 else if 97 ≤ n ∧ n ≤ 102 then n - 87 else if 65 ≤ n ∧ n ≤ 70 then n - 55 else -1

theorem blank_call (n : Int) : PCall Try.prog 37 [.int .u8 n] (fun r => r = .one (.bool (blankB n))) := by
  refine lift_parse_Blank.call rfl ?_
  simp (maxSteps := 2000000) only [run_skip, run_reg, run_dreg, run_seq, run_cond, run_block, run_exit, run_ret, pop_code, pop_goal, pop_blk, pop_nil, pop_ret_code, pop_ret_goal, pop_ret_blk, pop_exit_code, pop_exit_goal, pop_exit_blk, run_dead, pop_dead, pop_ret_dead, pop_exit_dead, St.dead, adelL, adel, ops_nil, ops_val, ops_asg, ops_nils, ops_box, ops_allo, ops_app, ops_bsl, ops_st, ops_sla, ops_call, ops_guard, dps_nil, dps_val, dps_asg, dps_nils, dps_box, dps_allo, dps_app, dps_bsl, dps_st, dps_sla, dps_call, dps_guard, pev, St.ev, St.get, St.put, acons, St.mark, St.obj, St.setObj, aget, aset, amap, initρ, asgS, nilS, newO, boxS, appS, bslS, bspS, slaS, List.all_cons, List.all_nil, stS, stD, setA, St.erase, St.drop, AV.erase, AV.rename, AV.drop, AV.has, AV.isPtr, dropObj, srcL, evL, evP, evO, rdAll, rdL, allSz, fLd, fLdX, AV.locFree, fLdP, fFa, fIa, fIaA, fFld, fillD, lookP, setR, fExt, AV.simple, fMkI, fAsT, fNck, fEqB, fEqS, eqCs, eqC, fEqN, okN, fNil, isNil, fNot, fNeg, fCvI, fI2s, fIdxS, fSubS, fSub, loOf, hiOf, fLen, fLenK, fMm, fPick, fB, fB2s, fMkF, allSimple, hasLocal, isLocal, binD, binI, binS, AV.rd, D.cells, D.one, Res.av, putO, PutG_some, PutG_if, PutG_if', PutG_mif, StG_some, StG_if, BoolG_d, GuardG_d, IteG, Classical.not_not, retK_ret, retK_normal, RetG_some, resS, resL, resV, mkRes, Nat.reduceEqDiff, Nat.reduceBEq, Nat.reduceLT, Nat.reduceLeDiff, Nat.reduceAdd, Nat.reduceSub, Nat.reduceMul, Nat.zero_add, ↓reduceIte, Option.getD_some, Option.getD_none, Option.map_some, Option.map_none, Option.some.injEq, reduceCtorEq, Bool.not_true, Bool.not_false, Bool.not_eq_true', Bool.not_eq_false', decide_eq_true_eq, decide_eq_false_iff_not, decide_true, decide_false, true_implies, false_implies, true_and, and_true, and_self, implies_true, List.length_cons, List.length_nil, List.set_cons_zero, List.set_cons_succ, List.getElem?_cons_zero, List.getElem?_cons_succ, List.take_succ_cons, List.take_zero, List.drop_succ_cons, List.drop_zero, List.take_nil, List.drop_nil, List.map_cons, List.map_nil, List.cons_append, List.nil_append, List.append_nil, beq_self_eq_true, Bool.and_true, Bool.true_and, Bool.false_and, Bool.and_false, Lab.t.injEq, Lab.c.injEq, Ref.l.injEq, Ref.x.injEq, Bool.false_eq_true, Bool.true_eq_false, eq_self_iff_true, if_true, if_false, Bool.not_eq_true, Bool.not_eq_false, and_false, false_and, or_true, true_or, or_false, false_or, ne_eq, not_true_eq_false, not_false_eq_true, beq_iff_eq, Nat.reduceBNe, Nat.le_refl, Nat.reduceSubDiff, Int.reduceLT, Int.reduceLE, Int.reduceEq, Int.reduceNeg, Int.reduceAdd, Int.reduceMul, Int.reduceSub, Int.reduceToNat, Int.toNat_zero, Int.toNat_one, Int.natCast_zero, Int.cast_ofNat_Int, Int.natCast_one, IntWalk.i64_in, IntWalk.u8_in, L_parse_Blank, R_parse_Blank]
  unfold blankB
  simp +contextual

theorem hex_call {n : Int} (h : 0 ≤ n ∧ n < 256) : PCall Try.prog 35 [.int .u8 n] (fun r => r = .one (.int .i64 (hexI n))) := by
  refine lift_parse_Hex.call rfl ?_
  simp (maxSteps := 2000000) only [run_skip, run_reg, run_dreg, run_seq, run_cond, run_block, run_exit, run_ret, pop_code, pop_goal, pop_blk, pop_nil, pop_ret_code, pop_ret_goal, pop_ret_blk, pop_exit_code, pop_exit_goal, pop_exit_blk, run_dead, pop_dead, pop_ret_dead, pop_exit_dead, St.dead, adelL, adel, ops_nil, ops_val, ops_asg, ops_nils, ops_box, ops_allo, ops_app, ops_bsl, ops_st, ops_sla, ops_call, ops_guard, dps_nil, dps_val, dps_asg, dps_nils, dps_box, dps_allo, dps_app, dps_bsl, dps_st, dps_sla, dps_call, dps_guard, pev, St.ev, St.get, St.put, acons, St.mark, St.obj, St.setObj, aget, aset, amap, initρ, asgS, nilS, newO, boxS, appS, bslS, bspS, slaS, List.all_cons, List.all_nil, stS, stD, setA, St.erase, St.drop, AV.erase, AV.rename, AV.drop, AV.has, AV.isPtr, dropObj, srcL, evL, evP, evO, rdAll, rdL, allSz, fLd, fLdX, AV.locFree, fLdP, fFa, fIa, fIaA, fFld, fillD, lookP, setR, fExt, AV.simple, fMkI, fAsT, fNck, fEqB, fEqS, eqCs, eqC, fEqN, okN, fNil, isNil, fNot, fNeg, fCvI, fI2s, fIdxS, fSubS, fSub, loOf, hiOf, fLen, fLenK, fMm, fPick, fB, fB2s, fMkF, allSimple, hasLocal, isLocal, binD, binI, binS, AV.rd, D.cells, D.one, Res.av, putO, PutG_some, PutG_if, PutG_if', PutG_mif, StG_some, StG_if, BoolG_d, GuardG_d, IteG, Classical.not_not, retK_ret, retK_normal, RetG_some, resS, resL, resV, mkRes, Nat.reduceEqDiff, Nat.reduceBEq, Nat.reduceLT, Nat.reduceLeDiff, Nat.reduceAdd, Nat.reduceSub, Nat.reduceMul, Nat.zero_add, ↓reduceIte, Option.getD_some, Option.getD_none, Option.map_some, Option.map_none, Option.some.injEq, reduceCtorEq, Bool.not_true, Bool.not_false, Bool.not_eq_true', Bool.not_eq_false', decide_eq_true_eq, decide_eq_false_iff_not, decide_true, decide_false, true_implies, false_implies, true_and, and_true, and_self, implies_true, List.length_cons, List.length_nil, List.set_cons_zero, List.set_cons_succ, List.getElem?_cons_zero, List.getElem?_cons_succ, List.take_succ_cons, List.take_zero, List.drop_succ_cons, List.drop_zero, List.take_nil, List.drop_nil, List.map_cons, List.map_nil, List.cons_append, List.nil_append, List.append_nil, beq_self_eq_true, Bool.and_true, Bool.true_and, Bool.false_and, Bool.and_false, Lab.t.injEq, Lab.c.injEq, Ref.l.injEq, Ref.x.injEq, Bool.false_eq_true, Bool.true_eq_false, eq_self_iff_true, if_true, if_false, Bool.not_eq_true, Bool.not_eq_false, and_false, false_and, or_true, true_or, or_false, false_or, ne_eq, not_true_eq_false, not_false_eq_true, beq_iff_eq, Nat.reduceBNe, Nat.le_refl, Nat.reduceSubDiff, Int.reduceLT, Int.reduceLE, Int.reduceEq, Int.reduceNeg, Int.reduceAdd, Int.reduceMul, Int.reduceSub, Int.reduceToNat, Int.toNat_zero, Int.toNat_one, Int.natCast_zero, Int.cast_ofNat_Int, Int.natCast_one, IntWalk.i64_in, IntWalk.u8_in, L_parse_Hex, R_parse_Hex]
  unfold hexI
  repeat' (first | apply And.intro | intro _)
  all_goals
    congr 2
    try simp only [IntKind.wrap_i64, IntKind.wrap_u8]
    (repeat' split) <;> omega
end Go.Av.Try
