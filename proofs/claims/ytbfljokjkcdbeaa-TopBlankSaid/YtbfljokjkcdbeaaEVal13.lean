import Derived.Test.YtbfljokjkcdbeaaEVal12
import Derived.Lib.Bytealg
/- Where a name stands in a dictionary: strings.Compare, slices.BinarySearchFunc. -/
set_option linter.unusedSimpArgs false
namespace Go.Av.Try
open Go.Proofs

theorem u8_tri (a b : UInt8) : (a < b) ∨ (a = b) ∨ (b < a) := by
  simp only [UInt8.lt_iff_toNat_lt, ← UInt8.toNat_inj]; omega
theorem cmpB : ∀ (a b : List UInt8), (Lib.compareBytes a b < 0 ↔ Op.bytesLess a b = true) ∧ (Lib.compareBytes a b = 0 ↔ a = b)
  | [], [] => by simp [Lib.compareBytes, Op.bytesLess]
  | [], _ :: _ => by simp [Lib.compareBytes, Op.bytesLess]
  | _ :: _, [] => by simp [Lib.compareBytes, Op.bytesLess]
  | a :: x, b :: y => by
    have ih := cmpB x y
    simp only [Lib.compareBytes, Op.bytesLess, List.cons.injEq]
    rcases u8_tri a b with h | rfl | h
    · have h2 : ¬ a = b := fun e => by subst e; simp only [UInt8.lt_iff_toNat_lt] at h; omega
      simp [h, h2]
    · have h2 : ¬ a < a := by simp only [UInt8.lt_iff_toNat_lt]; omega
      simp [h2, ih]
    · have h2 : ¬ a < b := by simp only [UInt8.lt_iff_toNat_lt] at h ⊢; omega
      have h3 : ¬ a = b := fun e => by subst e; simp only [UInt8.lt_iff_toNat_lt] at h; omega
      simp [h, h2, h3]
theorem less_trans : ∀ {a b c : List UInt8}, Op.bytesLess a b = true → Op.bytesLess b c = true → Op.bytesLess a c = true
  | [], [], _, h, _ => by simp [Op.bytesLess] at h
  | [], _ :: _, [], _, h => by simp [Op.bytesLess] at h
  | [], _ :: _, _ :: _, _, _ => by simp [Op.bytesLess]
  | _ :: _, [], _, h, _ => by simp [Op.bytesLess] at h
  | _ :: _, _ :: _, [], _, h => by simp [Op.bytesLess] at h
  | a :: x, b :: y, c :: z, h, k => by
    simp only [Op.bytesLess, Bool.or_eq_true, Bool.and_eq_true, decide_eq_true_eq, beq_iff_eq, UInt8.lt_iff_toNat_lt] at h k ⊢
    rcases h with h | ⟨rfl, h⟩ <;> rcases k with k | ⟨rfl, k⟩
    · left; omega
    · exact .inl h
    · exact .inl k
    · exact .inr ⟨rfl, less_trans h k⟩
/-- internal/bytealg.CompareString -/
def L_internal_bytealg_CompareString : LCode :=
  .seq (.reg [⟨some 4, .asg (.k (.d (.int .i64 0))), none⟩]) (.seq (.reg [⟨some 5, .val (.cp (.t 0)), none⟩, ⟨some 6, .val (.cp (.t 1)), none⟩, ⟨some 7, .prim .call [.k (.fn (.func 
  120) [] []), .t 5, .t 6] [], none⟩, ⟨some 4, .asg (.t 7), none⟩]) .ret)
def R_internal_bytealg_CompareString : List LRes := [.tmp 4]
theorem lift_internal_bytealg_CompareString : Lifts Try.prog 111 8 L_internal_bytealg_CompareString R_internal_bytealg_CompareString := ⟨_, _, Try.func111, rfl, by kernel_rfl, by kernel_rfl, rfl⟩

/-- strings.Compare -/
def L_strings_Compare : LCode :=
  .seq (.reg [⟨some 4, .asg (.k (.d (.int .i64 0))), none⟩]) (.seq (.reg [⟨some 5, .val (.cp (.t 0)), none⟩, ⟨some 6, .val (.cp (.t 1)), none⟩, ⟨some 7, .call 111 [.t 5, .t 6], 
  none⟩, ⟨some 4, .asg (.t 7), none⟩]) .ret)
def R_strings_Compare : List LRes := [.tmp 4]
theorem lift_strings_Compare : Lifts Try.prog 103 8 L_strings_Compare R_strings_Compare := ⟨_, _, Try.func103, rfl, by kernel_rfl, by kernel_rfl, rfl⟩

/-- value.Set$1 -/
def L_value_Set_1 : LCode :=
  .seq (.reg [⟨some 2, .box (.t 0), none⟩, ⟨some 4, .asg (.k (.d (.int .i64 0))), none⟩]) (.seq (.reg [⟨some 5, .val (.fa 0 (.t 2)), none⟩, ⟨some 6, .val (.ld false 1 (.t 5)), none⟩, 
  ⟨some 7, .val (.cp (.t 1)), none⟩, ⟨some 8, .call 103 [.t 6, .t 7], none⟩, ⟨some 4, .asg (.t 8), none⟩]) .ret)
def R_value_Set_1 : List LRes := [.tmp 4]
theorem lift_value_Set_1 : Lifts Try.prog 102 9 L_value_Set_1 R_value_Set_1 := ⟨_, _, Try.func102, rfl, by kernel_rfl, by kernel_rfl, rfl⟩

theorem compareString_call (a b : List UInt8) : PCall Try.prog 111 [.str a, .str b] (fun r => r = .one (.int .i64 (Lib.compareBytes a b))) := by
  refine lift_internal_bytealg_CompareString.call rfl ?_
  simp (maxSteps := 2000000) only [go_sem, ↓reduceIte, L_internal_bytealg_CompareString, R_internal_bytealg_CompareString]
  refine PrimG.entry Try.func120 (by kernel_rfl) (by kernel_rfl) (by kernel_rfl) (e := Extern.BytealgCompare.compare) (by kernel_rfl) (.d (.int .i64 (Lib.compareBytes a b))) (fun G w vs hl hv => ?_) ?_
  · match vs, hl with
    | [v, u], _ =>
      have h0 : AVR G w (.d (.str a)) v := hv 0 _ rfl
      have h1 : AVR G w (.d (.str b)) u := hv 1 _ rfl
      have h0 := h0.dinv
      have h1 := h1.dinv
      cases h0; cases h1
      exact ⟨_, Lib.run_compareString _ _ w, .d _ _ (.int _ _)⟩
  simp (maxSteps := 2000000) only [go_sem, ↓reduceIte]
theorem compare_call (a b : List UInt8) : PCall Try.prog 103 [.str a, .str b] (fun r => r = .one (.int .i64 (Lib.compareBytes a b))) := by
  refine lift_strings_Compare.call rfl ?_
  simp (maxSteps := 2000000) only [go_sem, ↓reduceIte, L_strings_Compare, R_strings_Compare]
  refine CallG.of (compareString_call a b) ?_
  simp (maxSteps := 2000000) only [go_sem, ↓reduceIte]
theorem set1_call (x : Fld) (nm : List UInt8) : PCall Try.prog 102 [x.d, .str nm] (fun r => r = .one (.int .i64 (Lib.compareBytes x.name nm))) := by
  rw [Fld.d_eq]
  refine lift_value_Set_1.call rfl ?_
  simp (maxSteps := 2000000) only [go_sem, ↓reduceIte, L_value_Set_1, R_value_Set_1]
  refine CallG.of (compare_call _ _) ?_
  simp (maxSteps := 2000000) only [go_sem, ↓reduceIte]

/-- Names go up. -/
def srt (l : List Fld) : Prop := ∀ (i j : Nat) (x y : Fld), i < j → l[i]? = some x → l[j]? = some y → Op.bytesLess x.name y.name = true
def posV (nm : List UInt8) : List Fld → Nat
  | [] => 0
  | x :: r => if Op.bytesLess x.name nm then posV nm r + 1 else 0
def hasV (nm : List UInt8) (l : List Fld) : Bool :=
  match l[posV nm l]? with
  | some x => decide (x.name = nm)
  | none => false
theorem posV_le (nm : List UInt8) : ∀ l : List Fld, posV nm l ≤ l.length
  | [] => by simp [posV]
  | x :: r => by simp only [posV, List.length_cons]; split <;> have := posV_le nm r <;> omega
theorem posV_eq (nm : List UInt8) : ∀ (l : List Fld) (k : Nat), k ≤ l.length → (∀ i x, i < k → l[i]? = some x → Op.bytesLess x.name nm = true) → (∀ i x, k ≤ i → l[i]? = some x → Op.bytesLess x.name nm = false) → posV nm l = k
  | [], k, h, _, _ => by simp at h; simp [posV, h]
  | x :: r, 0, _, _, h => by have := h 0 x (by omega) rfl; simp [posV, this]
  | x :: r, k + 1, hk, h1, h2 => by
    have := h1 0 x (by omega) rfl
    have ih := posV_eq nm r k (by simp at hk; omega) (fun i y hi hy => h1 (i + 1) y (by omega) (by simpa using hy)) (fun i y hi hy => h2 (i + 1) y (by omega) (by simpa using hy))
    simp [posV, this, ih]

/-- slices.BinarySearchFunc[[]foliowright/api.Field,foliowright/api.Field,string] -/
def L_slices_BinarySearchFunc___foliowright_api_Field_foliowright_api_Field_string_ : LCode :=
  .seq (.reg [⟨some 6, .asg (.k (.d (.int .i64 0))), none⟩, ⟨some 7, .asg (.k (.d (.bool false))), none⟩]) (.seq (.reg [⟨some 12, .val (.cp (.t 0)), none⟩, ⟨some 13, .val (.len false 
  (.t 12)), none⟩, ⟨some 8, .asg (.t 13), none⟩]) (.seq (.reg [⟨some 14, .val (.cp (.t 8)), none⟩, ⟨some 9, .asg (.k (.d (.int .i64 0))), none⟩, ⟨some 10, .asg (.t 14), none⟩]) 
  (.seq (.block 0 (.loop (.seq (.seq (.reg [⟨some 15, .val (.cp (.t 9)), none⟩, ⟨some 16, .val (.cp (.t 10)), none⟩, ⟨some 17, .val (.bin .lss (.t 15) (.t 16)), none⟩]) (.cond (.t 
  17) .skip (.exit 0))) (.block 1 (.seq (.reg [⟨some 18, .val (.cp (.t 9)), none⟩, ⟨some 19, .val (.cp (.t 10)), none⟩, ⟨some 20, .val (.bin .add (.t 18) (.t 19)), none⟩, ⟨some 21, 
  .val (.cvI .u64 (.t 20)), none⟩, ⟨some 22, .val (.bin .shr (.t 21) (.k (.d (.int .u64 1)))), none⟩, ⟨some 23, .val (.cvI .i64 (.t 22)), none⟩, ⟨some 11, .asg (.t 23), none⟩]) 
  (.seq (.reg [⟨some 24, .val (.cp (.t 2)), none⟩, ⟨some 25, .val (.cp (.t 0)), none⟩, ⟨some 26, .val (.cp (.t 11)), none⟩, ⟨some 27, .val (.ia 6 (.t 25) (.t 26)), none⟩, ⟨some 28, 
  .val (.ld true 6 (.t 27)), none⟩, ⟨some 29, .val (.cp (.t 1)), none⟩, ⟨some 30, .prim .call [.t 24, .t 28, .t 29] [], none⟩, ⟨some 31, .val (.bin .lss (.t 30) (.k (.d (.int .i64 
  0)))), none⟩]) (.cond (.t 31) (.reg [⟨some 32, .val (.cp (.t 11)), none⟩, ⟨some 33, .val (.bin .add (.t 32) (.k (.d (.int .i64 1)))), none⟩, ⟨some 9, .asg (.t 33), none⟩]) (.reg 
  [⟨some 34, .val (.cp (.t 11)), none⟩, ⟨some 10, .asg (.t 34), none⟩])))))))) (.seq (.reg [⟨some 35, .val (.cp (.t 9)), none⟩, ⟨some 36, .val (.cp (.t 9)), none⟩, ⟨some 37, .val 
  (.cp (.t 8)), none⟩, ⟨some 38, .val (.bin .lss (.t 36) (.t 37)), none⟩, ⟨some 39, .val (.cp (.t 38)), none⟩, ⟨some 40, .val (.cp (.t 2)), some (39, true)⟩, ⟨some 41, .val (.cp 
  (.t 0)), some (39, true)⟩, ⟨some 42, .val (.cp (.t 9)), some (39, true)⟩, ⟨some 43, .val (.ia 6 (.t 41) (.t 42)), some (39, true)⟩, ⟨some 44, .val (.ld true 6 (.t 43)), some (39, 
  true)⟩, ⟨some 45, .val (.cp (.t 1)), some (39, true)⟩, ⟨some 46, .prim .call [.t 40, .t 44, .t 45] [], some (39, true)⟩, ⟨some 47, .val (.bin .eql (.t 46) (.k (.d (.int .i64 
  0)))), some (39, true)⟩, ⟨some 48, .val (.pick (.t 39) (.t 47) (.k (.d (.bool false)))), none⟩, ⟨some 6, .asg (.t 35), none⟩, ⟨some 7, .asg (.t 48), none⟩]) .ret))))
def R_slices_BinarySearchFunc___foliowright_api_Field_foliowright_api_Field_string_ : List LRes := [.tmp 6, .tmp 7]
theorem lift_slices_BinarySearchFunc___foliowright_api_Field_foliowright_api_Field_string_ : Lifts Try.prog 101 49 L_slices_BinarySearchFunc___foliowright_api_Field_foliowright_api_Field_string_ R_slices_BinarySearchFunc___foliowright_api_Field_foliowright_api_Field_string_ := ⟨_, _, Try.func101, rfl, by kernel_rfl, by kernel_rfl, rfl⟩

theorem search_call (l : List Fld) (nm : List UInt8) (hs : srt l) (hl : l.length ≤ 1048576) :
    MCallE Try.prog 101 [.d (.list (fldsD l)), .d (.str nm), .fn (.func 102) [] []] [] (.tuple [.d (.int .i64 (posV nm l)), .d (.bool (hasV nm l))]) [] := by
  have hfl := fldsD_length l
  refine lift_slices_BinarySearchFunc___foliowright_api_Field_foliowright_api_Field_string_.mcall (by kernel_rfl) rfl ?_
  simp (maxSteps := 2000000) only [go_sem, ↓reduceIte, L_slices_BinarySearchFunc___foliowright_api_Field_foliowright_api_Field_string_, R_slices_BinarySearchFunc___foliowright_api_Field_foliowright_api_Field_string_, hfl]
  refine run_loop (fun y : Nat × Nat => ⟨[(0, .d (.list (fldsD l))), (1, .d (.str nm)), (2, .fn (.func 102) [] []), (8, .d (.int .i64 l.length)), (9, .d (.int .i64 y.1)), (10, .d (.int .i64 y.2))], [], []⟩)
    (fun y => y.1 ≤ y.2 ∧ y.2 ≤ l.length ∧ (∀ i x, i < y.1 → l[i]? = some x → Op.bytesLess x.name nm = true) ∧ (∀ i x, y.2 ≤ i → l[i]? = some x → Op.bytesLess x.name nm = false)) (fun y => y.2 - y.1) (0, l.length) ?_ ?_ ?_
  · refine Weak.mk ?_ ?_ ?_ <;> simp (maxSteps := 2000000) only [go_sem, ↓reduceIte, Sub, Int.natCast_add, Int.natCast_mul]
  · exact ⟨by simp, by simp, fun i x hi => by simp at hi, fun i x hi hx => by simp only at hi; rw [List.getElem?_eq_none hi] at hx; cases hx⟩
  · rintro ⟨i, j⟩ ⟨hij, hj, h1, h2⟩
    simp only at hij hj h1 h2
    have hmid : IntKind.i64.wrap ((IntKind.u64.wrap ((i : Int) + j)).fdiv (2 ^ min 1 IntKind.u64.bits)) = (((i + j) / 2 : Nat) : Int) := by
      have e1 : IntKind.u64.wrap ((i : Int) + j) = ((i + j : Nat) : Int) := by
        rw [IntWalk.u64_in] <;> omega
      have e2 : (2 : Int) ^ min 1 IntKind.u64.bits = 2 := rfl
      rw [e1, e2]
      have e3 : ((i + j : Nat) : Int).fdiv 2 = (((i + j) / 2 : Nat) : Int) := by
        rw [Int.fdiv_eq_ediv_of_nonneg _ (by omega)]; omega
      rw [e3, IntWalk.i64_in] <;> omega
    simp (maxSteps := 2000000) only [run_skip, run_reg, run_dreg, run_seq, run_cond, run_block, run_exit, run_ret, pop_code, pop_goal, pop_blk, pop_nil, pop_ret_code, pop_ret_goal, pop_ret_blk, pop_exit_code, pop_exit_goal, pop_exit_blk, run_dead, pop_dead, pop_ret_dead, pop_exit_dead, St.dead, adelL, adel, ops_nil, ops_val, ops_asg, ops_nils, ops_box, ops_allo, ops_app, ops_bsl, ops_st, ops_sla, ops_call, ops_guard, dps_nil, dps_val, dps_asg, dps_nils, dps_box, dps_allo, dps_app, appD, dps_bsl, dps_st, dps_sla, dps_call, dps_guard, pev, St.ev, St.get, St.put, acons, St.mark, St.obj, St.setObj, aget, aset, amap, initρ, asgS, nilS, newO, newB, boxS, dnsL, appS, bslS, bspS, slaS, List.all_cons, List.all_nil, List.any_cons, List.any_nil, Bool.or_false, Bool.false_or, Bool.true_or, Bool.or_true, Bool.or_self, stS, stD, setA, St.erase, St.drop, AV.erase, AV.rename, AV.drop, AV.has, AV.isPtr, dropObj, srcL, evL, evP, evO, rdAll, rdL, allSz, fLd, fLdX, fLdA, AV.nsr, AV.rd1, rd1L, fIaR, fIaD, AV.solid, solidN, List.all, dps_primC, dps_stC, chkK_cons, chkK_nil, exists_eq_left', AV.locFree, fLdP, fFa, fIa, fIaA, fFld, fillD, lookP, setR, fExt, AV.simple, fMkI, fAsT, fNck, fEqB, fEqS, eqCs, eqC, fEqN, okN, fNil, isNil, fNot, fNeg, fCvI, fI2s, fIdxS, fSubS, fSub, loOf, hiOf, fLen, fLenK, fMm, fPick, fB, fB2s, fMkF, allSimple, hasLocal, isLocal, binD, binI, binS, AV.rd, D.cells, D.one, Res.av, putO, PutG_some, PutG_if, PutG_if', PutG_mif, StG_some, StG_if, BoolG_d, GuardG_d, GuardR_d, GuardR_u, IteG, Classical.not_not, retK_ret, retK_normal, RetG_some, resS, resL, resV, mkRes, Nat.reduceEqDiff, Nat.reduceBEq, Nat.reduceLT, Nat.reduceLeDiff, Nat.reduceAdd, Nat.reduceSub, Nat.reduceMul, Nat.zero_add, ↓reduceIte, Option.getD_some, Option.getD_none, Option.map_some, Option.map_none, Option.some.injEq, reduceCtorEq, Bool.not_true, Bool.not_false, Bool.not_eq_true', Bool.not_eq_false', decide_eq_true_eq, decide_eq_false_iff_not, decide_true, decide_false, true_implies, false_implies, true_and, and_true, and_self, implies_true, List.length_cons, List.length_nil, List.set_cons_zero, List.set_cons_succ, List.getElem?_cons_zero, List.getElem?_cons_succ, List.take_succ_cons, List.take_zero, List.drop_succ_cons, List.drop_zero, List.take_nil, List.drop_nil, List.map_cons, List.map_nil, List.cons_append, List.nil_append, List.append_nil, beq_self_eq_true, Bool.and_true, Bool.true_and, Bool.false_and, Bool.and_false, Lab.t.injEq, Lab.c.injEq, Ref.l.injEq, Ref.x.injEq, Bool.false_eq_true, Bool.true_eq_false, eq_self_iff_true, if_true, if_false, Bool.not_eq_true, Bool.not_eq_false, and_false, false_and, or_true, true_or, or_false, false_or, ne_eq, not_true_eq_false, not_false_eq_true, beq_iff_eq, Nat.reduceBNe, Nat.le_refl, Nat.reduceSubDiff, Int.reduceLT, gt_iff_lt, Int.reduceLE, Int.reduceEq, Int.reduceNeg, Int.reduceAdd, Int.reduceMul, Int.reduceSub, Int.reduceToNat, Int.toNat_zero, Int.toNat_one, Int.natCast_zero, Int.cast_ofNat_Int, Int.natCast_one, IntWalk.i64_in, IntWalk.u8_in, ops_prim, dps_prim, retM_normal, retM_ret, RetM_some, resR, resOwn, resAL, resA, okRes, mkA, objsOf, passA, amod, AV.den, AV.pub, passI, passQ, labsQ, eraseL, nsD, retO, backS, setObjs, AObj.ren, AV.ren, AV.ren1, renL, ren1L, renR, renQ, AV.unown, memR, List.getD_cons_zero, List.getD_cons_succ, initA, numO, AV.wf, AV.wf1, wfL, wf1L, wfR, Bool.and_self, decide_true, hfl]
    refine ⟨fun hlt => ?_, fun hge => ?_⟩
    · simp (maxSteps := 2000000) (disch := omega) only [run_skip, run_reg, run_dreg, run_seq, run_cond, run_block, run_exit, run_ret, pop_code, pop_goal, pop_blk, pop_nil, pop_ret_code, pop_ret_goal, pop_ret_blk, pop_exit_code, pop_exit_goal, pop_exit_blk, run_dead, pop_dead, pop_ret_dead, pop_exit_dead, St.dead, adelL, adel, ops_nil, ops_val, ops_asg, ops_nils, ops_box, ops_allo, ops_app, ops_bsl, ops_st, ops_sla, ops_call, ops_guard, dps_nil, dps_val, dps_asg, dps_nils, dps_box, dps_allo, dps_app, appD, dps_bsl, dps_st, dps_sla, dps_call, dps_guard, pev, St.ev, St.get, St.put, acons, St.mark, St.obj, St.setObj, aget, aset, amap, initρ, asgS, nilS, newO, newB, boxS, dnsL, appS, bslS, bspS, slaS, List.all_cons, List.all_nil, List.any_cons, List.any_nil, Bool.or_false, Bool.false_or, Bool.true_or, Bool.or_true, Bool.or_self, stS, stD, setA, St.erase, St.drop, AV.erase, AV.rename, AV.drop, AV.has, AV.isPtr, dropObj, srcL, evL, evP, evO, rdAll, rdL, allSz, fLd, fLdX, fLdA, AV.nsr, AV.rd1, rd1L, fIaR, fIaD, AV.solid, solidN, List.all, dps_primC, dps_stC, chkK_cons, chkK_nil, exists_eq_left', AV.locFree, fLdP, fFa, fIa, fIaA, fFld, fillD, lookP, setR, fExt, AV.simple, fMkI, fAsT, fNck, fEqB, fEqS, eqCs, eqC, fEqN, okN, fNil, isNil, fNot, fNeg, fCvI, fI2s, fIdxS, fSubS, fSub, loOf, hiOf, fLen, fLenK, fMm, fPick, fB, fB2s, fMkF, allSimple, hasLocal, isLocal, binD, binI, binS, AV.rd, D.cells, D.one, Res.av, putO, PutG_some, PutG_if, PutG_if', PutG_mif, StG_some, StG_if, BoolG_d, GuardG_d, GuardR_d, GuardR_u, IteG, Classical.not_not, retK_ret, retK_normal, RetG_some, resS, resL, resV, mkRes, Nat.reduceEqDiff, Nat.reduceBEq, Nat.reduceLT, Nat.reduceLeDiff, Nat.reduceAdd, Nat.reduceSub, Nat.reduceMul, Nat.zero_add, ↓reduceIte, Option.getD_some, Option.getD_none, Option.map_some, Option.map_none, Option.some.injEq, reduceCtorEq, Bool.not_true, Bool.not_false, Bool.not_eq_true', Bool.not_eq_false', decide_eq_true_eq, decide_eq_false_iff_not, decide_true, decide_false, true_implies, false_implies, true_and, and_true, and_self, implies_true, List.length_cons, List.length_nil, List.set_cons_zero, List.set_cons_succ, List.getElem?_cons_zero, List.getElem?_cons_succ, List.take_succ_cons, List.take_zero, List.drop_succ_cons, List.drop_zero, List.take_nil, List.drop_nil, List.map_cons, List.map_nil, List.cons_append, List.nil_append, List.append_nil, beq_self_eq_true, Bool.and_true, Bool.true_and, Bool.false_and, Bool.and_false, Lab.t.injEq, Lab.c.injEq, Ref.l.injEq, Ref.x.injEq, Bool.false_eq_true, Bool.true_eq_false, eq_self_iff_true, if_true, if_false, Bool.not_eq_true, Bool.not_eq_false, and_false, false_and, or_true, true_or, or_false, false_or, ne_eq, not_true_eq_false, not_false_eq_true, beq_iff_eq, Nat.reduceBNe, Nat.le_refl, Nat.reduceSubDiff, Int.reduceLT, gt_iff_lt, Int.reduceLE, Int.reduceEq, Int.reduceNeg, Int.reduceAdd, Int.reduceMul, Int.reduceSub, Int.reduceToNat, Int.toNat_zero, Int.toNat_one, Int.natCast_zero, Int.cast_ofNat_Int, Int.natCast_one, IntWalk.i64_in, IntWalk.u8_in, ops_prim, dps_prim, retM_normal, retM_ret, RetM_some, resR, resOwn, resAL, resA, okRes, mkA, objsOf, passA, amod, AV.den, AV.pub, passI, passQ, labsQ, eraseL, nsD, retO, backS, setObjs, AObj.ren, AV.ren, AV.ren1, renL, ren1L, renR, renQ, AV.unown, memR, List.getD_cons_zero, List.getD_cons_succ, initA, numO, AV.wf, AV.wf1, wfL, wf1L, wfR, Bool.and_self, decide_true, hmid]
      obtain ⟨x, hx⟩ := get_some (l := l) (i := (i + j) / 2) (by omega)
      have hc := (set1_call x nm).mcallE (by kernel_rfl)
      simp only [List.map_cons, List.map_nil, Res.av] at hc
      rw [Fld.d_eq x] at hc
      simp (maxSteps := 2000000) (disch := omega) only [run_skip, run_reg, run_dreg, run_seq, run_cond, run_block, run_exit, run_ret, pop_code, pop_goal, pop_blk, pop_nil, pop_ret_code, pop_ret_goal, pop_ret_blk, pop_exit_code, pop_exit_goal, pop_exit_blk, run_dead, pop_dead, pop_ret_dead, pop_exit_dead, St.dead, adelL, adel, ops_nil, ops_val, ops_asg, ops_nils, ops_box, ops_allo, ops_app, ops_bsl, ops_st, ops_sla, ops_call, ops_guard, dps_nil, dps_val, dps_asg, dps_nils, dps_box, dps_allo, dps_app, appD, dps_bsl, dps_st, dps_sla, dps_call, dps_guard, pev, St.ev, St.get, St.put, acons, St.mark, St.obj, St.setObj, aget, aset, amap, initρ, asgS, nilS, newO, newB, boxS, dnsL, appS, bslS, bspS, slaS, List.all_cons, List.all_nil, List.any_cons, List.any_nil, Bool.or_false, Bool.false_or, Bool.true_or, Bool.or_true, Bool.or_self, stS, stD, setA, St.erase, St.drop, AV.erase, AV.rename, AV.drop, AV.has, AV.isPtr, dropObj, srcL, evL, evP, evO, rdAll, rdL, allSz, fLd, fLdX, fLdA, AV.nsr, AV.rd1, rd1L, fIaR, fIaD, AV.solid, solidN, List.all, dps_primC, dps_stC, chkK_cons, chkK_nil, exists_eq_left', AV.locFree, fLdP, fFa, fIa, fIaA, fFld, fillD, lookP, setR, fExt, AV.simple, fMkI, fAsT, fNck, fEqB, fEqS, eqCs, eqC, fEqN, okN, fNil, isNil, fNot, fNeg, fCvI, fI2s, fIdxS, fSubS, fSub, loOf, hiOf, fLen, fLenK, fMm, fPick, fB, fB2s, fMkF, allSimple, hasLocal, isLocal, binD, binI, binS, AV.rd, D.cells, D.one, Res.av, putO, PutG_some, PutG_if, PutG_if', PutG_mif, StG_some, StG_if, BoolG_d, GuardG_d, GuardR_d, GuardR_u, IteG, Classical.not_not, retK_ret, retK_normal, RetG_some, resS, resL, resV, mkRes, Nat.reduceEqDiff, Nat.reduceBEq, Nat.reduceLT, Nat.reduceLeDiff, Nat.reduceAdd, Nat.reduceSub, Nat.reduceMul, Nat.zero_add, ↓reduceIte, Option.getD_some, Option.getD_none, Option.map_some, Option.map_none, Option.some.injEq, reduceCtorEq, Bool.not_true, Bool.not_false, Bool.not_eq_true', Bool.not_eq_false', decide_eq_true_eq, decide_eq_false_iff_not, decide_true, decide_false, true_implies, false_implies, true_and, and_true, and_self, implies_true, List.length_cons, List.length_nil, List.set_cons_zero, List.set_cons_succ, List.getElem?_cons_zero, List.getElem?_cons_succ, List.take_succ_cons, List.take_zero, List.drop_succ_cons, List.drop_zero, List.take_nil, List.drop_nil, List.map_cons, List.map_nil, List.cons_append, List.nil_append, List.append_nil, beq_self_eq_true, Bool.and_true, Bool.true_and, Bool.false_and, Bool.and_false, Lab.t.injEq, Lab.c.injEq, Ref.l.injEq, Ref.x.injEq, Bool.false_eq_true, Bool.true_eq_false, eq_self_iff_true, if_true, if_false, Bool.not_eq_true, Bool.not_eq_false, and_false, false_and, or_true, true_or, or_false, false_or, ne_eq, not_true_eq_false, not_false_eq_true, beq_iff_eq, Nat.reduceBNe, Nat.le_refl, Nat.reduceSubDiff, Int.reduceLT, gt_iff_lt, Int.reduceLE, Int.reduceEq, Int.reduceNeg, Int.reduceAdd, Int.reduceMul, Int.reduceSub, Int.reduceToNat, Int.toNat_zero, Int.toNat_one, Int.natCast_zero, Int.cast_ofNat_Int, Int.natCast_one, IntWalk.i64_in, IntWalk.u8_in, ops_prim, dps_prim, retM_normal, retM_ret, RetM_some, resR, resOwn, resAL, resA, okRes, mkA, objsOf, passA, amod, AV.den, AV.pub, passI, passQ, labsQ, eraseL, nsD, retO, backS, setObjs, AObj.ren, AV.ren, AV.ren1, renL, ren1L, renR, renQ, AV.unown, memR, List.getD_cons_zero, List.getD_cons_succ, initA, numO, AV.wf, AV.wf1, wfL, wf1L, wfR, Bool.and_self, decide_true, getI_nat, fldsD_get, hx, Fld.d_eq]
      refine PrimG.mcall ([]) ([]) rfl (hc) rfl rfl (by simp only [objsAt, St.obj, aget, AObj.ren, AV.ren, AV.ren1, renL, ren1L, renR, renQ, List.getD_cons_zero, List.getD_cons_succ, and_true, and_self, Nat.reduceEqDiff, ↓reduceIte, reduceCtorEq]) rfl rfl rfl ⟨rfl, rfl⟩ ?_
      simp (maxSteps := 2000000) (disch := omega) only [go_sem, ↓reduceIte]
      obtain ⟨c1, c2⟩ := cmpB x.name nm
      refine ⟨fun hl1 => ⟨((i + j) / 2 + 1, j), ?_, ⟨by simp only; omega, hj, fun k y hk hy => ?_, h2⟩, by simp only; omega⟩, fun hl1 => ⟨(i, (i + j) / 2), ?_, ⟨by simp only; omega, by simp only; omega, h1, fun k y hk hy => ?_⟩, by simp only; omega⟩⟩
      · refine Weak.mk ?_ ?_ ?_ <;> simp (maxSteps := 2000000) only [go_sem, ↓reduceIte, Sub, Int.natCast_add, Int.natCast_mul]
      · simp only at hk
        rcases Nat.lt_or_ge k ((i + j) / 2) with h3 | h3
        · exact less_trans (hs k _ y x h3 hy hx) (c1.1 hl1)
        · have : k = (i + j) / 2 := by omega
          subst this
          rw [hx] at hy; cases hy; exact c1.1 hl1
      · refine Weak.mk ?_ ?_ ?_ <;> simp (maxSteps := 2000000) only [go_sem, ↓reduceIte, Sub, Int.natCast_add, Int.natCast_mul]
      · simp only at hk
        have h4 : Op.bytesLess x.name nm = false := by
          cases h5 : Op.bytesLess x.name nm with
          | false => rfl
          | true => exact absurd (c1.2 h5) hl1
        rcases Nat.lt_or_ge ((i + j) / 2) k with h3 | h3
        · cases h5 : Op.bytesLess y.name nm with
          | false => rfl
          | true => rw [less_trans (hs _ k x y h3 hx hy) h5] at h4; cases h4
        · have : k = (i + j) / 2 := by omega
          subst this
          rw [hx] at hy; cases hy; exact h4
    · have hij' : i = j := by omega
      subst hij'
      have hpos := posV_eq nm l i hj h1 h2
      rw [hpos]
      have hhas : hasV nm l = (match l[i]? with | some x => decide (x.name = nm) | none => false) := by unfold hasV; rw [hpos]
      refine ⟨fun hlt => ?_, fun hge => ?_⟩
      · obtain ⟨x, hx⟩ := get_some (l := l) (i := i) (by omega)
        have hc := (set1_call x nm).mcallE (by kernel_rfl)
        simp only [List.map_cons, List.map_nil, Res.av] at hc
        rw [Fld.d_eq x] at hc
        simp (maxSteps := 2000000) (disch := omega) only [run_skip, run_reg, run_dreg, run_seq, run_cond, run_block, run_exit, run_ret, pop_code, pop_goal, pop_blk, pop_nil, pop_ret_code, pop_ret_goal, pop_ret_blk, pop_exit_code, pop_exit_goal, pop_exit_blk, run_dead, pop_dead, pop_ret_dead, pop_exit_dead, St.dead, adelL, adel, ops_nil, ops_val, ops_asg, ops_nils, ops_box, ops_allo, ops_app, ops_bsl, ops_st, ops_sla, ops_call, ops_guard, dps_nil, dps_val, dps_asg, dps_nils, dps_box, dps_allo, dps_app, appD, dps_bsl, dps_st, dps_sla, dps_call, dps_guard, pev, St.ev, St.get, St.put, acons, St.mark, St.obj, St.setObj, aget, aset, amap, initρ, asgS, nilS, newO, newB, boxS, dnsL, appS, bslS, bspS, slaS, List.all_cons, List.all_nil, List.any_cons, List.any_nil, Bool.or_false, Bool.false_or, Bool.true_or, Bool.or_true, Bool.or_self, stS, stD, setA, St.erase, St.drop, AV.erase, AV.rename, AV.drop, AV.has, AV.isPtr, dropObj, srcL, evL, evP, evO, rdAll, rdL, allSz, fLd, fLdX, fLdA, AV.nsr, AV.rd1, rd1L, fIaR, fIaD, AV.solid, solidN, List.all, dps_primC, dps_stC, chkK_cons, chkK_nil, exists_eq_left', AV.locFree, fLdP, fFa, fIa, fIaA, fFld, fillD, lookP, setR, fExt, AV.simple, fMkI, fAsT, fNck, fEqB, fEqS, eqCs, eqC, fEqN, okN, fNil, isNil, fNot, fNeg, fCvI, fI2s, fIdxS, fSubS, fSub, loOf, hiOf, fLen, fLenK, fMm, fPick, fB, fB2s, fMkF, allSimple, hasLocal, isLocal, binD, binI, binS, AV.rd, D.cells, D.one, Res.av, putO, PutG_some, PutG_if, PutG_if', PutG_mif, StG_some, StG_if, BoolG_d, GuardG_d, GuardR_d, GuardR_u, IteG, Classical.not_not, retK_ret, retK_normal, RetG_some, resS, resL, resV, mkRes, Nat.reduceEqDiff, Nat.reduceBEq, Nat.reduceLT, Nat.reduceLeDiff, Nat.reduceAdd, Nat.reduceSub, Nat.reduceMul, Nat.zero_add, ↓reduceIte, Option.getD_some, Option.getD_none, Option.map_some, Option.map_none, Option.some.injEq, reduceCtorEq, Bool.not_true, Bool.not_false, Bool.not_eq_true', Bool.not_eq_false', decide_eq_true_eq, decide_eq_false_iff_not, decide_true, decide_false, true_implies, false_implies, true_and, and_true, and_self, implies_true, List.length_cons, List.length_nil, List.set_cons_zero, List.set_cons_succ, List.getElem?_cons_zero, List.getElem?_cons_succ, List.take_succ_cons, List.take_zero, List.drop_succ_cons, List.drop_zero, List.take_nil, List.drop_nil, List.map_cons, List.map_nil, List.cons_append, List.nil_append, List.append_nil, beq_self_eq_true, Bool.and_true, Bool.true_and, Bool.false_and, Bool.and_false, Lab.t.injEq, Lab.c.injEq, Ref.l.injEq, Ref.x.injEq, Bool.false_eq_true, Bool.true_eq_false, eq_self_iff_true, if_true, if_false, Bool.not_eq_true, Bool.not_eq_false, and_false, false_and, or_true, true_or, or_false, false_or, ne_eq, not_true_eq_false, not_false_eq_true, beq_iff_eq, Nat.reduceBNe, Nat.le_refl, Nat.reduceSubDiff, Int.reduceLT, gt_iff_lt, Int.reduceLE, Int.reduceEq, Int.reduceNeg, Int.reduceAdd, Int.reduceMul, Int.reduceSub, Int.reduceToNat, Int.toNat_zero, Int.toNat_one, Int.natCast_zero, Int.cast_ofNat_Int, Int.natCast_one, IntWalk.i64_in, IntWalk.u8_in, ops_prim, dps_prim, retM_normal, retM_ret, RetM_some, resR, resOwn, resAL, resA, okRes, mkA, objsOf, passA, amod, AV.den, AV.pub, passI, passQ, labsQ, eraseL, nsD, retO, backS, setObjs, AObj.ren, AV.ren, AV.ren1, renL, ren1L, renR, renQ, AV.unown, memR, List.getD_cons_zero, List.getD_cons_succ, initA, numO, AV.wf, AV.wf1, wfL, wf1L, wfR, Bool.and_self, decide_true, getI_nat, fldsD_get, hx, Fld.d_eq]
        refine PrimG.mcall ([]) ([]) rfl (hc) rfl rfl (by simp only [objsAt, St.obj, aget, AObj.ren, AV.ren, AV.ren1, renL, ren1L, renR, renQ, List.getD_cons_zero, List.getD_cons_succ, and_true, and_self, Nat.reduceEqDiff, ↓reduceIte, reduceCtorEq]) rfl rfl rfl ⟨rfl, rfl⟩ ?_
        simp (maxSteps := 2000000) (disch := omega) only [go_sem, ↓reduceIte]
        rw [hhas, hx]
        have c2 := (cmpB x.name nm).2
        by_cases he : x.name = nm
        · have h0 := c2.2 he
          rw [he] at h0
          simp [he, h0]
        · have : ¬ Lib.compareBytes x.name nm = 0 := fun e => he (c2.1 e)
          simp [he, this]
      · have : l[i]? = none := List.getElem?_eq_none (by omega)
        rw [hhas, this]
end Go.Av.Try
