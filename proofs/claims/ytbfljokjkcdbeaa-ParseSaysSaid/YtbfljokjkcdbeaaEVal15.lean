import Derived.Test.YtbfljokjkcdbeaaEVal14
/- The document's way to set a dictionary's entry. -/
set_option linter.unusedSimpArgs false
namespace Go.Av.Try
open Go.Proofs

def leqB (a b : List UInt8) : Bool := Op.bytesLess a b || decide (a = b)
def refSet (nm : List UInt8) (x : Val) : Bool → List Fld → List Fld
  | laid, [] => if laid then [] else [.mk nm x]
  | laid, y :: r => (if !laid && leqB nm y.name then [.mk nm x] else []) ++ ((if y.name = nm then [] else [y]) ++ refSet nm x (laid || leqB nm y.name) r)
theorem fieldFits : zeroFits Try.prog 87 = true := by kernel_rfl

theorem mk_d (k n : Int) (s : List UInt8) (l : List Val) (f : List Fld) : (Val.mk k n s l f).d = .agg [.int .i64 k, .int .i64 n, .str s, .list (valsD l), .list (fldsD f)] := by rw [Val.d_eq]; rfl

/-- foliowrightref.Set -/
def L_foliowrightref_Set : LCode :=
  .seq (.reg [⟨some 3, .box (.t 0), none⟩, ⟨some 5, .box (.t 2), none⟩, ⟨some 6, .allo [.int .i64 0, .int .i64 0, .str [], .list [], .list []], none⟩]) (.seq (.reg [⟨some 7, .nils 87 
  6, none⟩]) (.seq (.reg [⟨some 8, .asg (.k (.d (.bool false))), none⟩]) (.seq (.seq (.reg [⟨some 9, .asg (.k (.d (.int .i64 0))), none⟩]) (.block 0 (.loop (.seq (.seq (.reg [⟨some 
  10, .val (.cp (.t 9)), none⟩, ⟨some 11, .val (.fa 4 (.t 3)), none⟩, ⟨some 12, .val (.ld false 1 (.t 11)), none⟩, ⟨some 13, .val (.len false (.t 12)), none⟩, ⟨some 14, .val (.bin 
  .lss (.t 10) (.t 13)), none⟩]) (.cond (.t 14) .skip (.exit 0))) (.seq (.block 1 (.seq (.seq (.reg [⟨some 17, .val (.cp (.t 8)), none⟩, ⟨some 18, .val (.not (.t 17)), none⟩, ⟨some 
  19, .val (.cp (.t 18)), none⟩, ⟨some 20, .val (.cp (.t 1)), some (19, true)⟩, ⟨some 21, .val (.fa 4 (.t 3)), some (19, true)⟩, ⟨some 22, .val (.ld false 1 (.t 21)), some (19, 
  true)⟩, ⟨some 23, .val (.cp (.t 9)), some (19, true)⟩, ⟨some 24, .val (.ia 6 (.t 22) (.t 23)), some (19, true)⟩, ⟨some 25, .val (.fa 0 (.t 24)), some (19, true)⟩, ⟨some 26, .val 
  (.ld false 1 (.t 25)), some (19, true)⟩, ⟨some 27, .val (.bin .leq (.t 20) (.t 26)), some (19, true)⟩, ⟨some 28, .val (.pick (.t 19) (.t 27) (.k (.d (.bool false)))), none⟩]) 
  (.cond (.t 28) (.seq (.reg [⟨some 29, .val (.cp (.t 7)), none⟩, ⟨some 30, .val (.cp (.t 1)), none⟩, ⟨some 31, .val (.ld true 5 (.t 5)), none⟩, ⟨some 32, .val (.bld [(0, 1), (1, 
  5)] [.str [], .int .i64 0, .int .i64 0, .str [], .list [], .list []] [] [(0, .t 30), (1, .t 31)]), none⟩, ⟨some 33, .bsl 87 6 [.t 32], none⟩, ⟨some 34, .prim (.bi .append [46, 
  46]) [.t 29, .t 33] [], none⟩, ⟨some 7, .asg (.t 34), none⟩]) (.reg [⟨some 8, .asg (.k (.d (.bool true))), none⟩])) .skip)) (.seq (.reg [⟨some 35, .val (.fa 4 (.t 3)), none⟩, 
  ⟨some 36, .val (.ld false 1 (.t 35)), none⟩, ⟨some 37, .val (.cp (.t 9)), none⟩, ⟨some 38, .val (.ia 6 (.t 36) (.t 37)), none⟩, ⟨some 39, .val (.fa 0 (.t 38)), none⟩, ⟨some 40, 
  .val (.ld false 1 (.t 39)), none⟩, ⟨some 41, .val (.cp (.t 1)), none⟩, ⟨some 42, .val (.bin .neq (.t 40) (.t 41)), none⟩]) (.cond (.t 42) (.reg [⟨some 43, .val (.cp (.t 7)), 
  none⟩, ⟨some 44, .val (.fa 4 (.t 3)), none⟩, ⟨some 45, .val (.ld false 1 (.t 44)), none⟩, ⟨some 46, .val (.cp (.t 9)), none⟩, ⟨some 47, .val (.ia 6 (.t 45) (.t 46)), none⟩, ⟨some 
  48, .val (.ld true 6 (.t 47)), none⟩, ⟨some 49, .bsl 87 6 [.t 48], none⟩, ⟨some 50, .prim (.bi .append [46, 46]) [.t 43, .t 49] [], none⟩, ⟨some 7, .asg (.t 50), none⟩]) 
  .skip)))) (.reg [⟨some 15, .val (.cp (.t 9)), none⟩, ⟨some 16, .val (.bin .add (.t 15) (.k (.d (.int .i64 1)))), none⟩, ⟨some 9, .asg (.t 16), none⟩])))))) (.seq (.seq (.reg 
  [⟨some 51, .val (.cp (.t 8)), none⟩, ⟨some 52, .val (.not (.t 51)), none⟩]) (.cond (.t 52) (.reg [⟨some 53, .val (.cp (.t 7)), none⟩, ⟨some 54, .val (.cp (.t 1)), none⟩, ⟨some 
  55, .val (.ld true 5 (.t 5)), none⟩, ⟨some 56, .val (.bld [(0, 1), (1, 5)] [.str [], .int .i64 0, .int .i64 0, .str [], .list [], .list []] [] [(0, .t 54), (1, .t 55)]), none⟩, 
  ⟨some 57, .bsl 87 6 [.t 56], none⟩, ⟨some 58, .prim (.bi .append [46, 46]) [.t 53, .t 57] [], none⟩, ⟨some 7, .asg (.t 58), none⟩]) .skip)) (.seq (.reg [⟨some 59, .val (.cp (.t 
  7)), none⟩, ⟨some 60, .val (.fa 4 (.t 3)), none⟩, ⟨none, .st 1 (.t 60) (.t 59), none⟩]) (.seq (.reg [⟨some 61, .val (.ld true 5 (.t 3)), none⟩, ⟨none, .st 5 (.t 6) (.t 61), 
  none⟩]) .ret))))))
def R_foliowrightref_Set : List LRes := [.cell 6 true 5]
theorem lift_foliowrightref_Set : Lifts Try.prog 93 62 L_foliowrightref_Set R_foliowrightref_Set := ⟨_, _, Try.func93, rfl, by kernel_rfl, by kernel_rfl, rfl⟩

theorem setR_call (v x : Val) (nm : List UInt8) (hf : v.f.length ≤ 1048576) : PCall Try.prog 93 [v.d, .str nm, x.d] (fun r => r = .one (Val.mk v.kind v.n v.s v.l (refSet nm x false v.f)).d) := by
  have hfl' := fldsD_length v.f
  generalize hR : refSet nm x false v.f = R
  rw [mk_d, Val.d_eq v, Val.d_eq x]
  refine lift_foliowrightref_Set.call rfl ?_
  simp (maxSteps := 2000000) only [go_sem, ↓reduceIte, L_foliowrightref_Set, R_foliowrightref_Set]
  refine run_loop (fun y : Nat × Bool × List Fld => ⟨[(1, .d (.str nm)), (3, .ptr (.l 3) 0), (5, .ptr (.l 5) 0), (6, .ptr (.l 6) 0), (7, .own (.t 7) 87 6 (fldsD y.2.2)), (8, .d (.bool y.2.1)), (9, .d (.int .i64 y.1))],
      [(3, .cells [.d (.int .i64 (v.kind)), .d (.int .i64 v.n), .d (.str v.s), .d (.list (valsD v.l)), .d (.list (fldsD v.f))]),
       (5, .cells [.d (.int .i64 x.kind), .d (.int .i64 x.n), .d (.str x.s), .d (.list (valsD x.l)), .d (.list (fldsD x.f))]),
       (6, .cells [.d (.int .i64 0), .d (.int .i64 0), .d (.str []), .ns, .ns])], []⟩)
    (fun y => y.1 ≤ v.f.length ∧ y.2.2.length ≤ y.1 + (if y.2.1 = true then 1 else 0) ∧ y.2.2 ++ refSet nm x y.2.1 (v.f.drop y.1) = R) (fun y => v.f.length - y.1) (0, false, []) ?_ ?_ ?_
  · refine Weak.mk ?_ ?_ ?_ <;> simp (maxSteps := 2000000) only [go_sem, ↓reduceIte, Sub, Int.natCast_add, Int.natCast_mul, fldsD]
  · exact ⟨by simp, by simp, by simpa using hR⟩
  · rintro ⟨i, b, acc⟩ ⟨hi, hl, hF⟩
    simp only at hi hl hF
    have hal := fldsD_length acc
    have done : ∀ (b : Bool) (acc : List Fld), acc.length ≤ v.f.length + 1 → acc ++ refSet nm x b [] = R → (b = true → acc = R) ∧ (b = false → acc ++ [.mk nm x] = R) := fun b acc _ h => ⟨fun e => by rw [e] at h; simpa [refSet] using h, fun e => by rw [e] at h; simpa [refSet] using h⟩
    by_cases hlt : i < v.f.length
    · obtain ⟨y, hy⟩ := get_some (l := v.f) (i := i) hlt
      rw [drop_at hy, refSet] at hF
      cases b <;> simp only [if_true, if_false, Bool.false_eq_true] at hl
      · simp (maxSteps := 2000000) only [go_sem, ↓reduceIte, hfl']
        have hlt' : (i : Int) < (v.f.length : Int) := by omega
        simp (maxSteps := 2000000) (disch := omega) only [go_sem, ↓reduceIte, hlt', getI_nat, fldsD_get, hy, Fld.d_eq]
        refine ⟨fun w1 => ?_, fun w1 => ⟨fun w2 => ?_, fun w2 => ?_⟩⟩
        · have w1' : leqB nm y.name = true := w1
          refine PrimG.appOwn2 fieldRow fieldFits fieldSl rfl rfl (by simp only [List.length_append, List.length_cons, List.length_nil, hal]; omega) ?_
          simp (maxSteps := 2000000) (disch := omega) only [go_sem, ↓reduceIte, getI_nat, fldsD_get, hy, Fld.d_eq]
          refine ⟨fun w2 => ?_, fun w2 => ?_⟩
          · refine PrimG.appOwn2 fieldRow fieldFits fieldSl rfl rfl (by simp only [List.length_append, List.length_cons, List.length_nil, hal]; omega) ?_
            simp (maxSteps := 2000000) (disch := omega) only [go_sem, ↓reduceIte]
            refine ⟨(i + 1, true, acc ++ [.mk nm x] ++ [y]), ?_, ⟨by simp only; omega, by simp only [List.length_append, List.length_cons, List.length_nil, if_true, if_false, Bool.false_eq_true]; omega, ?_⟩, by simp only; omega⟩
            · refine Weak.mk ?_ ?_ ?_ <;> simp (maxSteps := 2000000) only [go_sem, ↓reduceIte, Sub, Int.natCast_add, Int.natCast_mul, fldsD_append, fldsD, fld_mk, Fld.d_eq y, List.append_assoc]
            · simp only [w1', if_neg w2, Bool.not_false, Bool.not_true, Bool.true_and, Bool.false_and, Bool.false_or, Bool.true_or, if_true, if_false, Bool.false_eq_true, List.append_assoc, List.nil_append, List.cons_append] at hF ⊢
              exact hF
          · refine ⟨(i + 1, true, acc ++ [.mk nm x]), ?_, ⟨by simp only; omega, by simp only [List.length_append, List.length_cons, List.length_nil, if_true, if_false, Bool.false_eq_true]; omega, ?_⟩, by simp only; omega⟩
            · refine Weak.mk ?_ ?_ ?_ <;> simp (maxSteps := 2000000) only [go_sem, ↓reduceIte, Sub, Int.natCast_add, Int.natCast_mul, fldsD_append, fldsD, fld_mk, Fld.d_eq y, List.append_assoc]
            · simp only [w1', if_pos w2, Bool.not_false, Bool.not_true, Bool.true_and, Bool.false_and, Bool.false_or, Bool.true_or, if_true, if_false, Bool.false_eq_true, List.append_assoc, List.nil_append, List.cons_append] at hF ⊢
              exact hF
        · have w1' : leqB nm y.name = false := by simpa [leqB] using w1
          refine PrimG.appOwn2 fieldRow fieldFits fieldSl rfl rfl (by simp only [List.length_append, List.length_cons, List.length_nil, hal]; omega) ?_
          simp (maxSteps := 2000000) (disch := omega) only [go_sem, ↓reduceIte]
          refine ⟨(i + 1, false, acc ++ [y]), ?_, ⟨by simp only; omega, by simp only [List.length_append, List.length_cons, List.length_nil, if_true, if_false, Bool.false_eq_true]; omega, ?_⟩, by simp only; omega⟩
          · refine Weak.mk ?_ ?_ ?_ <;> simp (maxSteps := 2000000) only [go_sem, ↓reduceIte, Sub, Int.natCast_add, Int.natCast_mul, fldsD_append, fldsD, fld_mk, Fld.d_eq y, List.append_assoc]
          · simp only [w1', if_neg w2, Bool.not_false, Bool.not_true, Bool.true_and, Bool.false_and, Bool.false_or, Bool.true_or, if_true, if_false, Bool.false_eq_true, List.append_assoc, List.nil_append, List.cons_append] at hF ⊢
            exact hF
        · have w1' : leqB nm y.name = false := by simpa [leqB] using w1
          refine ⟨(i + 1, false, acc), ?_, ⟨by simp only; omega, by simp only [List.length_append, List.length_cons, List.length_nil, if_true, if_false, Bool.false_eq_true]; omega, ?_⟩, by simp only; omega⟩
          · refine Weak.mk ?_ ?_ ?_ <;> simp (maxSteps := 2000000) only [go_sem, ↓reduceIte, Sub, Int.natCast_add, Int.natCast_mul, fldsD_append, fldsD, fld_mk, Fld.d_eq y, List.append_assoc]
          · simp only [w1', if_pos w2, Bool.not_false, Bool.not_true, Bool.true_and, Bool.false_and, Bool.false_or, Bool.true_or, if_true, if_false, Bool.false_eq_true, List.append_assoc, List.nil_append, List.cons_append] at hF ⊢
            exact hF
      · simp (maxSteps := 2000000) only [go_sem, ↓reduceIte, hfl']
        have hlt' : (i : Int) < (v.f.length : Int) := by omega
        simp (maxSteps := 2000000) (disch := omega) only [go_sem, ↓reduceIte, hlt', getI_nat, fldsD_get, hy, Fld.d_eq]
        refine ⟨fun w2 => ?_, fun w2 => ?_⟩
        · refine PrimG.appOwn2 fieldRow fieldFits fieldSl rfl rfl (by simp only [List.length_append, List.length_cons, List.length_nil, hal]; omega) ?_
          simp (maxSteps := 2000000) (disch := omega) only [go_sem, ↓reduceIte]
          refine ⟨(i + 1, true, acc ++ [y]), ?_, ⟨by simp only; omega, by simp only [List.length_append, List.length_cons, List.length_nil, if_true, if_false, Bool.false_eq_true]; omega, ?_⟩, by simp only; omega⟩
          · refine Weak.mk ?_ ?_ ?_ <;> simp (maxSteps := 2000000) only [go_sem, ↓reduceIte, Sub, Int.natCast_add, Int.natCast_mul, fldsD_append, fldsD, fld_mk, Fld.d_eq y, List.append_assoc]
          · simp only [if_neg w2, Bool.not_false, Bool.not_true, Bool.true_and, Bool.false_and, Bool.false_or, Bool.true_or, if_true, if_false, Bool.false_eq_true, List.append_assoc, List.nil_append, List.cons_append] at hF ⊢
            exact hF
        · refine ⟨(i + 1, true, acc), ?_, ⟨by simp only; omega, by simp only [List.length_append, List.length_cons, List.length_nil, if_true, if_false, Bool.false_eq_true]; omega, ?_⟩, by simp only; omega⟩
          · refine Weak.mk ?_ ?_ ?_ <;> simp (maxSteps := 2000000) only [go_sem, ↓reduceIte, Sub, Int.natCast_add, Int.natCast_mul, fldsD_append, fldsD, fld_mk, Fld.d_eq y, List.append_assoc]
          · simp only [if_pos w2, Bool.not_false, Bool.not_true, Bool.true_and, Bool.false_and, Bool.false_or, Bool.true_or, if_true, if_false, Bool.false_eq_true, List.append_assoc, List.nil_append, List.cons_append] at hF ⊢
            exact hF
    · simp (maxSteps := 2000000) only [go_sem, ↓reduceIte, hfl']
      have hlt' : ¬ (i : Int) < (v.f.length : Int) := by omega
      simp (maxSteps := 2000000) (disch := omega) only [go_sem, ↓reduceIte, hlt']
      rw [List.drop_eq_nil_of_le (by omega)] at hF
      have hl2 : acc.length ≤ i + 1 := by revert hl; split <;> omega
      obtain ⟨d1, d2⟩ := done b acc (by omega) hF
      cases b
      · simp (maxSteps := 2000000) only [go_sem, ↓reduceIte]
        refine PrimG.appOwn2 fieldRow fieldFits fieldSl rfl rfl (by simp only [List.length_append, List.length_cons, List.length_nil, hal]; omega) ?_
        simp (maxSteps := 2000000) (disch := omega) only [go_sem, ↓reduceIte]
        rw [← d2 rfl, fldsD_append, fldsD, fld_mk, fldsD]
      · simp (maxSteps := 2000000) only [go_sem, ↓reduceIte]
        rw [← d1 rfl]
end Go.Av.Try
