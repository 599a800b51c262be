import Derived.Test.YtbfljokjkcdbeaaEVal8
import Derived.Test.YtbfljokjkcdbeaaAvG
/- Copies of values. -/
set_option linter.unusedSimpArgs false
namespace Go.Av.Try
open Go.Proofs

/-- What Copy hands back: a value; its fields, if it has any, in a row that is nobody else's. -/
def CopyR (v : Val) : XR → Prop := fun r => ∃ X : AV, ((X = .ns ∧ v.l = []) ∨ X = .d (.list (valsD v.l))) ∧
  ((v.f = [] ∧ r = .nul [.d (.int .i64 v.kind), .d (.int .i64 v.n), .d (.str v.s), X]) ∨ (v.f ≠ [] ∧ ∃ c, r = .row [.d (.int .i64 v.kind), .d (.int .i64 v.n), .d (.str v.s), X] 6 (fldsD v.f) c))

theorem CopyR.data {v : Val} {r : XR} (h : CopyR v r) : r.data = v.d := by
  obtain ⟨X, hX, h⟩ := h
  rw [Val.d_eq]
  have hx : X.den1 = .list (valsD v.l) := by
    rcases hX with ⟨rfl, e⟩ | rfl
    · rw [e]; rfl
    · rfl
  rcases h with ⟨e, rfl⟩ | ⟨_, c, rfl⟩
  · rw [e]; simp [XR.data, AV.den1, ← hx, fldsD]
  · simp [XR.data, AV.den1, ← hx]

theorem fldsD_cells (l : List Fld) : ∀ y ∈ fldsD l, y.cells.length = 6 := by
  intro y hy
  rw [fldsD_eq] at hy
  obtain ⟨x, _, rfl⟩ := List.mem_map.1 hy
  rw [Fld.d_eq]; rfl
theorem fldsD_append (a b : List Fld) : fldsD (a ++ b) = fldsD a ++ fldsD b := by simp [fldsD_eq]
theorem valsD_append (a b : List Val) : valsD (a ++ b) = valsD a ++ valsD b := by simp [valsD_eq]

/-- value.Copy -/
def L_value_Copy : LCode :=
  .seq (.reg [⟨some 1, .box (.t 0), none⟩, ⟨some 2, .allo [.int .i64 0, .int .i64 0, .str [], .list [], .list []], none⟩]) (.seq (.dreg [⟨some 9, .val (.fa 3 (.t 1)), none⟩, ⟨some 
  10, .val (.ld false 1 (.t 9)), none⟩, ⟨some 11, .val (.fa 4 (.t 1)), none⟩, ⟨some 12, .val (.ld false 1 (.t 11)), none⟩, ⟨some 3, .val (.cp (.t 10)), none⟩, ⟨some 4, .val (.cp 
  (.t 12)), none⟩]) (.seq (.reg [⟨some 13, .val (.fa 3 (.t 1)), none⟩, ⟨none, .st 1 (.t 13) (.k .ns), none⟩, ⟨some 14, .val (.fa 4 (.t 1)), none⟩, ⟨none, .st 1 (.t 14) (.k .ns), 
  none⟩]) (.seq (.seq (.reg [⟨some 15, .val (.cp (.t 3)), none⟩, ⟨some 16, .val (.len false (.t 15)), none⟩, ⟨some 17, .val (.cp (.k (.d (.int .i64 0)))), none⟩]) (.block 0 (.loop 
  (.seq (.reg [⟨some 18, .val (.bin .lss (.t 17) (.t 16)), none⟩]) (.seq (.cond (.t 18) .skip (.exit 0)) (.seq (.block 1 (.seq (.reg [⟨some 19, .val (.ia 5 (.t 15) (.t 17)), none⟩, 
  ⟨some 20, .val (.ld true 5 (.t 19)), none⟩, ⟨some 6, .allo [.int .i64 0, .int .i64 0, .str [], .list [], .list []], none⟩, ⟨none, .st 5 (.t 6) (.t 20), none⟩]) (.dreg [⟨some 21, 
  .val (.fa 3 (.t 1)), none⟩, ⟨some 22, .val (.ld false 1 (.t 21)), none⟩, ⟨some 23, .val (.ld true 5 (.t 6)), none⟩, ⟨some 24, .call 100 [.t 23], none⟩, ⟨some 25, .bsl 48 5 [.t 
  24], none⟩, ⟨some 26, .app 48 5 80 false (.t 22) (.t 25), none⟩, ⟨some 27, .val (.fa 3 (.t 1)), none⟩, ⟨none, .st 1 (.t 27) (.t 26), none⟩]))) (.reg [⟨some 28, .val (.bin .add 
  (.t 17) (.k (.d (.int .i64 1)))), none⟩, ⟨some 17, .val (.cp (.t 28)), none⟩]))))))) (.seq (.seq (.reg [⟨some 29, .val (.cp (.t 4)), none⟩, ⟨some 30, .val (.len false (.t 29)), 
  none⟩, ⟨some 31, .val (.cp (.k (.d (.int .i64 0)))), none⟩]) (.block 2 (.loop (.seq (.reg [⟨some 32, .val (.bin .lss (.t 31) (.t 30)), none⟩]) (.seq (.cond (.t 32) .skip (.exit 
  2)) (.seq (.block 3 (.seq (.reg [⟨some 33, .val (.ia 6 (.t 29) (.t 31)), none⟩, ⟨some 34, .val (.ld true 6 (.t 33)), none⟩, ⟨some 8, .allo [.str [], .int .i64 0, .int .i64 0, 
  .str [], .list [], .list []], none⟩, ⟨none, .st 6 (.t 8) (.t 34), none⟩]) (.dreg [⟨some 35, .val (.fa 4 (.t 1)), none⟩, ⟨some 36, .val (.ld false 1 (.t 35)), none⟩, ⟨some 37, 
  .val (.fa 0 (.t 8)), none⟩, ⟨some 38, .val (.ld false 1 (.t 37)), none⟩, ⟨some 39, .val (.fa 1 (.t 8)), none⟩, ⟨some 40, .val (.ld true 5 (.t 39)), none⟩, ⟨some 41, .call 100 [.t 
  40], none⟩, ⟨some 42, .val (.bld [(0, 1), (1, 5)] [.str [], .int .i64 0, .int .i64 0, .str [], .list [], .list []] [] [(0, .t 38), (1, .t 41)]), none⟩, ⟨some 43, .bsl 87 6 [.t 
  42], none⟩, ⟨some 44, .prim (.bi .append [46, 46]) [.t 36, .t 43] [], none⟩, ⟨some 45, .val (.fa 4 (.t 1)), none⟩, ⟨none, .st 1 (.t 45) (.t 44), none⟩]))) (.reg [⟨some 46, .val 
  (.bin .add (.t 31) (.k (.d (.int .i64 1)))), none⟩, ⟨some 31, .val (.cp (.t 46)), none⟩]))))))) (.seq (.reg [⟨some 47, .val (.ld true 5 (.t 1)), none⟩, ⟨none, .st 5 (.t 2) (.t 
  47), none⟩]) .ret)))))
def R_value_Copy : List LRes := [.cell 2 true 5]
theorem lift_value_Copy : Lifts Try.prog 100 48 L_value_Copy R_value_Copy := ⟨_, _, Try.func100, rfl, by kernel_rfl, by kernel_rfl, rfl⟩

def lcell (v : Val) : Nat → AV
  | 0 => .ns
  | i + 1 => .own (.c (.l 1) 3) 48 5 (valsD (v.l.take (i + 1)))
def fcell (c : Nat) : Nat → AV
  | 0 => .ns
  | j + 1 => .rs (.l 44) (j + 1) c
def frow (v : Val) (c : Nat) : Nat → List (Nat × AObj)
  | 0 => []
  | j + 1 => [(44, .cells (rowC 6 (fldsD (v.f.take (j + 1))) c))]

theorem lcell_cases (v : Val) (i : Nat) : (lcell v i = .ns ∧ v.l.take i = []) ∨ lcell v i = .own (.c (.l 1) 3) 48 5 (valsD (v.l.take i)) := by
  cases i with
  | zero => exact .inl ⟨rfl, rfl⟩
  | succ i => exact .inr rfl
theorem lcell_succ (v : Val) (i : Nat) : lcell v (i + 1) = .own (.c (.l 1) 3) 48 5 (valsD (v.l.take (i + 1))) := rfl

theorem lcell_has (r : Ref) (v : Val) (i : Nat) : AV.has r (lcell v i) = false := by cases i <;> rfl
theorem lcell_end (v : Val) {i : Nat} (hi : v.l.length ≤ i) : (lcell v i = .ns ∧ v.l = []) ∨ lcell v i = .own (.c (.l 1) 3) 48 5 (valsD v.l) := by
  cases i with
  | zero => exact .inl ⟨rfl, List.eq_nil_of_length_eq_zero (by omega)⟩
  | succ i => right; rw [lcell_succ, List.take_of_length_le hi]
theorem fieldRow : liftSl Try.prog 46 = some (87, 6, 96) := by kernel_rfl
theorem fieldZero : zeroOne Try.prog 87 = true := by kernel_rfl
theorem fieldSl : isSl Try.prog 46 = true := by kernel_rfl
theorem fcell_succ (c j : Nat) : fcell c (j + 1) = .rs (.l 44) (j + 1) c := rfl
theorem frow_succ (v : Val) (c j : Nat) : frow v c (j + 1) = [(44, .cells (rowC 6 (fldsD (v.f.take (j + 1))) c))] := rfl

theorem fcell_cases (v : Val) {c j : Nat} (hc : j = 0 ∨ j ≤ c ∧ c ≤ maxLen) : (fcell c j = .ns ∧ frow v c j = [] ∧ j = 0) ∨ (fcell c j = .rs (.l 44) j c ∧ frow v c j = [(44, .cells (rowC 6 (fldsD (v.f.take j)) c))] ∧ j ≠ 0 ∧ j ≤ c ∧ c ≤ maxLen) := by
  cases j with
  | zero => exact .inl ⟨rfl, rfl, rfl⟩
  | succ j => exact .inr ⟨rfl, rfl, by omega, by omega, by omega⟩

theorem copyN : ∀ (m : Nat) (v : Val), SizeOf.sizeOf v ≤ m → v.sm 1048576 = true → NCall Try.prog 100 [v.d] (CopyR v) := by
  intro m
  induction m with
  | zero => intro v h; cases v; simp at h
  | succ m ih =>
    intro v hv hsm
    obtain ⟨_, hll, hfl, hsl, hsf⟩ := Val.sm_iff.1 hsm
    have hvl := valsD_length v.l
    have hfl' := fldsD_length v.f
    have ihP : ∀ x : Val, SizeOf.sizeOf x ≤ m → x.sm 1048576 = true → PCall Try.prog 100 [x.d] (fun r => r = .one x.d) := fun x h1 h2 => (ih x h1 h2).pcall fun r hr => by rw [hr.data]
    have hmain : RUN Try.prog L_value_Copy [] (retN 2 5 (CopyR v)) ⟨initρ 0 [v.d], [], []⟩ := by
      rw [Val.d_eq]
      simp (maxSteps := 2000000) only [go_sem, ↓reduceIte, L_value_Copy]
      refine run_loop (fun i : Nat => ⟨[(1, .ptr (.l 1) 0), (2, .ptr (.l 2) 0), (4, .d (.list (fldsD v.f))), (15, .d (.list (valsD v.l))), (16, .d (.int .i64 (valsD v.l).length)), (17, .d (.int .i64 i))],
          [(1, .cells [.d (.int .i64 v.kind), .d (.int .i64 v.n), .d (.str v.s), lcell v i, .ns]), (2, .cells [.d (.int .i64 0), .d (.int .i64 0), .d (.str []), .ns, .ns])], []⟩)
        (fun i => i ≤ v.l.length) (fun i => v.l.length - i) 0 ?_ (by omega) ?_
      · refine Weak.mk ?_ ?_ ?_ <;> simp (maxSteps := 2000000) only [go_sem, ↓reduceIte, Sub, Int.natCast_add, Int.natCast_mul, lcell]
      · intro i hi
        simp (maxSteps := 2000000) only [go_sem, ↓reduceIte, hvl]
        refine ⟨fun hlt => ?_, fun hge => ?_⟩
        · obtain ⟨x, hx⟩ := get_some (l := v.l) (i := i) (by omega)
          have hm := List.mem_of_getElem? hx
          have hc := ihP x (by have := size_l hm; omega) (hsl x hm)
          rw [Val.d_eq] at hc
          rcases lcell_cases v i with ⟨hlc, ht⟩ | hlc
          · simp (maxSteps := 2000000) (disch := omega) only [go_sem, ↓reduceIte, getI_nat, valsD_get, hx, Val.d_eq, hlc]
            refine CallD.of hc ?_
            simp (maxSteps := 2000000) (disch := omega) only [go_sem, ↓reduceIte]
            refine ⟨i + 1, ?_, by omega, by omega⟩
            refine Weak.mk ?_ ?_ ?_ <;> simp (maxSteps := 2000000) only [go_sem, ↓reduceIte, Sub, Int.natCast_add, Int.natCast_mul, lcell_succ, take_snoc hx, ht, valsD, Val.d_eq, hvl]
          · simp (maxSteps := 2000000) (disch := omega) only [go_sem, ↓reduceIte, getI_nat, valsD_get, hx, Val.d_eq, hlc]
            refine CallD.of hc ?_
            have htl : (valsD (v.l.take i)).length ≤ 1048576 := by rw [valsD_length, List.length_take]; omega
            simp (maxSteps := 2000000) (disch := omega) only [go_sem, ↓reduceIte]
            refine ⟨⟨by omega, by omega⟩, ⟨i + 1, ?_, by omega, by omega⟩⟩
            refine Weak.mk ?_ ?_ ?_ <;> simp (maxSteps := 2000000) only [go_sem, ↓reduceIte, Sub, Int.natCast_add, Int.natCast_mul, lcell_succ, take_snoc hx, valsD_append, valsD, Val.d_eq, hvl]
        · have hge' : v.l.length ≤ i := by omega
          have hLC := lcell_end v hge'
          have hhas := fun r => lcell_has r v i
          generalize lcell v i = LC at hLC hhas
          refine run_loop (fun y : Nat × Nat => ⟨[(1, .ptr (.l 1) 0), (2, .ptr (.l 2) 0), (29, .d (.list (fldsD v.f))), (30, .d (.int .i64 (fldsD v.f).length)), (31, .d (.int .i64 y.1))],
              (1, .cells [.d (.int .i64 v.kind), .d (.int .i64 v.n), .d (.str v.s), LC, fcell y.2 y.1]) :: (2, .cells [.d (.int .i64 0), .d (.int .i64 0), .d (.str []), .ns, .ns]) :: frow v y.2 y.1, []⟩)
            (fun y => y.1 ≤ v.f.length ∧ (y.1 = 0 ∨ y.1 ≤ y.2 ∧ y.2 ≤ maxLen)) (fun y => v.f.length - y.1) (0, 0) ?_ ⟨by simp, .inl rfl⟩ ?_
          · refine Weak.mk ?_ ?_ ?_ <;> simp (maxSteps := 2000000) only [go_sem, ↓reduceIte, Sub, Int.natCast_add, Int.natCast_mul, fcell, frow]
          · rintro ⟨j, c⟩ ⟨hj, hc⟩
            simp only at hj hc
            simp (maxSteps := 2000000) only [go_sem, ↓reduceIte, hfl']
            refine ⟨fun hlt => ?_, fun hge => ?_⟩
            · obtain ⟨x, hx⟩ := get_some (l := v.f) (i := j) (by omega)
              have hm := List.mem_of_getElem? hx
              have hcl := ihP x.v (by have := size_f hm; omega) (Fld.sm_iff.1 (hsf x hm)).2
              rw [Val.d_eq] at hcl
              rcases fcell_cases v hc with ⟨e1, e2, e3⟩ | ⟨e1, e2, e3, e4, e5⟩
              · simp (maxSteps := 2000000) (disch := omega) only [go_sem, ↓reduceIte, getI_nat, fldsD_get, hx, Fld.d_eq, e1, e2, ↓hhas, rowC_drop]
                refine CallD.of hcl ?_
                simp (maxSteps := 2000000) (disch := omega) only [go_sem, ↓reduceIte]
                refine PrimG.appRow (c := 0) (fs := []) fieldRow fieldZero fieldSl (.inl ⟨rfl, rfl⟩) rfl (by simp) (by simp [D.cells]) (by simp) (by simp [maxLen]) (fun c' h1 h2 => ?_)
                simp (maxSteps := 2000000) (disch := omega) only [go_sem, ↓reduceIte, rowC_drop, ↓hhas]
                refine ⟨(j + 1, c'), ?_, ⟨by simp only; omega, .inr ⟨?_, h2⟩⟩, by simp only; omega⟩
                · subst e3
                  refine Weak.mk ?_ ?_ ?_ <;> simp (maxSteps := 2000000) only [go_sem, ↓reduceIte, Sub, Int.natCast_add, Int.natCast_mul, fcell_succ, frow_succ, take_snoc hx, fldsD_append, fldsD, Fld.d_eq]
                · simp only [List.length_nil, List.length_cons] at h1
                  simp only; omega
              · simp (maxSteps := 2000000) (disch := omega) only [go_sem, ↓reduceIte, getI_nat, fldsD_get, hx, Fld.d_eq, e1, e2, ↓hhas, rowC_drop]
                refine CallD.of hcl ?_
                simp (maxSteps := 2000000) (disch := omega) only [go_sem, ↓reduceIte]
                have hfl2 : (fldsD (v.f.take j)).length = j := by rw [fldsD_length, List.length_take]; omega
                refine PrimG.appRow (c := c) (fs := fldsD (v.f.take j)) fieldRow fieldZero fieldSl (.inr ⟨by rw [hfl2]; rfl, rfl, by omega, e5⟩) rfl (by simp) (by simp [D.cells]) (fldsD_cells _) (by simp [hfl2, maxLen]; omega) (fun c' h1 h2 => ?_)
                rw [hfl2] at h1 ⊢
                simp (maxSteps := 2000000) (disch := omega) only [go_sem, ↓reduceIte, rowC_drop, ↓hhas]
                refine ⟨(j + 1, c'), ?_, ⟨by simp only; omega, .inr ⟨?_, h2⟩⟩, by simp only; omega⟩
                · refine Weak.mk ?_ ?_ ?_ <;> simp (maxSteps := 2000000) only [go_sem, ↓reduceIte, Sub, Int.natCast_add, Int.natCast_mul, fcell_succ, frow_succ, take_snoc hx, fldsD_append, fldsD, Fld.d_eq]
                · simp only [List.length_nil, List.length_cons] at h1
                  simp only; omega
            · have hj' : j = v.f.length := by omega
              have htk : v.f.take j = v.f := List.take_of_length_le (by omega)
              rcases fcell_cases v hc with ⟨e1, e2, e3⟩ | ⟨e1, e2, e3, e4, e5⟩
              · have hf0 : v.f = [] := List.eq_nil_of_length_eq_zero (by omega)
                rcases hLC with ⟨rfl, hl0⟩ | rfl
                · simp (maxSteps := 2000000) only [go_sem, ↓reduceIte, e1, e2]
                  exact ⟨.nul [.d (.int .i64 v.kind), .d (.int .i64 v.n), .d (.str v.s), .ns], 0, rfl, (fun _ _ _ _ h => by cases h), by simp [XR.ok, AV.dns], _, .inl ⟨rfl, hl0⟩, .inl ⟨hf0, rfl⟩⟩
                · simp (maxSteps := 2000000) only [go_sem, ↓reduceIte, e1, e2]
                  exact ⟨.nul [.d (.int .i64 v.kind), .d (.int .i64 v.n), .d (.str v.s), .d (.list (valsD v.l))], 0, rfl, (fun _ _ _ _ h => by cases h), by simp [XR.ok, AV.dns], _, .inr rfl, .inl ⟨hf0, rfl⟩⟩
              · have hf0 : v.f ≠ [] := fun e => e3 (by rw [hj', e]; rfl)
                have hjl : j = (fldsD v.f).length := by omega
                rcases hLC with ⟨rfl, hl0⟩ | rfl
                · simp (maxSteps := 2000000) only [go_sem, ↓reduceIte, e1, e2, htk]
                  exact ⟨.row [.d (.int .i64 v.kind), .d (.int .i64 v.n), .d (.str v.s), .ns] 6 (fldsD v.f) c, 44, by rw [hjl]; rfl, (fun _ _ _ _ h => by cases h; rfl), ⟨by simp [AV.dns], fldsD_cells _, by omega, e5⟩, _, .inl ⟨rfl, hl0⟩, .inr ⟨hf0, c, rfl⟩⟩
                · simp (maxSteps := 2000000) only [go_sem, ↓reduceIte, e1, e2, htk]
                  exact ⟨.row [.d (.int .i64 v.kind), .d (.int .i64 v.n), .d (.str v.s), .d (.list (valsD v.l))] 6 (fldsD v.f) c, 44, by rw [hjl]; rfl, (fun _ _ _ _ h => by cases h; rfl), ⟨by simp [AV.dns], fldsD_cells _, by omega, e5⟩, _, .inr rfl, .inr ⟨hf0, c, rfl⟩⟩
    exact lift_value_Copy.ncall rfl hmain
end Go.Av.Try
