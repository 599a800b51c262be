import Derived.Test.YtbfljokjkcdbeaaGreatDoorWb
import Derived.Test.YtbfljokjkcdbeaaGreatDoorWc
import Derived.Test.YtbfljokjkcdbeaaGreatDoorAvG
import Derived.Lib.Bytealg
import Derived.Test.YtbfljokjkcdbeaaGreatDoorWa
import Derived.Shelf.RegionOpenPlain
import Derived.WalkKit
import Derived.Lib.Walk
import Derived.Lib.SliceRun
import Derived.Lib.JoinLaws
import Derived.Lib.AppendZerosOnto
import Derived.Lib.Overlaps
import Derived.Laws.Externs
import Derived.Laws.IdiomCopy
import Derived.Laws.NewBlocks
import Derived.Shelf.Strings.Search3
import Derived.Shelf.LaysM
set_option linter.unusedSimpArgs false
namespace Go.Av.Tryz
open Go.Proofs
def CopyR (v : Val) : XR → Prop := fun r => ∃ X : AV, ((X = .ns ∧ v.l = []) ∨ X = .d (.list (valsD v.l))) ∧
 ((v.f = [] ∧ r = .nul [.d (.int .i64 v.kind), .d (.int .i64 v.n), .d (.str v.s), X]) ∨ (v.f ≠ [] ∧ ∃ c, r = .row [.d (.int .i64 v.kind), .d (.int .i64 v.n), .d (.str v.s), X] 6 (fldsD v.f) c))
theorem CopyR.data {v : Val} {r : XR} (h : CopyR v r) : r.data = v.d := by
 obtain ⟨X, hX, h⟩ := h
 rw [Val.d_eq]
 have hx : X.den1 = .list (valsD v.l) := by
  rcases hX with ⟨rfl, e⟩ | rfl
  ·rw [e]; rfl
  ·rfl
 rcases h with ⟨e, rfl⟩ | ⟨_, c, rfl⟩
 ·rw [e]; simp [XR.data, AV.den1, ← hx, fldsD]
 ·simp [XR.data, AV.den1, ← hx]
theorem fldsD_cells (l : List Fld) : ∀ y ∈ fldsD l, y.cells.length = 6 := by
 intro y hy
 rw [fldsD_eq] at hy
 obtain ⟨x, _, rfl⟩ := List.mem_map.1 hy
 rw [Fld.d_eq]; rfl
theorem fldsD_append (a b : List Fld) : fldsD (a ++ b) = fldsD a ++ fldsD b := by simp [fldsD_eq]
theorem valsD_append (a b : List Val) : valsD (a ++ b) = valsD a ++ valsD b := by simp [valsD_eq]
def L_value_Copy : LCode :=
 .seq (.reg [⟨some 1, .box (.t 0), none⟩, ⟨some 2, .allo [.int .i64 0, .int .i64 0, .str [], .list [], .list []], none⟩]) (.seq (.dreg [Q 9 (.fa 3 (.t 1)), Q 10 (.ld false 1 (.t 
 9)), Q 11 (.fa 4 (.t 1)), Q 12 (.ld false 1 (.t 11)), Qc 3 10, Qc 4 12]) (.seq (.reg [Q 13 (.fa 3 (.t 1)), ⟨none, .st 1 (.t 13) (.k .ns), none⟩, Q 14 (.fa 4 (.t 1)), ⟨none, .st 1 
 (.t 14) (.k .ns), none⟩]) (.seq (.seq (.reg [Qc 15 3, Q 16 (.len false (.t 15)), Q 17 (.cp (Ki 0))]) (.block 0 (.loop (.seq (.reg [Q 18 (.bin .lss (.t 17) (.t 16))]) (.seq (.cond 
 (.t 18) .skip (.exit 0)) (.seq (.block 1 (.seq (.reg [Q 19 (.ia 5 (.t 15) (.t 17)), Q 20 (.ld true 5 (.t 19)), ⟨some 6, .allo [.int .i64 0, .int .i64 0, .str [], .list [], .list 
 []], none⟩, ⟨none, .st 5 (.t 6) (.t 20), none⟩]) (.dreg [Q 21 (.fa 3 (.t 1)), Q 22 (.ld false 1 (.t 21)), Q 23 (.ld true 5 (.t 6)), ⟨some 24, .call 103 [.t 23], none⟩, ⟨some 25, 
 .bsl 41 5 [.t 24], none⟩, ⟨some 26, .app 41 5 80 false (.t 22) (.t 25), none⟩, Q 27 (.fa 3 (.t 1)), ⟨none, .st 1 (.t 27) (.t 26), none⟩]))) (.reg [Q 28 (.bin .add (.t 17) (Ki 
 1)), Qc 17 28]))))))) (.seq (.seq (.reg [Qc 29 4, Q 30 (.len false (.t 29)), Q 31 (.cp (Ki 0))]) (.block 2 (.loop (.seq (.reg [Q 32 (.bin .lss (.t 31) (.t 30))]) (.seq (.cond (.t 
 32) .skip (.exit 2)) (.seq (.block 3 (.seq (.reg [Q 33 (.ia 6 (.t 29) (.t 31)), Q 34 (.ld true 6 (.t 33)), ⟨some 8, .allo [.str [], .int .i64 0, .int .i64 0, .str [], .list [], 
 .list []], none⟩, ⟨none, .st 6 (.t 8) (.t 34), none⟩]) (.dreg [Q 35 (.fa 4 (.t 1)), Q 36 (.ld false 1 (.t 35)), Q 37 (.fa 0 (.t 8)), Q 38 (.ld false 1 (.t 37)), Q 39 (.fa 1 (.t 
 8)), Q 40 (.ld true 5 (.t 39)), ⟨some 41, .call 103 [.t 40], none⟩, Q 42 (.bld [(0, 1), (1, 5)] [.str [], .int .i64 0, .int .i64 0, .str [], .list [], .list []] [] [(0, .t 38), 
 (1, .t 41)]), ⟨some 43, .bsl 77 6 [.t 42], none⟩, ⟨some 44, .prim (.bi .append [39, 39]) [.t 36, .t 43] [], none⟩, Q 45 (.fa 4 (.t 1)), ⟨none, .st 1 (.t 45) (.t 44), none⟩]))) 
 (.reg [Q 46 (.bin .add (.t 31) (Ki 1)), Qc 31 46]))))))) (.seq (.reg [Q 47 (.ld true 5 (.t 1)), ⟨none, .st 5 (.t 2) (.t 47), none⟩]) .ret)))))
def R_value_Copy : List LRes := [.cell 2 true 5]
theorem lift_value_Copy : Lifts Tryz.prog 103 48 L_value_Copy R_value_Copy := ⟨_, _, Tryz.func103, rfl, by kernel_rfl, by kernel_rfl, rfl⟩
def lcell (v : Val) : Nat → AV
 | 0 => .ns
 | i + 1 => .own (.c (.l 1) 3) 41 5 (valsD (v.l.take (i + 1)))
def fcell (c : Nat) : Nat → AV
 | 0 => .ns
 | j + 1 => .rs (.l 44) (j + 1) c
def frow (v : Val) (c : Nat) : Nat → List (Nat × AObj)
 | 0 => []
 | j + 1 => [(44, .cells (rowC 6 (fldsD (v.f.take (j + 1))) c))]
theorem lcell_cases (v : Val) (i : Nat) : (lcell v i = .ns ∧ v.l.take i = []) ∨ lcell v i = .own (.c (.l 1) 3) 41 5 (valsD (v.l.take i)) := by
 cases i with
 | zero => exact .inl ⟨rfl, rfl⟩
 | succ i => exact .inr rfl
theorem lcell_succ (v : Val) (i : Nat) : lcell v (i + 1) = .own (.c (.l 1) 3) 41 5 (valsD (v.l.take (i + 1))) := rfl
theorem lcell_has (r : Ref) (v : Val) (i : Nat) : AV.has r (lcell v i) = false := by cases i <;> rfl
theorem lcell_end (v : Val) {i : Nat} (hi : v.l.length ≤ i) : (lcell v i = .ns ∧ v.l = []) ∨ lcell v i = .own (.c (.l 1) 3) 41 5 (valsD v.l) := by
 cases i with
 | zero => exact .inl ⟨rfl, List.eq_nil_of_length_eq_zero (by omega)⟩
 | succ i => right; rw [lcell_succ, List.take_of_length_le hi]
theorem fieldRow : liftSl Tryz.prog 39 = some (77, 6, 96) := by kernel_rfl
theorem fieldZero : zeroOne Tryz.prog 77 = true := by kernel_rfl
theorem fieldSl : isSl Tryz.prog 39 = true := by kernel_rfl
theorem fcell_succ (c j : Nat) : fcell c (j + 1) = .rs (.l 44) (j + 1) c := rfl
theorem frow_succ (v : Val) (c j : Nat) : frow v c (j + 1) = [(44, .cells (rowC 6 (fldsD (v.f.take (j + 1))) c))] := rfl
theorem fcell_cases (v : Val) {c j : Nat} (hc : j = 0 ∨ j ≤ c ∧ c ≤ maxLen) : (fcell c j = .ns ∧ frow v c j = [] ∧ j = 0) ∨ (fcell c j = .rs (.l 44) j c ∧ frow v c j = [(44, .cells (rowC 6 (fldsD (v.f.take j)) c))] ∧ j ≠ 0 ∧ j ≤ c ∧ c ≤ maxLen) := by
 cases j with
 | zero => exact .inl ⟨rfl, rfl, rfl⟩
 | succ j => exact .inr ⟨rfl, rfl, by omega, by omega, by omega⟩
theorem copyN : ∀ (m : Nat) (v : Val), SizeOf.sizeOf v ≤ m → v.sm 1048576 = true → NCall Tryz.prog 103 [v.d] (CopyR v) := by
 intro m
 induction m with
 | zero => intro v h; cases v; simp at h
 | succ m ih =>
  intro v hv hsm
  obtain ⟨_, hll, hfl, hsl, hsf⟩ := Val.sm_iff.1 hsm
  have hvl := valsD_length v.l
  have hfl' := fldsD_length v.f
  have ihP : ∀ x : Val, SizeOf.sizeOf x ≤ m → x.sm 1048576 = true → PCall Tryz.prog 103 [x.d] (fun r => r = .one x.d) := fun x h1 h2 => (ih x h1 h2).pcall fun r hr => by rw [hr.data]
  have hmain : RUN Tryz.prog L_value_Copy [] (retN 2 5 (CopyR v)) ⟨initρ 0 [v.d], [], []⟩ := by
   rw [Val.d_eq]
   simp (maxSteps := 2000000) only [go_sem, ↓reduceIte, L_value_Copy]
   refine run_loop (fun i : Nat => ⟨[(1, .ptr (.l 1) 0), (2, .ptr (.l 2) 0), (4, .d (.list (fldsD v.f))), (15, .d (.list (valsD v.l))), (16, .d (.int .i64 (valsD v.l).length)), (17, .d (.int .i64 i))],
     [(1, .cells [.d (.int .i64 v.kind), .d (.int .i64 v.n), .d (.str v.s), lcell v i, .ns]), (2, .cells [.d (.int .i64 0), .d (.int .i64 0), .d (.str []), .ns, .ns])], []⟩)
    (fun i => i ≤ v.l.length) (fun i => v.l.length - i) 0 ?_ (by omega) ?_
   ·refine Weak.mk ?_ ?_ ?_ <;> simp (maxSteps := 2000000) only [go_sem, ↓reduceIte, Sub, Int.natCast_add, Int.natCast_mul, lcell]
   ·intro i hi
    simp (maxSteps := 2000000) only [go_sem, ↓reduceIte, hvl]
    refine ⟨fun hlt => ?_, fun hge => ?_⟩
    ·obtain ⟨x, hx⟩ := get_some (l := v.l) (i := i) (by omega)
     have hm := List.mem_of_getElem? hx
     have hc := ihP x (by have := size_l hm; omega) (hsl x hm)
     rw [Val.d_eq] at hc
     rcases lcell_cases v i with ⟨hlc, ht⟩ | hlc
     ·simp (maxSteps := 2000000) (disch := omega) only [go_sem, ↓reduceIte, getI_nat, valsD_get, hx, Val.d_eq, hlc]
      refine CallD.of hc ?_
      simp (maxSteps := 2000000) (disch := omega) only [go_sem, ↓reduceIte]
      refine ⟨i + 1, ?_, by omega, by omega⟩
      refine Weak.mk ?_ ?_ ?_ <;> simp (maxSteps := 2000000) only [go_sem, ↓reduceIte, Sub, Int.natCast_add, Int.natCast_mul, lcell_succ, take_snoc hx, ht, valsD, Val.d_eq, hvl]
     ·simp (maxSteps := 2000000) (disch := omega) only [go_sem, ↓reduceIte, getI_nat, valsD_get, hx, Val.d_eq, hlc]
      refine CallD.of hc ?_
      have htl : (valsD (v.l.take i)).length ≤ 1048576 := by rw [valsD_length, List.length_take]; omega
      simp (maxSteps := 2000000) (disch := omega) only [go_sem, ↓reduceIte]
      refine ⟨⟨by omega, by omega⟩, ⟨i + 1, ?_, by omega, by omega⟩⟩
      refine Weak.mk ?_ ?_ ?_ <;> simp (maxSteps := 2000000) only [go_sem, ↓reduceIte, Sub, Int.natCast_add, Int.natCast_mul, lcell_succ, take_snoc hx, valsD_append, valsD, Val.d_eq, hvl]
    ·have hge' : v.l.length ≤ i := by omega
     have hLC := lcell_end v hge'
     have hhas := fun r => lcell_has r v i
     generalize lcell v i = LC at hLC hhas
     refine run_loop (fun y : Nat × Nat => ⟨[(1, .ptr (.l 1) 0), (2, .ptr (.l 2) 0), (29, .d (.list (fldsD v.f))), (30, .d (.int .i64 (fldsD v.f).length)), (31, .d (.int .i64 y.1))],
       (1, .cells [.d (.int .i64 v.kind), .d (.int .i64 v.n), .d (.str v.s), LC, fcell y.2 y.1]) :: (2, .cells [.d (.int .i64 0), .d (.int .i64 0), .d (.str []), .ns, .ns]) :: frow v y.2 y.1, []⟩)
      (fun y => y.1 ≤ v.f.length ∧ (y.1 = 0 ∨ y.1 ≤ y.2 ∧ y.2 ≤ maxLen)) (fun y => v.f.length - y.1) (0, 0) ?_ ⟨by simp, .inl rfl⟩ ?_
     ·refine Weak.mk ?_ ?_ ?_ <;> simp (maxSteps := 2000000) only [go_sem, ↓reduceIte, Sub, Int.natCast_add, Int.natCast_mul, fcell, frow]
     ·rintro ⟨j, c⟩ ⟨hj, hc⟩
      simp only at hj hc
      simp (maxSteps := 2000000) only [go_sem, ↓reduceIte, hfl']
      refine ⟨fun hlt => ?_, fun hge => ?_⟩
      ·obtain ⟨x, hx⟩ := get_some (l := v.f) (i := j) (by omega)
       have hm := List.mem_of_getElem? hx
       have hcl := ihP x.v (by have := size_f hm; omega) (Fld.sm_iff.1 (hsf x hm)).2
       rw [Val.d_eq] at hcl
       rcases fcell_cases v hc with ⟨e1, e2, e3⟩ | ⟨e1, e2, e3, e4, e5⟩
       ·simp (maxSteps := 2000000) (disch := omega) only [go_sem, ↓reduceIte, getI_nat, fldsD_get, hx, Fld.d_eq, e1, e2, ↓hhas, rowC_drop]
        refine CallD.of hcl ?_
        simp (maxSteps := 2000000) (disch := omega) only [go_sem, ↓reduceIte]
        refine PrimG.appRow (c := 0) (fs := []) fieldRow fieldZero fieldSl (.inl ⟨rfl, rfl⟩) rfl (by simp) (by simp [D.cells]) (by simp) (by simp [maxLen]) (fun c' h1 h2 => ?_)
        simp (maxSteps := 2000000) (disch := omega) only [go_sem, ↓reduceIte, rowC_drop, ↓hhas]
        refine ⟨(j + 1, c'), ?_, ⟨by simp only; omega, .inr ⟨?_, h2⟩⟩, by simp only; omega⟩
        ·subst e3
         refine Weak.mk ?_ ?_ ?_ <;> simp (maxSteps := 2000000) only [go_sem, ↓reduceIte, Sub, Int.natCast_add, Int.natCast_mul, fcell_succ, frow_succ, take_snoc hx, fldsD_append, fldsD, Fld.d_eq]
        ·simp only [List.length_nil, List.length_cons] at h1
         simp only; omega
       ·simp (maxSteps := 2000000) (disch := omega) only [go_sem, ↓reduceIte, getI_nat, fldsD_get, hx, Fld.d_eq, e1, e2, ↓hhas, rowC_drop]
        refine CallD.of hcl ?_
        simp (maxSteps := 2000000) (disch := omega) only [go_sem, ↓reduceIte]
        have hfl2 : (fldsD (v.f.take j)).length = j := by rw [fldsD_length, List.length_take]; omega
        refine PrimG.appRow (c := c) (fs := fldsD (v.f.take j)) fieldRow fieldZero fieldSl (.inr ⟨by rw [hfl2]; rfl, rfl, by omega, e5⟩) rfl (by simp) (by simp [D.cells]) (fldsD_cells _) (by simp [hfl2, maxLen]; omega) (fun c' h1 h2 => ?_)
        rw [hfl2] at h1 ⊢
        simp (maxSteps := 2000000) (disch := omega) only [go_sem, ↓reduceIte, rowC_drop, ↓hhas]
        refine ⟨(j + 1, c'), ?_, ⟨by simp only; omega, .inr ⟨?_, h2⟩⟩, by simp only; omega⟩
        ·refine Weak.mk ?_ ?_ ?_ <;> simp (maxSteps := 2000000) only [go_sem, ↓reduceIte, Sub, Int.natCast_add, Int.natCast_mul, fcell_succ, frow_succ, take_snoc hx, fldsD_append, fldsD, Fld.d_eq]
        ·simp only [List.length_nil, List.length_cons] at h1
         simp only; omega
      ·have hj' : j = v.f.length := by omega
       have htk : v.f.take j = v.f := List.take_of_length_le (by omega)
       rcases fcell_cases v hc with ⟨e1, e2, e3⟩ | ⟨e1, e2, e3, e4, e5⟩
       ·have hf0 : v.f = [] := List.eq_nil_of_length_eq_zero (by omega)
        rcases hLC with ⟨rfl, hl0⟩ | rfl
        ·simp (maxSteps := 2000000) only [go_sem, ↓reduceIte, e1, e2]
         exact ⟨.nul [.d (.int .i64 v.kind), .d (.int .i64 v.n), .d (.str v.s), .ns], 0, rfl, (fun _ _ _ _ h => by cases h), by simp [XR.ok, AV.dns], _, .inl ⟨rfl, hl0⟩, .inl ⟨hf0, rfl⟩⟩
        ·simp (maxSteps := 2000000) only [go_sem, ↓reduceIte, e1, e2]
         exact ⟨.nul [.d (.int .i64 v.kind), .d (.int .i64 v.n), .d (.str v.s), .d (.list (valsD v.l))], 0, rfl, (fun _ _ _ _ h => by cases h), by simp [XR.ok, AV.dns], _, .inr rfl, .inl ⟨hf0, rfl⟩⟩
       ·have hf0 : v.f ≠ [] := fun e => e3 (by rw [hj', e]; rfl)
        have hjl : j = (fldsD v.f).length := by omega
        rcases hLC with ⟨rfl, hl0⟩ | rfl
        ·simp (maxSteps := 2000000) only [go_sem, ↓reduceIte, e1, e2, htk]
         exact ⟨.row [.d (.int .i64 v.kind), .d (.int .i64 v.n), .d (.str v.s), .ns] 6 (fldsD v.f) c, 44, by rw [hjl]; rfl, (fun _ _ _ _ h => by cases h; rfl), ⟨by simp [AV.dns], fldsD_cells _, by omega, e5⟩, _, .inl ⟨rfl, hl0⟩, .inr ⟨hf0, c, rfl⟩⟩
        ·simp (maxSteps := 2000000) only [go_sem, ↓reduceIte, e1, e2, htk]
         exact ⟨.row [.d (.int .i64 v.kind), .d (.int .i64 v.n), .d (.str v.s), .d (.list (valsD v.l))] 6 (fldsD v.f) c, 44, by rw [hjl]; rfl, (fun _ _ _ _ h => by cases h; rfl), ⟨by simp [AV.dns], fldsD_cells _, by omega, e5⟩, _, .inr rfl, .inr ⟨hf0, c, rfl⟩⟩
  exact lift_value_Copy.ncall rfl hmain
theorem u8_tri (a b : UInt8) : (a < b) ∨ (a = b) ∨ (b < a) := by
 simp only [UInt8.lt_iff_toNat_lt, ← UInt8.toNat_inj]; omega
theorem cmpB : ∀ (a b : List UInt8), (Lib.compareBytes a b < 0 ↔ Op.bytesLess a b = true) ∧ (Lib.compareBytes a b = 0 ↔ a = b)
 | [], [] => by simp [Lib.compareBytes, Op.bytesLess]
 | [], _ :: _ => by simp [Lib.compareBytes, Op.bytesLess]
 | _ :: _, [] => by simp [Lib.compareBytes, Op.bytesLess]
 | a :: x, b :: y => by
  have ih := cmpB x y
  simp only [Lib.compareBytes, Op.bytesLess, List.cons.injEq]
  rcases u8_tri a b with h | rfl | h
  ·have h2 : ¬ a = b := fun e => by subst e; simp only [UInt8.lt_iff_toNat_lt] at h; omega
   simp [h, h2]
  ·have h2 : ¬ a < a := by simp only [UInt8.lt_iff_toNat_lt]; omega
   simp [h2, ih]
  ·have h2 : ¬ a < b := by simp only [UInt8.lt_iff_toNat_lt] at h ⊢; omega
   have h3 : ¬ a = b := fun e => by subst e; simp only [UInt8.lt_iff_toNat_lt] at h; omega
   simp [h, h2, h3]
theorem less_trans : ∀ {a b c : List UInt8}, Op.bytesLess a b = true → Op.bytesLess b c = true → Op.bytesLess a c = true
 | [], [], _, h, _ => by simp [Op.bytesLess] at h
 | [], _ :: _, [], _, h => by simp [Op.bytesLess] at h
 | [], _ :: _, _ :: _, _, _ => by simp [Op.bytesLess]
 | _ :: _, [], _, h, _ => by simp [Op.bytesLess] at h
 | _ :: _, _ :: _, [], _, h => by simp [Op.bytesLess] at h
 | a :: x, b :: y, c :: z, h, k => by
  simp only [Op.bytesLess, Bool.or_eq_true, Bool.and_eq_true, decide_eq_true_eq, beq_iff_eq, UInt8.lt_iff_toNat_lt] at h k ⊢
  rcases h with h | ⟨rfl, h⟩ <;> rcases k with k | ⟨rfl, k⟩
  ·left; omega
  ·exact .inl h
  ·exact .inl k
  ·exact .inr ⟨rfl, less_trans h k⟩
theorem less_irr : ∀ (a : List UInt8), Op.bytesLess a a = false
 | [] => rfl
 | a :: x => by
  have : ¬ a < a := by simp only [UInt8.lt_iff_toNat_lt]; omega
  simp [Op.bytesLess, less_irr x, this]
def L_internal_bytealg_CompareString : LCode :=
 .seq (.reg [Qx 4 (Ki 0)]) (.seq (.reg [Qc 5 0, Qc 6 1, ⟨some 7, .prim .call [.k (.fn (.func 129) [] []), .t 5, .t 6] [], none⟩, Qa 4 7]) .ret)
def R_internal_bytealg_CompareString : List LRes := [.tmp 4]
theorem lift_internal_bytealg_CompareString : Lifts Tryz.prog 115 8 L_internal_bytealg_CompareString R_internal_bytealg_CompareString := ⟨_, _, Tryz.func115, rfl, by kernel_rfl, by kernel_rfl, rfl⟩
def L_strings_Compare : LCode :=
 .seq (.reg [Qx 4 (Ki 0)]) (.seq (.reg [Qc 5 0, Qc 6 1, ⟨some 7, .call 115 [.t 5, .t 6], none⟩, Qa 4 7]) .ret)
def R_strings_Compare : List LRes := [.tmp 4]
theorem lift_strings_Compare : Lifts Tryz.prog 106 8 L_strings_Compare R_strings_Compare := ⟨_, _, Tryz.func106, rfl, by kernel_rfl, by kernel_rfl, rfl⟩
def L_value_Set_1 : LCode :=
 .seq (.reg [⟨some 2, .box (.t 0), none⟩, Qx 4 (Ki 0)]) (.seq (.reg [Q 5 (.fa 0 (.t 2)), Q 6 (.ld false 1 (.t 5)), Qc 7 1, ⟨some 8, .call 106 [.t 6, .t 7], none⟩, Qa 4 8]) .ret)
def R_value_Set_1 : List LRes := [.tmp 4]
theorem lift_value_Set_1 : Lifts Tryz.prog 105 9 L_value_Set_1 R_value_Set_1 := ⟨_, _, Tryz.func105, rfl, by kernel_rfl, by kernel_rfl, rfl⟩
theorem compareString_call (a b : List UInt8) : PCall Tryz.prog 115 [.str a, .str b] (fun r => r = .one (.int .i64 (Lib.compareBytes a b))) := by
 refine lift_internal_bytealg_CompareString.call rfl ?_
 simp (maxSteps := 2000000) only [go_sem, ↓reduceIte, L_internal_bytealg_CompareString, R_internal_bytealg_CompareString]
 refine PrimG.entry Tryz.func129 (by kernel_rfl) (by kernel_rfl) (by kernel_rfl) (e := Extern.BytealgCompare.compare) (by kernel_rfl) (.d (.int .i64 (Lib.compareBytes a b))) (fun G w vs hl hv => ?_) ?_
 ·match vs, hl with
  | [v, u], _ =>
   have h0 : AVR G w (.d (.str a)) v := hv 0 _ rfl
   have h1 : AVR G w (.d (.str b)) u := hv 1 _ rfl
   have h0 := h0.dinv
   have h1 := h1.dinv
   cases h0; cases h1
   exact ⟨_, Lib.run_compareString _ _ w, .d _ _ (.int _ _)⟩
 simp (maxSteps := 2000000) only [go_sem, ↓reduceIte]
theorem compare_call (a b : List UInt8) : PCall Tryz.prog 106 [.str a, .str b] (fun r => r = .one (.int .i64 (Lib.compareBytes a b))) := by
 refine lift_strings_Compare.call rfl ?_
 simp (maxSteps := 2000000) only [go_sem, ↓reduceIte, L_strings_Compare, R_strings_Compare]
 refine CallG.of (compareString_call a b) ?_
 simp (maxSteps := 2000000) only [go_sem, ↓reduceIte]
theorem set1_call (x : Fld) (nm : List UInt8) : PCall Tryz.prog 105 [x.d, .str nm] (fun r => r = .one (.int .i64 (Lib.compareBytes x.name nm))) := by
 rw [Fld.d_eq]
 refine lift_value_Set_1.call rfl ?_
 simp (maxSteps := 2000000) only [go_sem, ↓reduceIte, L_value_Set_1, R_value_Set_1]
 refine CallG.of (compare_call _ _) ?_
 simp (maxSteps := 2000000) only [go_sem, ↓reduceIte]
def srt (l : List Fld) : Prop := ∀ (i j : Nat) (x y : Fld), i < j → l[i]? = some x → l[j]? = some y → Op.bytesLess x.name y.name = true
def posV (nm : List UInt8) : List Fld → Nat
 | [] => 0
 | x :: r => if Op.bytesLess x.name nm then posV nm r + 1 else 0
def hasV (nm : List UInt8) (l : List Fld) : Bool :=
 match l[posV nm l]? with
 | some x => decide (x.name = nm)
 | none => false
theorem posV_le (nm : List UInt8) : ∀ l : List Fld, posV nm l ≤ l.length
 | [] => by simp [posV]
 | x :: r => by simp only [posV, List.length_cons]; split <;> have := posV_le nm r <;> omega
theorem posV_eq (nm : List UInt8) : ∀ (l : List Fld) (k : Nat), k ≤ l.length → (∀ i x, i < k → l[i]? = some x → Op.bytesLess x.name nm = true) → (∀ i x, k ≤ i → l[i]? = some x → Op.bytesLess x.name nm = false) → posV nm l = k
 | [], k, h, _, _ => by simp at h; simp [posV, h]
 | x :: r, 0, _, _, h => by have := h 0 x (by omega) rfl; simp [posV, this]
 | x :: r, k + 1, hk, h1, h2 => by
  have := h1 0 x (by omega) rfl
  have ih := posV_eq nm r k (by simp at hk; omega) (fun i y hi hy => h1 (i + 1) y (by omega) (by simpa using hy)) (fun i y hi hy => h2 (i + 1) y (by omega) (by simpa using hy))
  simp [posV, this, ih]
def L_slices_BinarySearchFunc___foliowright_api_Field_foliowright_api_Field_string_ : LCode :=
 .seq (.reg [Qx 6 (Ki 0), Qx 7 KF]) (.seq (.reg [Qc 12 0, Q 13 (.len false (.t 12)), Qa 8 13]) (.seq (.reg [Qc 14 8, Qx 9 (Ki 0), Qa 10 14]) (.seq (.block 0 (.loop (.seq (.seq (.reg 
 [Qc 15 9, Qc 16 10, Q 17 (.bin .lss (.t 15) (.t 16))]) (.cond (.t 17) .skip (.exit 0))) (.block 1 (.seq (.reg [Qc 18 9, Qc 19 10, Q 20 (.bin .add (.t 18) (.t 19)), Q 21 (.cvI 
 .u64 (.t 20)), Q 22 (.bin .shr (.t 21) (.k (.d (.int .u64 1)))), Q 23 (.cvI .i64 (.t 22)), Qa 11 23]) (.seq (.reg [Qc 24 2, Qc 25 0, Qc 26 11, Q 27 (.ia 6 (.t 25) (.t 26)), Q 28 
 (.ld true 6 (.t 27)), Qc 29 1, ⟨some 30, .prim .call [.t 24, .t 28, .t 29] [], none⟩, Q 31 (.bin .lss (.t 30) (Ki 0))]) (.cond (.t 31) (.reg [Qc 32 11, Q 33 (.bin .add (.t 32) 
 (Ki 1)), Qa 9 33]) (.reg [Qc 34 11, Qa 10 34])))))))) (.seq (.reg [Qc 35 9, Qc 36 9, Qc 37 8, Q 38 (.bin .lss (.t 36) (.t 37)), Qc 39 38, Qd 40 2 39 true, Qd 41 0 39 true, Qd 42 
 9 39 true, Qg 43 (.ia 6 (.t 41) (.t 42)) 39 true, Qg 44 (.ld true 6 (.t 43)) 39 true, Qd 45 1 39 true, ⟨some 46, .prim .call [.t 40, .t 44, .t 45] [], some (39, true)⟩, Qg 47 
 (.bin .eql (.t 46) (Ki 0)) 39 true, Q 48 (.pick (.t 39) (.t 47) KF), Qa 6 35, Qa 7 48]) .ret))))
def R_slices_BinarySearchFunc___foliowright_api_Field_foliowright_api_Field_string_ : List LRes := [.tmp 6, .tmp 7]
theorem lift_slices_BinarySearchFunc___foliowright_api_Field_foliowright_api_Field_string_ : Lifts Tryz.prog 104 49 L_slices_BinarySearchFunc___foliowright_api_Field_foliowright_api_Field_string_ R_slices_BinarySearchFunc___foliowright_api_Field_foliowright_api_Field_string_ := ⟨_, _, Tryz.func104, rfl, by kernel_rfl, by kernel_rfl, rfl⟩
theorem search_call (l : List Fld) (nm : List UInt8) (hs : srt l) (hl : l.length ≤ 1048576) :
  MCallE Tryz.prog 104 [.d (.list (fldsD l)), .d (.str nm), .fn (.func 105) [] []] [] (.tuple [.d (.int .i64 (posV nm l)), .d (.bool (hasV nm l))]) [] := by
 have hfl := fldsD_length l
 refine lift_slices_BinarySearchFunc___foliowright_api_Field_foliowright_api_Field_string_.mcall (by kernel_rfl) rfl ?_
 simp (maxSteps := 2000000) only [go_sem, ↓reduceIte, L_slices_BinarySearchFunc___foliowright_api_Field_foliowright_api_Field_string_, R_slices_BinarySearchFunc___foliowright_api_Field_foliowright_api_Field_string_, hfl]
 refine run_loop (fun y : Nat × Nat => ⟨[(0, .d (.list (fldsD l))), (1, .d (.str nm)), (2, .fn (.func 105) [] []), (8, .d (.int .i64 l.length)), (9, .d (.int .i64 y.1)), (10, .d (.int .i64 y.2))], [], []⟩)
  (fun y => y.1 ≤ y.2 ∧ y.2 ≤ l.length ∧ (∀ i x, i < y.1 → l[i]? = some x → Op.bytesLess x.name nm = true) ∧ (∀ i x, y.2 ≤ i → l[i]? = some x → Op.bytesLess x.name nm = false)) (fun y => y.2 - y.1) (0, l.length) ?_ ?_ ?_
 ·refine Weak.mk ?_ ?_ ?_ <;> simp (maxSteps := 2000000) only [go_sem, ↓reduceIte, Sub, Int.natCast_add, Int.natCast_mul]
 ·exact ⟨by simp, by simp, fun i x hi => by simp at hi, fun i x hi hx => by simp only at hi; rw [List.getElem?_eq_none hi] at hx; cases hx⟩
 ·rintro ⟨i, j⟩ ⟨hij, hj, h1, h2⟩
  simp only at hij hj h1 h2
  have hmid : IntKind.i64.wrap ((IntKind.u64.wrap ((i : Int) + j)).fdiv (2 ^ min 1 IntKind.u64.bits)) = (((i + j) / 2 : Nat) : Int) := by
   have e1 : IntKind.u64.wrap ((i : Int) + j) = ((i + j : Nat) : Int) := by
    rw [IntWalk.u64_in] <;> omega
   have e2 : (2 : Int) ^ min 1 IntKind.u64.bits = 2 := rfl
   rw [e1, e2]
   have e3 : ((i + j : Nat) : Int).fdiv 2 = (((i + j) / 2 : Nat) : Int) := by
    rw [Int.fdiv_eq_ediv_of_nonneg _ (by omega)]; omega
   rw [e3, IntWalk.i64_in] <;> omega
  simp (maxSteps := 2000000) only [run_seq, run_reg, ops_val, pev, St.ev, St.get, aget, reduceCtorEq, ↓reduceIte, Nat.reduceEqDiff, Option.getD_some, PutG_some, St.put, acons, fB, binD, binI, Option.map_some, ops_nil, pop_code, run_cond, BoolG_d, decide_eq_true_eq, run_skip, run_block, fCvI, Int.reduceLT, Int.toNat_one, ops_asg, asgS, fIa, fIaD, AV.rd, D.cells, run_exit, pop_exit_code, pop_exit_goal, pop_exit_blk, ops_guard, St.mark, aset, putO, Bool.not_true, GuardR_d, Bool.false_eq_true, fPick, run_ret, pop_nil, retM_ret, resR, resAL, resA, okRes, AV.simple, passA, AV.wf, Bool.and_self, mkA, objsOf, RetM_some, and_true, IteG]
  refine ⟨fun hlt => ?_, fun hge => ?_⟩
  ·simp (maxSteps := 2000000) (disch := omega) only [IntWalk.i64_in, hmid]
   obtain ⟨x, hx⟩ := get_some (l := l) (i := (i + j) / 2) (by omega)
   have hc := (set1_call x nm).mcallE (by kernel_rfl)
   simp only [List.map_cons, List.map_nil, Res.av] at hc
   rw [Fld.d_eq x] at hc
   simp (maxSteps := 2000000) (disch := omega) only [getI_nat, fldsD_get, hx, Option.map_some, Fld.d_eq, List.length_cons, List.length_nil, Nat.zero_add, Nat.reduceAdd, ↓reduceIte, PutG_some, St.put, acons, ops_val, pev, fLd, St.ev, St.get, aget, Option.getD_some, Nat.le_refl, List.take_succ_cons, List.take_nil, Nat.reduceEqDiff, reduceCtorEq, ops_prim]
   refine PrimG.mcall ([]) ([]) rfl (hc) rfl rfl (by simp only [objsAt, St.obj, aget, AObj.ren, AV.ren, AV.ren1, renL, ren1L, renR, renQ, List.getD_cons_zero, List.getD_cons_succ, and_true, and_self, Nat.reduceEqDiff, ↓reduceIte, reduceCtorEq]) rfl rfl rfl ⟨rfl, rfl⟩ ?_
   simp (maxSteps := 2000000) (disch := omega) only [go_sem, ↓reduceIte]
   obtain ⟨c1, c2⟩ := cmpB x.name nm
   refine ⟨fun hl1 => ⟨((i + j) / 2 + 1, j), ?_, ⟨by simp only; omega, hj, fun k y hk hy => ?_, h2⟩, by simp only; omega⟩, fun hl1 => ⟨(i, (i + j) / 2), ?_, ⟨by simp only; omega, by simp only; omega, h1, fun k y hk hy => ?_⟩, by simp only; omega⟩⟩
   ·refine Weak.mk ?_ ?_ ?_ <;> simp (maxSteps := 2000000) only [go_sem, ↓reduceIte, Sub, Int.natCast_add, Int.natCast_mul]
   ·simp only at hk
    rcases Nat.lt_or_ge k ((i + j) / 2) with h3 | h3
    ·exact less_trans (hs k _ y x h3 hy hx) (c1.1 hl1)
    ·have : k = (i + j) / 2 := by omega
     subst this
     rw [hx] at hy; cases hy; exact c1.1 hl1
   ·refine Weak.mk ?_ ?_ ?_ <;> simp (maxSteps := 2000000) only [go_sem, ↓reduceIte, Sub, Int.natCast_add, Int.natCast_mul]
   ·simp only at hk
    have h4 : Op.bytesLess x.name nm = false := by
     cases h5 : Op.bytesLess x.name nm with
     | false => rfl
     | true => exact absurd (c1.2 h5) hl1
    rcases Nat.lt_or_ge ((i + j) / 2) k with h3 | h3
    ·cases h5 : Op.bytesLess y.name nm with
     | false => rfl
     | true => rw [less_trans (hs _ k x y h3 hx hy) h5] at h4; cases h4
    ·have : k = (i + j) / 2 := by omega
     subst this
     rw [hx] at hy; cases hy; exact h4
  ·have hij' : i = j := by omega
   subst hij'
   have hpos := posV_eq nm l i hj h1 h2
   rw [hpos]
   have hhas : hasV nm l = (match l[i]? with | some x => decide (x.name = nm) | none => false) := by unfold hasV; rw [hpos]
   refine ⟨fun hlt => ?_, fun hge => ?_⟩
   ·obtain ⟨x, hx⟩ := get_some (l := l) (i := i) (by omega)
    have hc := (set1_call x nm).mcallE (by kernel_rfl)
    simp only [List.map_cons, List.map_nil, Res.av] at hc
    rw [Fld.d_eq x] at hc
    simp (maxSteps := 2000000) (disch := omega) only [getI_nat, fldsD_get, hx, Option.map_some, Fld.d_eq, List.length_cons, List.length_nil, Nat.zero_add, Nat.reduceAdd, ↓reduceIte, PutG_some, St.put, acons, ops_guard, St.get, aget, Nat.reduceEqDiff, Option.getD_some, St.mark, aset, putO, Bool.not_true, GuardR_d, ops_val, pev, fLd, St.ev, Nat.le_refl, List.take_succ_cons, List.take_nil, reduceCtorEq, ops_prim]
    refine PrimG.mcall ([]) ([]) rfl (hc) rfl rfl (by simp only [objsAt, St.obj, aget, AObj.ren, AV.ren, AV.ren1, renL, ren1L, renR, renQ, List.getD_cons_zero, List.getD_cons_succ, and_true, and_self, Nat.reduceEqDiff, ↓reduceIte, reduceCtorEq]) rfl rfl rfl ⟨rfl, rfl⟩ ?_
    simp (maxSteps := 2000000) (disch := omega) only [go_sem, ↓reduceIte]
    rw [hhas, hx]
    have c2 := (cmpB x.name nm).2
    by_cases he : x.name = nm
    ·have h0 := c2.2 he
     rw [he] at h0
     simp [he, h0]
    ·have : ¬ Lib.compareBytes x.name nm = 0 := fun e => he (c2.1 e)
     simp [he, this]
   ·have : l[i]? = none := List.getElem?_eq_none (by omega)
    rw [hhas, this]
end Go.Av.Tryz
set_option linter.unusedVariables false
set_option linter.unusedSimpArgs false
namespace Go.Av.Tryz
open Go.Proofs Go.RowKit Go.Lib
section
variable {P : Program}
theorem run_copy_sz (w : World) (dT sT ty elem : TypeId) (sz k b o dLen dCap : Nat) (a : Addr) (sLen sCap : Nat) (cs : List Value)
  (hu : P.underlying dT = some (.slice elem)) (hs : (P.info? elem).map (·.size) = some sz) (hk : k = Nat.min sLen dLen) (hn : cs.length = k * sz)
  (hsrc : ∀ j v, cs[j]? = some v → w.cell? (a.add j) = some v) (hc : ∀ j, j < cs.length → (w.cell? ⟨b, o + j, none⟩).isSome = true) (hf : ∀ j, j < cs.length → w.frozen? ⟨b, o + j, none⟩ = false) (h1 : ∀ v ∈ cs, v.oneCell' = true) :
  (Builtin.copy_ #[dT, sT] ty #[.slice (some ⟨b, o, none⟩) dLen dCap, .slice (some a) sLen sCap]).run P w = .ok (goInt k) (w.setCells b o cs) := by
 have hl := run_loadCells_list (P := P) w a cs hsrc
 have hst := run_storeCells_cells (P := P) b o cs 0 w (by simpa using hc) (by simpa using hf) h1
 cases hq : P.info? elem with
 | none => simp [hq] at hs
 | some i =>
  have hi : i.size = sz := by simpa [hq] using hs
  simp [Builtin.copy_, run_underlying hu, Builtin.lenOf, Builtin.firstCells, sizeOf, typeInfo, hq, hi, ← hk, ← hn, hl, hst]
theorem wp_copy_runJ (w : World) {o : Oper} {a : Act} {K : Act → World → Prop} {Q : Exit → Act → World → Prop} (d s : Operand) (t t' : TypeId)
  (ho : o.op = .call { callee := .builtin .copy, args := #[d, s], argTypes := #[t, t'] }) (v u : Value) (hd : a.eval d = v) (hs : a.eval s = u) {v' : Value} {w' : World}
  (hr : (Builtin.copy_ #[t, t'] o.type #[v, u]).run P w = .ok v' w') (h : K (a.put o.dst v') w') : o.wp P a w K Q := by
 unfold Oper.wp execOp
 simp only [ho, resolve, invoke, builtin, Sem.run_bind, Sem.run_pure, Result.andThen_ok, List.map_toArray, List.map_cons, List.map_nil, hd, hs, hr]
 exact h
theorem wpList_copy_runJ (w : World) {ops : Array Oper} {rest : List Oper} {o : Oper} {a : Act} {Q : Exit → Act → World → Prop} (hgd : o.guard = none) (d s : Operand) (t t' : TypeId)
  (ho : o.op = .call { callee := .builtin .copy, args := #[d, s], argTypes := #[t, t'] }) (v u : Value) (hd : a.eval d = v) (hs : a.eval s = u) {v' : Value} {w' : World}
  (hr : (Builtin.copy_ #[t, t'] o.type #[v, u]).run P w = .ok v' w') (h : wpList P ops Q rest (a.put o.dst v') w') : wpList P ops Q (o :: rest) a w :=
 wpList_plain hgd fun _ hK => wp_copy_runJ w d s t t' ho v u hd hs hr (hK _ _ h)
theorem step_copy_runJ {ops : Array Oper} {o : Oper} {a : Act} {w : World} {K : Act → World → Prop} {Q : Exit → Act → World → Prop} {E : Prop}
  (hg : o.guard = none) (d x : Operand) (dT sT : TypeId) (hop : o.op = Op.call { callee := Callee.builtin Builtin.copy, args := #[d, x], argTypes := #[dT, sT] })
  (v u : Value) (hd : a.eval d = v) (hx : a.eval x = u) {v' : Value} {w' : World} (hr : (Builtin.copy_ #[dT, sT] o.type #[v, u]).run P w = .ok v' w') (hK : K (a.put o.dst v') w') :
  if Region.wanted o (yielded ops a.tmps) = true then Oper.wp P o a w K Q else E := by
 have hw : Region.wanted o (yielded ops a.tmps) = true := by simp [Region.wanted, hg]
 rw [if_pos hw]
 unfold Oper.wp
 simp [execOp, hop, resolve, invoke, builtin, hd, hx, hr, Result.andThen]
 exact hK
theorem run_overlaps_plain (w : World) (tS tR e : TypeId) (ht : P.underlying tS = some (.slice e)) (size : Nat) (hz : ∀ w, (Go.sizeOf e).run P w = .ok size w)
  (a b : Addr) (la ca lb cb : Nat) (hne : a.block ≠ b.block) (tA : TypeId) (kA : Nat) (hsa : w.shape? a.block = some (tA, kA)) (hkA : kA ≠ 0) {cs : Array Value} {el : TypeId} (hb : w.heap[b.block]? = some (.cells cs el (0, 0))) :
  (Extern.SlicesOverlaps.overlaps #[tS, tS] #[tR] #[.slice (some a) la ca, .slice (some b) lb cb]).run P w = .ok (.bool false) w := by
 have hnb : (a.block != b.block) = true := by simpa using hne
 have hnb' : (a.block == b.block) = false := by simpa using hne
 have hsb : w.shape? b.block = some (el, cs.size) := by simp [World.shape?, hb]
 have hfb : w.frozen? b = false := by simp [World.frozen?, hb]
 have hfe : w.frozen? { block := b.block, off := cs.size } = false := by simp [World.frozen?, hb]
 change Sem.run P (α := Value) (do
  let some t := (#[tS, tS] : Array TypeId)[0]? | stuck "slices.overlaps: no parameter types"
  let .slice elem ← underlying t | stuck "slices.overlaps: slice type expected"
  let size ← sizeOf elem
  match (some a : Option Addr), (some b : Option Addr) with
  | some a, some b =>
   if la = 0 ∨ lb = 0 ∨ size = 0 then pure (Value.bool false)
   else if a.block != b.block && (← frozen a) && (← frozen b) then unsupported .addressObserved
   else do
    if a.block != b.block then do
     noView a; noView b
     if ← mayBeOne a b then return Value.bool ((← choose (.extern "sameAddr.stringBytes" 2)) == 1)
    pure (Value.bool (a.block == b.block && a.off < b.off + lb * size && b.off < a.off + la * size))
  | _, _ => pure (Value.bool false)) w = _
 by_cases h0 : la = 0 ∨ lb = 0 ∨ size = 0
 ·simp [run_underlying ht, hz, h0]
 ·cases kA with
  | zero => exact absurd rfl hkA
  | succ kA =>
   cases hfa : w.frozen? a <;> cases hf2 : w.frozen? { block := a.block, off := kA + 1 } <;>
   simp [run_underlying ht, hz, h0, hnb, hnb', frozen, noView, viewAt, mayBeOne, stringish, shape, Sem.run, hsa, hsb, hfa, hf2, hfb, hfe]
theorem heap_setCells (b : Nat) (el : TypeId) (fr : Nat × Nat) : ∀ (vs : List Value) (o : Nat) (w : World) (cur : Array Value), w.heap[b]? = some (.cells cur el fr) → o + vs.length ≤ cur.size →
  ∃ cur', (w.setCells b o vs).heap[b]? = some (.cells cur' el fr) ∧ cur'.toList = cur.toList.take o ++ vs ++ cur.toList.drop (o + vs.length)
 | [], o, w, cur, h, _ => ⟨cur, h, by simp⟩
 | v :: r, o, w, cur, h, hl => by
  simp only [List.length_cons] at hl
  have h1 := heap_setCell_at w b o v h
  obtain ⟨cur', h2, h3⟩ := heap_setCells b el fr r (o + 1) _ _ h1 (by simp; omega)
  refine ⟨cur', h2, ?_⟩
  rw [h3]
  have ho : o < cur.toList.length := by simp; omega
  simp only [Array.toList_setIfInBounds, List.length_cons]
  rw [List.take_add_one, List.drop_set_of_lt (by omega), List.take_set_of_le (Nat.le_refl _)]
  simp only [List.getElem?_set_self ho, Option.toList_some]
  simp [Nat.add_assoc, Nat.add_comm 1]
theorem setCells_other (b k : Nat) (hk : k ≠ b) : ∀ (vs : List Value) (o : Nat) (w : World), (w.setCells b o vs).heap[k]? = w.heap[k]?
 | [], _, _ => rfl
 | v :: r, o, w => by
  show ((w.setCell (at_ b o) v).setCells b (o + 1) r).heap[k]? = _
  rw [setCells_other b k hk r, heap_setCell_ne w b o k v hk]
theorem setCells_size (b : Nat) : ∀ (vs : List Value) (o : Nat) (w : World), (w.setCells b o vs).heap.size = w.heap.size
 | [], _, _ => rfl
 | v :: r, o, w => by
  show ((w.setCell (at_ b o) v).setCells b (o + 1) r).heap.size = _
  rw [setCells_size b r]; simp
end
theorem overlaps_run (w : World) (a b : Addr) (la ca lb cb : Nat) (hne : a.block ≠ b.block) (tA : TypeId) (kA : Nat) (hsa : w.shape? a.block = some (tA, kA)) (hkA : kA ≠ 0) {cs : Array Value} {el : TypeId} (hb : w.heap[b.block]? = some (.cells cs el (0, 0))) :
  (callFunc 116 #[.slice (some a) la ca, .slice (some b) lb cb]).run Tryz.prog w = .ok (.value (.bool false)) w := by
 rw [run_callFunc_extern Tryz.func116 (by kernel_rfl) (by kernel_rfl) (by kernel_rfl) (e := Extern.SlicesOverlaps.overlaps #[39, 39] #[4]) (by kernel_rfl),
  run_overlaps_plain w 39 4 77 Tryz.underlying39 6 (fun w => by kernel_rfl) a b la ca lb cb hne tA kA hsa hkA hb]
 rfl
set_option maxHeartbeats 4000000 in
set_option maxRecDepth 100000 in
theorem insert_end (v v' : Value) (n : Nat) (vb voff vc : Nat) (w w' : World) (base : Option Addr) (c : Nat) (hn : n ≤ c) (hc : c ≤ 9223372036854775807) (hv : v = .slice base n c) (hb : base = none → n = 0)
  (hr : (Builtin.append_ #[39, 39] 39 #[v, .slice (some (at_ vb voff)) 1 vc]).run Tryz.prog w = .ok v' w') :
  Calls Tryz.prog 107 #[v, .int .i64 n, .slice (some (at_ vb voff)) 1 vc] w fun e W => e = .returned v' ∧ W = w' := by
 subst hv
 go_enter Tryz.func107, Tryz.ntmps107
 cases base with
 | none =>
  have h0 := hb rfl
  subst h0
  go_wp2_with (at_builtin; refine Lib.wpList_append_run _ rfl _ _ _ _ rfl _ _ rfl rfl _ _ hr ?_)
  go_ret
  exact ⟨rfl, rfl⟩
 | some a =>
  obtain ⟨ab, ao, asp⟩ := a
  go_wp2_with (at_builtin; refine Lib.wpList_append_run _ rfl _ _ _ _ rfl _ _ rfl rfl _ _ hr ?_)
  all_goals (go_ret; exact ⟨rfl, rfl⟩)
theorem isSome_setCellsJ (b : Nat) (vs : List Value) (o : Nat) (w : World) (h : ∀ j, j < vs.length → (w.cell? ⟨b, o + j, none⟩).isSome = true) (k : Nat) (hk : (w.cell? ⟨b, k, none⟩).isSome = true) : ((w.setCells b o vs).cell? ⟨b, k, none⟩).isSome = true := by
 by_cases hin : o ≤ k ∧ k < o + vs.length
 ·have := World.cell?_setCells_in b vs o w h (k - o) (by omega)
  rw [show o + (k - o) = k by omega] at this
  rw [this]; rfl
 ·rw [World.cell?_setCells_out b vs o w ⟨b, k, none⟩ (fun _ _ => by show k < o ∨ o + vs.length ≤ k; omega)]
  exact hk
set_option maxHeartbeats 4000000 in
set_option maxRecDepth 100000 in
theorem insert_shift (b n c i vb voff vc : Nat) (cs vs : List Value) (w : World) (hi : i < n) (hroom : n + 1 ≤ c) (hc63 : c ≤ 9223372036854775807) (hvb : vb ≠ b) (hcl : cs.length = n * 6) (hvl : vs.length = 6)
  (hcs : ∀ j v, cs[j]? = some v → w.cell? ⟨b, j, none⟩ = some v) (hsp : ∀ j, j < (n + 1) * 6 → (w.cell? ⟨b, j, none⟩).isSome = true) (hfz : ∀ j, w.frozen? ⟨b, j, none⟩ = false)
  (hvs : ∀ j v, vs[j]? = some v → w.cell? ⟨vb, voff + j, none⟩ = some v) (h1c : ∀ v ∈ cs, v.oneCell' = true) (h1v : ∀ v ∈ vs, v.oneCell' = true)
  (tA : TypeId) (kA : Nat) (hsa : w.shape? vb = some (tA, kA)) (hkA : kA ≠ 0) {arr : Array Value} {el : TypeId} (hb : w.heap[b]? = some (.cells arr el (0, 0))) :
  Calls Tryz.prog 107 #[.slice (some ⟨b, 0, none⟩) n c, .int .i64 i, .slice (some ⟨vb, voff, none⟩) 1 vc] w fun e w' =>
   e = .returned (.slice (some ⟨b, 0, none⟩) (n + 1) c) ∧ w' = (w.drew.setCells b ((i + 1) * 6) (cs.drop (i * 6))).setCells b (i * 6) vs := by
 have hz2 : ¬ ((i : Int) = (n : Int)) := by omega
 have hsz : (Tryz.prog.info? 77).map (·.size) = some 6 := by kernel_rfl
 have hov : ∀ lb cb, (callFunc 116 #[.slice (some ⟨vb, voff, none⟩) 1 vc, .slice (some ⟨b, (i + 1) * 6, none⟩) lb cb]).run Tryz.prog w = .ok (.value (.bool false)) w := fun lb cb =>
  overlaps_run w ⟨vb, voff, none⟩ ⟨b, (i + 1) * 6, none⟩ 1 vc lb cb hvb tA kA hsa hkA hb
 have hdl : (cs.drop (i * 6)).length = (n - i) * 6 := by rw [List.length_drop, hcl, Nat.sub_mul]
 have mixed : Tryz.prog.follows .mixedOrders = true := by kernel_rfl
 have hcp1 : ∀ ty dc sc, (Builtin.copy_ #[39, 39] ty #[.slice (some ⟨b, (i + 1) * 6, none⟩) (n + 1 - (i + 1)) dc, .slice (some ⟨b, i * 6, none⟩) (n + 1 - i) sc]).run Tryz.prog w.drew = .ok (goInt ((n - i : Nat) : Int)) (w.drew.setCells b ((i + 1) * 6) (cs.drop (i * 6))) := fun ty dc sc =>
  run_copy_sz w.drew _ _ ty 77 6 (n - i) b ((i + 1) * 6) (n + 1 - (i + 1)) dc ⟨b, i * 6, none⟩ (n + 1 - i) sc (cs.drop (i * 6)) Tryz.underlying39 hsz (by simp only [Nat.min_def]; split <;> omega) hdl
   (fun j v hj => by rw [Addr.add_lit]; exact hcs (i * 6 + j) v (by rwa [List.getElem?_drop] at hj))
   (fun j hj => hsp _ (by omega)) (fun j hj => hfz _) (fun v hv => h1c v (List.mem_of_mem_drop hv))
 obtain ⟨W1, hW1⟩ : ∃ W1, W1 = w.drew.setCells b ((i + 1) * 6) (cs.drop (i * 6)) := ⟨_, rfl⟩
 have hsp1 : ∀ k, k < (n + 1) * 6 → (W1.cell? ⟨b, k, none⟩).isSome = true := fun k hk => by
  rw [hW1]
  exact isSome_setCellsJ b (cs.drop (i * 6)) ((i + 1) * 6) w.drew (fun j hj => hsp _ (by rw [hdl] at hj; omega)) _ (hsp k hk)
 have hcp2 : ∀ (W : World), (∀ x, W.cell? x = W1.cell? x) → (∀ x, W.frozen? x = W1.frozen? x) → ∀ ty dc, (Builtin.copy_ #[39, 39] ty #[.slice (some ⟨b, i * 6, none⟩) (n + 1 - i) dc, .slice (some ⟨vb, voff, none⟩) 1 vc]).run Tryz.prog W = .ok (goInt 1) (W.setCells b (i * 6) vs) := fun W hWc hWf ty dc =>
  run_copy_sz W _ _ ty 77 6 1 b (i * 6) (n + 1 - i) dc ⟨vb, voff, none⟩ 1 vc vs Tryz.underlying39 hsz (by simp only [Nat.min_def]; split <;> omega) (by rw [hvl])
   (fun j v hj => by
    rw [Addr.add_lit, hWc, hW1, World.cell?_setCells_out b _ _ _ _ (fun h _ => absurd h hvb)]
    exact hvs j v hj)
   (fun j hj => by rw [hWc]; exact hsp1 _ (by omega)) (fun j hj => by rw [hWf, hW1, World.frozen?_setCells]; exact hfz _) h1v
 rw [← hW1] at hcp1
 have hw1 : IntKind.i64.wrap ((i : Int) + 1) = (i : Int) + 1 := by rw [IntKind.wrap_i64]; omega
 have hw2 : IntKind.i64.wrap ((n : Int) + 1) = (n : Int) + 1 := by rw [IntKind.wrap_i64]; omega
 have hb1 : (0 : Int) ≤ (i : Int) + 1 := by omega
 have hin : i ≤ n := by omega
 have htn : ((i : Int) + 1).toNat = i + 1 := by omega
 have hb2 : ¬ (c = i + 1) := by omega
 have hb3 : (i : Int) ≤ (n : Int) + 1 := by omega
 have hb4 : ¬ (c = i) := by omega
 go_enter Tryz.func107, Tryz.ntmps107
 go_wp2_with (simp only [hov])
 go_region_law_o (refine step_copy_runJ rfl _ _ 39 39 rfl (.slice (some ⟨b, (i + 1) * 6, none⟩) (n + 1 - (i + 1)) (c - (i + 1))) (.slice (some ⟨b, i * 6, none⟩) (n + 1 - i) (c - i)) (by simp [Act.eval, Act.put]) (by simp [Act.eval, Act.put]) (hcp1 3 (c - (i + 1)) (c - i)) ?_)
 go_wp2_with (refine wpList_copy_runJ _ rfl _ _ 39 39 rfl _ _ rfl rfl (hcp2 _ (fun _ => rfl) (fun _ => rfl) _ _) ?_)
 go_ret
 first | exact ⟨rfl, rfl⟩ | exact ⟨rfl, by rw [hW1]⟩
set_option maxHeartbeats 4000000 in
set_option maxRecDepth 100000 in
theorem insert_grow (b n c i vb voff vc : Nat) (cs vs : List Value) (w : World) (hi : i < n) (hnc : n ≤ c) (hroom : c < n + 1) (hn : n ≤ 1048576) (hvb : vb ≠ b) (hcl : cs.length = n * 6) (hvl : vs.length = 6)
  (hcs : ∀ j v, cs[j]? = some v → w.cell? ⟨b, j, none⟩ = some v)
  (hvs : ∀ j v, vs[j]? = some v → w.cell? ⟨vb, voff + j, none⟩ = some v) (h1c : ∀ v ∈ cs, v.oneCell' = true) (h1v : ∀ v ∈ vs, v.oneCell' = true)
  {ti : TypeInfo} {z : Value} (hi0 : Tryz.prog.info? 77 = some ti) (hz0 : ti.zero = some z) (hzs : z.cells.size = ti.size) (hzo : ∀ x ∈ z.cells.toList, x.oneCell' = true) (hsz6 : ti.size = 6) (hbz : ti.bytes = 96) :
  ∃ ROW : Array Value, ∃ G : Nat, n + 1 ≤ G ∧ G ≤ maxLen ∧ ROW.size = G * 6 ∧ (∀ x ∈ ROW.toList, x.oneCell' = true) ∧ ROW.toList.take (i * 6) = cs.take (i * 6) ∧
  Calls Tryz.prog 107 #[.slice (some ⟨b, 0, none⟩) n c, .int .i64 i, .slice (some ⟨vb, voff, none⟩) 1 vc] w fun e w' =>
   e = .returned (.slice (some ⟨w.heap.size, 0, none⟩) (n + 1) G) ∧ w' = (((w.alloc (.cells ROW 77)).drew.setCells w.heap.size (i * 6) vs).drew).setCells w.heap.size ((i + 1) * 6) (cs.drop (i * 6)) := by
 have hz2 : ¬ ((i : Int) = (n : Int)) := by omega
 have hz3 : (c : Int) < (n : Int) + 1 := by omega
 have hsz : (Tryz.prog.info? 77).map (·.size) = some 6 := by rw [hi0]; simp [hsz6]
 have mixed : Tryz.prog.follows .mixedOrders = true := by kernel_rfl
 have hbw : b < w.heap.size := block_lt_of_cell (hcs 0 _ (List.getElem?_eq_getElem (by omega)))
 have hvw : vb < w.heap.size := block_lt_of_cell (hvs 0 _ (List.getElem?_eq_getElem (by omega)))
 have hkk : (n : Int) + 1 - (i : Int) = ((n + 1 - i : Nat) : Int) := by omega
 have hik : i + (n + 1 - i) = n + 1 := by omega
 have hold : (Builtin.firstCells ti.size i (.slice (some ⟨b, 0, none⟩) i c)).run Tryz.prog w.drew = .ok (cs.take (i * 6)).toArray w.drew := by
  rw [hsz6]
  exact run_firstCells_some w.drew 6 i ⟨b, 0, none⟩ i c (cs.take (i * 6)) (by rw [List.length_take]; omega) (fun j v hj => by
   rw [Addr.add_lit]
   rw [List.getElem?_take] at hj
   split at hj
   ·rw [Nat.zero_add]; exact hcs j v hj
   ·cases hj)
 have hrz : ∀ ty, (Builtin.append_ #[39, 3] ty #[.slice (some ⟨b, 0, none⟩) i c, .int .i64 ((n : Int) + 1 - (i : Int))]).run Tryz.prog w =
   .ok (.slice (some ⟨w.heap.size, 0, none⟩) (n + 1) (grownCap w (n + 1) c 77)) (w.drew.alloc (.cells ((cs.take (i * 6)).toArray ++ Builtin.zeroCells z.cells (n + 1 - i) ++ Builtin.zeroCells z.cells (grownCap w (n + 1) c 77 - (n + 1))) 77)) := fun ty => by
  have h := Lib.run_append_grow_zeros w 39 3 ty 77 ti z .i64 .i64 Tryz.underlying39 Tryz.underlying3 hi0 hz0 (some ⟨b, 0, none⟩) i c (cs.take (i * 6)) hold (n + 1 - i) (by omega) (by omega) (by omega) (by omega) (by rw [hbz]; omega) (by rw [hbz, hik]; exact growslice_fits hroom (by omega))
  rw [hik] at h
  rw [hkk]
  exact h
 obtain ⟨G, hG⟩ : ∃ G, G = grownCap w (n + 1) c 77 := ⟨_, rfl⟩
 obtain ⟨ROW, hROW⟩ : ∃ ROW : Array Value, ROW = (cs.take (i * 6)).toArray ++ Builtin.zeroCells z.cells (n + 1 - i) ++ Builtin.zeroCells z.cells (G - (n + 1)) := ⟨_, rfl⟩
 rw [← hG] at hrz
 rw [← hROW] at hrz
 have hGn : n + 1 ≤ G := by rw [hG]; exact grownCap_ge w _ _ _
 have hGm : G ≤ maxLen := by rw [hG]; exact grownCap_le_maxLen w (n + 1) c 77 (by unfold maxLen; omega)
 have hRs : ROW.size = G * 6 := by
  rw [hROW]
  simp only [Array.size_append, List.size_toArray, size_zeroCells, hzs, hsz6, List.length_take, hcl]
  omega
 have hRt : ROW.toList.take (i * 6) = cs.take (i * 6) := by
  rw [hROW]
  simp only [Array.toList_append, List.append_assoc]
  rw [List.take_append_of_le_length (by simp; omega), List.take_of_length_le (by simp; omega)]
 have hRo : ∀ x ∈ ROW.toList, x.oneCell' = true := fun x hx => by
  rw [hROW] at hx
  simp only [Array.toList_append, List.mem_append] at hx
  rcases hx with (hx | hx) | hx
  ·exact h1c x (List.mem_of_mem_take hx)
  ·exact hzo x (zeroCells_mem hx)
  ·exact hzo x (zeroCells_mem hx)
 refine ⟨ROW, G, hGn, hGm, hRs, hRo, hRt, ?_⟩
 obtain ⟨W1, hW1⟩ : ∃ W1, W1 = w.drew.alloc (.cells ROW 77) := ⟨_, rfl⟩
 rw [← hW1] at hrz
 have hN : ∀ j, j < (n + 1) * 6 → (W1.cell? ⟨w.heap.size, j, none⟩).isSome = true := fun j hj => by
  rw [hW1, World.cell?_alloc_at (w := w.drew) ROW _ w.heap.size j rfl, Array.getElem?_eq_getElem (by omega)]; rfl
 have hNf : ∀ j, W1.frozen? ⟨w.heap.size, j, none⟩ = false := fun j => by rw [hW1]; exact World.frozen?_alloc_at (w := w.drew) ROW _ w.heap.size j rfl
 have hOb : ∀ j v, w.cell? ⟨b, j, none⟩ = some v → W1.cell? ⟨b, j, none⟩ = some v := fun j v h => by rw [hW1, World.cell?_alloc_past (w := w.drew) _ b j hbw]; exact h
 have hOv : ∀ j v, w.cell? ⟨vb, j, none⟩ = some v → W1.cell? ⟨vb, j, none⟩ = some v := fun j v h => by rw [hW1, World.cell?_alloc_past (w := w.drew) _ vb j hvw]; exact h
 have hcpA : ∀ (W : World), (∀ x, W.cell? x = W1.cell? x) → (∀ x, W.frozen? x = W1.frozen? x) → ∀ ty dc, (Builtin.copy_ #[39, 39] ty #[.slice (some ⟨w.heap.size, i * 6, none⟩) (n + 1 - i) dc, .slice (some ⟨vb, voff, none⟩) 1 vc]).run Tryz.prog W = .ok (goInt 1) (W.setCells w.heap.size (i * 6) vs) := fun W hWc hWf ty dc =>
  run_copy_sz W _ _ ty 77 6 1 w.heap.size (i * 6) (n + 1 - i) dc ⟨vb, voff, none⟩ 1 vc vs Tryz.underlying39 hsz (by simp only [Nat.min_def]; split <;> omega) (by rw [hvl])
   (fun j v hj => by rw [Addr.add_lit, hWc]; exact hOv _ v (hvs j v hj))
   (fun j hj => by rw [hWc]; exact hN _ (by omega)) (fun j hj => by rw [hWf]; exact hNf _) h1v
 have hG63 : G ≤ 9223372036854775807 := by unfold maxLen at hGm; omega
 have hGi : ¬ (G = i) := by omega
 have hGim : ¬ (G = i + 1) := by omega
 have hci : ¬ (c = i) := by omega
 have hbN : b ≠ w.heap.size := by omega
 have hdl : (cs.drop (i * 6)).length = (n - i) * 6 := by rw [List.length_drop, hcl, Nat.sub_mul]
 have hcpB : ∀ (W : World), (∀ x, W.cell? x = (W1.setCells w.heap.size (i * 6) vs).cell? x) → (∀ x, W.frozen? x = (W1.setCells w.heap.size (i * 6) vs).frozen? x) → ∀ ty dc sc, (Builtin.copy_ #[39, 39] ty #[.slice (some ⟨w.heap.size, (i + 1) * 6, none⟩) (n + 1 - (i + 1)) dc, .slice (some ⟨b, i * 6, none⟩) (n - i) sc]).run Tryz.prog W = .ok (goInt ((n - i : Nat) : Int)) (W.setCells w.heap.size ((i + 1) * 6) (cs.drop (i * 6))) := fun W hWc hWf ty dc sc =>
  run_copy_sz W _ _ ty 77 6 (n - i) w.heap.size ((i + 1) * 6) (n + 1 - (i + 1)) dc ⟨b, i * 6, none⟩ (n - i) sc (cs.drop (i * 6)) Tryz.underlying39 hsz (by simp only [Nat.min_def]; split <;> omega) hdl
   (fun j v hj => by
    rw [Addr.add_lit, hWc, World.cell?_setCells_out _ _ _ _ _ (fun h _ => absurd h hbN)]
    exact hOb _ v (hcs (i * 6 + j) v (by rwa [List.getElem?_drop] at hj)))
   (fun j hj => by rw [hWc]; exact isSome_setCellsJ _ _ _ _ (fun t ht => hN _ (by omega)) _ (hN _ (by omega)))
   (fun j hj => by rw [hWf, World.frozen?_setCells]; exact hNf _) (fun v hv => h1c v (List.mem_of_mem_drop hv))
 subst hW1
 have hE1 : ∀ x, ((w.alloc (.cells ROW 77)).drew).cell? x = (w.drew.alloc (.cells ROW 77)).cell? x := fun x => rfl
 have hE2 : ∀ x, ((w.alloc (.cells ROW 77)).drew).frozen? x = (w.drew.alloc (.cells ROW 77)).frozen? x := fun x => rfl
 have hF1 : ∀ x, (((w.alloc (.cells ROW 77)).drew.setCells w.heap.size (i * 6) vs).drew).cell? x = ((w.drew.alloc (.cells ROW 77)).setCells w.heap.size (i * 6) vs).cell? x := fun x => rfl
 have hF2 : ∀ x, (((w.alloc (.cells ROW 77)).drew.setCells w.heap.size (i * 6) vs).drew).frozen? x = ((w.drew.alloc (.cells ROW 77)).setCells w.heap.size (i * 6) vs).frozen? x := fun x => rfl
 have hw1 : IntKind.i64.wrap ((i : Int) + 1) = (i : Int) + 1 := by rw [IntKind.wrap_i64]; omega
 have hw2 : IntKind.i64.wrap ((n : Int) + 1) = (n : Int) + 1 := by rw [IntKind.wrap_i64]; omega
 have hw3 : IntKind.i64.wrap ((n : Int) + 1 - i) = (n : Int) + 1 - i := by rw [IntKind.wrap_i64]; omega
 have hb1 : (0 : Int) ≤ (i : Int) + 1 := by omega
 have hin : i ≤ n := by omega
 have htn : ((i : Int) + 1).toNat = i + 1 := by omega
 have hb3 : (i : Int) ≤ (n : Int) := by omega
 clear hkk hik hold hROW hG
 go_enter Tryz.func107, Tryz.ntmps107
 go_wp2_with (first
  | (at_builtin; refine Lib.wpList_append_run _ rfl _ _ _ _ rfl _ _ rfl rfl _ _ (hrz _) ?_)
  | (refine wpList_copy_runJ _ rfl _ _ 39 39 rfl _ _ rfl rfl (hcpA _ hE1 hE2 _ _) ?_)
  | (refine wpList_copy_runJ _ rfl _ _ 39 39 rfl _ _ rfl rfl (hcpB _ (fun _ => rfl) (fun _ => rfl) _ _ _) ?_))
 go_region_law_o (refine step_copy_runJ rfl _ _ 39 39 rfl (.slice (some ⟨w.heap.size, (i + 1) * 6, none⟩) (n + 1 - (i + 1)) (G - (i + 1))) (.slice (some ⟨b, i * 6, none⟩) (n - i) (c - i)) (by simp [Act.eval, Act.put]) (by simp [Act.eval, Act.put]) (hcpB _ hF1 hF2 3 (G - (i + 1)) (c - i)) ?_)
 go_wp2
 go_ret
 exact ⟨rfl, rfl⟩
theorem setCells_rest (b : Nat) : ∀ (vs : List Value) (o : Nat) (w : World), (w.setCells b o vs).os = w.os ∧ (w.setCells b o vs).tape = w.tape ∧ (w.setCells b o vs).output = w.output
 | [], _, _ => ⟨rfl, rfl, rfl⟩
 | v :: r, o, w => by
  have := setCells_rest b r (o + 1) (w.setCell (at_ b o) v)
  exact this
theorem cell_shape {w : World} {b o : Nat} {u : Value} (h : w.cell? (at_ b o) = some u) : ∃ t k, w.shape? b = some (t, k) ∧ k ≠ 0 := by
 simp only [World.cell?, at_] at h
 split at h
 ·rename_i cs t fr hh
  simp at h
  have := (Array.getElem?_eq_some_iff.1 h).1
  exact ⟨t, cs.size, by simp [World.shape?, hh], by omega⟩
 ·cases h
theorem fieldInfo : ∃ ti z, Tryz.prog.info? 77 = some ti ∧ ti.zero = some z ∧ z.cells.size = ti.size ∧ (∀ x ∈ z.cells.toList, x.oneCell' = true) ∧ ti.size = 6 ∧ ti.bytes = 96 := by
 obtain ⟨ti, z, h1, h2, h3, h4⟩ := zeroOne_inv (P := Tryz.prog) (e := 77) (by kernel_rfl)
 have h5 : (Tryz.prog.info? 77).map (fun i => (i.size, i.bytes)) = some (6, 96) := by kernel_rfl
 rw [h1] at h5
 simp at h5
 exact ⟨ti, z, h1, h2, h3, h4, h5.1, h5.2⟩
theorem shift_list {C xs news : List Value} {m i : Nat} (hx : C.take (m * 6) = xs) (hC : (m + 1) * 6 ≤ C.length) (hn : news.length = 6) (hi : i ≤ m) {C1 C2 : List Value}
  (h1 : C1 = C.take ((i + 1) * 6) ++ xs.drop (i * 6) ++ C.drop ((i + 1) * 6 + (xs.drop (i * 6)).length)) (h2 : C2 = C1.take (i * 6) ++ news ++ C1.drop (i * 6 + news.length)) :
  C2.length = C.length ∧ C2.take ((m + 1) * 6) = xs.take (i * 6) ++ news ++ xs.drop (i * 6) ∧ ∀ x ∈ C2, x ∈ C ∨ x ∈ news := by
 have hxl : xs.length = m * 6 := by rw [← hx, List.length_take]; omega
 have hdl : (xs.drop (i * 6)).length = (m - i) * 6 := by rw [List.length_drop, hxl, Nat.sub_mul]
 have hmi : (i + 1) * 6 + (m - i) * 6 = (m + 1) * 6 := by omega
 have htl : (C.take ((i + 1) * 6)).length = (i + 1) * 6 := by rw [List.length_take]; omega
 have e1 : C1.take (i * 6) = xs.take (i * 6) := by
  rw [h1, List.append_assoc, List.take_append_of_le_length (by omega), List.take_take, ← hx, List.take_take]
  congr 1; omega
 have e2 : C1.drop (i * 6 + news.length) = xs.drop (i * 6) ++ C.drop ((m + 1) * 6) := by
  have : i * 6 + news.length = (C.take ((i + 1) * 6)).length := by omega
  rw [this, h1, List.append_assoc, List.drop_left, hdl, hmi]
 rw [e1, e2] at h2
 have htl2 : (xs.take (i * 6)).length = i * 6 := by rw [List.length_take]; omega
 refine ⟨?_, ?_, fun x hx2 => ?_⟩
 ·rw [h2]; simp only [List.length_append, htl2, hn, hdl, List.length_drop]; omega
 ·have : (m + 1) * 6 = (xs.take (i * 6) ++ news ++ xs.drop (i * 6)).length := by simp only [List.length_append, htl2, hn, hdl]; omega
  rw [h2, ← List.append_assoc, this, List.take_left]
 ·have hsub : ∀ y ∈ xs, y ∈ C := fun y hy => by rw [← hx] at hy; exact List.mem_of_mem_take hy
  rw [h2] at hx2
  simp only [List.mem_append] at hx2
  rcases hx2 with (h | h) | h | h
  ·exact .inl (hsub x (List.mem_of_mem_take h))
  ·exact .inr h
  ·exact .inl (hsub x (List.mem_of_mem_drop h))
  ·exact .inl (List.mem_of_mem_drop h)
theorem grow_list {R xs news : List Value} {m i : Nat} (hx : xs.length = m * 6) (hR : R.take (i * 6) = xs.take (i * 6)) (hRl : (m + 1) * 6 ≤ R.length) (hn : news.length = 6) (hi : i ≤ m) {C1 C2 : List Value}
  (h1 : C1 = R.take (i * 6) ++ news ++ R.drop (i * 6 + news.length)) (h2 : C2 = C1.take ((i + 1) * 6) ++ xs.drop (i * 6) ++ C1.drop ((i + 1) * 6 + (xs.drop (i * 6)).length)) :
  C2.length = R.length ∧ C2.take ((m + 1) * 6) = xs.take (i * 6) ++ news ++ xs.drop (i * 6) ∧ ∀ x ∈ C2, x ∈ R ∨ x ∈ news ∨ x ∈ xs := by
 have hdl : (xs.drop (i * 6)).length = (m - i) * 6 := by rw [List.length_drop, hx, Nat.sub_mul]
 have htl : (xs.take (i * 6)).length = i * 6 := by rw [List.length_take]; omega
 rw [hR] at h1
 have hc1 : C1.length = R.length := by rw [h1]; simp only [List.length_append, htl, hn, List.length_drop]; omega
 have e1 : C1.take ((i + 1) * 6) = xs.take (i * 6) ++ news := by
  have : (i + 1) * 6 = (xs.take (i * 6) ++ news).length := by simp only [List.length_append, htl, hn]; omega
  rw [h1, this, List.take_left]
 rw [e1] at h2
 refine ⟨?_, ?_, fun x hx2 => ?_⟩
 ·rw [h2]; simp only [List.length_append, htl, hn, hdl, List.length_drop, hc1]; omega
 ·have : (m + 1) * 6 = (xs.take (i * 6) ++ news ++ xs.drop (i * 6)).length := by simp only [List.length_append, htl, hn, hdl]; omega
  rw [h2, this, List.take_left]
 ·rw [h2] at hx2
  simp only [List.mem_append] at hx2
  rcases hx2 with ((h | h) | h) | h
  ·exact .inr (.inr (List.mem_of_mem_take h))
  ·exact .inr (.inl h)
  ·exact .inr (.inr (List.mem_of_mem_drop h))
  ·have h := List.mem_of_mem_drop h
   rw [h1] at h
   simp only [List.mem_append] at h
   rcases h with (h | h) | h
   ·exact .inr (.inr (List.mem_of_mem_take h))
   ·exact .inr (.inl h)
   ·exact .inl (List.mem_of_mem_drop h)
theorem insSpec : InsSpec Tryz.prog 107 6 := by
 refine ⟨by kernel_rfl, fun w el v m xs i vb voff vc news hown ho hi hm hne hnl hnc => ?_⟩
 obtain ⟨ti, z, q1, q2, q3, q4, q5, q6⟩ := fieldInfo
 have hxl : xs.length = m * 6 := hown.1
 have hnews : ∀ j u, news[j]? = some u → w.cell? ⟨vb, voff + j, none⟩ = some u := fun j u hj => (hnc j u hj).1
 have h1v : ∀ u ∈ news, u.oneCell' = true := fun u hu => by
  obtain ⟨j, hj⟩ := List.getElem?_of_mem hu
  exact (hnc j u hj).2
 have hmax : (1048577 : Nat) ≤ maxLen := by simp [maxLen]
 -- at the end
 have atEnd : ∀ base c, v = .slice base m c → m ≤ c → c ≤ 9223372036854775807 → (base = none → m = 0) → i = m →
   Calls Tryz.prog 107 #[v, .int .i64 i, .slice (some (at_ vb voff)) 1 vc] w fun e w' => ∃ v' el', e = .returned v' ∧ w'.ownsRow 0 el' 6 v' (m + 1) (xs.take (i * 6) ++ news ++ xs.drop (i * 6)) ∧ Grow w w' v v' 0 ∧ OneAll w' v' := fun base c hv hmc hc hb him => by
  subst him
  have hsrc : Src Tryz.prog ti.size 39 (.slice (some (at_ vb voff)) 1 vc) 1 news w := Src.ofSlice w Tryz.underlying39 (at_ vb voff) 1 vc news (by rw [q5, hnl]) (fun j u hj => by rw [at_add]; exact hnews j u hj) h1v
  rw [← q5] at hown
  obtain ⟨v', w', el', r1, r2, r3, r4⟩ := run_append_one (P := Tryz.prog) w 39 39 39 77 el ti z Tryz.underlying39 q1 q2 q3 v i xs hown _ 1 news hsrc (by omega) (by rw [q6]; omega) (by omega) ho q4
  refine (insert_end v v' i vb voff vc w w' base c hmc hc hv hb r1).mono fun e W ⟨he, hW⟩ => ?_
  subst he; subst hW
  refine ⟨v', el', rfl, ?_, { r3 with cells := fun b hb j hj => by omega }, r4⟩
  rw [List.take_of_length_le (by omega), List.drop_of_length_le (by omega), List.append_nil, ← q5]
  exact r2
 rcases hown.2 with ⟨rfl, rfl⟩ | ⟨g, cap, cur, rfl, _, hg, hnc2, hcm, hcs, htake⟩
 ·exact atEnd none 0 rfl (by omega) (by omega) (fun _ => rfl) (by omega)
 ·have hc63 : cap ≤ 9223372036854775807 := by simp only [maxLen] at hcm; omega
  by_cases him : i = m
  ·exact atEnd _ cap rfl hnc2 hc63 (fun h => by cases h) him
  ·have hlt : i < m := by omega
   have hgb : vb ≠ g := fun e => hne (by rw [e]; rfl)
   have hcell : ∀ j u, xs[j]? = some u → w.cell? ⟨g, j, none⟩ = some u := fun j u hj => by
    have := hown.cells (g := g) rfl j u hj
    rw [add_zero_at] at this
    exact this
   have h1c : ∀ u ∈ xs, u.oneCell' = true := fun u hu => by
    rw [← htake] at hu
    exact ho g cur _ _ rfl hg u (List.mem_of_mem_take hu)
   have hcl : cur.toList.length = cap * 6 := by simpa using hcs
   by_cases hroom : m + 1 ≤ cap
   ·obtain ⟨u, hu⟩ : ∃ u, news[0]? = some u := ⟨_, List.getElem?_eq_getElem (by omega)⟩
    obtain ⟨tA, kA, s1, s2⟩ := cell_shape (hnc 0 u hu).1
    refine (insert_shift g m cap i vb voff vc xs news w hlt hroom hc63 hgb hxl hnl hcell (fun j hj => ?_) (fun j => by simp [World.frozen?, hg]) hnews h1c h1v tA kA s1 s2 hg).mono fun e W ⟨he, hW⟩ => ?_
    ·simp only [World.cell?, hg]
     have : j < cur.size := by rw [hcs]; omega
     simp [this]
    ·subst he
     have hdl : (xs.drop (i * 6)).length = (m - i) * 6 := by rw [List.length_drop, hxl, Nat.sub_mul]
     obtain ⟨c1, k1, k2⟩ := heap_setCells g el (0, 0) (xs.drop (i * 6)) ((i + 1) * 6) w.drew cur hg (by rw [hdl, hcs]; omega)
     have hc1 : c1.size = cur.size := by
      have := congrArg List.length k2
      simp only [Array.length_toList, List.length_append, List.length_take, List.length_drop, hdl] at this
      have hxl' := hxl
      omega
     obtain ⟨c2, k3, k4⟩ := heap_setCells g el (0, 0) news (i * 6) _ c1 k1 (by rw [hnl, hc1, hcs]; omega)
     rw [← hW] at k3
     obtain ⟨l1, l2, l3⟩ := shift_list (C := cur.toList) (xs := xs) (news := news) (m := m) (i := i) htake (by rw [hcl]; omega) hnl hi k2 k4
     refine ⟨_, el, rfl, ⟨?_, .inr ⟨g, cap, c2, rfl, Nat.zero_le _, k3, hroom, hcm, ?_, l2⟩⟩, ⟨?_, fun b hb hbb => ?_, fun _ _ j hj => by omega, .inl rfl, ?_, ?_, ?_⟩, fun b arr e2 fr hb hh x hx => ?_⟩
     ·simp only [List.length_append, List.length_take, hdl, hnl, hxl]; omega
     ·have : c2.size = cur.size := by simpa using l1
      rw [this, hcs]
     ·rw [hW, setCells_size, setCells_size]; exact Nat.le_refl _
     ·have : b ≠ g := fun e => hbb (by rw [e]; rfl)
      rw [hW, setCells_other g b this, setCells_other g b this]; rfl
     ·rw [hW, (setCells_rest _ _ _ _).1, (setCells_rest _ _ _ _).1]; rfl
     ·rw [hW, (setCells_rest _ _ _ _).2.1, (setCells_rest _ _ _ _).2.1]; rfl
     ·rw [hW, (setCells_rest _ _ _ _).2.2, (setCells_rest _ _ _ _).2.2]; rfl
     ·simp [Value.ownBlock] at hb; subst hb
      rw [k3] at hh; cases hh
      rcases l3 x hx with h | h
      ·exact ho g cur _ _ rfl hg x h
      ·exact h1v x h
   ·obtain ⟨ROW, G, g1, g2, g3, g4, g5, hcall⟩ := insert_grow g m cap i vb voff vc xs news w hlt hnc2 (by omega) hm hgb hxl hnl hcell hnews h1c h1v q1 q2 q3 q4 q5 q6
    refine hcall.mono fun e W ⟨he, hW⟩ => ?_
    subst he
    have hdl : (xs.drop (i * 6)).length = (m - i) * 6 := by rw [List.length_drop, hxl, Nat.sub_mul]
    have hnew : ((w.alloc (.cells ROW 77)).drew).heap[w.heap.size]? = some (.cells ROW 77 (0, 0)) := heap_alloc_at w _
    obtain ⟨c1, k1, k2⟩ := heap_setCells w.heap.size 77 (0, 0) news (i * 6) _ ROW hnew (by rw [hnl, g3]; omega)
    have hc1 : c1.size = ROW.size := by
     have := congrArg List.length k2
     simp only [Array.length_toList, List.length_append, List.length_take, List.length_drop, hnl] at this
     omega
    obtain ⟨c2, k3, k4⟩ := heap_setCells w.heap.size 77 (0, 0) (xs.drop (i * 6)) ((i + 1) * 6) _ c1 (show (((w.alloc (.cells ROW 77)).drew.setCells w.heap.size (i * 6) news).drew).heap[w.heap.size]? = _ from k1) (by rw [hdl, hc1, g3]; omega)
    rw [← hW] at k3
    have hRl : ROW.toList.length = G * 6 := by simpa using g3
    obtain ⟨l1, l2, l3⟩ := grow_list (R := ROW.toList) (xs := xs) (news := news) (m := m) (i := i) hxl g5 (by rw [hRl]; omega) hnl hi k2 k4
    refine ⟨_, 77, rfl, ⟨?_, .inr ⟨w.heap.size, G, c2, rfl, Nat.zero_le _, k3, g1, g2, ?_, l2⟩⟩, ⟨?_, fun b hb hbb => ?_, fun _ _ j hj => by omega, .inr ⟨_, rfl, Nat.le_refl _⟩, ?_, ?_, ?_⟩, fun b arr e2 fr hb hh x hx => ?_⟩
    ·simp only [List.length_append, List.length_take, hdl, hnl, hxl]; omega
    ·have : c2.size = ROW.size := by simpa using l1
     rw [this, g3]
    ·rw [hW, setCells_size]
     show _ ≤ ((w.alloc (.cells ROW 77)).drew.setCells w.heap.size (i * 6) news).heap.size
     rw [setCells_size]
     show _ ≤ (w.alloc (.cells ROW 77)).heap.size
     simp
    ·have hb' : b ≠ w.heap.size := by omega
     rw [hW, setCells_other _ b hb']
     show ((w.alloc (.cells ROW 77)).drew.setCells w.heap.size (i * 6) news).heap[b]? = _
     rw [setCells_other _ b hb']
     exact heap_alloc_lt w _ hb
    ·rw [hW, (setCells_rest _ _ _ _).1]
     show ((w.alloc (.cells ROW 77)).drew.setCells w.heap.size (i * 6) news).os = _
     rw [(setCells_rest _ _ _ _).1]; rfl
    ·rw [hW, (setCells_rest _ _ _ _).2.1]
     show ((w.alloc (.cells ROW 77)).drew.setCells w.heap.size (i * 6) news).tape = _
     rw [(setCells_rest _ _ _ _).2.1]; rfl
    ·rw [hW, (setCells_rest _ _ _ _).2.2]
     show ((w.alloc (.cells ROW 77)).drew.setCells w.heap.size (i * 6) news).output = _
     rw [(setCells_rest _ _ _ _).2.2]; rfl
    ·simp [Value.ownBlock] at hb; subst hb
     rw [k3] at hh; cases hh
     rcases l3 x hx with h | h | h
     ·exact g4 x h
     ·exact h1v x h
     ·exact h1c x h
theorem copyP (v : Val) (hsm : v.sm 1048576 = true) : PCall Tryz.prog 103 [v.d] (fun r => r = .one v.d) :=
 (copyN _ v (Nat.le_refl _) hsm).pcall fun r hr => by rw [hr.data]
def setF (nm : List UInt8) (x : Val) (f : List Fld) : List Fld := if hasV nm f then f.set (posV nm f) (.mk nm x) else f.take (posV nm f) ++ .mk nm x :: f.drop (posV nm f)
def setV (nm : List UInt8) (x v : Val) : Val := .mk v.kind v.n v.s v.l (setF nm x v.f)
theorem has_get {nm : List UInt8} {f : List Fld} (h : hasV nm f = true) : ∃ y : Fld, f[posV nm f]? = some y ∧ y.name = nm := by
 unfold hasV at h
 split at h
 ·rename_i y hy; exact ⟨y, hy, by simpa using h⟩
 ·cases h
theorem posV_nil (nm : List UInt8) : posV nm [] = 0 := rfl
theorem hasV_nil (nm : List UInt8) : hasV nm [] = false := rfl
theorem srt_nil : srt [] := fun i j x y _ h => by simp at h
theorem fld_mk (nm : List UInt8) (x : Val) : (Fld.mk nm x).d = .agg [.str nm, .int .i64 x.kind, .int .i64 x.n, .str x.s, .list (valsD x.l), .list (fldsD x.f)] := by rw [Fld.d_eq]; rfl
theorem fldsD_take (l : List Fld) (i : Nat) : fldsD (l.take i) = (fldsD l).take i := by simp [fldsD_eq, List.map_take]
theorem fldsD_drop (l : List Fld) (i : Nat) : fldsD (l.drop i) = (fldsD l).drop i := by simp [fldsD_eq, List.map_drop]
theorem setF_ins {nm : List UInt8} {x : Val} {f : List Fld} (h : hasV nm f = false) : fldsD (setF nm x f) = (fldsD f).take (posV nm f) ++ .agg [.str nm, .int .i64 x.kind, .int .i64 x.n, .str x.s, .list (valsD x.l), .list (fldsD x.f)] :: (fldsD f).drop (posV nm f) := by
 rw [setF, h, if_neg (by simp), fldsD_append, fldsD, fld_mk, fldsD_take, fldsD_drop]
theorem setF_set {nm : List UInt8} {x : Val} {f : List Fld} (h : hasV nm f = true) : fldsD (setF nm x f) = (fldsD f).set (posV nm f) (.agg [.str nm, .int .i64 x.kind, .int .i64 x.n, .str x.s, .list (valsD x.l), .list (fldsD x.f)]) := by
 rw [setF, h, if_pos rfl, fldsD_eq, List.map_set, ← fldsD_eq, fld_mk]
theorem setV_d (nm : List UInt8) (x v : Val) : (setV nm x v).d = .agg [.int .i64 v.kind, .int .i64 v.n, .str v.s, .list (valsD v.l), .list (fldsD (setF nm x v.f))] := by rw [Val.d_eq]; rfl
def L_value_Set : LCode :=
 .seq (.reg [⟨some 3, .box (.t 0), none⟩, ⟨some 5, .box (.t 2), none⟩, ⟨some 6, .allo [.int .i64 0, .int .i64 0, .str [], .list [], .list []], none⟩]) (.seq (.reg [Q 9 (.ld true 5 
 (.t 3)), ⟨some 10, .call 103 [.t 9], none⟩, ⟨none, .st 5 (.t 3) (.t 10), none⟩]) (.seq (.reg [Q 12 (.fa 4 (.t 3)), Q 13 (.ld false 1 (.t 12)), Qc 14 1, ⟨some 15, .prim .call [.k 
 (.fn (.func 104) [] []), .t 13, .t 14, .k (.fn (.func 105) [] [])] [], none⟩, Qc 11 15, Q 16 (.ext 0 (.t 11)), Q 17 (.ext 1 (.t 11)), Qa 7 16, Qa 8 17]) (.seq (.seq (.reg [Qc 18 
 8]) (.cond (.t 18) (.dreg [Q 19 (.fa 4 (.t 3)), Q 20 (.ld false 1 (.t 19)), Qc 21 7, Q 22 (.ld true 5 (.t 5)), ⟨some 23, .call 103 [.t 22], none⟩, Q 24 (.ia 6 (.t 20) (.t 21)), Q 
 25 (.fa 1 (.t 24)), ⟨none, .st 5 (.t 25) (.t 23), none⟩]) (.dreg [Q 26 (.fa 4 (.t 3)), Q 27 (.ld false 1 (.t 26)), Qc 28 7, Qc 29 1, Q 30 (.ld true 5 (.t 5)), ⟨some 31, .call 103 
 [.t 30], none⟩, Q 32 (.bld [(0, 1), (1, 5)] [.str [], .int .i64 0, .int .i64 0, .str [], .list [], .list []] [] [(0, .t 29), (1, .t 31)]), ⟨some 33, .bsl 77 6 [.t 32], none⟩, 
 ⟨some 34, .prim .call [.k (.fn (.func 107) [] []), .t 27, .t 28, .t 33] [], none⟩, Q 35 (.fa 4 (.t 3)), ⟨none, .st 1 (.t 35) (.t 34), none⟩]))) (.seq (.reg [Q 36 (.ld true 5 (.t 
 3)), ⟨none, .st 5 (.t 6) (.t 36), none⟩]) .ret))))
def R_value_Set : List LRes := [.cell 6 true 5]
theorem lift_value_Set : Lifts Tryz.prog 87 37 L_value_Set R_value_Set := ⟨_, _, Tryz.func87, rfl, by kernel_rfl, by kernel_rfl, rfl⟩
theorem setP_call (v x : Val) (nm : List UInt8) (hs : srt v.f) (hv : v.sm 1048576 = true) (hx : x.sm 1048576 = true) : PCall Tryz.prog 87 [v.d, .str nm, x.d] (fun r => r = .one (setV nm x v).d) := by
 obtain ⟨_, hll, hfl, hsl, hsf⟩ := Val.sm_iff.1 hv
 have hvl := valsD_length v.l
 have hfl' := fldsD_length v.f
 have hcx := copyP x hx
 rw [Val.d_eq x] at hcx
 refine NCall.pcall (Post := fun r => r.data = (setV nm x v).d) ?_ (fun r hr => by rw [hr])
 refine lift_value_Set.ncall rfl ?_
 rw [Val.d_eq v, Val.d_eq x]
 simp (maxSteps := 2000000) only [go_sem, ↓reduceIte, L_value_Set]
 refine CallG.cstep (CStep.ncall (copyN _ v (Nat.le_refl _) hv) (by rw [Val.d_eq]; rfl) (fun r hok hr => ?_))
 obtain ⟨X, hX, hr⟩ := hr
 rcases hr with ⟨hf0, rfl⟩ | ⟨hf0, c, rfl⟩
 ·rcases hX with ⟨rfl, hl0⟩ | rfl
  ·simp (maxSteps := 2000000) only [go_sem, ↓reduceIte, XR.adopt]
   refine PrimG.mcall ([]) ([]) rfl ((search_call [] nm srt_nil (by simp)).nsArg) rfl rfl (by simp only [objsAt, St.obj, aget, AObj.ren, AV.ren, AV.ren1, renL, ren1L, renR, renQ, List.getD_cons_zero, List.getD_cons_succ, and_true, and_self, Nat.reduceEqDiff, ↓reduceIte, reduceCtorEq]) rfl rfl rfl ⟨rfl, rfl⟩ ?_
   simp (maxSteps := 2000000) only [go_sem, ↓reduceIte, posV_nil, hasV_nil]
   refine CallD.of hcx ?_
   simp (maxSteps := 2000000) (disch := omega) only [go_sem, ↓reduceIte]
   refine PrimG.insert (k := 10) (c := 0) (i := 0) (fs := []) insSpec rfl (.inl ⟨rfl, rfl⟩) rfl rfl rfl (by decide) (by simp) (by simp) (by simp) (fun c' h1 h2 => ?_)
   simp (maxSteps := 2000000) (disch := omega) only [go_sem, ↓reduceIte, rowC_drop]
   refine ⟨.row [.d (.int .i64 v.kind), .d (.int .i64 v.n), .d (.str v.s), .ns] 6 [.agg [.str nm, .int .i64 x.kind, .int .i64 x.n, .str x.s, .list (valsD x.l), .list (fldsD x.f)]] c', 10, rfl, (fun _ _ _ _ h => by cases h; rfl), ⟨by simp [AV.dns], by simp [D.cells], by simpa using h1, h2⟩, ?_⟩
   rw [setV_d, hf0, hl0, setF_ins (hasV_nil nm)]
   rfl
  ·simp (maxSteps := 2000000) only [go_sem, ↓reduceIte, XR.adopt]
   refine PrimG.mcall ([]) ([]) rfl ((search_call [] nm srt_nil (by simp)).nsArg) rfl rfl (by simp only [objsAt, St.obj, aget, AObj.ren, AV.ren, AV.ren1, renL, ren1L, renR, renQ, List.getD_cons_zero, List.getD_cons_succ, and_true, and_self, Nat.reduceEqDiff, ↓reduceIte, reduceCtorEq]) rfl rfl rfl ⟨rfl, rfl⟩ ?_
   simp (maxSteps := 2000000) only [go_sem, ↓reduceIte, posV_nil, hasV_nil]
   refine CallD.of hcx ?_
   simp (maxSteps := 2000000) (disch := omega) only [go_sem, ↓reduceIte]
   refine PrimG.insert (k := 10) (c := 0) (i := 0) (fs := []) insSpec rfl (.inl ⟨rfl, rfl⟩) rfl rfl rfl (by decide) (by simp) (by simp) (by simp) (fun c' h1 h2 => ?_)
   simp (maxSteps := 2000000) (disch := omega) only [go_sem, ↓reduceIte, rowC_drop]
   refine ⟨.row [.d (.int .i64 v.kind), .d (.int .i64 v.n), .d (.str v.s), .d (.list (valsD v.l))] 6 [.agg [.str nm, .int .i64 x.kind, .int .i64 x.n, .str x.s, .list (valsD x.l), .list (fldsD x.f)]] c', 10, rfl, (fun _ _ _ _ h => by cases h; rfl), ⟨by simp [AV.dns], by simp [D.cells], by simpa using h1, h2⟩, ?_⟩
   rw [setV_d, hf0, setF_ins (hasV_nil nm)]
   rfl
 ·rcases hX with ⟨rfl, hl0⟩ | rfl
  ·simp (maxSteps := 2000000) only [go_sem, ↓reduceIte, XR.adopt]
   refine PrimG.callRow (k := 10) (sz := 6) (c := c) (fs := fldsD v.f) rfl rfl rfl (fldsD_cells _) hok.2.2.1 rfl (search_call v.f nm hs hfl) rfl ?_
   simp (maxSteps := 2000000) only [go_sem, ↓reduceIte]
   refine ⟨fun hh => ?_, fun hh => ?_⟩
   ·refine CallD.of hcx ?_
    simp (maxSteps := 2000000) (disch := omega) only [go_sem, ↓reduceIte]
    obtain ⟨y, hy, hyn⟩ := has_get hh
    have hlt := (List.getElem?_eq_some_iff.1 hy).1
    have hrow := rowC_len (fldsD_cells v.f) hok.2.2.1
    have hset := rowC_set (sz := 6) (c := c) (i := posV nm v.f) (a := .str nm) (xs := [.int .i64 y.v.kind, .int .i64 y.v.n, .str y.v.s, .list (valsD y.v.l), .list (fldsD y.v.f)]) (fldsD_cells v.f) (by rw [fldsD_get, hy]; simp only [Option.map_some]; rw [Fld.d_eq, hyn]) (ys := [.int .i64 x.kind, .int .i64 x.n, .str x.s, .list (valsD x.l), .list (fldsD x.f)]) rfl
    refine ⟨⟨by omega, by omega⟩, ?_, ?_⟩
    ·rw [hrow, Int.toNat_natCast]; have := hok.2.2.1; omega
    ·refine ⟨.row [.d (.int .i64 v.kind), .d (.int .i64 v.n), .d (.str v.s), .ns] 6 ((fldsD v.f).set (posV nm v.f) (.agg [.str nm, .int .i64 x.kind, .int .i64 x.n, .str x.s, .list (valsD x.l), .list (fldsD x.f)])) c, 10, ?_, (fun _ _ _ _ h => by cases h; rw [← hset]; rfl), ⟨by simp [AV.dns], ?_, by rw [List.length_set]; exact hok.2.2.1, hok.2.2.2⟩, ?_⟩
     ·show _ = some (AV.sx _)
      rw [List.length_set]; rfl
     ·rw [← setF_set hh]; exact fldsD_cells _
     ·rw [setV_d, hl0, setF_set hh]
      rfl
   ·refine CallD.of hcx ?_
    simp (maxSteps := 2000000) (disch := omega) only [go_sem, ↓reduceIte]
    refine PrimG.insert (k := 10) (c := c) (i := posV nm v.f) (fs := fldsD v.f) insSpec rfl (.inr ⟨rfl, rfl, hok.2.2.1, hok.2.2.2⟩) rfl rfl rfl (by decide) (fldsD_cells _) (by rw [hfl']; exact posV_le _ _) (by omega) (fun c' h1 h2 => ?_)
    simp (maxSteps := 2000000) (disch := omega) only [go_sem, ↓reduceIte, rowC_drop]
    have hins := setF_ins (x := x) hh
    refine ⟨.row [.d (.int .i64 v.kind), .d (.int .i64 v.n), .d (.str v.s), .ns] 6 (fldsD (setF nm x v.f)) c', 10, ?_, (fun _ _ _ _ h => by cases h; rw [hins]; rfl), ⟨by simp [AV.dns], fldsD_cells _, ?_, h2⟩, ?_⟩
    ·have hl : (fldsD (setF nm x v.f)).length = (fldsD v.f).length + 1 := by
      rw [hins, List.length_append, List.length_cons, List.length_take, List.length_drop]; have := posV_le nm v.f; omega
     show _ = some (AV.sx _)
     rw [hl]; rfl
    ·rw [hins, List.length_append, List.length_cons, List.length_take, List.length_drop]; have := posV_le nm v.f; omega
    ·rw [setV_d, hl0]
     rfl
  ·simp (maxSteps := 2000000) only [go_sem, ↓reduceIte, XR.adopt]
   refine PrimG.callRow (k := 10) (sz := 6) (c := c) (fs := fldsD v.f) rfl rfl rfl (fldsD_cells _) hok.2.2.1 rfl (search_call v.f nm hs hfl) rfl ?_
   simp (maxSteps := 2000000) only [go_sem, ↓reduceIte]
   refine ⟨fun hh => ?_, fun hh => ?_⟩
   ·refine CallD.of hcx ?_
    simp (maxSteps := 2000000) (disch := omega) only [go_sem, ↓reduceIte]
    obtain ⟨y, hy, hyn⟩ := has_get hh
    have hlt := (List.getElem?_eq_some_iff.1 hy).1
    have hrow := rowC_len (fldsD_cells v.f) hok.2.2.1
    have hset := rowC_set (sz := 6) (c := c) (i := posV nm v.f) (a := .str nm) (xs := [.int .i64 y.v.kind, .int .i64 y.v.n, .str y.v.s, .list (valsD y.v.l), .list (fldsD y.v.f)]) (fldsD_cells v.f) (by rw [fldsD_get, hy]; simp only [Option.map_some]; rw [Fld.d_eq, hyn]) (ys := [.int .i64 x.kind, .int .i64 x.n, .str x.s, .list (valsD x.l), .list (fldsD x.f)]) rfl
    refine ⟨⟨by omega, by omega⟩, ?_, ?_⟩
    ·rw [hrow, Int.toNat_natCast]; have := hok.2.2.1; omega
    ·refine ⟨.row [.d (.int .i64 v.kind), .d (.int .i64 v.n), .d (.str v.s), .d (.list (valsD v.l))] 6 ((fldsD v.f).set (posV nm v.f) (.agg [.str nm, .int .i64 x.kind, .int .i64 x.n, .str x.s, .list (valsD x.l), .list (fldsD x.f)])) c, 10, ?_, (fun _ _ _ _ h => by cases h; rw [← hset]; rfl), ⟨by simp [AV.dns], ?_, by rw [List.length_set]; exact hok.2.2.1, hok.2.2.2⟩, ?_⟩
     ·show _ = some (AV.sx _)
      rw [List.length_set]; rfl
     ·rw [← setF_set hh]; exact fldsD_cells _
     ·rw [setV_d, setF_set hh]
      rfl
   ·refine CallD.of hcx ?_
    simp (maxSteps := 2000000) (disch := omega) only [go_sem, ↓reduceIte]
    refine PrimG.insert (k := 10) (c := c) (i := posV nm v.f) (fs := fldsD v.f) insSpec rfl (.inr ⟨rfl, rfl, hok.2.2.1, hok.2.2.2⟩) rfl rfl rfl (by decide) (fldsD_cells _) (by rw [hfl']; exact posV_le _ _) (by omega) (fun c' h1 h2 => ?_)
    simp (maxSteps := 2000000) (disch := omega) only [go_sem, ↓reduceIte, rowC_drop]
    have hins := setF_ins (x := x) hh
    refine ⟨.row [.d (.int .i64 v.kind), .d (.int .i64 v.n), .d (.str v.s), .d (.list (valsD v.l))] 6 (fldsD (setF nm x v.f)) c', 10, ?_, (fun _ _ _ _ h => by cases h; rw [hins]; rfl), ⟨by simp [AV.dns], fldsD_cells _, ?_, h2⟩, ?_⟩
    ·have hl : (fldsD (setF nm x v.f)).length = (fldsD v.f).length + 1 := by
      rw [hins, List.length_append, List.length_cons, List.length_take, List.length_drop]; have := posV_le nm v.f; omega
     show _ = some (AV.sx _)
     rw [hl]; rfl
    ·rw [hins, List.length_append, List.length_cons, List.length_take, List.length_drop]; have := posV_le nm v.f; omega
    ·rw [setV_d]
     rfl
def leqB (a b : List UInt8) : Bool := Op.bytesLess a b || decide (a = b)
def refSet (nm : List UInt8) (x : Val) : Bool → List Fld → List Fld
 | laid, [] => if laid then [] else [.mk nm x]
 | laid, y :: r => (if !laid && leqB nm y.name then [.mk nm x] else []) ++ ((if y.name = nm then [] else [y]) ++ refSet nm x (laid || leqB nm y.name) r)
theorem fieldFits : zeroFits Tryz.prog 77 = true := by kernel_rfl
theorem mk_d (k n : Int) (s : List UInt8) (l : List Val) (f : List Fld) : (Val.mk k n s l f).d = .agg [.int .i64 k, .int .i64 n, .str s, .list (valsD l), .list (fldsD f)] := by rw [Val.d_eq]; rfl
def L_foliowrightref_Set : LCode :=
 .seq (.reg [⟨some 3, .box (.t 0), none⟩, ⟨some 5, .box (.t 2), none⟩, ⟨some 6, .allo [.int .i64 0, .int .i64 0, .str [], .list [], .list []], none⟩]) (.seq (.reg [⟨some 7, .nils 77 
 6, none⟩]) (.seq (.reg [Qx 8 KF]) (.seq (.seq (.reg [Qx 9 (Ki 0)]) (.block 0 (.loop (.seq (.seq (.reg [Qc 10 9, Q 11 (.fa 4 (.t 3)), Q 12 (.ld false 1 (.t 11)), Q 13 (.len false 
 (.t 12)), Q 14 (.bin .lss (.t 10) (.t 13))]) (.cond (.t 14) .skip (.exit 0))) (.seq (.block 1 (.seq (.seq (.reg [Qc 17 8, Q 18 (.not (.t 17)), Qc 19 18, Qd 20 1 19 true, Qg 21 
 (.fa 4 (.t 3)) 19 true, Qg 22 (.ld false 1 (.t 21)) 19 true, Qd 23 9 19 true, Qg 24 (.ia 6 (.t 22) (.t 23)) 19 true, Qg 25 (.fa 0 (.t 24)) 19 true, Qg 26 (.ld false 1 (.t 25)) 19 
 true, Qg 27 (.bin .leq (.t 20) (.t 26)) 19 true, Q 28 (.pick (.t 19) (.t 27) KF)]) (.cond (.t 28) (.seq (.reg [Qc 29 7, Qc 30 1, Q 31 (.ld true 5 (.t 5)), Q 32 (.bld [(0, 1), (1, 
 5)] [.str [], .int .i64 0, .int .i64 0, .str [], .list [], .list []] [] [(0, .t 30), (1, .t 31)]), ⟨some 33, .bsl 77 6 [.t 32], none⟩, ⟨some 34, .prim (.bi .append [39, 39]) [.t 
 29, .t 33] [], none⟩, Qa 7 34]) (.reg [Qx 8 KT])) .skip)) (.seq (.reg [Q 35 (.fa 4 (.t 3)), Q 36 (.ld false 1 (.t 35)), Qc 37 9, Q 38 (.ia 6 (.t 36) (.t 37)), Q 39 (.fa 0 (.t 
 38)), Q 40 (.ld false 1 (.t 39)), Qc 41 1, Q 42 (.bin .neq (.t 40) (.t 41))]) (.cond (.t 42) (.reg [Qc 43 7, Q 44 (.fa 4 (.t 3)), Q 45 (.ld false 1 (.t 44)), Qc 46 9, Q 47 (.ia 6 
 (.t 45) (.t 46)), Q 48 (.ld true 6 (.t 47)), ⟨some 49, .bsl 77 6 [.t 48], none⟩, ⟨some 50, .prim (.bi .append [39, 39]) [.t 43, .t 49] [], none⟩, Qa 7 50]) .skip)))) (.reg [Qc 15 
 9, Q 16 (.bin .add (.t 15) (Ki 1)), Qa 9 16])))))) (.seq (.seq (.reg [Qc 51 8, Q 52 (.not (.t 51))]) (.cond (.t 52) (.reg [Qc 53 7, Qc 54 1, Q 55 (.ld true 5 (.t 5)), Q 56 (.bld 
 [(0, 1), (1, 5)] [.str [], .int .i64 0, .int .i64 0, .str [], .list [], .list []] [] [(0, .t 54), (1, .t 55)]), ⟨some 57, .bsl 77 6 [.t 56], none⟩, ⟨some 58, .prim (.bi .append 
 [39, 39]) [.t 53, .t 57] [], none⟩, Qa 7 58]) .skip)) (.seq (.reg [Qc 59 7, Q 60 (.fa 4 (.t 3)), ⟨none, .st 1 (.t 60) (.t 59), none⟩]) (.seq (.reg [Q 61 (.ld true 5 (.t 3)), 
 ⟨none, .st 5 (.t 6) (.t 61), none⟩]) .ret))))))
def R_foliowrightref_Set : List LRes := [.cell 6 true 5]
theorem lift_foliowrightref_Set : Lifts Tryz.prog 93 62 L_foliowrightref_Set R_foliowrightref_Set := ⟨_, _, Tryz.func93, rfl, by kernel_rfl, by kernel_rfl, rfl⟩
theorem setR_call (v x : Val) (nm : List UInt8) (hf : v.f.length ≤ 1048576) : PCall Tryz.prog 93 [v.d, .str nm, x.d] (fun r => r = .one (Val.mk v.kind v.n v.s v.l (refSet nm x false v.f)).d) := by
 have hfl' := fldsD_length v.f
 generalize hR : refSet nm x false v.f = R
 rw [mk_d, Val.d_eq v, Val.d_eq x]
 refine lift_foliowrightref_Set.call rfl ?_
 simp (maxSteps := 2000000) only [go_sem, ↓reduceIte, L_foliowrightref_Set, R_foliowrightref_Set]
 refine run_loop (fun y : Nat × Bool × List Fld => ⟨[(1, .d (.str nm)), (3, .ptr (.l 3) 0), (5, .ptr (.l 5) 0), (6, .ptr (.l 6) 0), (7, .own (.t 7) 77 6 (fldsD y.2.2)), (8, .d (.bool y.2.1)), (9, .d (.int .i64 y.1))],
   [(3, .cells [.d (.int .i64 (v.kind)), .d (.int .i64 v.n), .d (.str v.s), .d (.list (valsD v.l)), .d (.list (fldsD v.f))]),
    (5, .cells [.d (.int .i64 x.kind), .d (.int .i64 x.n), .d (.str x.s), .d (.list (valsD x.l)), .d (.list (fldsD x.f))]),
    (6, .cells [.d (.int .i64 0), .d (.int .i64 0), .d (.str []), .ns, .ns])], []⟩)
  (fun y => y.1 ≤ v.f.length ∧ y.2.2.length ≤ y.1 + (if y.2.1 = true then 1 else 0) ∧ y.2.2 ++ refSet nm x y.2.1 (v.f.drop y.1) = R) (fun y => v.f.length - y.1) (0, false, []) ?_ ?_ ?_
 ·refine Weak.mk ?_ ?_ ?_ <;> simp (maxSteps := 2000000) only [go_sem, ↓reduceIte, Sub, Int.natCast_add, Int.natCast_mul, fldsD]
 ·exact ⟨by simp, by simp, by simpa using hR⟩
 ·rintro ⟨i, b, acc⟩ ⟨hi, hl, hF⟩
  simp only at hi hl hF
  have hal := fldsD_length acc
  have done : ∀ (b : Bool) (acc : List Fld), acc.length ≤ v.f.length + 1 → acc ++ refSet nm x b [] = R → (b = true → acc = R) ∧ (b = false → acc ++ [.mk nm x] = R) := fun b acc _ h => ⟨fun e => by rw [e] at h; simpa [refSet] using h, fun e => by rw [e] at h; simpa [refSet] using h⟩
  by_cases hlt : i < v.f.length
  ·obtain ⟨y, hy⟩ := get_some (l := v.f) (i := i) hlt
   rw [drop_at hy, refSet] at hF
   cases b <;> simp only [if_true, if_false, Bool.false_eq_true] at hl
   ·simp (maxSteps := 2000000) only [go_sem, ↓reduceIte, hfl']
    have hlt' : (i : Int) < (v.f.length : Int) := by omega
    simp (maxSteps := 2000000) (disch := omega) only [go_sem, ↓reduceIte, hlt', getI_nat, fldsD_get, hy, Fld.d_eq]
    refine ⟨fun w1 => ?_, fun w1 => ⟨fun w2 => ?_, fun w2 => ?_⟩⟩
    ·have w1' : leqB nm y.name = true := w1
     refine PrimG.appOwn2 fieldRow fieldFits fieldSl rfl rfl (by simp only [List.length_append, List.length_cons, List.length_nil, hal]; omega) ?_
     simp (maxSteps := 2000000) (disch := omega) only [go_sem, ↓reduceIte, getI_nat, fldsD_get, hy, Fld.d_eq]
     refine ⟨fun w2 => ?_, fun w2 => ?_⟩
     ·refine PrimG.appOwn2 fieldRow fieldFits fieldSl rfl rfl (by simp only [List.length_append, List.length_cons, List.length_nil, hal]; omega) ?_
      simp (maxSteps := 2000000) (disch := omega) only [go_sem, ↓reduceIte]
      refine ⟨(i + 1, true, acc ++ [.mk nm x] ++ [y]), ?_, ⟨by simp only; omega, by simp only [List.length_append, List.length_cons, List.length_nil, if_true, if_false, Bool.false_eq_true]; omega, ?_⟩, by simp only; omega⟩
      ·refine Weak.mk ?_ ?_ ?_ <;> simp (maxSteps := 2000000) only [go_sem, ↓reduceIte, Sub, Int.natCast_add, Int.natCast_mul, fldsD_append, fldsD, fld_mk, Fld.d_eq y, List.append_assoc]
      ·simp only [w1', if_neg w2, Bool.not_false, Bool.not_true, Bool.true_and, Bool.false_and, Bool.false_or, Bool.true_or, if_true, if_false, Bool.false_eq_true, List.append_assoc, List.nil_append, List.cons_append] at hF ⊢
       exact hF
     ·refine ⟨(i + 1, true, acc ++ [.mk nm x]), ?_, ⟨by simp only; omega, by simp only [List.length_append, List.length_cons, List.length_nil, if_true, if_false, Bool.false_eq_true]; omega, ?_⟩, by simp only; omega⟩
      ·refine Weak.mk ?_ ?_ ?_ <;> simp (maxSteps := 2000000) only [go_sem, ↓reduceIte, Sub, Int.natCast_add, Int.natCast_mul, fldsD_append, fldsD, fld_mk, Fld.d_eq y, List.append_assoc]
      ·simp only [w1', if_pos w2, Bool.not_false, Bool.not_true, Bool.true_and, Bool.false_and, Bool.false_or, Bool.true_or, if_true, if_false, Bool.false_eq_true, List.append_assoc, List.nil_append, List.cons_append] at hF ⊢
       exact hF
    ·have w1' : leqB nm y.name = false := by simpa [leqB] using w1
     refine PrimG.appOwn2 fieldRow fieldFits fieldSl rfl rfl (by simp only [List.length_append, List.length_cons, List.length_nil, hal]; omega) ?_
     simp (maxSteps := 2000000) (disch := omega) only [go_sem, ↓reduceIte]
     refine ⟨(i + 1, false, acc ++ [y]), ?_, ⟨by simp only; omega, by simp only [List.length_append, List.length_cons, List.length_nil, if_true, if_false, Bool.false_eq_true]; omega, ?_⟩, by simp only; omega⟩
     ·refine Weak.mk ?_ ?_ ?_ <;> simp (maxSteps := 2000000) only [go_sem, ↓reduceIte, Sub, Int.natCast_add, Int.natCast_mul, fldsD_append, fldsD, fld_mk, Fld.d_eq y, List.append_assoc]
     ·simp only [w1', if_neg w2, Bool.not_false, Bool.not_true, Bool.true_and, Bool.false_and, Bool.false_or, Bool.true_or, if_true, if_false, Bool.false_eq_true, List.append_assoc, List.nil_append, List.cons_append] at hF ⊢
      exact hF
    ·have w1' : leqB nm y.name = false := by simpa [leqB] using w1
     refine ⟨(i + 1, false, acc), ?_, ⟨by simp only; omega, by simp only [List.length_append, List.length_cons, List.length_nil, if_true, if_false, Bool.false_eq_true]; omega, ?_⟩, by simp only; omega⟩
     ·refine Weak.mk ?_ ?_ ?_ <;> simp (maxSteps := 2000000) only [go_sem, ↓reduceIte, Sub, Int.natCast_add, Int.natCast_mul, fldsD_append, fldsD, fld_mk, Fld.d_eq y, List.append_assoc]
     ·simp only [w1', if_pos w2, Bool.not_false, Bool.not_true, Bool.true_and, Bool.false_and, Bool.false_or, Bool.true_or, if_true, if_false, Bool.false_eq_true, List.append_assoc, List.nil_append, List.cons_append] at hF ⊢
      exact hF
   ·simp (maxSteps := 2000000) only [go_sem, ↓reduceIte, hfl']
    have hlt' : (i : Int) < (v.f.length : Int) := by omega
    simp (maxSteps := 2000000) (disch := omega) only [go_sem, ↓reduceIte, hlt', getI_nat, fldsD_get, hy, Fld.d_eq]
    refine ⟨fun w2 => ?_, fun w2 => ?_⟩
    ·refine PrimG.appOwn2 fieldRow fieldFits fieldSl rfl rfl (by simp only [List.length_append, List.length_cons, List.length_nil, hal]; omega) ?_
     simp (maxSteps := 2000000) (disch := omega) only [go_sem, ↓reduceIte]
     refine ⟨(i + 1, true, acc ++ [y]), ?_, ⟨by simp only; omega, by simp only [List.length_append, List.length_cons, List.length_nil, if_true, if_false, Bool.false_eq_true]; omega, ?_⟩, by simp only; omega⟩
     ·refine Weak.mk ?_ ?_ ?_ <;> simp (maxSteps := 2000000) only [go_sem, ↓reduceIte, Sub, Int.natCast_add, Int.natCast_mul, fldsD_append, fldsD, fld_mk, Fld.d_eq y, List.append_assoc]
     ·simp only [if_neg w2, Bool.not_false, Bool.not_true, Bool.true_and, Bool.false_and, Bool.false_or, Bool.true_or, if_true, if_false, Bool.false_eq_true, List.append_assoc, List.nil_append, List.cons_append] at hF ⊢
      exact hF
    ·refine ⟨(i + 1, true, acc), ?_, ⟨by simp only; omega, by simp only [List.length_append, List.length_cons, List.length_nil, if_true, if_false, Bool.false_eq_true]; omega, ?_⟩, by simp only; omega⟩
     ·refine Weak.mk ?_ ?_ ?_ <;> simp (maxSteps := 2000000) only [go_sem, ↓reduceIte, Sub, Int.natCast_add, Int.natCast_mul, fldsD_append, fldsD, fld_mk, Fld.d_eq y, List.append_assoc]
     ·simp only [if_pos w2, Bool.not_false, Bool.not_true, Bool.true_and, Bool.false_and, Bool.false_or, Bool.true_or, if_true, if_false, Bool.false_eq_true, List.append_assoc, List.nil_append, List.cons_append] at hF ⊢
      exact hF
  ·simp (maxSteps := 2000000) only [go_sem, ↓reduceIte, hfl']
   have hlt' : ¬ (i : Int) < (v.f.length : Int) := by omega
   simp (maxSteps := 2000000) (disch := omega) only [go_sem, ↓reduceIte, hlt']
   rw [List.drop_eq_nil_of_le (by omega)] at hF
   have hl2 : acc.length ≤ i + 1 := by revert hl; split <;> omega
   obtain ⟨d1, d2⟩ := done b acc (by omega) hF
   cases b
   ·simp (maxSteps := 2000000) only [go_sem, ↓reduceIte]
    refine PrimG.appOwn2 fieldRow fieldFits fieldSl rfl rfl (by simp only [List.length_append, List.length_cons, List.length_nil, hal]; omega) ?_
    simp (maxSteps := 2000000) (disch := omega) only [go_sem, ↓reduceIte]
    rw [← d2 rfl, fldsD_append, fldsD, fld_mk, fldsD]
   ·simp (maxSteps := 2000000) only [go_sem, ↓reduceIte]
    rw [← d1 rfl]
/-! ### Blanks, words -/
def signs10 : List UInt8 := [40, 41, 60, 62, 91, 93, 123, 125, 47, 37]
def signB (c : UInt8) : Bool := decide (c ∈ signs10)
def skipF (note : Bool) : List UInt8 → Nat → Nat
 | [], at_ => at_
 | c :: r, at_ =>
  if note = true then skipF (decide (c.toNat ≠ 10) && decide (c.toNat ≠ 13)) r (at_ + 1)
  else if c.toNat = 37 then skipF true r (at_ + 1)
  else if blankB c.toNat = true then skipF false r (at_ + 1)
  else at_
def skipP (s : List UInt8) (at_ : Nat) : Nat := skipF false (s.drop at_) at_
def wordL (s : List UInt8) : List UInt8 := s.takeWhile fun c => !blankB c.toNat && !signB c
def wordP (s : List UInt8) (at_ : Nat) : List UInt8 := wordL (s.drop at_)
def clampP (s : List UInt8) (n : Int) : Nat := (min (max n 0) s.length).toNat
theorem skipF_le : ∀ (s : List UInt8) (b : Bool) (k : Nat), k ≤ skipF b s k ∧ skipF b s k ≤ k + s.length
 | [], b, k => by simp [skipF]
 | c :: r, b, k => by
  unfold skipF
  simp only [List.length_cons]
  split
  ·have := skipF_le r (decide (c.toNat ≠ 10) && decide (c.toNat ≠ 13)) (k + 1); omega
  ·split
   ·have := skipF_le r true (k + 1); omega
   ·split
    ·have := skipF_le r false (k + 1); omega
    ·omega
theorem skipP_le {s : List UInt8} {k : Nat} (h : k ≤ s.length) : k ≤ skipP s k ∧ skipP s k ≤ s.length := by
 have := skipF_le (s.drop k) false k
 rw [List.length_drop] at this
 unfold skipP
 omega
def stopL : List UInt8 → Prop
 | [] => True
 | c :: _ => c.toNat ≠ 37 ∧ blankB c.toNat = false
theorem skipF_stop : ∀ (s : List UInt8) (b : Bool) (k : Nat), stopL (s.drop (skipF b s k - k))
 | [], b, k => by simp [skipF, stopL]
 | c :: r, b, k => by
  have step : ∀ b', stopL (r.drop (skipF b' r (k + 1) - (k + 1))) → stopL ((c :: r).drop (skipF b' r (k + 1) - k)) := fun b' h => by
   have := (skipF_le r b' (k + 1)).1
   rw [show skipF b' r (k + 1) - k = (skipF b' r (k + 1) - (k + 1)) + 1 by omega, List.drop_succ_cons]
   exact h
  unfold skipF
  by_cases h1 : b = true
  ·rw [if_pos h1]; exact step _ (skipF_stop r _ (k + 1))
  ·rw [if_neg h1]
   by_cases h2 : c.toNat = 37
   ·rw [if_pos h2]; exact step _ (skipF_stop r _ (k + 1))
   ·rw [if_neg h2]
    by_cases h3 : blankB c.toNat = true
    ·rw [if_pos h3]; exact step _ (skipF_stop r _ (k + 1))
    ·rw [if_neg h3, Nat.sub_self, List.drop_zero]
     exact ⟨h2, by simpa using h3⟩
theorem skipP_stop (s : List UInt8) (k : Nat) {c : UInt8} (h : s[skipP s k]? = some c) : c.toNat ≠ 37 ∧ blankB c.toNat = false := by
 have h1 := skipF_stop (s.drop k) false k
 have h2 := (skipF_le (s.drop k) false k).1
 rw [List.drop_drop, show k + (skipF false (s.drop k) k - k) = skipP s k by unfold skipP; omega, drop_at h] at h1
 exact h1
theorem skipP_idem (s : List UInt8) (k : Nat) : skipP s (skipP s k) = skipP s k := by
 cases h : s[skipP s k]? with
 | none =>
  have : s.drop (skipP s k) = [] := List.drop_eq_nil_of_le (List.getElem?_eq_none_iff.1 h)
  generalize skipP s k = q at this
  unfold skipP
  rw [this, skipF]
 | some c =>
  obtain ⟨h1, h2⟩ := skipP_stop s k h
  generalize skipP s k = q at h
  unfold skipP
  rw [drop_at h, skipF]
  simp [h1, h2]
theorem wordP_len (s : List UInt8) (k : Nat) : (wordP s k).length ≤ s.length - k := by
 have := (List.takeWhile_sublist (fun c : UInt8 => !blankB c.toNat && !signB c) (l := s.drop k)).length_le
 rw [List.length_drop] at this
 exact this
/-! ### Names, strings -/
def nameF : List UInt8 → List UInt8 → Option (List UInt8)
 | [], b => some b
 | c :: r, b =>
  if c.toNat = 35 then
   match r with
   | x :: y :: q => if hexI x.toNat < 0 ∨ hexI y.toNat < 0 then none else nameF q (b ++ [byteI (16 * hexI x.toNat + hexI y.toNat)])
   | _ => none
  else nameF r (b ++ [c])
def octB (c : UInt8) : Bool := decide (48 ≤ c.toNat) && decide (c.toNat ≤ 55)
def oct1 (e : UInt8) : Int := (e.toNat : Int) - 48
def octG : Nat → Int → List UInt8 → Nat → Int × Nat
 | 0, v, _, k => (v, k)
 | _ + 1, v, [], k => (v, k)
 | m + 1, v, x :: q, k => if octB x = true then octG m (8 * v + oct1 x) q (k + 1) else (v, k)
theorem octG_stop {m : Nat} {v : Int} {t : List UInt8} {k : Nat} (h : ∀ x q, t = x :: q → octB x = false) : octG m v t k = (v, k) := by
 match m, t with
 | 0, _ => rfl
 | m + 1, [] => rfl
 | m + 1, x :: q => rw [octG, if_neg (by simp [h x q rfl])]
def octL (e : UInt8) (r : List UInt8) : Option UInt8 × Nat := (some (byteI (octG 2 (oct1 e) r 1).1), (octG 2 (oct1 e) r 1).2)
def escL : List UInt8 → Option UInt8 × Nat
 | [] => (none, 1)
 | e :: r =>
  if e.toNat = 110 then (some 10, 1) else if e.toNat = 114 then (some 13, 1) else if e.toNat = 116 then (some 9, 1) else if e.toNat = 98 then (some 8, 1) else if e.toNat = 102 then (some 12, 1)
  else if e.toNat = 10 then (none, 1)
  else if e.toNat = 13 then (if r.head?.map UInt8.toNat = some 10 then (none, 2) else (none, 1))
  else if octB e = false then (some e, 1)
  else octL e r
def litF : Nat → Nat → List UInt8 → List UInt8 → Nat → Option (List UInt8 × Nat)
 | _, _, [], _, _ => none
 | k + 1, d, _ :: r, b, p => litF k d r b (p + 1)
 | 0, d, c :: r, b, p =>
  if c.toNat = 92 then (if r = [] then none else litF (escL r).2 d r (b ++ (escL r).1.toList) (p + 1))
  else if c.toNat = 41 then (if d ≤ 1 then some (b, p + 1) else litF 0 (d - 1) r (b ++ [c]) (p + 1))
  else if c.toNat = 40 then litF 0 (d + 1) r (b ++ [c]) (p + 1)
  else litF 0 d r (b ++ [c]) (p + 1)
theorem litF_skip : ∀ (k : Nat) {d : Nat} {t b : List UInt8} {p : Nat}, k ≤ t.length → litF k d t b p = litF 0 d (t.drop k) b (p + k)
 | 0, _, _, _, _, _ => rfl
 | k + 1, d, [], b, p, h => by simp at h
 | k + 1, d, c :: r, b, p, h => by
  rw [litF, litF_skip k (by simpa using h), List.drop_succ_cons]
  congr 1; omega
/-! ### Values -/
inductive RV where
 | ok (v : Val) (k : Nat)
 | bad (e : Nat)
def numV (n : Int) : Val := .mk 2 n [] [] []
def strV (s : List UInt8) : Val := .mk 3 0 s [] []
def namV (s : List UInt8) : Val := .mk 4 0 s [] []
def lisV (l : List Val) : Val := .mk 5 0 [] l []
def dicV (f : List Fld) : Val := .mk 6 0 [] [] f
def digF : List UInt8 → Nat → Option Nat
 | [], n => some n
 | c :: r, n => if c.toNat < 48 ∨ 57 < c.toNat then none else digF r (10 * n + (c.toNat - 48))
def objF (w : List UInt8) : Option Nat :=
 if w.length < 1 ∨ 2 < w.length ∨ w.head?.map UInt8.toNat = some 48 then none
 else match digF w 0 with
  | none => none
  | some n => if n ≤ 60 then some n else none
def refAt (s : List UInt8) (at_ : Nat) : Option (Nat × Nat) :=
 match objF (wordP s at_) with
 | none => none
 | some n =>
  let i := skipP s (at_ + (wordP s at_).length)
  if wordP s i = [48] then
   let j := skipP s (i + 1)
   if wordP s j = [82] then some (n, j + 1) else none
  else none
def litAt (s : List UInt8) (at_ : Nat) : RV :=
 match litF 0 1 (s.drop at_) [] at_ with
 | none => .bad 5
 | some (b, k) => if b.length ≤ 200 then .ok (strV b) k else .bad 2
def hexAt (s : List UInt8) (at_ : Nat) : RV :=
 if (unhexF (s.drop at_) (-1) []).2 = 0 then (if (unhexF (s.drop at_) (-1) []).1.length ≤ 200 then .ok (strV (unhexF (s.drop at_) (-1) []).1) (at_ + gtEnd (s.drop at_)) else .bad 2)
 else .bad (unhexF (s.drop at_) (-1) []).2
def nameAt (s : List UInt8) (at_ : Nat) : Option (List UInt8 × Nat) :=
 match nameF (wordP s (at_ + 1)) [] with
 | none => none
 | some b => if nameMay b = true then some (b, at_ + 1 + (wordP s (at_ + 1)).length) else none
def wordV (s : List UInt8) (at_ : Nat) : RV :=
 if wordP s at_ = [110, 117, 108, 108] then .ok zeroV (at_ + 4)
 else if wordP s at_ = [116, 114, 117, 101] then .ok (.mk 1 1 [] [] []) (at_ + 4)
 else if wordP s at_ = [102, 97, 108, 115, 101] then .ok (.mk 1 0 [] [] []) (at_ + 5)
 else match refAt s at_ with
  | some (n, k) => .ok (.mk 7 n [] [] []) k
  | none => if (parseF (wordP s at_)).2 = 0 then .ok (numV (parseF (wordP s at_)).1) (at_ + (wordP s at_).length) else .bad (parseF (wordP s at_)).2
def listF (rd : Nat → RV) (s : List UInt8) : Nat → List Val → Nat → RV
 | 0, _, _ => .bad 2
 | m + 1, acc, at_ =>
  match s[skipP s at_]? with
  | none => .bad 5
  | some c =>
   if c.toNat = 93 then .ok (lisV acc) (skipP s at_ + 1)
   else match rd (skipP s at_) with
    | .bad e => .bad e
    | .ok x k => listF rd s m (acc ++ [x]) k
def dictF (rd : Nat → RV) (s : List UInt8) : Nat → List Fld → Nat → RV
 | 0, _, _ => .bad 2
 | m + 1, acc, at_ =>
  match s[skipP s at_]? with
  | none => .bad 5
  | some c =>
   if c.toNat = 62 ∧ s[skipP s at_ + 1]? = some 62 then .ok (dicV acc) (skipP s at_ + 2)
   else if c.toNat ≠ 47 then .bad 4
   else match nameAt s (skipP s at_) with
    | none => .bad 4
    | some (nm, k) => match rd k with
     | .bad e => .bad e
     | .ok x k' => if (getV nm acc).isSome = true then .bad 3 else dictF rd s m (setF nm x acc) k'
def readF : Nat → List UInt8 → Nat → RV
 | d, s, at_ =>
  match s[skipP s at_]? with
  | none => .bad 5
  | some c =>
   match d with
   | 0 => .bad 2
   | d + 1 =>
    if c.toNat = 47 then (match nameAt s (skipP s at_) with
     | none => .bad 4
     | some (b, k) => .ok (namV b) k)
    else if c.toNat = 40 then litAt s (skipP s at_ + 1)
    else if c.toNat = 60 ∧ s[skipP s at_ + 1]? = some 60 then dictF (readF d s) s 301 [] (skipP s at_ + 2)
    else if c.toNat = 60 then hexAt s (skipP s at_ + 1)
    else if c.toNat = 91 then listF (readF d s) s 301 [] (skipP s at_ + 1)
    else if signB c = true then .bad 4
    else wordV s (skipP s at_)
def valueP (s : List UInt8) (at_ : Int) : RV :=
 if 60000 < s.length ∨ at_ < 0 ∨ (s.length : Int) < at_ then .bad 1
 else match readF 8 s at_.toNat with
  | .bad e => .bad e
  | .ok v k => if faultV v = 0 then .ok v k else .bad (faultV v)
open Go.Shelf
set_option maxRecDepth 100000
def containsLays_ren : Go.Shelf.Ren := ⟨fun | 144 => 65 | 143 => 90 | 219 => 109 | 217 => 114 | 225 => 118 | 224 => 119 | 267 => 120 | 266 => 128 | 314 => 131 | n => n, fun | 9 => 9 | 4 => 4 | 3 => 3 | 5 => 5 | 46 => 106 | 146 => 144 | 51 => 143 | n => n, fun | 1 => 0 | n => n⟩
theorem containsLays : Go.Proofs.LaysM.n144 Tryz.prog containsLays_ren where
 mixed := by kernel_rfl
 f143 := Tryz.func90.trans (congrArg some (by kernel_rfl))
 f144 := Tryz.func65.trans (congrArg some (by kernel_rfl))
 f217 := Tryz.func114.trans (congrArg some (by kernel_rfl))
 f219 := Tryz.func109.trans (congrArg some (by kernel_rfl))
 f224 := Tryz.func119.trans (congrArg some (by kernel_rfl))
 f225 := Tryz.func118.trans (congrArg some (by kernel_rfl))
 f266 := Tryz.func128.trans (congrArg some (by kernel_rfl))
 f267 := Tryz.func120.trans (congrArg some (by kernel_rfl))
 f314 := Tryz.func131.trans (congrArg some (by kernel_rfl))
 t3 := Tryz.underlying3
 a3 := Tryz.isAgg3
 z3 := Tryz.sizeOf3
 v3 := Tryz.zeroValue3
 t4 := Tryz.underlying4
 a4 := Tryz.isAgg4
 z4 := Tryz.sizeOf4
 v4 := Tryz.zeroValue4
 t5 := Tryz.underlying5
 a5 := Tryz.isAgg5
 z5 := Tryz.sizeOf5
 v5 := Tryz.zeroValue5
 t9 := Tryz.underlying9
 a9 := Tryz.isAgg9
 z9 := Tryz.sizeOf9
 v9 := Tryz.zeroValue9
 t46 := Tryz.underlying106
 a46 := Tryz.isAgg106
 z46 := Tryz.sizeOf106
 v46 := Tryz.zeroValue106
 t51 := Tryz.underlying143
 a51 := Tryz.isAgg143
 z51 := Tryz.sizeOf143
 v51 := Tryz.zeroValue143
 t146 := Tryz.underlying144
 a146 := Tryz.isAgg144
 z146 := Tryz.sizeOf144
 v146 := Tryz.zeroValue144
 g1 := by kernel_rfl
 i3 := by kernel_rfl
 i4 := by kernel_rfl
 i5 := by kernel_rfl
 i9 := by kernel_rfl
 i46 := by kernel_rfl
 i51 := by kernel_rfl
 i146 := by kernel_rfl
 m1 := by kernel_rfl
 s1_3 := fun w h => Go.Proofs.cell_of_shapedOpen_int (zero := #[.int .i64 0]) (t := 3) h (of_decide_eq_true (by kernel_rfl)) (by kernel_rfl) rfl (by kernel_rfl) (by kernel_rfl) Tryz.underlying3
theorem contains_call (s sub : List UInt8) (hs : s.length < 4294967281) : PCall Tryz.prog 65 [.str s, .str sub] (fun r => r = .one (.bool (Lib.contains s sub))) := by
 intro f w vs hI ht hsz hrd
 have hv : vs = #[.string ⟨s.toArray⟩, .string ⟨sub.toArray⟩] := by
  have h1 := hrd 0 _ rfl
  have h2 := hrd 1 _ rfl
  match vs, hsz with
  | ⟨[v, u]⟩, _ => cases h1; cases h2; rfl
 subst hv
 obtain ⟨m, hm⟩ := hI.2 0 (by kernel_rfl)
 refine (Any.strings_Contains containsLays.ton144 ⟨s.toArray⟩ ⟨sub.toArray⟩ m w (by show s.toArray.size < _; simpa using hs) hm).mono fun e w' ⟨he, hw⟩ => ?_
 subst hw
 exact ⟨_, _, f, rfl, he, .bool _, Nat.le_refl _, fun b hb => ⟨rfl, rfl⟩, ht, rfl, rfl, rfl⟩
def L_foliowrightref_special : LCode :=
 .seq (.reg [Qx 2 KF]) (.seq (.reg [Qc 3 0, Q 4 (.bin .eql (.t 3) (Kb 40)), Qc 5 4, Qd 6 0 5 false, Qg 7 (.bin .eql (.t 6) (Kb 41)) 5 false, Q 8 (.pick (.t 5) KT (.t 7)), Qc 9 8, Qd 
 10 0 9 false, Qg 11 (.bin .eql (.t 10) (Kb 60)) 9 false, Q 12 (.pick (.t 9) KT (.t 11)), Qc 13 12, Qd 14 0 13 false, Qg 15 (.bin .eql (.t 14) (Kb 62)) 13 false, Q 16 (.pick (.t 
 13) KT (.t 15)), Qc 17 16, Qd 18 0 17 false, Qg 19 (.bin .eql (.t 18) (Kb 91)) 17 false, Q 20 (.pick (.t 17) KT (.t 19)), Qc 21 20, Qd 22 0 21 false, Qg 23 (.bin .eql (.t 22) (Kb 
 93)) 21 false, Q 24 (.pick (.t 21) KT (.t 23)), Qc 25 24, Qd 26 0 25 false, Qg 27 (.bin .eql (.t 26) (Kb 123)) 25 false, Q 28 (.pick (.t 25) KT (.t 27)), Qc 29 28, Qd 30 0 29 
 false, Qg 31 (.bin .eql (.t 30) (Kb 125)) 29 false, Q 32 (.pick (.t 29) KT (.t 31)), Qc 33 32, Qd 34 0 33 false, Qg 35 (.bin .eql (.t 34) (Kb 47)) 33 false, Q 36 (.pick (.t 33) 
 KT (.t 35)), Qc 37 36, Qd 38 0 37 false, Qg 39 (.bin .eql (.t 38) (Kb 37)) 37 false, Q 40 (.pick (.t 37) KT (.t 39)), Qa 2 40]) .ret)
def R_foliowrightref_special : List LRes := [.tmp 2]
theorem lift_foliowrightref_special : Lifts Tryz.prog 41 41 L_foliowrightref_special R_foliowrightref_special := ⟨_, _, Tryz.func41, rfl, by kernel_rfl, by kernel_rfl, rfl⟩
theorem special_call (c : UInt8) : PCall Tryz.prog 41 [.int .u8 c.toNat] (fun r => r = .one (.bool (signB c))) := by
 have e : ∀ b : Bool, (b = true ↔ c.toNat = 40 ∨ c.toNat = 41 ∨ c.toNat = 60 ∨ c.toNat = 62 ∨ c.toNat = 91 ∨ c.toNat = 93 ∨ c.toNat = 123 ∨ c.toNat = 125 ∨ c.toNat = 47 ∨ c.toNat = 37) → Res.one (.bool b) = .one (.bool (signB c)) := fun b hb => by
  congr 2
  rw [Bool.eq_iff_iff, hb]
  simp only [signB, signs10, List.mem_cons, List.not_mem_nil, or_false, decide_eq_true_eq, ← UInt8.toNat_inj]
  rfl
 refine lift_foliowrightref_special.call rfl ?_
 simp (maxSteps := 2000000) only [go_sem, ↓reduceIte, L_foliowrightref_special, R_foliowrightref_special]
 repeat' (first | apply And.intro | intro _)
 all_goals
  apply e
  first
  | (simp only [true_iff]; omega)
  | (simp only [Bool.false_eq_true, false_iff]; omega)
  | (simp only [decide_eq_true_eq]; omega)
def L_parse_sign : LCode :=
 .seq (.reg [Qx 2 KF]) (.seq (.reg [Qc 3 0, Q 4 (.cvI .i32 (.t 3)), Q 5 (.i2s (.t 4)), ⟨some 6, .call 65 [.k (.d (.str [40, 41, 60, 62, 91, 93, 123, 125, 47, 37])), .t 5], none⟩, Qc 
 7 6, Qd 8 0 7 true, Qg 9 (.bin .lss (.t 8) (Kb 128)) 7 true, Q 10 (.pick (.t 7) (.t 9) KF), Qa 2 10]) .ret)
def R_parse_sign : List LRes := [.tmp 2]
theorem lift_parse_sign : Lifts Tryz.prog 39 11 L_parse_sign R_parse_sign := ⟨_, _, Tryz.func39, rfl, by kernel_rfl, by kernel_rfl, rfl⟩
theorem sign_call (c : UInt8) : PCall Tryz.prog 39 [.int .u8 c.toNat] (fun r => r = .one (.bool (signB c))) := by
 have hc8 := u8_lt c
 refine lift_parse_sign.call rfl ?_
 simp (maxSteps := 2000000) only [go_sem, ↓reduceIte, L_parse_sign, R_parse_sign]
 rw [IntWalk.i32_in _ (by omega)]
 by_cases h : c.toNat < 128
 ·rw [encode_ascii h]
  refine CallG.of (contains1_call _ c) ?_
  simp (maxSteps := 2000000) only [go_sem, ↓reduceIte]
  refine ⟨fun h1 => ?_, fun h1 => ?_⟩
  ·have h2 : signB c = true := by simpa [signB, signs10] using h1
   have h3 : ((c.toNat : Int) < 128) = True := eq_true (by omega)
   simp [h2, h3]
  ·have h2 : signB c = false := by simpa [signB, signs10] using h1
   rw [h2]
 ·have h2 : signB c = false := by
   simp only [signB, signs10, List.mem_cons, List.not_mem_nil, or_false, decide_eq_false_iff_not, ← UInt8.toNat_inj]
   have : (40 : UInt8).toNat = 40 := rfl
   rintro (e | e | e | e | e | e | e | e | e | e) <;> (rw [e] at h; exact h (by decide))
  have h3 : ((c.toNat : Int) < 128) = False := eq_false (by omega)
  rw [h2]
  refine CallG.of (contains_call _ _ (by simp)) ?_
  simp (maxSteps := 2000000) only [go_sem, ↓reduceIte, h3]
theorem clamp_eq (s : List UInt8) (n : Int) : (if (s.length : Int) < (if n < 0 then 0 else n) then (s.length : Int) else if n < 0 then 0 else n) = ((clampP s n : Nat) : Int) := by
 unfold clampP; split <;> split <;> omega
theorem clamp_le (s : List UInt8) (n : Int) : clampP s n ≤ s.length := by unfold clampP; omega
theorem clamp_in {s : List UInt8} {k : Nat} (h : k ≤ s.length) : clampP s k = k := by unfold clampP; omega
def nlAt (s : List UInt8) (i : Nat) : Bool := decide (s[i]? = some 10) || decide (s[i]? = some 13)
def L_foliowrightref_Skip : LCode :=
 .seq (.reg [Qx 4 (Ki 0)]) (.seq (.reg [Qc 6 1, Q 7 (.mm true (.t 6) (Ki 0)), Qc 8 0, Q 9 (.len true (.t 8)), Q 10 (.mm false (.t 7) (.t 9)), Qa 1 10]) (.seq (.reg [Qx 5 KF]) (.seq 
 (.block 0 (.loop (.seq (.seq (.reg [Qc 11 1, Qc 12 0, Q 13 (.len true (.t 12)), Q 14 (.bin .lss (.t 11) (.t 13))]) (.cond (.t 14) .skip (.exit 0))) (.block 1 (.seq (.seq (.reg 
 [Qc 15 5]) (.cond (.t 15) (.seq (.reg [Qc 16 0, Qc 17 1, Q 18 (.idxS (.t 16) (.t 17)), Q 19 (.bin .neq (.t 18) (Kb 10)), Qc 20 19, Qd 21 0 20 true, Qd 22 1 20 true, Qg 23 (.idxS 
 (.t 21) (.t 22)) 20 true, Qg 24 (.bin .neq (.t 23) (Kb 13)) 20 true, Q 25 (.pick (.t 20) (.t 24) KF), Qa 5 25]) (.seq (.seq (.reg [Qc 26 5]) (.cond (.t 26) (.reg [Qc 27 1, Q 28 
 (.bin .add (.t 27) (Ki 1)), Qa 1 28]) .skip)) (.exit 1))) .skip)) (.seq (.seq (.reg [Qc 29 0, Qc 30 1, Q 31 (.idxS (.t 29) (.t 30)), Q 32 (.bin .eql (.t 31) (Kb 37))]) (.cond (.t 
 32) (.seq (.reg [Qx 5 KT]) (.exit 1)) .skip)) (.seq (.seq (.reg [Qc 33 0, Qc 34 1, Q 35 (.idxS (.t 33) (.t 34)), ⟨some 36, .call 40 [.t 35], none⟩, Q 37 (.not (.t 36))]) (.cond 
 (.t 37) (.seq (.reg [Qc 38 1, Qa 4 38]) .ret) .skip)) (.reg [Qc 39 1, Q 40 (.bin .add (.t 39) (Ki 1)), Qa 1 40])))))))) (.seq (.reg [Qc 41 1, Qa 4 41]) .ret))))
def R_foliowrightref_Skip : List LRes := [.tmp 4]
theorem lift_foliowrightref_Skip : Lifts Tryz.prog 21 42 L_foliowrightref_Skip R_foliowrightref_Skip := ⟨_, _, Tryz.func21, rfl, by kernel_rfl, by kernel_rfl, rfl⟩
theorem skipR_call (s : List UInt8) (n : Int) (hs : s.length ≤ 1000000000) : PCall Tryz.prog 21 [.str s, .int .i64 n] (fun r => r = .one (.int .i64 (skipP s (clampP s n)))) := by
 refine lift_foliowrightref_Skip.call rfl ?_
 have hk := clamp_le s n
 have he := clamp_eq s n
 generalize clampP s n = k at *
 generalize hR : skipP s k = R
 unfold skipP at hR
 simp (maxSteps := 2000000) only [go_sem, ↓reduceIte, L_foliowrightref_Skip, R_foliowrightref_Skip, he]
 refine run_loop (fun y : Nat × Bool => ⟨[(0, .d (.str s)), (1, .d (.int .i64 y.1)), (5, .d (.bool y.2))], [], []⟩)
  (fun y => y.1 ≤ s.length ∧ skipF y.2 (s.drop y.1) y.1 = R) (fun y => 3 * (s.length - y.1) + (if y.2 = true then (if nlAt s y.1 = true then 2 else 0) else 1)) (k, false) ?_ ?_ ?_
 ·refine weak_mk ?_ trivial
  simp (maxSteps := 2000000) only [go_sem, ↓reduceIte, Sub, Int.natCast_add, Int.natCast_mul, he]
 ·exact ⟨hk, hR⟩
 ·rintro ⟨i, b⟩ ⟨hi, hF⟩
  simp only at hi hF
  simp (maxSteps := 2000000) only [go_sem, ↓reduceIte]
  refine ⟨fun hlt => ?_, fun hge => ?_⟩
  ·obtain ⟨c, hc⟩ := get_some (l := s) (i := i) (by omega)
   have hc8 := u8_lt c
   rw [drop_at hc, skipF] at hF
   have hnl : nlAt s i = decide (c.toNat = 10 ∨ c.toNat = 13) := by
    simp only [nlAt, hc, Option.some.injEq, ← UInt8.toNat_inj, Bool.decide_or]; rfl
   cases b
   ·rw [if_neg (by decide)] at hF
    simp (maxSteps := 2000000) only [go_sem, ↓reduceIte, getI_nat, hc]
    refine ⟨fun h1 => ⟨(i, true), ?_, ⟨hi, ?_⟩, ?_⟩, fun h1 => ?_⟩
    ·refine weak_mk ?_ trivial
     simp (maxSteps := 2000000) only [go_sem, ↓reduceIte, Sub, Int.natCast_add, Int.natCast_mul]
    ·have h1' : c.toNat = 37 := by omega
     rw [if_pos h1'] at hF
     rw [drop_at hc, skipF, if_pos rfl, h1']
     exact hF
    ·have h1' : c.toNat = 37 := by omega
     simp only [hnl, h1']
     have : decide (37 = 10 ∨ 37 = 13) = false := rfl
     rw [this]; simp
    ·rw [if_neg (by omega)] at hF
     refine CallG.of (rblank_call c.toNat) ?_
     simp (maxSteps := 2000000) only [go_sem, ↓reduceIte]
     refine ⟨fun h2 => ?_, fun h2 => ?_⟩
     ·rw [if_neg (by simp [h2])] at hF
      subst hF
      rfl
     ·rw [if_pos h2] at hF
      simp (disch := omega) only [IntWalk.i64_in, IntWalk.u8_in]
      refine ⟨(i + 1, false), ?_, ⟨by simp only; omega, hF⟩, by simp only [Bool.false_eq_true, if_false]; omega⟩
      refine weak_mk ?_ trivial
      simp (maxSteps := 2000000) only [go_sem, ↓reduceIte, Sub, Int.natCast_add, Int.natCast_mul]
   ·rw [if_pos rfl] at hF
    simp (maxSteps := 2000000) only [go_sem, ↓reduceIte, getI_nat, hc]
    have end_ : (c.toNat = 10 ∨ c.toNat = 13) → skipF false (s.drop i) i = R := fun h => by
     rw [drop_at hc, skipF, if_neg (by decide), if_neg (by omega), if_pos (by rcases h with h | h <;> rw [h] <;> rfl)]
     rcases h with h | h <;> (rw [h] at hF; exact hF)
    refine ⟨fun h1 => ⟨fun h2 => ?_, fun h2 => ?_⟩, fun h1 => ?_⟩
    ·simp (disch := omega) only [IntWalk.i64_in, IntWalk.u8_in]
     have q : (decide (c.toNat ≠ 10) && decide (c.toNat ≠ 13)) = true := by simp; omega
     rw [q] at hF
     refine ⟨(i + 1, true), ?_, ⟨by simp only; omega, hF⟩, ?_⟩
     ·have h3 : decide ((c.toNat : Int) = 13) = false := by simpa using h2
      refine weak_mk ?_ trivial
      simp (maxSteps := 2000000) only [go_sem, ↓reduceIte, Sub, Int.natCast_add, Int.natCast_mul, h3]
     ·have q2 : nlAt s i = false := by rw [hnl]; simp; omega
      rw [q2]
      simp only [if_true, Bool.false_eq_true, if_false]
      split <;> omega
    ·have q := end_ (.inr (by omega))
     refine ⟨(i, false), ?_, ⟨hi, q⟩, ?_⟩
     ·have h3 : decide ((c.toNat : Int) = 13) = true := by simpa using h2
      refine weak_mk ?_ trivial
      simp (maxSteps := 2000000) only [go_sem, ↓reduceIte, Sub, Int.natCast_add, Int.natCast_mul, h3]
     ·have q2 : nlAt s i = true := by rw [hnl]; simp; omega
      rw [q2]; simp
    ·have q := end_ (.inl (by omega))
     refine ⟨(i, false), ?_, ⟨hi, q⟩, ?_⟩
     ·have h3 : decide ((c.toNat : Int) = 10) = true := by simpa using h1
      refine weak_mk ?_ trivial
      simp (maxSteps := 2000000) only [go_sem, ↓reduceIte, Sub, Int.natCast_add, Int.natCast_mul, h3]
     ·have q2 : nlAt s i = true := by rw [hnl]; simp; omega
      rw [q2]; simp
  ·rw [List.drop_eq_nil_of_le (by omega), skipF] at hF
   subst hF
   simp (maxSteps := 2000000) only [go_sem, ↓reduceIte]
def L_parse_Skip : LCode :=
 .seq (.reg [Qx 4 (Ki 0)]) (.seq (.reg [Qc 5 1, Q 6 (.mm true (.t 5) (Ki 0)), Qc 7 0, Q 8 (.len true (.t 7)), Q 9 (.mm false (.t 6) (.t 8)), Qa 1 9]) (.seq (.block 0 (.loop (.seq 
 (.seq (.reg [Qc 10 1, Qc 11 0, Q 12 (.len true (.t 11)), Q 13 (.bin .lss (.t 10) (.t 12))]) (.cond (.t 13) .skip (.exit 0))) (.block 1 (.block 2 (.seq (.reg [Qc 16 0, Qc 17 1, Q 
 18 (.idxS (.t 16) (.t 17)), ⟨some 19, .call 38 [.t 18], none⟩, Qa 15 19]) (.cond (.t 15) (.reg [Qc 20 1, Q 21 (.bin .add (.t 20) (Ki 1)), Qa 1 21]) (.seq (.reg [Qc 23 0, Qc 24 1, 
 Q 25 (.idxS (.t 23) (.t 24)), Q 26 (.bin .eql (.t 25) (Kb 37)), Qa 22 26]) (.cond (.t 22) (.block 3 (.loop (.seq (.seq (.reg [Qc 27 1, Qc 28 0, Q 29 (.len true (.t 28)), Q 30 
 (.bin .lss (.t 27) (.t 29)), Qc 31 30, Qd 32 0 31 true, Qd 33 1 31 true, Qg 34 (.idxS (.t 32) (.t 33)) 31 true, Qg 35 (.bin .neq (.t 34) (Kb 10)) 31 true, Q 36 (.pick (.t 31) (.t 
 35) KF), Qc 37 36, Qd 38 0 37 true, Qd 39 1 37 true, Qg 40 (.idxS (.t 38) (.t 39)) 37 true, Qg 41 (.bin .neq (.t 40) (Kb 13)) 37 true, Q 42 (.pick (.t 37) (.t 41) KF)]) (.cond 
 (.t 42) .skip (.exit 3))) (.block 4 (.reg [Qc 43 1, Q 44 (.bin .add (.t 43) (Ki 1)), Qa 1 44]))))) (.seq (.reg [Qc 14 1, Qa 4 14]) .ret)))))))))) (.seq (.reg [Qc 45 1, Qa 4 45]) 
 .ret)))
def R_parse_Skip : List LRes := [.tmp 4]
theorem lift_parse_Skip : Lifts Tryz.prog 18 46 L_parse_Skip R_parse_Skip := ⟨_, _, Tryz.func18, rfl, by kernel_rfl, by kernel_rfl, rfl⟩
theorem skip_call (s : List UInt8) (n : Int) (hs : s.length ≤ 1000000000) : PCall Tryz.prog 18 [.str s, .int .i64 n] (fun r => r = .one (.int .i64 (skipP s (clampP s n)))) := by
 refine lift_parse_Skip.call rfl ?_
 have hk := clamp_le s n
 have he := clamp_eq s n
 generalize clampP s n = k at *
 generalize hR : skipP s k = R
 unfold skipP at hR
 simp (maxSteps := 2000000) only [go_sem, ↓reduceIte, L_parse_Skip, R_parse_Skip, he]
 refine run_loop (fun i : Nat => ⟨[(0, .d (.str s)), (1, .d (.int .i64 i))], [], []⟩)
  (fun i => i ≤ s.length ∧ skipF false (s.drop i) i = R) (fun i => s.length - i) k ?_ ?_ ?_
 ·refine weak_mk ?_ trivial
  simp (maxSteps := 2000000) only [go_sem, ↓reduceIte, Sub, Int.natCast_add, Int.natCast_mul, he]
 ·exact ⟨hk, hR⟩
 ·rintro i ⟨hi, hF⟩
  simp (maxSteps := 2000000) only [go_sem, ↓reduceIte]
  refine ⟨fun hlt => ?_, fun hge => ?_⟩
  ·obtain ⟨c, hc⟩ := get_some (l := s) (i := i) (by omega)
   have hc8 := u8_lt c
   rw [drop_at hc, skipF, if_neg (by decide)] at hF
   simp (maxSteps := 2000000) only [go_sem, ↓reduceIte, getI_nat, hc]
   refine CallG.of (blank_call c.toNat) ?_
   simp (maxSteps := 2000000) only [go_sem, ↓reduceIte]
   refine ⟨fun h2 => ?_, fun h2 => ?_⟩
   ·rw [if_neg (by intro e; rw [e] at h2; exact absurd h2 (by decide)), if_pos h2] at hF
    simp (disch := omega) only [IntWalk.i64_in, IntWalk.u8_in]
    refine ⟨i + 1, ?_, ⟨by omega, hF⟩, by omega⟩
    refine weak_mk ?_ trivial
    simp (maxSteps := 2000000) only [go_sem, ↓reduceIte, Sub, Int.natCast_add, Int.natCast_mul]
   ·simp (maxSteps := 2000000) only [go_sem, ↓reduceIte, getI_nat, hc]
    refine ⟨fun h3 => ?_, fun h3 => ?_⟩
    ·rw [if_pos (by omega)] at hF
     have c37 : c.toNat = 37 := by omega
     refine run_loop (fun j : Nat => ⟨[(0, .d (.str s)), (1, .d (.int .i64 j))], [], []⟩)
      (fun j => i ≤ j ∧ j ≤ s.length ∧ skipF true (s.drop j) j = R) (fun j => s.length - j) i ?_ ?_ ?_
     ·refine weak_mk ?_ trivial
      simp (maxSteps := 2000000) only [go_sem, ↓reduceIte, Sub, Int.natCast_add, Int.natCast_mul]
     ·refine ⟨Nat.le_refl _, hi, ?_⟩
      rw [drop_at hc, skipF, if_pos rfl, c37]
      exact hF
     ·rintro j ⟨hij, hj, hG⟩
      simp (maxSteps := 2000000) only [go_sem, ↓reduceIte]
      refine ⟨fun hlt2 => ?_, fun hge2 => ?_⟩
      ·obtain ⟨x, hx⟩ := get_some (l := s) (i := j) (by omega)
       have hx8 := u8_lt x
       rw [drop_at hx, skipF, if_pos rfl] at hG
       simp (maxSteps := 2000000) only [go_sem, ↓reduceIte, getI_nat, hx]
       have end_ : (x.toNat = 10 ∨ x.toNat = 13) → i < j ∧ skipF false (s.drop j) j = R := fun h => by
        refine ⟨?_, ?_⟩
        ·rcases Nat.lt_or_ge i j with q | q
         ·exact q
         ·have : i = j := by omega
          subst this
          rw [hc] at hx; cases hx; omega
        ·rw [drop_at hx, skipF, if_neg (by decide), if_neg (by omega), if_pos (by rcases h with h | h <;> rw [h] <;> rfl)]
         rcases h with h | h <;> (rw [h] at hG; exact hG)
       refine ⟨fun g1 => ⟨fun g2 => ?_, fun g2 => ?_⟩, fun g1 => ?_⟩
       ·simp (disch := omega) only [IntWalk.i64_in, IntWalk.u8_in]
        have q : (decide (x.toNat ≠ 10) && decide (x.toNat ≠ 13)) = true := by simp; omega
        rw [q] at hG
        refine ⟨j + 1, ?_, ⟨by omega, by omega, hG⟩, by omega⟩
        refine weak_mk ?_ trivial
        simp (maxSteps := 2000000) only [go_sem, ↓reduceIte, Sub, Int.natCast_add, Int.natCast_mul]
       ·obtain ⟨q1, q2⟩ := end_ (.inr (by omega))
        refine ⟨j, ?_, ⟨hj, q2⟩, by omega⟩
        refine weak_mk ?_ trivial
        simp (maxSteps := 2000000) only [go_sem, ↓reduceIte, Sub, Int.natCast_add, Int.natCast_mul]
       ·obtain ⟨q1, q2⟩ := end_ (.inl (by omega))
        refine ⟨j, ?_, ⟨hj, q2⟩, by omega⟩
        refine weak_mk ?_ trivial
        simp (maxSteps := 2000000) only [go_sem, ↓reduceIte, Sub, Int.natCast_add, Int.natCast_mul]
      ·refine ⟨j, ?_, ⟨hj, ?_⟩, by omega⟩
       ·refine weak_mk ?_ trivial
        simp (maxSteps := 2000000) only [go_sem, ↓reduceIte, Sub, Int.natCast_add, Int.natCast_mul]
       ·rw [List.drop_eq_nil_of_le (by omega), skipF] at hG
        rw [List.drop_eq_nil_of_le (by omega), skipF]; exact hG
    ·rw [if_neg (by omega), if_neg (by simp [h2])] at hF
     subst hF
     rfl
  ·rw [List.drop_eq_nil_of_le (by omega), skipF] at hF
   subst hF
   simp (maxSteps := 2000000) only [go_sem, ↓reduceIte]
/-! ### Words -/
theorem wordL_cons (c : UInt8) (r : List UInt8) : wordL (c :: r) = if blankB c.toNat = false ∧ signB c = false then c :: wordL r else [] := by
 unfold wordL
 rw [List.takeWhile_cons]
 by_cases h : blankB c.toNat = false ∧ signB c = false
 ·rw [if_pos h, if_pos (by simp [h.1, h.2])]
 ·rw [if_neg h, if_neg (by simpa using h)]
theorem word_next {s : List UInt8} {k i : Nat} {c : UInt8} (hk : k ≤ i) (hc : s[i]? = some c) (h1 : blankB c.toNat = false) (h2 : signB c = false) (h : wordL (s.drop k) = (s.drop k).take (i - k) ++ wordL (s.drop i)) :
  wordL (s.drop k) = (s.drop k).take (i + 1 - k) ++ wordL (s.drop (i + 1)) := by
 have hl : (s.drop k)[i - k]? = some c := by rw [List.getElem?_drop, show k + (i - k) = i by omega]; exact hc
 rw [h, drop_at hc, wordL_cons, if_pos ⟨h1, h2⟩, show i + 1 - k = (i - k) + 1 by omega, List.take_add_one, hl]
 simp
def L_foliowrightref_Word : LCode :=
 .seq (.reg [Qx 4 (.k (.d (.str [])))]) (.seq (.reg [Qc 6 1, Q 7 (.mm true (.t 6) (Ki 0)), Qc 8 0, Q 9 (.len true (.t 8)), Q 10 (.mm false (.t 7) (.t 9)), Qa 1 10]) (.seq (.reg [Qc 
 11 1, Qa 5 11]) (.seq (.block 0 (.loop (.seq (.seq (.reg [Qc 12 5, Qc 13 0, Q 14 (.len true (.t 13)), Q 15 (.bin .lss (.t 12) (.t 14))]) (.cond (.t 15) .skip (.exit 0))) (.block 
 1 (.seq (.seq (.reg [Qc 16 0, Qc 17 5, Q 18 (.idxS (.t 16) (.t 17)), ⟨some 19, .call 40 [.t 18], none⟩, Qc 20 19, Qd 21 0 20 false, Qd 22 5 20 false, Qg 23 (.idxS (.t 21) (.t 
 22)) 20 false, ⟨some 24, .call 41 [.t 23], some (20, false)⟩, Q 25 (.pick (.t 20) KT (.t 24))]) (.cond (.t 25) (.exit 0) .skip)) (.reg [Qc 26 5, Q 27 (.bin .add (.t 26) (Ki 1)), 
 Qa 5 27])))))) (.seq (.reg [Qc 28 0, Qc 29 1, Qc 30 5, Q 31 (.subS (.t 28) (some (.t 29)) (some (.t 30))), Qa 4 31]) .ret))))
def R_foliowrightref_Word : List LRes := [.tmp 4]
theorem lift_foliowrightref_Word : Lifts Tryz.prog 22 32 L_foliowrightref_Word R_foliowrightref_Word := ⟨_, _, Tryz.func22, rfl, by kernel_rfl, by kernel_rfl, rfl⟩
theorem wordR_call (s : List UInt8) (n : Int) (hs : s.length ≤ 1000000000) : PCall Tryz.prog 22 [.str s, .int .i64 n] (fun r => r = .one (.str (wordP s (clampP s n)))) := by
 refine lift_foliowrightref_Word.call rfl ?_
 have hk := clamp_le s n
 have he := clamp_eq s n
 generalize clampP s n = k at *
 unfold wordP
 simp (maxSteps := 2000000) only [go_sem, ↓reduceIte, L_foliowrightref_Word, R_foliowrightref_Word, he]
 refine run_loop (fun i : Nat => ⟨[(0, .d (.str s)), (1, .d (.int .i64 k)), (5, .d (.int .i64 i))], [], []⟩)
  (fun i => k ≤ i ∧ i ≤ s.length ∧ wordL (s.drop k) = (s.drop k).take (i - k) ++ wordL (s.drop i)) (fun i => s.length - i) k ?_ ?_ ?_
 ·refine weak_mk ?_ trivial
  simp (maxSteps := 2000000) only [go_sem, ↓reduceIte, Sub, Int.natCast_add, Int.natCast_mul, he]
 ·exact ⟨Nat.le_refl _, hk, by simp⟩
 ·rintro i ⟨hki, hi, hF⟩
  have fin : wordL (s.drop i) = [] → (s.drop k).take (i - k) = wordL (s.drop k) := fun h => by rw [hF, h, List.append_nil]
  have done : wordL (s.drop i) = [] → (0 ≤ (k : Int) ∧ (k : Int) ≤ i ∧ (i : Int) ≤ s.length) ∧ Res.one (D.str (cutI s k i)) = Res.one (D.str (wordL (s.drop k))) := fun h =>
   ⟨by omega, by rw [cutI_nat, List.drop_take, fin h]⟩
  simp (maxSteps := 2000000) only [go_sem, ↓reduceIte]
  refine ⟨fun hlt => ?_, fun hge => ?_⟩
  ·obtain ⟨c, hc⟩ := get_some (l := s) (i := i) (by omega)
   simp (maxSteps := 2000000) only [go_sem, ↓reduceIte, getI_nat, hc]
   refine CallG.of (rblank_call c.toNat) ?_
   simp (maxSteps := 2000000) only [go_sem, ↓reduceIte]
   refine ⟨fun h1 => ?_, fun h1 => ?_⟩
   ·simp (maxSteps := 2000000) only [go_sem, ↓reduceIte, getI_nat, hc]
    refine CallG.of (special_call c) ?_
    simp (maxSteps := 2000000) only [go_sem, ↓reduceIte]
    refine ⟨fun h2 => ?_, fun h2 => ?_⟩
    ·exact done (by rw [drop_at hc, wordL_cons, if_neg (by simp [h2])])
    ·simp (disch := omega) only [IntWalk.i64_in, IntWalk.u8_in]
     refine ⟨i + 1, ?_, ⟨by omega, by omega, word_next hki hc h1 h2 hF⟩, by omega⟩
     refine weak_mk ?_ trivial
     simp (maxSteps := 2000000) only [go_sem, ↓reduceIte, Sub, Int.natCast_add, Int.natCast_mul]
   ·exact done (by rw [drop_at hc, wordL_cons, if_neg (by simp [h1])])
  ·exact done (by rw [List.drop_eq_nil_of_le (by omega)]; rfl)
def L_parse_Word : LCode :=
 .seq (.reg [Qx 4 (.k (.d (.str [])))]) (.seq (.reg [Qc 6 1, Q 7 (.mm true (.t 6) (Ki 0)), Qc 8 0, Q 9 (.len true (.t 8)), Q 10 (.mm false (.t 7) (.t 9)), Qa 1 10]) (.seq (.reg [Qc 
 11 1, Qa 5 11]) (.seq (.block 0 (.loop (.seq (.seq (.reg [Qc 12 5, Qc 13 0, Q 14 (.len true (.t 13)), Q 15 (.bin .lss (.t 12) (.t 14)), Qc 16 15, Qd 17 0 16 true, Qd 18 5 16 
 true, Qg 19 (.idxS (.t 17) (.t 18)) 16 true, ⟨some 20, .call 38 [.t 19], some (16, true)⟩, Qg 21 (.not (.t 20)) 16 true, Q 22 (.pick (.t 16) (.t 21) KF), Qc 23 22, Qd 24 0 23 
 true, Qd 25 5 23 true, Qg 26 (.idxS (.t 24) (.t 25)) 23 true, ⟨some 27, .call 39 [.t 26], some (23, true)⟩, Qg 28 (.not (.t 27)) 23 true, Q 29 (.pick (.t 23) (.t 28) KF)]) (.cond 
 (.t 29) .skip (.exit 0))) (.block 1 (.reg [Qc 30 5, Q 31 (.bin .add (.t 30) (Ki 1)), Qa 5 31]))))) (.seq (.reg [Qc 32 0, Qc 33 1, Qc 34 5, Q 35 (.subS (.t 32) (some (.t 33)) 
 (some (.t 34))), Qa 4 35]) .ret))))
def R_parse_Word : List LRes := [.tmp 4]
theorem lift_parse_Word : Lifts Tryz.prog 19 36 L_parse_Word R_parse_Word := ⟨_, _, Tryz.func19, rfl, by kernel_rfl, by kernel_rfl, rfl⟩
theorem word_call (s : List UInt8) (n : Int) (hs : s.length ≤ 1000000000) : PCall Tryz.prog 19 [.str s, .int .i64 n] (fun r => r = .one (.str (wordP s (clampP s n)))) := by
 refine lift_parse_Word.call rfl ?_
 have hk := clamp_le s n
 have he := clamp_eq s n
 generalize clampP s n = k at *
 unfold wordP
 simp (maxSteps := 2000000) only [go_sem, ↓reduceIte, L_parse_Word, R_parse_Word, he]
 refine run_loop (fun i : Nat => ⟨[(0, .d (.str s)), (1, .d (.int .i64 k)), (5, .d (.int .i64 i))], [], []⟩)
  (fun i => k ≤ i ∧ i ≤ s.length ∧ wordL (s.drop k) = (s.drop k).take (i - k) ++ wordL (s.drop i)) (fun i => s.length - i) k ?_ ?_ ?_
 ·refine weak_mk ?_ trivial
  simp (maxSteps := 2000000) only [go_sem, ↓reduceIte, Sub, Int.natCast_add, Int.natCast_mul, he]
 ·exact ⟨Nat.le_refl _, hk, by simp⟩
 ·rintro i ⟨hki, hi, hF⟩
  have fin : wordL (s.drop i) = [] → (s.drop k).take (i - k) = wordL (s.drop k) := fun h => by rw [hF, h, List.append_nil]
  have done : wordL (s.drop i) = [] → (0 ≤ (k : Int) ∧ (k : Int) ≤ i ∧ (i : Int) ≤ s.length) ∧ Res.one (D.str (cutI s k i)) = Res.one (D.str (wordL (s.drop k))) := fun h =>
   ⟨by omega, by rw [cutI_nat, List.drop_take, fin h]⟩
  simp (maxSteps := 2000000) only [go_sem, ↓reduceIte]
  refine ⟨fun hlt => ?_, fun hge => ?_⟩
  ·obtain ⟨c, hc⟩ := get_some (l := s) (i := i) (by omega)
   simp (maxSteps := 2000000) only [go_sem, ↓reduceIte, getI_nat, hc]
   refine CallG.of (blank_call c.toNat) ?_
   simp (maxSteps := 2000000) only [go_sem, ↓reduceIte]
   refine ⟨fun h1 => ?_, fun h1 => ?_⟩
   ·simp (maxSteps := 2000000) only [go_sem, ↓reduceIte, getI_nat, hc]
    refine CallG.of (sign_call c) ?_
    simp (maxSteps := 2000000) only [go_sem, ↓reduceIte]
    refine ⟨fun h2 => ?_, fun h2 => ?_⟩
    ·simp (disch := omega) only [IntWalk.i64_in, IntWalk.u8_in]
     refine ⟨i + 1, ?_, ⟨by omega, by omega, word_next hki hc h1 h2 hF⟩, by omega⟩
     refine weak_mk ?_ trivial
     simp (maxSteps := 2000000) only [go_sem, ↓reduceIte, Sub, Int.natCast_add, Int.natCast_mul]
    ·exact done (by rw [drop_at hc, wordL_cons, if_neg (by simp [h2])])
   ·exact done (by rw [drop_at hc, wordL_cons, if_neg (by simp [h1])])
  ·exact done (by rw [List.drop_eq_nil_of_le (by omega)]; rfl)
theorem nameF_hex {c x y : UInt8} {r b : List UInt8} (h : c.toNat = 35) : nameF (c :: x :: y :: r) b = if hexI x.toNat < 0 ∨ hexI y.toNat < 0 then none else nameF r (b ++ [byteI (16 * hexI x.toNat + hexI y.toNat)]) := by
 rw [nameF, if_pos h]
theorem nameF_end {c : UInt8} {r b : List UInt8} (h : c.toNat = 35) (hr : r.length < 2) : nameF (c :: r) b = none := by
 match r, hr with
 | [], _ => rw [nameF, if_pos h]; intro x y q e; cases e
 | [x], _ => rw [nameF, if_pos h]; intro x y q e; cases e
theorem nameF_one {c : UInt8} {r b : List UInt8} (h : c.toNat ≠ 35) : nameF (c :: r) b = nameF r (b ++ [c]) := by
 match r with
 | [] => simp [nameF, h]
 | [x] => simp [nameF, h]
 | x :: y :: r => rw [nameF, if_neg h]
def nameRes (o : Option (List UInt8 × Nat)) : Res := match o with
 | none => .tup [.str [], .int .i64 0, .int .i64 4]
 | some (b, k) => .tup [.str b, .int .i64 k, .int .i64 0]
def L_foliowrightref_readName : LCode :=
 .seq (.reg [Qx 4 (.k (.d (.str []))), Qx 5 (Ki 0), Qx 6 (Ki 0)]) (.seq (.reg [Qc 14 0, Qc 15 1, Q 16 (.bin .add (.t 15) (Ki 1)), ⟨some 17, .call 22 [.t 14, .t 16], none⟩, Qa 7 17]) 
 (.seq (.reg [Qc 18 1, Q 19 (.bin .add (.t 18) (Ki 1)), Qc 20 7, Q 21 (.len true (.t 20)), Q 22 (.bin .add (.t 19) (.t 21)), Qa 8 22]) (.seq (.reg [⟨some 9, .nils 5 1, none⟩]) 
 (.seq (.seq (.reg [Qx 10 (Ki 0)]) (.block 0 (.loop (.seq (.seq (.reg [Qc 23 10, Qc 24 7, Q 25 (.len true (.t 24)), Q 26 (.bin .lss (.t 23) (.t 25))]) (.cond (.t 26) .skip (.exit 
 0))) (.seq (.block 1 (.seq (.reg [Qc 29 7, Qc 30 10, Q 31 (.idxS (.t 29) (.t 30)), Q 32 (.bin .eql (.t 31) (Kb 35))]) (.cond (.t 32) (.seq (.seq (.reg [Qc 33 10, Q 34 (.bin .add 
 (.t 33) (Ki 2)), Qc 35 7, Q 36 (.len true (.t 35)), Q 37 (.bin .geq (.t 34) (.t 36))]) (.cond (.t 37) (.seq (.reg [Qx 4 (.k (.d (.str []))), Qx 5 (Ki 0), Qx 6 (Ki 4)]) .ret) 
 .skip)) (.seq (.reg [Qc 38 7, Qc 39 10, Q 40 (.bin .add (.t 39) (Ki 1)), Q 41 (.idxS (.t 38) (.t 40)), ⟨some 42, .call 91 [.t 41], none⟩, Qa 11 42]) (.seq (.reg [Qc 43 7, Qc 44 
 10, Q 45 (.bin .add (.t 44) (Ki 2)), Q 46 (.idxS (.t 43) (.t 45)), ⟨some 47, .call 91 [.t 46], none⟩, Qa 12 47]) (.seq (.seq (.reg [Qc 48 11, Q 49 (.bin .lss (.t 48) (Ki 0)), Qc 
 50 49, Qd 51 12 50 false, Qg 52 (.bin .lss (.t 51) (Ki 0)) 50 false, Q 53 (.pick (.t 50) KT (.t 52))]) (.cond (.t 53) (.seq (.reg [Qx 4 (.k (.d (.str []))), Qx 5 (Ki 0), Qx 6 (Ki 
 4)]) .ret) .skip)) (.seq (.reg [Qc 54 9, Qc 55 11, Q 56 (.bin .mul (Ki 16) (.t 55)), Qc 57 12, Q 58 (.bin .add (.t 56) (.t 57)), Q 59 (.cvI .u8 (.t 58)), ⟨some 60, .bsl 5 1 [.t 
 59], none⟩, ⟨some 61, .app 5 1 1 false (.t 54) (.t 60), none⟩, Qa 9 61]) (.reg [Qc 62 10, Q 63 (.bin .add (.t 62) (Ki 2)), Qa 10 63])))))) (.reg [Qc 64 9, Qc 65 7, Qc 66 10, Q 67 
 (.idxS (.t 65) (.t 66)), ⟨some 68, .bsl 5 1 [.t 67], none⟩, ⟨some 69, .app 5 1 1 false (.t 64) (.t 68), none⟩, Qa 9 69])))) (.reg [Qc 27 10, Q 28 (.bin .add (.t 27) (Ki 1)), Qa 
 10 28])))))) (.seq (.reg [Qc 70 9, Q 71 (.b2s (.t 70)), ⟨some 72, .call 74 [.t 71], none⟩, Qa 13 72]) (.seq (.seq (.reg [Qc 73 13, Q 74 (.not (.t 73))]) (.cond (.t 74) (.seq 
 (.reg [Qx 4 (.k (.d (.str []))), Qx 5 (Ki 0), Qx 6 (Ki 4)]) .ret) .skip)) (.seq (.reg [Qc 75 9, Q 76 (.b2s (.t 75)), Qc 77 8, Qa 4 76, Qa 5 77, Qx 6 (Ki 0)]) .ret)))))))
def R_foliowrightref_readName : List LRes := [.tmp 4, .tmp 5, .tmp 6]
theorem lift_foliowrightref_readName : Lifts Tryz.prog 66 78 L_foliowrightref_readName R_foliowrightref_readName := ⟨_, _, Tryz.func66, rfl, by kernel_rfl, by kernel_rfl, rfl⟩
theorem readName_call (s : List UInt8) (k : Nat) (hs : s.length ≤ 1000000000) (hk : k < s.length) : PCall Tryz.prog 66 [.str s, .int .i64 k] (fun r => r = nameRes (nameAt s k)) := by
 refine lift_foliowrightref_readName.call rfl ?_
 have hw := wordR_call s ((k + 1 : Nat) : Int) hs
 rw [clamp_in (by omega)] at hw
 have hwl := wordP_len s (k + 1)
 generalize hR : nameAt s k = R
 unfold nameAt at hR
 generalize wordP s (k + 1) = w at *
 simp (maxSteps := 2000000) (disch := omega) only [go_sem, ↓reduceIte, L_foliowrightref_readName, R_foliowrightref_readName]
 refine CallG.of hw ?_
 simp (maxSteps := 2000000) (disch := omega) only [go_sem, ↓reduceIte]
 refine run_loop (fun y : Nat × List UInt8 => ⟨[(7, .d (.str w)), (8, .d (.int .i64 ((k : Int) + 1 + w.length))), (9, .own (.t 9) 5 1 (bytesD y.2)), (10, .d (.int .i64 y.1))], [], []⟩)
  (fun y => y.1 ≤ w.length ∧ y.2.length ≤ y.1 ∧ nameF (w.drop y.1) y.2 = nameF w []) (fun y => w.length - y.1) (0, []) ?_ ?_ ?_
 ·refine weak_mk ?_ trivial
  simp (maxSteps := 2000000) only [go_sem, ↓reduceIte, Sub, Int.natCast_add, Int.natCast_mul, bytesD]
 ·exact ⟨by simp, by simp, by simp⟩
 ·rintro ⟨i, b⟩ ⟨hi, hb, hF⟩
  simp only at hi hb hF
  have hblen := bytesD_length b
  simp (maxSteps := 2000000) only [go_sem, ↓reduceIte]
  refine ⟨fun hlt => ?_, fun hge => ?_⟩
  ·obtain ⟨c, hc⟩ := get_some (l := w) (i := i) (by omega)
   have hc8 := u8_lt c
   rw [drop_at hc] at hF
   have bad : R = none → Res.tup [D.str [], D.int .i64 0, D.int .i64 4] = nameRes R := fun e => by rw [e]; rfl
   simp (maxSteps := 2000000) only [go_sem, ↓reduceIte, getI_nat, hc]
   refine ⟨fun h1 => ⟨fun h2 => ?_, fun h2 => ?_⟩, fun h1 => ?_⟩
   ·rw [IntWalk.i64_in _ (by omega)] at h2
    rw [nameF_end (by omega) (by rw [List.length_drop]; omega)] at hF
    rw [← hF] at hR
    exact bad hR.symm
   ·rw [IntWalk.i64_in _ (by omega)] at h2
    obtain ⟨x, hx⟩ := get_some (l := w) (i := i + 1) (by omega)
    obtain ⟨y, hy⟩ := get_some (l := w) (i := i + 2) (by omega)
    have hx8 := u8_lt x
    have hy8 := u8_lt y
    have hxb := hexI_bounds x.toNat
    have hyb := hexI_bounds y.toNat
    rw [drop_at hx, drop_at hy, nameF_hex (by omega)] at hF
    have g1 : getI w ((i : Int) + 1) = some x := by rw [getI_add1, hx]
    have g2 : getI w ((i : Int) + 2) = some y := by rw [show (i : Int) + 2 = ((i + 2 : Nat) : Int) by omega, getI_nat, hy]
    simp (maxSteps := 2000000) (disch := omega) only [go_sem, ↓reduceIte, g1]
    refine CallG.of (hexOf_call x.toNat hx8) ?_
    simp (maxSteps := 2000000) (disch := omega) only [go_sem, ↓reduceIte, g2]
    refine CallG.of (hexOf_call y.toNat hy8) ?_
    simp (maxSteps := 2000000) (disch := omega) only [go_sem, ↓reduceIte]
    refine ⟨fun h3 => ⟨fun h4 => ?_, fun h4 => ?_⟩, fun h3 => ?_⟩
    ·rw [if_pos (.inr h4)] at hF
     rw [← hF] at hR
     exact bad hR.symm
    ·rw [if_neg (by omega)] at hF
     have hsn := bytesD_snocI (b := b) (n := 16 * hexI x.toNat + hexI y.toNat) (by omega) (by omega)
     simp (disch := omega) only [IntWalk.i64_in, IntWalk.u8_in]
     refine ⟨by omega, (i + 3, b ++ [byteI (16 * hexI x.toNat + hexI y.toNat)]), ?_, ⟨by simp only; omega, by simp only [List.length_append, List.length_cons, List.length_nil]; omega, hF⟩, by simp only; omega⟩
     have e3 : (((i + 3 : Nat) : Nat) : Int) = (i : Int) + 2 + 1 := by omega
     refine weak_mk ?_ trivial
     simp (maxSteps := 2000000) only [go_sem, ↓reduceIte, Sub, Int.natCast_add, Int.natCast_mul, hsn, e3]
    ·rw [if_pos (.inl h3)] at hF
     rw [← hF] at hR
     exact bad hR.symm
   ·rw [nameF_one (by omega)] at hF
    simp (disch := omega) only [IntWalk.i64_in, IntWalk.u8_in]
    refine ⟨by omega, (i + 1, b ++ [c]), ?_, ⟨by simp only; omega, by simp only [List.length_append, List.length_cons, List.length_nil]; omega, hF⟩, by simp only; omega⟩
    refine weak_mk ?_ trivial
    simp (maxSteps := 2000000) only [go_sem, ↓reduceIte, Sub, Int.natCast_add, Int.natCast_mul, bytesD_append, bytesD_cons, bytesD_nil]
  ·rw [List.drop_eq_nil_of_le (by omega), nameF] at hF
   rw [← hF] at hR
   simp (maxSteps := 2000000) only [go_sem, ↓reduceIte, bytesOf_bytesD]
   refine CallG.of (refNameMay_call b) ?_
   simp (maxSteps := 2000000) only [go_sem, ↓reduceIte]
   refine ⟨fun h1 => ?_, fun h1 => ?_⟩
   ·rw [← hR]; simp only [h1]; rfl
   ·rw [← hR]
    simp (maxSteps := 2000000) only [go_sem, ↓reduceIte, bytesOf_bytesD, h1]
    simp only [nameRes, Int.natCast_add, Int.natCast_one]
end Go.Av.Tryz
