import Derived.Test.YtbfljokjkcdbeaaGreatDoorWb
import Derived.Test.YtbfljokjkcdbeaaGreatDoorAvG
import Derived.Lib.Bytealg
import Derived.Test.YtbfljokjkcdbeaaGreatDoorWa
import Derived.Shelf.RegionOpenPlain
import Derived.WalkKit
import Derived.Lib.Walk
import Derived.Lib.SliceRun
import Derived.Lib.JoinLaws
import Derived.Lib.AppendZerosOnto
import Derived.Lib.Overlaps
import Derived.Laws.Externs
import Derived.Laws.IdiomCopy
import Derived.Laws.NewBlocks
set_option linter.unusedSimpArgs false
namespace Go.Av.Tryz
open Go.Proofs

theorem textF_whole (k : Nat) : textF ((k : Int) * 1000) = Lib.decDigits k := by
  have h1 : ¬ ((k : Int) * 1000 < 0) := by omega
  have h2 : ((k : Int) * 1000).natAbs = k * 1000 := by omega
  unfold textF
  rw [if_neg h1, h2]
  have h3 : k * 1000 / 1000 = k := by omega
  have h4 : k * 1000 % 1000 = 0 := by omega
  rw [h3, h4]
  have h5 : fracT 0 = [] := by decide
  simp [h5]

/-- value.write -/
def L_value_write : LCode :=
  .seq (.reg [⟨some 3, .box (.t 1), none⟩]) (.seq (.reg [⟨some 12, .val (.fa 0 (.t 3)), none⟩, ⟨some 13, .val (.ld false 1 (.t 12)), none⟩]) (.block 0 (.seq (.reg [⟨some 17, .val 
  (.bin .eql (.t 13) (.k (.d (.int .i64 1)))), none⟩, ⟨some 16, .asg (.t 17), none⟩]) (.cond (.t 16) (.reg [⟨some 18, .val (.cp (.t 0)), none⟩, ⟨some 19, .bsl 9 1 [.k (.d (.str 
  [102, 97, 108, 115, 101])), .k (.d (.str [116, 114, 117, 101]))], none⟩, ⟨some 20, .val (.fa 1 (.t 3)), none⟩, ⟨some 21, .val (.ld false 1 (.t 20)), none⟩, ⟨some 22, .val (.ia 1 
  (.t 19) (.t 21)), none⟩, ⟨some 23, .val (.ld false 1 (.t 22)), none⟩, ⟨some 24, .prim .call [.k (.fn (.func 25) [] []), .t 18, .t 23] [], none⟩]) (.seq (.reg [⟨some 26, .val 
  (.bin .eql (.t 13) (.k (.d (.int .i64 2)))), none⟩, ⟨some 25, .asg (.t 26), none⟩]) (.cond (.t 25) (.seq (.reg [⟨some 28, .val (.fa 1 (.t 3)), none⟩, ⟨some 29, .val (.ld false 1 
  (.t 28)), none⟩, ⟨some 30, .call 52 [.t 29], none⟩, ⟨some 27, .val (.cp (.t 30)), none⟩, ⟨some 31, .val (.ext 0 (.t 27)), none⟩, ⟨some 32, .val (.ext 1 (.t 27)), none⟩, ⟨some 4, 
  .asg (.t 31), none⟩, ⟨some 5, .asg (.t 32), none⟩]) (.reg [⟨some 33, .val (.cp (.t 0)), none⟩, ⟨some 34, .val (.cp (.t 4)), none⟩, ⟨some 35, .prim .call [.k (.fn (.func 25) [] 
  []), .t 33, .t 34] [], none⟩])) (.seq (.reg [⟨some 37, .val (.bin .eql (.t 13) (.k (.d (.int .i64 3)))), none⟩, ⟨some 36, .asg (.t 37), none⟩]) (.cond (.t 36) (.reg [⟨some 38, 
  .val (.cp (.t 0)), none⟩, ⟨some 39, .val (.fa 2 (.t 3)), none⟩, ⟨some 40, .val (.ld false 1 (.t 39)), none⟩, ⟨some 41, .prim .call [.k (.fn (.func 53) [] []), .t 38, .t 40] [], 
  none⟩]) (.seq (.reg [⟨some 43, .val (.bin .eql (.t 13) (.k (.d (.int .i64 4)))), none⟩, ⟨some 42, .asg (.t 43), none⟩]) (.cond (.t 42) (.reg [⟨some 44, .val (.cp (.t 0)), none⟩, 
  ⟨some 45, .val (.fa 2 (.t 3)), none⟩, ⟨some 46, .val (.ld false 1 (.t 45)), none⟩, ⟨some 47, .prim .call [.k (.fn (.func 54) [] []), .t 44, .t 46] [], none⟩]) (.seq (.reg [⟨some 
  49, .val (.bin .eql (.t 13) (.k (.d (.int .i64 5)))), none⟩, ⟨some 48, .asg (.t 49), none⟩]) (.cond (.t 48) (.seq (.reg [⟨some 50, .val (.cp (.t 0)), none⟩, ⟨some 51, .prim .call 
  [.k (.fn (.func 55) [] []), .t 50, .k (.d (.int .u8 91))] [], none⟩]) (.seq (.seq (.reg [⟨some 52, .val (.fa 3 (.t 3)), none⟩, ⟨some 53, .val (.ld false 1 (.t 52)), none⟩, ⟨some 
  54, .val (.len false (.t 53)), none⟩, ⟨some 55, .val (.cp (.k (.d (.int .i64 0)))), none⟩]) (.block 1 (.loop (.seq (.reg [⟨some 56, .val (.bin .lss (.t 55) (.t 54)), none⟩]) 
  (.seq (.cond (.t 56) .skip (.exit 1)) (.seq (.block 2 (.seq (.reg [⟨some 57, .val (.cp (.t 55)), none⟩, ⟨some 58, .val (.ia 5 (.t 53) (.t 55)), none⟩, ⟨some 59, .val (.ld true 5 
  (.t 58)), none⟩, ⟨some 7, .allo [.int .i64 0, .int .i64 0, .str [], .list [], .list []], none⟩, ⟨some 6, .asg (.t 57), none⟩, ⟨none, .st 5 (.t 7) (.t 59), none⟩]) (.seq (.seq 
  (.reg [⟨some 60, .val (.cp (.t 6)), none⟩, ⟨some 61, .val (.bin .gtr (.t 60) (.k (.d (.int .i64 0)))), none⟩]) (.cond (.t 61) (.reg [⟨some 62, .val (.cp (.t 0)), none⟩, ⟨some 63, 
  .prim .call [.k (.fn (.func 55) [] []), .t 62, .k (.d (.int .u8 32))] [], none⟩]) .skip)) (.reg [⟨some 64, .val (.cp (.t 0)), none⟩, ⟨some 65, .val (.ld true 5 (.t 7)), none⟩, 
  ⟨some 66, .prim .call [.k (.fn (.func 32) [] []), .t 64, .t 65] [], none⟩])))) (.reg [⟨some 67, .val (.bin .add (.t 55) (.k (.d (.int .i64 1)))), none⟩, ⟨some 55, .val (.cp (.t 
  67)), none⟩]))))))) (.reg [⟨some 68, .val (.cp (.t 0)), none⟩, ⟨some 69, .prim .call [.k (.fn (.func 55) [] []), .t 68, .k (.d (.int .u8 93))] [], none⟩]))) (.seq (.reg [⟨some 
  71, .val (.bin .eql (.t 13) (.k (.d (.int .i64 6)))), none⟩, ⟨some 70, .asg (.t 71), none⟩]) (.cond (.t 70) (.seq (.reg [⟨some 72, .val (.cp (.t 0)), none⟩, ⟨some 73, .prim .call 
  [.k (.fn (.func 25) [] []), .t 72, .k (.d (.str [60, 60]))] [], none⟩]) (.seq (.seq (.reg [⟨some 74, .val (.fa 4 (.t 3)), none⟩, ⟨some 75, .val (.ld false 1 (.t 74)), none⟩, 
  ⟨some 76, .val (.len false (.t 75)), none⟩, ⟨some 77, .val (.cp (.k (.d (.int .i64 0)))), none⟩]) (.block 3 (.loop (.seq (.reg [⟨some 78, .val (.bin .lss (.t 77) (.t 76)), 
  none⟩]) (.seq (.cond (.t 78) .skip (.exit 3)) (.seq (.block 4 (.seq (.reg [⟨some 79, .val (.ia 6 (.t 75) (.t 77)), none⟩, ⟨some 80, .val (.ld true 6 (.t 79)), none⟩, ⟨some 9, 
  .allo [.str [], .int .i64 0, .int .i64 0, .str [], .list [], .list []], none⟩, ⟨none, .st 6 (.t 9) (.t 80), none⟩]) (.seq (.reg [⟨some 81, .val (.cp (.t 0)), none⟩, ⟨some 82, 
  .prim .call [.k (.fn (.func 55) [] []), .t 81, .k (.d (.int .u8 32))] [], none⟩]) (.seq (.reg [⟨some 83, .val (.cp (.t 0)), none⟩, ⟨some 84, .val (.fa 0 (.t 9)), none⟩, ⟨some 85, 
  .val (.ld false 1 (.t 84)), none⟩, ⟨some 86, .prim .call [.k (.fn (.func 54) [] []), .t 83, .t 85] [], none⟩]) (.seq (.reg [⟨some 87, .val (.cp (.t 0)), none⟩, ⟨some 88, .prim 
  .call [.k (.fn (.func 55) [] []), .t 87, .k (.d (.int .u8 32))] [], none⟩]) (.reg [⟨some 89, .val (.cp (.t 0)), none⟩, ⟨some 90, .val (.fa 1 (.t 9)), none⟩, ⟨some 91, .val (.ld 
  true 5 (.t 90)), none⟩, ⟨some 92, .prim .call [.k (.fn (.func 32) [] []), .t 89, .t 91] [], none⟩])))))) (.reg [⟨some 93, .val (.bin .add (.t 77) (.k (.d (.int .i64 1)))), none⟩, 
  ⟨some 77, .val (.cp (.t 93)), none⟩]))))))) (.reg [⟨some 94, .val (.cp (.t 0)), none⟩, ⟨some 95, .prim .call [.k (.fn (.func 25) [] []), .t 94, .k (.d (.str [32, 62, 62]))] [], 
  none⟩]))) (.seq (.reg [⟨some 97, .val (.bin .eql (.t 13) (.k (.d (.int .i64 7)))), none⟩, ⟨some 96, .asg (.t 97), none⟩]) (.cond (.t 96) (.seq (.reg [⟨some 99, .val (.fa 1 (.t 
  3)), none⟩, ⟨some 100, .val (.ld false 1 (.t 99)), none⟩, ⟨some 101, .val (.bin .mul (.t 100) (.k (.d (.int .i64 1000)))), none⟩, ⟨some 102, .call 52 [.t 101], none⟩, ⟨some 98, 
  .val (.cp (.t 102)), none⟩, ⟨some 103, .val (.ext 0 (.t 98)), none⟩, ⟨some 104, .val (.ext 1 (.t 98)), none⟩, ⟨some 10, .asg (.t 103), none⟩, ⟨some 11, .asg (.t 104), none⟩]) 
  (.reg [⟨some 105, .val (.cp (.t 0)), none⟩, ⟨some 106, .val (.cp (.t 10)), none⟩, ⟨some 107, .val (.bin .add (.t 106) (.k (.d (.str [32, 48, 32, 82])))), none⟩, ⟨some 108, .prim 
  .call [.k (.fn (.func 25) [] []), .t 105, .t 107] [], none⟩])) (.reg [⟨some 14, .val (.cp (.t 0)), none⟩, ⟨some 15, .prim .call [.k (.fn (.func 25) [] []), .t 14, .k (.d (.str 
  [110, 117, 108, 108]))] [], none⟩])))))))))))))))))
def R_value_write : List LRes := []
theorem lift_value_write : Lifts Tryz.prog 32 109 L_value_write R_value_write := ⟨_, _, Tryz.func32, rfl, by kernel_rfl, by kernel_rfl, rfl⟩

theorem write_at : ∀ (m : Nat) (v : Val) (b : Bld), SizeOf.sizeOf v ≤ m → v.sm 1048576 = true → wellV v = true → b.bytes.length + (textV v).length ≤ 900000000 →
    MCallE Tryz.prog 32 [.ptr (.x 0) 0, .d v.d] [b.at (.x 0)] (.tuple []) [Bld.at (.x 0) (.has (b.bytes ++ textV v))] := by
  intro m
  induction m with
  | zero => intro v b h; cases v; simp at h
  | succ m ih =>
    intro v b hv hsm hw htl
    obtain ⟨hsl0, hll, hfl, hsl, hsf⟩ := Val.sm_iff.1 hsm
    have hvl := valsD_length v.l
    have hfl' := fldsD_length v.f
    generalize hR : textV v = R at htl ⊢
    rw [textV_eq] at hR
    rw [Val.d_eq]
    rcases wellV_k hw with hk | hk | hk | hk | hk | hk | hk | hk
    · refine lift_value_write.mcall (by kernel_rfl) rfl ?_
      rw [hk] at hR
      simp only [Int.reduceEq, ↓reduceIte] at hR
      simp (maxSteps := 2000000) only [go_sem, ↓reduceIte, L_value_write, R_value_write, hk, hvl, hfl']
      refine bldCall (.x 0) rfl (writeString_at b [110, 117, 108, 108] (by rw [List.length_append, hR]; omega)) rfl rfl rfl rfl ?_
      simp (maxSteps := 2000000) only [go_sem, ↓reduceIte]
      rw [hR]
    · have hn := wellV_1 hw hk
      rw [hk] at hR
      simp only [Int.reduceEq, ↓reduceIte] at hR
      rcases hn with hn | hn
      · refine lift_value_write.mcall (by kernel_rfl) rfl ?_
        rw [hn] at hR
        simp only [Int.reduceEq, ↓reduceIte] at hR
        simp (maxSteps := 2000000) only [go_sem, ↓reduceIte, L_value_write, R_value_write, hk, hn, hvl, hfl']
        have hg : getI [D.str [102, 97, 108, 115, 101], D.str [116, 114, 117, 101]] 0 = some (.str [102, 97, 108, 115, 101]) := rfl
        simp (maxSteps := 2000000) only [go_sem, ↓reduceIte, hg]
        refine bldCall (.x 0) rfl (writeString_at b [102, 97, 108, 115, 101] (by rw [List.length_append, hR]; omega)) rfl rfl rfl rfl ?_
        simp (maxSteps := 2000000) only [go_sem, ↓reduceIte]
        rw [hR]
      · refine lift_value_write.mcall (by kernel_rfl) rfl ?_
        rw [hn] at hR
        simp only [↓reduceIte] at hR
        simp (maxSteps := 2000000) only [go_sem, ↓reduceIte, L_value_write, R_value_write, hk, hn, hvl, hfl']
        have hg : getI [D.str [102, 97, 108, 115, 101], D.str [116, 114, 117, 101]] 1 = some (.str [116, 114, 117, 101]) := rfl
        simp (maxSteps := 2000000) only [go_sem, ↓reduceIte, hg]
        refine bldCall (.x 0) rfl (writeString_at b [116, 114, 117, 101] (by rw [List.length_append, hR]; omega)) rfl rfl rfl rfl ?_
        simp (maxSteps := 2000000) only [go_sem, ↓reduceIte]
        rw [hR]
    · refine lift_value_write.mcall (by kernel_rfl) rfl ?_
      have hL := wellV_2 hw hk
      rw [hk] at hR
      simp only [Int.reduceEq, ↓reduceIte] at hR
      have hc := text_call v.n
      rw [resT, if_pos hL] at hc
      simp (maxSteps := 2000000) only [go_sem, ↓reduceIte, L_value_write, R_value_write, hk, hvl, hfl']
      refine CallG.of hc ?_
      simp (maxSteps := 2000000) only [go_sem, ↓reduceIte]
      refine bldCall (.x 0) rfl (writeString_at b (textF v.n) (by rw [List.length_append, hR]; omega)) rfl rfl rfl rfl ?_
      simp (maxSteps := 2000000) only [go_sem, ↓reduceIte]
      rw [hR]
    · refine lift_value_write.mcall (by kernel_rfl) rfl ?_
      rw [hk] at hR
      simp only [Int.reduceEq, ↓reduceIte] at hR
      simp (maxSteps := 2000000) only [go_sem, ↓reduceIte, L_value_write, R_value_write, hk, hvl, hfl']
      refine bldCall (.x 0) rfl (str_at b v.s (by omega)) rfl rfl rfl rfl ?_
      simp (maxSteps := 2000000) only [go_sem, ↓reduceIte]
      rw [← hR]; simp only [List.append_assoc]
    · refine lift_value_write.mcall (by kernel_rfl) rfl ?_
      rw [hk] at hR
      simp only [Int.reduceEq, ↓reduceIte] at hR
      simp (maxSteps := 2000000) only [go_sem, ↓reduceIte, L_value_write, R_value_write, hk, hvl, hfl']
      refine bldCall (.x 0) rfl (name_at b v.s (by omega)) rfl rfl rfl rfl ?_
      simp (maxSteps := 2000000) only [go_sem, ↓reduceIte]
      rw [← hR]; simp only [List.append_assoc]
    · refine lift_value_write.mcall (by kernel_rfl) rfl ?_
      rw [hk] at hR
      simp only [Int.reduceEq, ↓reduceIte] at hR
      have hRl := congrArg List.length hR
      simp only [List.length_append, List.length_cons, List.length_nil] at hRl
      simp (maxSteps := 2000000) only [go_sem, ↓reduceIte, L_value_write, R_value_write, hk, hvl, hfl']
      refine bldCall (.x 0) rfl (writeByte_at b 91 (by omega)) rfl rfl rfl rfl ?_
      simp (maxSteps := 2000000) only [go_sem, ↓reduceIte]
      refine run_loop (fun i : Nat => ⟨[(0, .ptr (.x 0) 0), (3, .ptr (.l 3) 0), (53, .d (.list (valsD v.l))), (54, .d (.int .i64 v.l.length)), (55, .d (.int .i64 i))],
          [(3, .cells [.d (.int .i64 5), .d (.int .i64 v.n), .d (.str v.s), .d (.list (valsD v.l)), .d (.list (fldsD v.f))])],
          [(0, Bld.at (.x 0) (.has (b.bytes ++ [91] ++ textL false (v.l.take i))))]⟩)
        (fun i => i ≤ v.l.length) (fun i => v.l.length - i) 0 ?_ ?_ ?_
      · refine Weak.mk ?_ ?_ ?_ <;> simp (maxSteps := 2000000) only [go_sem, ↓reduceIte, Sub, Int.natCast_add, Int.natCast_mul, List.take_zero, textL, hvl]
      · omega
      · intro i hi
        simp (maxSteps := 2000000) only [go_sem, ↓reduceIte, hvl]
        refine ⟨fun hlt => ?_, fun hge => ?_⟩
        · obtain ⟨x, hx⟩ := get_some (l := v.l) (i := i) (by omega)
          have hm := List.mem_of_getElem? hx
          have hn := textL_next hx
          have hle := textL_take_le (l := v.l) (i := i + 1)
          have hnl := congrArg List.length hn
          simp only [List.length_append] at hnl
          by_cases i0 : 0 < i
          · rw [if_pos i0] at hn hnl
            have i0' : ((0 : Int) < (i : Int)) = True := by simp only [eq_iff_iff, iff_true]; omega
            simp only [List.length_cons, List.length_nil] at hnl
            have hc := ih x (.has (b.bytes ++ [91] ++ textL false (v.l.take i) ++ [32])) (by have := size_l hm; omega) (hsl x hm) (wellV_5 hw hk hm) (by simp only [Bld.bytes_has, List.length_append, List.length_cons, List.length_nil]; omega)
            rw [Val.d_eq] at hc
            simp (maxSteps := 2000000) (disch := omega) only [go_sem, ↓reduceIte, getI_nat, valsD_get, hx, Val.d_eq, i0']
            refine bldCall (.x 0) rfl (writeByte_at (.has (b.bytes ++ [91] ++ textL false (v.l.take i))) 32 (by simp only [Bld.bytes_has, List.length_append, List.length_cons, List.length_nil]; omega)) rfl rfl rfl rfl ?_
            simp (maxSteps := 2000000) (disch := omega) only [go_sem, ↓reduceIte, Bld.bytes_has]
            refine bldCall (.x 0) rfl (hc) rfl rfl rfl rfl ?_
            simp (maxSteps := 2000000) (disch := omega) only [go_sem, ↓reduceIte]
            refine ⟨i + 1, ?_, by omega, by omega⟩
            refine Weak.mk ?_ ?_ ?_ <;> simp (maxSteps := 2000000) only [go_sem, ↓reduceIte, Sub, Int.natCast_add, Int.natCast_mul, hn, Bld.bytes_has, List.append_assoc]
          · rw [if_neg i0] at hn hnl
            have i0' : ((0 : Int) < (i : Int)) = False := by simp only [eq_iff_iff, iff_false]; omega
            simp only [List.length_nil] at hnl
            have hc := ih x (.has (b.bytes ++ [91] ++ textL false (v.l.take i))) (by have := size_l hm; omega) (hsl x hm) (wellV_5 hw hk hm) (by simp only [Bld.bytes_has, List.length_append, List.length_cons, List.length_nil]; omega)
            rw [Val.d_eq] at hc
            simp (maxSteps := 2000000) (disch := omega) only [go_sem, ↓reduceIte, getI_nat, valsD_get, hx, Val.d_eq, i0']
            refine bldCall (.x 0) rfl (hc) rfl rfl rfl rfl ?_
            simp (maxSteps := 2000000) (disch := omega) only [go_sem, ↓reduceIte]
            refine ⟨i + 1, ?_, by omega, by omega⟩
            refine Weak.mk ?_ ?_ ?_ <;> simp (maxSteps := 2000000) only [go_sem, ↓reduceIte, Sub, Int.natCast_add, Int.natCast_mul, hn, Bld.bytes_has, List.append_assoc, List.nil_append]
        · rw [List.take_of_length_le (by omega)]
          refine bldCall (.x 0) rfl (writeByte_at (.has (b.bytes ++ [91] ++ textL false v.l)) 93 (by simp only [Bld.bytes_has, List.length_append, List.length_cons, List.length_nil]; omega)) rfl rfl rfl rfl ?_
          simp (maxSteps := 2000000) only [go_sem, ↓reduceIte, Bld.bytes_has]
          rw [← hR]; simp only [List.append_assoc]
    · refine lift_value_write.mcall (by kernel_rfl) rfl ?_
      rw [hk] at hR
      simp only [Int.reduceEq, ↓reduceIte] at hR
      have hRl := congrArg List.length hR
      simp only [List.length_append, List.length_cons, List.length_nil] at hRl
      simp (maxSteps := 2000000) only [go_sem, ↓reduceIte, L_value_write, R_value_write, hk, hvl, hfl']
      refine bldCall (.x 0) rfl (writeString_at b [60, 60] (by simp only [List.length_append, List.length_cons, List.length_nil]; omega)) rfl rfl rfl rfl ?_
      simp (maxSteps := 2000000) only [go_sem, ↓reduceIte]
      refine run_loop (fun i : Nat => ⟨[(0, .ptr (.x 0) 0), (3, .ptr (.l 3) 0), (75, .d (.list (fldsD v.f))), (76, .d (.int .i64 v.f.length)), (77, .d (.int .i64 i))],
          [(3, .cells [.d (.int .i64 6), .d (.int .i64 v.n), .d (.str v.s), .d (.list (valsD v.l)), .d (.list (fldsD v.f))])],
          [(0, Bld.at (.x 0) (.has (b.bytes ++ [60, 60] ++ textX (v.f.take i))))]⟩)
        (fun i => i ≤ v.f.length) (fun i => v.f.length - i) 0 ?_ ?_ ?_
      · refine Weak.mk ?_ ?_ ?_ <;> simp (maxSteps := 2000000) only [go_sem, ↓reduceIte, Sub, Int.natCast_add, Int.natCast_mul, List.take_zero, textX, hfl']
      · omega
      · intro i hi
        simp (maxSteps := 2000000) only [go_sem, ↓reduceIte, hfl']
        refine ⟨fun hlt => ?_, fun hge => ?_⟩
        · obtain ⟨x, hx⟩ := get_some (l := v.f) (i := i) (by omega)
          have hm := List.mem_of_getElem? hx
          have hn := textX_next hx
          have hle := textX_take_le (l := v.f) (i := i + 1)
          have hnl := congrArg List.length hn
          simp only [textG, List.length_append, List.length_cons, List.length_nil] at hnl
          have hsx := Fld.sm_iff.1 (hsf x hm)
          have hsx1 := hsx.1
          have hc := ih x.v (.has (b.bytes ++ [60, 60] ++ textX (v.f.take i) ++ [32] ++ [47] ++ nameP x.name ++ [32])) (by have := size_f hm; omega) hsx.2 (wellV_6 hw hk hm) (by simp only [Bld.bytes_has, List.length_append, List.length_cons, List.length_nil]; omega)
          rw [Val.d_eq] at hc
          simp (maxSteps := 2000000) (disch := omega) only [go_sem, ↓reduceIte, getI_nat, fldsD_get, hx, Fld.d_eq]
          refine bldCall (.x 0) rfl (writeByte_at (.has (b.bytes ++ [60, 60] ++ textX (v.f.take i))) 32 (by simp only [Bld.bytes_has, List.length_append, List.length_cons, List.length_nil]; omega)) rfl rfl rfl rfl ?_
          simp (maxSteps := 2000000) (disch := omega) only [go_sem, ↓reduceIte, Bld.bytes_has]
          refine bldCall (.x 0) rfl (name_at (.has (b.bytes ++ [60, 60] ++ textX (v.f.take i) ++ [32])) x.name (by simp only [Bld.bytes_has, List.length_append, List.length_cons, List.length_nil]; omega)) rfl rfl rfl rfl ?_
          simp (maxSteps := 2000000) (disch := omega) only [go_sem, ↓reduceIte, Bld.bytes_has]
          refine bldCall (.x 0) rfl (writeByte_at (.has (b.bytes ++ [60, 60] ++ textX (v.f.take i) ++ [32] ++ [47] ++ nameP x.name)) 32 (by simp only [Bld.bytes_has, List.length_append, List.length_cons, List.length_nil]; omega)) rfl rfl rfl rfl ?_
          simp (maxSteps := 2000000) (disch := omega) only [go_sem, ↓reduceIte, Bld.bytes_has]
          refine bldCall (.x 0) rfl (hc) rfl rfl rfl rfl ?_
          simp (maxSteps := 2000000) (disch := omega) only [go_sem, ↓reduceIte]
          refine ⟨i + 1, ?_, by omega, by omega⟩
          refine Weak.mk ?_ ?_ ?_ <;> simp (maxSteps := 2000000) only [go_sem, ↓reduceIte, Sub, Int.natCast_add, Int.natCast_mul, hn, Bld.bytes_has, textG, List.append_assoc]
        · rw [List.take_of_length_le (by omega)]
          refine bldCall (.x 0) rfl (writeString_at (.has (b.bytes ++ [60, 60] ++ textX v.f)) [32, 62, 62] (by simp only [Bld.bytes_has, List.length_append, List.length_cons, List.length_nil]; omega)) rfl rfl rfl rfl ?_
          simp (maxSteps := 2000000) only [go_sem, ↓reduceIte, Bld.bytes_has]
          rw [← hR]; simp only [List.append_assoc]
    · refine lift_value_write.mcall (by kernel_rfl) rfl ?_
      have hL := wellV_7 hw hk
      rw [hk] at hR
      simp only [Int.reduceEq, ↓reduceIte] at hR
      have hc := text_call (v.n * 1000)
      have hLim : Lim (v.n * 1000) := by unfold Lim; omega
      have hz : v.n = ((v.n.toNat : Nat) : Int) := by omega
      have hT : textF (v.n * 1000) = Lib.decDigits v.n.toNat := by rw [hz]; exact textF_whole _
      rw [resT, if_pos hLim, hT] at hc
      simp (maxSteps := 2000000) (disch := omega) only [go_sem, ↓reduceIte, L_value_write, R_value_write, hk, hvl, hfl']
      refine CallG.of hc ?_
      simp (maxSteps := 2000000) only [go_sem, ↓reduceIte]
      have hRl := congrArg List.length hR
      simp only [List.length_append, List.length_cons, List.length_nil] at hRl
      refine ⟨by omega, ?_⟩
      refine bldCall (.x 0) rfl (writeString_at b (Lib.decDigits v.n.toNat ++ [32, 48, 32, 82]) (by rw [List.length_append, hR]; omega)) rfl rfl rfl rfl ?_
      simp (maxSteps := 2000000) only [go_sem, ↓reduceIte]
      rw [hR]

/-! ### The whole text -/
theorem textF_len {a : Int} (h : Lim a) : (textF a).length ≤ 100 := by
  unfold Lim at h
  have h1 := nDigits_le (a.natAbs / 1000) 6 (by omega)
  have h2 : (trimR (fracD (a.natAbs % 1000))).length ≤ 3 := by
    unfold trimR; rw [List.length_reverse]
    exact Nat.le_trans (List.dropWhile_sublist _).length_le (by rw [List.length_reverse]; exact Nat.le_refl 3)
  have h3 : (fracT (a.natAbs % 1000)).length ≤ 4 := by
    unfold fracT
    split
    · simp
    · simp only [List.length_cons]; omega
  have h4 : (if a < 0 then [(45 : UInt8)] else []).length ≤ 1 := by split <;> simp
  unfold textF
  simp only [List.length_append]; omega
theorem nameMay_len {s : List UInt8} (h : nameMay s = true) : s.length ≤ 200 := by
  unfold nameMay at h; simp only [Bool.and_eq_true, decide_eq_true_eq] at h; exact h.2.1
theorem wellV_3 {v : Val} (h : wellV v = true) (hk : v.kind = 3) : v.s.length ≤ 200 := by rw [wellV_eq, hk] at h; simp at h; exact h.2.1
theorem wellV_4 {v : Val} (h : wellV v = true) (hk : v.kind = 4) : v.s.length ≤ 200 := by rw [wellV_eq, hk] at h; simp at h; exact nameMay_len h.2.1
theorem wellV_6a {v : Val} (h : wellV v = true) (hk : v.kind = 6) : ∀ x ∈ v.f, nameMay x.name = true ∧ wellV x.v = true := by rw [wellV_eq, hk] at h; simp at h; exact fun x hx => wellF_mem h.2.2.2 hx
mutual
theorem textV_len : ∀ (v : Val), wellV v = true → (textV v).length + 700 ≤ 2000 * (ptV v).1
  | .mk k n s l f, hw => by
    have hl : k = 5 → (textL false l).length ≤ 2000 * (ptL l).1 := fun e => textL_len l false (fun x hx => wellV_5 hw e hx)
    have hf : k = 6 → (textX f).length ≤ 2000 * (ptF f).1 := fun e => textX_len f (wellV_6a hw e)
    have h1 := strP_length s
    have h2 := nameP_length s
    have h3 : k = 3 → s.length ≤ 200 := fun e => wellV_3 hw e
    have h4 : k = 4 → s.length ≤ 200 := fun e => wellV_4 hw e
    have h5 : k = 2 → (textF n).length ≤ 100 := fun e => textF_len (wellV_2 hw e)
    have h6 : k = 7 → (Lib.decDigits n.toNat).length ≤ 3 := fun e => by
      have := wellV_7 hw e
      simp only [Val.n] at this
      exact nDigits_le _ 2 (by omega)
    simp only [textV, ptV]
    split
    · split <;> simp <;> omega
    split
    · rename_i e; have := h5 e; omega
    split
    · rename_i e; have := h3 e; simp only [List.length_append, List.length_cons, List.length_nil]; omega
    split
    · rename_i e; have := h4 e; simp only [List.length_append, List.length_cons, List.length_nil]; omega
    split
    · rename_i e; have := hl e; simp only [List.length_append, List.length_cons, List.length_nil]; omega
    split
    · rename_i e; have := hf e; simp only [List.length_append, List.length_cons, List.length_nil]; omega
    split
    · rename_i e; have := h6 e; simp only [List.length_append, List.length_cons, List.length_nil]; omega
    · simp only [List.length_cons, List.length_nil]; omega
theorem textL_len : ∀ (l : List Val) (sep : Bool), (∀ x ∈ l, wellV x = true) → (textL sep l).length ≤ 2000 * (ptL l).1
  | [], _, _ => by simp [textL]
  | v :: r, sep, h2 => by
    have a := textV_len v (h2 v (by simp))
    have b := textL_len r true (fun x hx => h2 x (by simp [hx]))
    have c : (if sep = true then [(32 : UInt8)] else []).length ≤ 1 := by split <;> simp
    simp only [textL, ptL, List.length_append]; omega
theorem textX_len : ∀ (l : List Fld), (∀ x ∈ l, nameMay x.name = true ∧ wellV x.v = true) → (textX l).length ≤ 2000 * (ptF l).1
  | [], _ => by simp [textX]
  | .mk nm v :: r, h2 => by
    have z := h2 (.mk nm v) (by simp)
    simp only [Fld.name, Fld.v] at z
    have a := textV_len v z.2
    have b := textX_len r (fun x hx => h2 x (by simp [hx]))
    have c := nameP_length nm
    have d := nameMay_len z.1
    simp only [textX, ptF, List.length_append, List.length_cons, List.length_nil]; omega
end
theorem faultV_0 {v : Val} : faultV v = 0 ↔ (¬ (300 < (ptV v).1 ∨ 8 < (ptV v).2) ∧ wellV v = true) := by
  unfold faultV
  split
  · rename_i h; simp only [h, not_true, false_and, iff_false]; omega
  · rename_i h
    split
    · rename_i h2; simp [h, h2]
    · rename_i h2; simp [h2]

def textR (v : Val) : Res := if faultV v = 0 then .tup [.str (textV v), .nil] else .tup [.str [], errD (faultV v)]

/-- value.Text -/
def L_value_Text : LCode :=
  .seq (.reg [⟨some 1, .box (.t 0), none⟩, ⟨some 2, .asg (.k (.d (.str []))), none⟩, ⟨some 3, .asg (.k (.d .nil)), none⟩]) (.seq (.reg [⟨some 6, .val (.ld true 5 (.t 1)), none⟩, 
  ⟨some 7, .call 31 [.t 6], none⟩, ⟨some 4, .asg (.t 7), none⟩]) (.seq (.seq (.reg [⟨some 8, .val (.cp (.t 4)), none⟩, ⟨some 9, .val (.eqN 0 true (.t 8)), none⟩]) (.cond (.t 9) 
  (.seq (.reg [⟨some 10, .val (.cp (.t 4)), none⟩, ⟨some 2, .asg (.k (.d (.str []))), none⟩, ⟨some 3, .asg (.t 10), none⟩]) .ret) .skip)) (.seq (.reg [⟨some 5, .allo [.nilpT 59, 
  .list []], none⟩]) (.seq (.reg [⟨some 11, .val (.ld true 5 (.t 1)), none⟩, ⟨some 12, .prim .call [.k (.fn (.func 32) [] []), .t 5, .t 11] [], none⟩]) (.seq (.reg [⟨some 13, .prim 
  .call [.k (.fn (.func 27) [] []), .t 5] [], none⟩, ⟨some 2, .asg (.t 13), none⟩, ⟨some 3, .asg (.k (.d .nil)), none⟩]) .ret)))))
def R_value_Text : List LRes := [.tmp 2, .tmp 3]
theorem lift_value_Text : Lifts Tryz.prog 13 14 L_value_Text R_value_Text := ⟨_, _, Tryz.func13, rfl, by kernel_rfl, by kernel_rfl, rfl⟩

theorem textV_call (v : Val) (hsm : v.sm 1048576 = true) : PCall Tryz.prog 13 [v.d] (fun r => r = textR v) := by
  have hc := checkV_call v hsm
  by_cases h0 : faultV v = 0
  · obtain ⟨h1, hw⟩ := faultV_0.1 h0
    have hl := textV_len v hw
    have h2 := write_at _ v .new (Nat.le_refl _) hsm hw (by simp only [Bld.bytes, List.length_nil]; omega)
    have h3 := string_call (.has (textV v)) (by simp only [Bld.bytes]; omega)
    rw [textR, if_pos h0]
    rw [h0, show errD 0 = .nil from rfl] at hc
    rw [Val.d_eq] at *
    refine lift_value_Text.call rfl ?_
    simp (maxSteps := 2000000) only [go_sem, ↓reduceIte, L_value_Text, R_value_Text]
    refine CallG.of hc ?_
    simp (maxSteps := 2000000) only [go_sem, ↓reduceIte]
    simp only [Bld.obj, Bld.said, Bld.bytes] at h3
    refine bldCall (.l 5) rfl (h2) rfl rfl rfl rfl ?_
    simp (maxSteps := 2000000) only [go_sem, ↓reduceIte, Bld.at, Bld.bytes]
    refine PrimG.mcall ([.l 5]) ([]) rfl (h3) rfl rfl (by simp only [objsAt, St.obj, aget, AObj.ren, AV.ren, AV.ren1, renL, ren1L, renR, renQ, List.getD_cons_zero, List.getD_cons_succ, and_true, and_self, Nat.reduceEqDiff, ↓reduceIte, reduceCtorEq]) rfl rfl rfl ⟨rfl, rfl⟩ ?_
    simp (maxSteps := 2000000) only [go_sem, ↓reduceIte]
  · rw [textR, if_neg h0]
    rw [errD_ne h0] at hc ⊢
    rw [Val.d_eq] at *
    refine lift_value_Text.call rfl ?_
    simp (maxSteps := 2000000) only [go_sem, ↓reduceIte, L_value_Text, R_value_Text]
    refine CallG.of hc ?_
    simp (maxSteps := 2000000) only [go_sem, ↓reduceIte]
end Go.Av.Tryz
set_option linter.unusedSimpArgs false
namespace Go.Av.Tryz
open Go.Proofs

/-- What Copy hands back: a value; its fields, if it has any, in a row that is nobody else's. -/
def CopyR (v : Val) : XR → Prop := fun r => ∃ X : AV, ((X = .ns ∧ v.l = []) ∨ X = .d (.list (valsD v.l))) ∧
  ((v.f = [] ∧ r = .nul [.d (.int .i64 v.kind), .d (.int .i64 v.n), .d (.str v.s), X]) ∨ (v.f ≠ [] ∧ ∃ c, r = .row [.d (.int .i64 v.kind), .d (.int .i64 v.n), .d (.str v.s), X] 6 (fldsD v.f) c))

theorem CopyR.data {v : Val} {r : XR} (h : CopyR v r) : r.data = v.d := by
  obtain ⟨X, hX, h⟩ := h
  rw [Val.d_eq]
  have hx : X.den1 = .list (valsD v.l) := by
    rcases hX with ⟨rfl, e⟩ | rfl
    · rw [e]; rfl
    · rfl
  rcases h with ⟨e, rfl⟩ | ⟨_, c, rfl⟩
  · rw [e]; simp [XR.data, AV.den1, ← hx, fldsD]
  · simp [XR.data, AV.den1, ← hx]

theorem fldsD_cells (l : List Fld) : ∀ y ∈ fldsD l, y.cells.length = 6 := by
  intro y hy
  rw [fldsD_eq] at hy
  obtain ⟨x, _, rfl⟩ := List.mem_map.1 hy
  rw [Fld.d_eq]; rfl
theorem fldsD_append (a b : List Fld) : fldsD (a ++ b) = fldsD a ++ fldsD b := by simp [fldsD_eq]
theorem valsD_append (a b : List Val) : valsD (a ++ b) = valsD a ++ valsD b := by simp [valsD_eq]

/-- value.Copy -/
def L_value_Copy : LCode :=
  .seq (.reg [⟨some 1, .box (.t 0), none⟩, ⟨some 2, .allo [.int .i64 0, .int .i64 0, .str [], .list [], .list []], none⟩]) (.seq (.dreg [⟨some 9, .val (.fa 3 (.t 1)), none⟩, ⟨some 
  10, .val (.ld false 1 (.t 9)), none⟩, ⟨some 11, .val (.fa 4 (.t 1)), none⟩, ⟨some 12, .val (.ld false 1 (.t 11)), none⟩, ⟨some 3, .val (.cp (.t 10)), none⟩, ⟨some 4, .val (.cp 
  (.t 12)), none⟩]) (.seq (.reg [⟨some 13, .val (.fa 3 (.t 1)), none⟩, ⟨none, .st 1 (.t 13) (.k .ns), none⟩, ⟨some 14, .val (.fa 4 (.t 1)), none⟩, ⟨none, .st 1 (.t 14) (.k .ns), 
  none⟩]) (.seq (.seq (.reg [⟨some 15, .val (.cp (.t 3)), none⟩, ⟨some 16, .val (.len false (.t 15)), none⟩, ⟨some 17, .val (.cp (.k (.d (.int .i64 0)))), none⟩]) (.block 0 (.loop 
  (.seq (.reg [⟨some 18, .val (.bin .lss (.t 17) (.t 16)), none⟩]) (.seq (.cond (.t 18) .skip (.exit 0)) (.seq (.block 1 (.seq (.reg [⟨some 19, .val (.ia 5 (.t 15) (.t 17)), none⟩, 
  ⟨some 20, .val (.ld true 5 (.t 19)), none⟩, ⟨some 6, .allo [.int .i64 0, .int .i64 0, .str [], .list [], .list []], none⟩, ⟨none, .st 5 (.t 6) (.t 20), none⟩]) (.dreg [⟨some 21, 
  .val (.fa 3 (.t 1)), none⟩, ⟨some 22, .val (.ld false 1 (.t 21)), none⟩, ⟨some 23, .val (.ld true 5 (.t 6)), none⟩, ⟨some 24, .call 103 [.t 23], none⟩, ⟨some 25, .bsl 41 5 [.t 
  24], none⟩, ⟨some 26, .app 41 5 80 false (.t 22) (.t 25), none⟩, ⟨some 27, .val (.fa 3 (.t 1)), none⟩, ⟨none, .st 1 (.t 27) (.t 26), none⟩]))) (.reg [⟨some 28, .val (.bin .add 
  (.t 17) (.k (.d (.int .i64 1)))), none⟩, ⟨some 17, .val (.cp (.t 28)), none⟩]))))))) (.seq (.seq (.reg [⟨some 29, .val (.cp (.t 4)), none⟩, ⟨some 30, .val (.len false (.t 29)), 
  none⟩, ⟨some 31, .val (.cp (.k (.d (.int .i64 0)))), none⟩]) (.block 2 (.loop (.seq (.reg [⟨some 32, .val (.bin .lss (.t 31) (.t 30)), none⟩]) (.seq (.cond (.t 32) .skip (.exit 
  2)) (.seq (.block 3 (.seq (.reg [⟨some 33, .val (.ia 6 (.t 29) (.t 31)), none⟩, ⟨some 34, .val (.ld true 6 (.t 33)), none⟩, ⟨some 8, .allo [.str [], .int .i64 0, .int .i64 0, 
  .str [], .list [], .list []], none⟩, ⟨none, .st 6 (.t 8) (.t 34), none⟩]) (.dreg [⟨some 35, .val (.fa 4 (.t 1)), none⟩, ⟨some 36, .val (.ld false 1 (.t 35)), none⟩, ⟨some 37, 
  .val (.fa 0 (.t 8)), none⟩, ⟨some 38, .val (.ld false 1 (.t 37)), none⟩, ⟨some 39, .val (.fa 1 (.t 8)), none⟩, ⟨some 40, .val (.ld true 5 (.t 39)), none⟩, ⟨some 41, .call 103 [.t 
  40], none⟩, ⟨some 42, .val (.bld [(0, 1), (1, 5)] [.str [], .int .i64 0, .int .i64 0, .str [], .list [], .list []] [] [(0, .t 38), (1, .t 41)]), none⟩, ⟨some 43, .bsl 77 6 [.t 
  42], none⟩, ⟨some 44, .prim (.bi .append [39, 39]) [.t 36, .t 43] [], none⟩, ⟨some 45, .val (.fa 4 (.t 1)), none⟩, ⟨none, .st 1 (.t 45) (.t 44), none⟩]))) (.reg [⟨some 46, .val 
  (.bin .add (.t 31) (.k (.d (.int .i64 1)))), none⟩, ⟨some 31, .val (.cp (.t 46)), none⟩]))))))) (.seq (.reg [⟨some 47, .val (.ld true 5 (.t 1)), none⟩, ⟨none, .st 5 (.t 2) (.t 
  47), none⟩]) .ret)))))
def R_value_Copy : List LRes := [.cell 2 true 5]
theorem lift_value_Copy : Lifts Tryz.prog 103 48 L_value_Copy R_value_Copy := ⟨_, _, Tryz.func103, rfl, by kernel_rfl, by kernel_rfl, rfl⟩

def lcell (v : Val) : Nat → AV
  | 0 => .ns
  | i + 1 => .own (.c (.l 1) 3) 41 5 (valsD (v.l.take (i + 1)))
def fcell (c : Nat) : Nat → AV
  | 0 => .ns
  | j + 1 => .rs (.l 44) (j + 1) c
def frow (v : Val) (c : Nat) : Nat → List (Nat × AObj)
  | 0 => []
  | j + 1 => [(44, .cells (rowC 6 (fldsD (v.f.take (j + 1))) c))]

theorem lcell_cases (v : Val) (i : Nat) : (lcell v i = .ns ∧ v.l.take i = []) ∨ lcell v i = .own (.c (.l 1) 3) 41 5 (valsD (v.l.take i)) := by
  cases i with
  | zero => exact .inl ⟨rfl, rfl⟩
  | succ i => exact .inr rfl
theorem lcell_succ (v : Val) (i : Nat) : lcell v (i + 1) = .own (.c (.l 1) 3) 41 5 (valsD (v.l.take (i + 1))) := rfl

theorem lcell_has (r : Ref) (v : Val) (i : Nat) : AV.has r (lcell v i) = false := by cases i <;> rfl
theorem lcell_end (v : Val) {i : Nat} (hi : v.l.length ≤ i) : (lcell v i = .ns ∧ v.l = []) ∨ lcell v i = .own (.c (.l 1) 3) 41 5 (valsD v.l) := by
  cases i with
  | zero => exact .inl ⟨rfl, List.eq_nil_of_length_eq_zero (by omega)⟩
  | succ i => right; rw [lcell_succ, List.take_of_length_le hi]
theorem fieldRow : liftSl Tryz.prog 39 = some (77, 6, 96) := by kernel_rfl
theorem fieldZero : zeroOne Tryz.prog 77 = true := by kernel_rfl
theorem fieldSl : isSl Tryz.prog 39 = true := by kernel_rfl
theorem fcell_succ (c j : Nat) : fcell c (j + 1) = .rs (.l 44) (j + 1) c := rfl
theorem frow_succ (v : Val) (c j : Nat) : frow v c (j + 1) = [(44, .cells (rowC 6 (fldsD (v.f.take (j + 1))) c))] := rfl

theorem fcell_cases (v : Val) {c j : Nat} (hc : j = 0 ∨ j ≤ c ∧ c ≤ maxLen) : (fcell c j = .ns ∧ frow v c j = [] ∧ j = 0) ∨ (fcell c j = .rs (.l 44) j c ∧ frow v c j = [(44, .cells (rowC 6 (fldsD (v.f.take j)) c))] ∧ j ≠ 0 ∧ j ≤ c ∧ c ≤ maxLen) := by
  cases j with
  | zero => exact .inl ⟨rfl, rfl, rfl⟩
  | succ j => exact .inr ⟨rfl, rfl, by omega, by omega, by omega⟩

theorem copyN : ∀ (m : Nat) (v : Val), SizeOf.sizeOf v ≤ m → v.sm 1048576 = true → NCall Tryz.prog 103 [v.d] (CopyR v) := by
  intro m
  induction m with
  | zero => intro v h; cases v; simp at h
  | succ m ih =>
    intro v hv hsm
    obtain ⟨_, hll, hfl, hsl, hsf⟩ := Val.sm_iff.1 hsm
    have hvl := valsD_length v.l
    have hfl' := fldsD_length v.f
    have ihP : ∀ x : Val, SizeOf.sizeOf x ≤ m → x.sm 1048576 = true → PCall Tryz.prog 103 [x.d] (fun r => r = .one x.d) := fun x h1 h2 => (ih x h1 h2).pcall fun r hr => by rw [hr.data]
    have hmain : RUN Tryz.prog L_value_Copy [] (retN 2 5 (CopyR v)) ⟨initρ 0 [v.d], [], []⟩ := by
      rw [Val.d_eq]
      simp (maxSteps := 2000000) only [go_sem, ↓reduceIte, L_value_Copy]
      refine run_loop (fun i : Nat => ⟨[(1, .ptr (.l 1) 0), (2, .ptr (.l 2) 0), (4, .d (.list (fldsD v.f))), (15, .d (.list (valsD v.l))), (16, .d (.int .i64 (valsD v.l).length)), (17, .d (.int .i64 i))],
          [(1, .cells [.d (.int .i64 v.kind), .d (.int .i64 v.n), .d (.str v.s), lcell v i, .ns]), (2, .cells [.d (.int .i64 0), .d (.int .i64 0), .d (.str []), .ns, .ns])], []⟩)
        (fun i => i ≤ v.l.length) (fun i => v.l.length - i) 0 ?_ (by omega) ?_
      · refine Weak.mk ?_ ?_ ?_ <;> simp (maxSteps := 2000000) only [go_sem, ↓reduceIte, Sub, Int.natCast_add, Int.natCast_mul, lcell]
      · intro i hi
        simp (maxSteps := 2000000) only [go_sem, ↓reduceIte, hvl]
        refine ⟨fun hlt => ?_, fun hge => ?_⟩
        · obtain ⟨x, hx⟩ := get_some (l := v.l) (i := i) (by omega)
          have hm := List.mem_of_getElem? hx
          have hc := ihP x (by have := size_l hm; omega) (hsl x hm)
          rw [Val.d_eq] at hc
          rcases lcell_cases v i with ⟨hlc, ht⟩ | hlc
          · simp (maxSteps := 2000000) (disch := omega) only [go_sem, ↓reduceIte, getI_nat, valsD_get, hx, Val.d_eq, hlc]
            refine CallD.of hc ?_
            simp (maxSteps := 2000000) (disch := omega) only [go_sem, ↓reduceIte]
            refine ⟨i + 1, ?_, by omega, by omega⟩
            refine Weak.mk ?_ ?_ ?_ <;> simp (maxSteps := 2000000) only [go_sem, ↓reduceIte, Sub, Int.natCast_add, Int.natCast_mul, lcell_succ, take_snoc hx, ht, valsD, Val.d_eq, hvl]
          · simp (maxSteps := 2000000) (disch := omega) only [go_sem, ↓reduceIte, getI_nat, valsD_get, hx, Val.d_eq, hlc]
            refine CallD.of hc ?_
            have htl : (valsD (v.l.take i)).length ≤ 1048576 := by rw [valsD_length, List.length_take]; omega
            simp (maxSteps := 2000000) (disch := omega) only [go_sem, ↓reduceIte]
            refine ⟨⟨by omega, by omega⟩, ⟨i + 1, ?_, by omega, by omega⟩⟩
            refine Weak.mk ?_ ?_ ?_ <;> simp (maxSteps := 2000000) only [go_sem, ↓reduceIte, Sub, Int.natCast_add, Int.natCast_mul, lcell_succ, take_snoc hx, valsD_append, valsD, Val.d_eq, hvl]
        · have hge' : v.l.length ≤ i := by omega
          have hLC := lcell_end v hge'
          have hhas := fun r => lcell_has r v i
          generalize lcell v i = LC at hLC hhas
          refine run_loop (fun y : Nat × Nat => ⟨[(1, .ptr (.l 1) 0), (2, .ptr (.l 2) 0), (29, .d (.list (fldsD v.f))), (30, .d (.int .i64 (fldsD v.f).length)), (31, .d (.int .i64 y.1))],
              (1, .cells [.d (.int .i64 v.kind), .d (.int .i64 v.n), .d (.str v.s), LC, fcell y.2 y.1]) :: (2, .cells [.d (.int .i64 0), .d (.int .i64 0), .d (.str []), .ns, .ns]) :: frow v y.2 y.1, []⟩)
            (fun y => y.1 ≤ v.f.length ∧ (y.1 = 0 ∨ y.1 ≤ y.2 ∧ y.2 ≤ maxLen)) (fun y => v.f.length - y.1) (0, 0) ?_ ⟨by simp, .inl rfl⟩ ?_
          · refine Weak.mk ?_ ?_ ?_ <;> simp (maxSteps := 2000000) only [go_sem, ↓reduceIte, Sub, Int.natCast_add, Int.natCast_mul, fcell, frow]
          · rintro ⟨j, c⟩ ⟨hj, hc⟩
            simp only at hj hc
            simp (maxSteps := 2000000) only [go_sem, ↓reduceIte, hfl']
            refine ⟨fun hlt => ?_, fun hge => ?_⟩
            · obtain ⟨x, hx⟩ := get_some (l := v.f) (i := j) (by omega)
              have hm := List.mem_of_getElem? hx
              have hcl := ihP x.v (by have := size_f hm; omega) (Fld.sm_iff.1 (hsf x hm)).2
              rw [Val.d_eq] at hcl
              rcases fcell_cases v hc with ⟨e1, e2, e3⟩ | ⟨e1, e2, e3, e4, e5⟩
              · simp (maxSteps := 2000000) (disch := omega) only [go_sem, ↓reduceIte, getI_nat, fldsD_get, hx, Fld.d_eq, e1, e2, ↓hhas, rowC_drop]
                refine CallD.of hcl ?_
                simp (maxSteps := 2000000) (disch := omega) only [go_sem, ↓reduceIte]
                refine PrimG.appRow (c := 0) (fs := []) fieldRow fieldZero fieldSl (.inl ⟨rfl, rfl⟩) rfl (by simp) (by simp [D.cells]) (by simp) (by simp [maxLen]) (fun c' h1 h2 => ?_)
                simp (maxSteps := 2000000) (disch := omega) only [go_sem, ↓reduceIte, rowC_drop, ↓hhas]
                refine ⟨(j + 1, c'), ?_, ⟨by simp only; omega, .inr ⟨?_, h2⟩⟩, by simp only; omega⟩
                · subst e3
                  refine Weak.mk ?_ ?_ ?_ <;> simp (maxSteps := 2000000) only [go_sem, ↓reduceIte, Sub, Int.natCast_add, Int.natCast_mul, fcell_succ, frow_succ, take_snoc hx, fldsD_append, fldsD, Fld.d_eq]
                · simp only [List.length_nil, List.length_cons] at h1
                  simp only; omega
              · simp (maxSteps := 2000000) (disch := omega) only [go_sem, ↓reduceIte, getI_nat, fldsD_get, hx, Fld.d_eq, e1, e2, ↓hhas, rowC_drop]
                refine CallD.of hcl ?_
                simp (maxSteps := 2000000) (disch := omega) only [go_sem, ↓reduceIte]
                have hfl2 : (fldsD (v.f.take j)).length = j := by rw [fldsD_length, List.length_take]; omega
                refine PrimG.appRow (c := c) (fs := fldsD (v.f.take j)) fieldRow fieldZero fieldSl (.inr ⟨by rw [hfl2]; rfl, rfl, by omega, e5⟩) rfl (by simp) (by simp [D.cells]) (fldsD_cells _) (by simp [hfl2, maxLen]; omega) (fun c' h1 h2 => ?_)
                rw [hfl2] at h1 ⊢
                simp (maxSteps := 2000000) (disch := omega) only [go_sem, ↓reduceIte, rowC_drop, ↓hhas]
                refine ⟨(j + 1, c'), ?_, ⟨by simp only; omega, .inr ⟨?_, h2⟩⟩, by simp only; omega⟩
                · refine Weak.mk ?_ ?_ ?_ <;> simp (maxSteps := 2000000) only [go_sem, ↓reduceIte, Sub, Int.natCast_add, Int.natCast_mul, fcell_succ, frow_succ, take_snoc hx, fldsD_append, fldsD, Fld.d_eq]
                · simp only [List.length_nil, List.length_cons] at h1
                  simp only; omega
            · have hj' : j = v.f.length := by omega
              have htk : v.f.take j = v.f := List.take_of_length_le (by omega)
              rcases fcell_cases v hc with ⟨e1, e2, e3⟩ | ⟨e1, e2, e3, e4, e5⟩
              · have hf0 : v.f = [] := List.eq_nil_of_length_eq_zero (by omega)
                rcases hLC with ⟨rfl, hl0⟩ | rfl
                · simp (maxSteps := 2000000) only [go_sem, ↓reduceIte, e1, e2]
                  exact ⟨.nul [.d (.int .i64 v.kind), .d (.int .i64 v.n), .d (.str v.s), .ns], 0, rfl, (fun _ _ _ _ h => by cases h), by simp [XR.ok, AV.dns], _, .inl ⟨rfl, hl0⟩, .inl ⟨hf0, rfl⟩⟩
                · simp (maxSteps := 2000000) only [go_sem, ↓reduceIte, e1, e2]
                  exact ⟨.nul [.d (.int .i64 v.kind), .d (.int .i64 v.n), .d (.str v.s), .d (.list (valsD v.l))], 0, rfl, (fun _ _ _ _ h => by cases h), by simp [XR.ok, AV.dns], _, .inr rfl, .inl ⟨hf0, rfl⟩⟩
              · have hf0 : v.f ≠ [] := fun e => e3 (by rw [hj', e]; rfl)
                have hjl : j = (fldsD v.f).length := by omega
                rcases hLC with ⟨rfl, hl0⟩ | rfl
                · simp (maxSteps := 2000000) only [go_sem, ↓reduceIte, e1, e2, htk]
                  exact ⟨.row [.d (.int .i64 v.kind), .d (.int .i64 v.n), .d (.str v.s), .ns] 6 (fldsD v.f) c, 44, by rw [hjl]; rfl, (fun _ _ _ _ h => by cases h; rfl), ⟨by simp [AV.dns], fldsD_cells _, by omega, e5⟩, _, .inl ⟨rfl, hl0⟩, .inr ⟨hf0, c, rfl⟩⟩
                · simp (maxSteps := 2000000) only [go_sem, ↓reduceIte, e1, e2, htk]
                  exact ⟨.row [.d (.int .i64 v.kind), .d (.int .i64 v.n), .d (.str v.s), .d (.list (valsD v.l))] 6 (fldsD v.f) c, 44, by rw [hjl]; rfl, (fun _ _ _ _ h => by cases h; rfl), ⟨by simp [AV.dns], fldsD_cells _, by omega, e5⟩, _, .inr rfl, .inr ⟨hf0, c, rfl⟩⟩
    exact lift_value_Copy.ncall rfl hmain
end Go.Av.Tryz
set_option linter.unusedSimpArgs false
namespace Go.Av.Tryz
open Go.Proofs

theorem u8_tri (a b : UInt8) : (a < b) ∨ (a = b) ∨ (b < a) := by
  simp only [UInt8.lt_iff_toNat_lt, ← UInt8.toNat_inj]; omega
theorem cmpB : ∀ (a b : List UInt8), (Lib.compareBytes a b < 0 ↔ Op.bytesLess a b = true) ∧ (Lib.compareBytes a b = 0 ↔ a = b)
  | [], [] => by simp [Lib.compareBytes, Op.bytesLess]
  | [], _ :: _ => by simp [Lib.compareBytes, Op.bytesLess]
  | _ :: _, [] => by simp [Lib.compareBytes, Op.bytesLess]
  | a :: x, b :: y => by
    have ih := cmpB x y
    simp only [Lib.compareBytes, Op.bytesLess, List.cons.injEq]
    rcases u8_tri a b with h | rfl | h
    · have h2 : ¬ a = b := fun e => by subst e; simp only [UInt8.lt_iff_toNat_lt] at h; omega
      simp [h, h2]
    · have h2 : ¬ a < a := by simp only [UInt8.lt_iff_toNat_lt]; omega
      simp [h2, ih]
    · have h2 : ¬ a < b := by simp only [UInt8.lt_iff_toNat_lt] at h ⊢; omega
      have h3 : ¬ a = b := fun e => by subst e; simp only [UInt8.lt_iff_toNat_lt] at h; omega
      simp [h, h2, h3]
theorem less_trans : ∀ {a b c : List UInt8}, Op.bytesLess a b = true → Op.bytesLess b c = true → Op.bytesLess a c = true
  | [], [], _, h, _ => by simp [Op.bytesLess] at h
  | [], _ :: _, [], _, h => by simp [Op.bytesLess] at h
  | [], _ :: _, _ :: _, _, _ => by simp [Op.bytesLess]
  | _ :: _, [], _, h, _ => by simp [Op.bytesLess] at h
  | _ :: _, _ :: _, [], _, h => by simp [Op.bytesLess] at h
  | a :: x, b :: y, c :: z, h, k => by
    simp only [Op.bytesLess, Bool.or_eq_true, Bool.and_eq_true, decide_eq_true_eq, beq_iff_eq, UInt8.lt_iff_toNat_lt] at h k ⊢
    rcases h with h | ⟨rfl, h⟩ <;> rcases k with k | ⟨rfl, k⟩
    · left; omega
    · exact .inl h
    · exact .inl k
    · exact .inr ⟨rfl, less_trans h k⟩
theorem less_irr : ∀ (a : List UInt8), Op.bytesLess a a = false
  | [] => rfl
  | a :: x => by
    have : ¬ a < a := by simp only [UInt8.lt_iff_toNat_lt]; omega
    simp [Op.bytesLess, less_irr x, this]

/-- internal/bytealg.CompareString -/
def L_internal_bytealg_CompareString : LCode :=
  .seq (.reg [⟨some 4, .asg (.k (.d (.int .i64 0))), none⟩]) (.seq (.reg [⟨some 5, .val (.cp (.t 0)), none⟩, ⟨some 6, .val (.cp (.t 1)), none⟩, ⟨some 7, .prim .call [.k (.fn (.func 
  129) [] []), .t 5, .t 6] [], none⟩, ⟨some 4, .asg (.t 7), none⟩]) .ret)
def R_internal_bytealg_CompareString : List LRes := [.tmp 4]
theorem lift_internal_bytealg_CompareString : Lifts Tryz.prog 115 8 L_internal_bytealg_CompareString R_internal_bytealg_CompareString := ⟨_, _, Tryz.func115, rfl, by kernel_rfl, by kernel_rfl, rfl⟩

/-- strings.Compare -/
def L_strings_Compare : LCode :=
  .seq (.reg [⟨some 4, .asg (.k (.d (.int .i64 0))), none⟩]) (.seq (.reg [⟨some 5, .val (.cp (.t 0)), none⟩, ⟨some 6, .val (.cp (.t 1)), none⟩, ⟨some 7, .call 115 [.t 5, .t 6], 
  none⟩, ⟨some 4, .asg (.t 7), none⟩]) .ret)
def R_strings_Compare : List LRes := [.tmp 4]
theorem lift_strings_Compare : Lifts Tryz.prog 106 8 L_strings_Compare R_strings_Compare := ⟨_, _, Tryz.func106, rfl, by kernel_rfl, by kernel_rfl, rfl⟩

/-- value.Set$1 -/
def L_value_Set_1 : LCode :=
  .seq (.reg [⟨some 2, .box (.t 0), none⟩, ⟨some 4, .asg (.k (.d (.int .i64 0))), none⟩]) (.seq (.reg [⟨some 5, .val (.fa 0 (.t 2)), none⟩, ⟨some 6, .val (.ld false 1 (.t 5)), none⟩, 
  ⟨some 7, .val (.cp (.t 1)), none⟩, ⟨some 8, .call 106 [.t 6, .t 7], none⟩, ⟨some 4, .asg (.t 8), none⟩]) .ret)
def R_value_Set_1 : List LRes := [.tmp 4]
theorem lift_value_Set_1 : Lifts Tryz.prog 105 9 L_value_Set_1 R_value_Set_1 := ⟨_, _, Tryz.func105, rfl, by kernel_rfl, by kernel_rfl, rfl⟩

theorem compareString_call (a b : List UInt8) : PCall Tryz.prog 115 [.str a, .str b] (fun r => r = .one (.int .i64 (Lib.compareBytes a b))) := by
  refine lift_internal_bytealg_CompareString.call rfl ?_
  simp (maxSteps := 2000000) only [go_sem, ↓reduceIte, L_internal_bytealg_CompareString, R_internal_bytealg_CompareString]
  refine PrimG.entry Tryz.func129 (by kernel_rfl) (by kernel_rfl) (by kernel_rfl) (e := Extern.BytealgCompare.compare) (by kernel_rfl) (.d (.int .i64 (Lib.compareBytes a b))) (fun G w vs hl hv => ?_) ?_
  · match vs, hl with
    | [v, u], _ =>
      have h0 : AVR G w (.d (.str a)) v := hv 0 _ rfl
      have h1 : AVR G w (.d (.str b)) u := hv 1 _ rfl
      have h0 := h0.dinv
      have h1 := h1.dinv
      cases h0; cases h1
      exact ⟨_, Lib.run_compareString _ _ w, .d _ _ (.int _ _)⟩
  simp (maxSteps := 2000000) only [go_sem, ↓reduceIte]
theorem compare_call (a b : List UInt8) : PCall Tryz.prog 106 [.str a, .str b] (fun r => r = .one (.int .i64 (Lib.compareBytes a b))) := by
  refine lift_strings_Compare.call rfl ?_
  simp (maxSteps := 2000000) only [go_sem, ↓reduceIte, L_strings_Compare, R_strings_Compare]
  refine CallG.of (compareString_call a b) ?_
  simp (maxSteps := 2000000) only [go_sem, ↓reduceIte]
theorem set1_call (x : Fld) (nm : List UInt8) : PCall Tryz.prog 105 [x.d, .str nm] (fun r => r = .one (.int .i64 (Lib.compareBytes x.name nm))) := by
  rw [Fld.d_eq]
  refine lift_value_Set_1.call rfl ?_
  simp (maxSteps := 2000000) only [go_sem, ↓reduceIte, L_value_Set_1, R_value_Set_1]
  refine CallG.of (compare_call _ _) ?_
  simp (maxSteps := 2000000) only [go_sem, ↓reduceIte]

/-- Names go up. -/
def srt (l : List Fld) : Prop := ∀ (i j : Nat) (x y : Fld), i < j → l[i]? = some x → l[j]? = some y → Op.bytesLess x.name y.name = true
def posV (nm : List UInt8) : List Fld → Nat
  | [] => 0
  | x :: r => if Op.bytesLess x.name nm then posV nm r + 1 else 0
def hasV (nm : List UInt8) (l : List Fld) : Bool :=
  match l[posV nm l]? with
  | some x => decide (x.name = nm)
  | none => false
theorem posV_le (nm : List UInt8) : ∀ l : List Fld, posV nm l ≤ l.length
  | [] => by simp [posV]
  | x :: r => by simp only [posV, List.length_cons]; split <;> have := posV_le nm r <;> omega
theorem posV_eq (nm : List UInt8) : ∀ (l : List Fld) (k : Nat), k ≤ l.length → (∀ i x, i < k → l[i]? = some x → Op.bytesLess x.name nm = true) → (∀ i x, k ≤ i → l[i]? = some x → Op.bytesLess x.name nm = false) → posV nm l = k
  | [], k, h, _, _ => by simp at h; simp [posV, h]
  | x :: r, 0, _, _, h => by have := h 0 x (by omega) rfl; simp [posV, this]
  | x :: r, k + 1, hk, h1, h2 => by
    have := h1 0 x (by omega) rfl
    have ih := posV_eq nm r k (by simp at hk; omega) (fun i y hi hy => h1 (i + 1) y (by omega) (by simpa using hy)) (fun i y hi hy => h2 (i + 1) y (by omega) (by simpa using hy))
    simp [posV, this, ih]

/-- slices.BinarySearchFunc[[]foliowright/api.Field,foliowright/api.Field,string] -/
def L_slices_BinarySearchFunc___foliowright_api_Field_foliowright_api_Field_string_ : LCode :=
  .seq (.reg [⟨some 6, .asg (.k (.d (.int .i64 0))), none⟩, ⟨some 7, .asg (.k (.d (.bool false))), none⟩]) (.seq (.reg [⟨some 12, .val (.cp (.t 0)), none⟩, ⟨some 13, .val (.len false 
  (.t 12)), none⟩, ⟨some 8, .asg (.t 13), none⟩]) (.seq (.reg [⟨some 14, .val (.cp (.t 8)), none⟩, ⟨some 9, .asg (.k (.d (.int .i64 0))), none⟩, ⟨some 10, .asg (.t 14), none⟩]) 
  (.seq (.block 0 (.loop (.seq (.seq (.reg [⟨some 15, .val (.cp (.t 9)), none⟩, ⟨some 16, .val (.cp (.t 10)), none⟩, ⟨some 17, .val (.bin .lss (.t 15) (.t 16)), none⟩]) (.cond (.t 
  17) .skip (.exit 0))) (.block 1 (.seq (.reg [⟨some 18, .val (.cp (.t 9)), none⟩, ⟨some 19, .val (.cp (.t 10)), none⟩, ⟨some 20, .val (.bin .add (.t 18) (.t 19)), none⟩, ⟨some 21, 
  .val (.cvI .u64 (.t 20)), none⟩, ⟨some 22, .val (.bin .shr (.t 21) (.k (.d (.int .u64 1)))), none⟩, ⟨some 23, .val (.cvI .i64 (.t 22)), none⟩, ⟨some 11, .asg (.t 23), none⟩]) 
  (.seq (.reg [⟨some 24, .val (.cp (.t 2)), none⟩, ⟨some 25, .val (.cp (.t 0)), none⟩, ⟨some 26, .val (.cp (.t 11)), none⟩, ⟨some 27, .val (.ia 6 (.t 25) (.t 26)), none⟩, ⟨some 28, 
  .val (.ld true 6 (.t 27)), none⟩, ⟨some 29, .val (.cp (.t 1)), none⟩, ⟨some 30, .prim .call [.t 24, .t 28, .t 29] [], none⟩, ⟨some 31, .val (.bin .lss (.t 30) (.k (.d (.int .i64 
  0)))), none⟩]) (.cond (.t 31) (.reg [⟨some 32, .val (.cp (.t 11)), none⟩, ⟨some 33, .val (.bin .add (.t 32) (.k (.d (.int .i64 1)))), none⟩, ⟨some 9, .asg (.t 33), none⟩]) (.reg 
  [⟨some 34, .val (.cp (.t 11)), none⟩, ⟨some 10, .asg (.t 34), none⟩])))))))) (.seq (.reg [⟨some 35, .val (.cp (.t 9)), none⟩, ⟨some 36, .val (.cp (.t 9)), none⟩, ⟨some 37, .val 
  (.cp (.t 8)), none⟩, ⟨some 38, .val (.bin .lss (.t 36) (.t 37)), none⟩, ⟨some 39, .val (.cp (.t 38)), none⟩, ⟨some 40, .val (.cp (.t 2)), some (39, true)⟩, ⟨some 41, .val (.cp 
  (.t 0)), some (39, true)⟩, ⟨some 42, .val (.cp (.t 9)), some (39, true)⟩, ⟨some 43, .val (.ia 6 (.t 41) (.t 42)), some (39, true)⟩, ⟨some 44, .val (.ld true 6 (.t 43)), some (39, 
  true)⟩, ⟨some 45, .val (.cp (.t 1)), some (39, true)⟩, ⟨some 46, .prim .call [.t 40, .t 44, .t 45] [], some (39, true)⟩, ⟨some 47, .val (.bin .eql (.t 46) (.k (.d (.int .i64 
  0)))), some (39, true)⟩, ⟨some 48, .val (.pick (.t 39) (.t 47) (.k (.d (.bool false)))), none⟩, ⟨some 6, .asg (.t 35), none⟩, ⟨some 7, .asg (.t 48), none⟩]) .ret))))
def R_slices_BinarySearchFunc___foliowright_api_Field_foliowright_api_Field_string_ : List LRes := [.tmp 6, .tmp 7]
theorem lift_slices_BinarySearchFunc___foliowright_api_Field_foliowright_api_Field_string_ : Lifts Tryz.prog 104 49 L_slices_BinarySearchFunc___foliowright_api_Field_foliowright_api_Field_string_ R_slices_BinarySearchFunc___foliowright_api_Field_foliowright_api_Field_string_ := ⟨_, _, Tryz.func104, rfl, by kernel_rfl, by kernel_rfl, rfl⟩

theorem search_call (l : List Fld) (nm : List UInt8) (hs : srt l) (hl : l.length ≤ 1048576) :
    MCallE Tryz.prog 104 [.d (.list (fldsD l)), .d (.str nm), .fn (.func 105) [] []] [] (.tuple [.d (.int .i64 (posV nm l)), .d (.bool (hasV nm l))]) [] := by
  have hfl := fldsD_length l
  refine lift_slices_BinarySearchFunc___foliowright_api_Field_foliowright_api_Field_string_.mcall (by kernel_rfl) rfl ?_
  simp (maxSteps := 2000000) only [go_sem, ↓reduceIte, L_slices_BinarySearchFunc___foliowright_api_Field_foliowright_api_Field_string_, R_slices_BinarySearchFunc___foliowright_api_Field_foliowright_api_Field_string_, hfl]
  refine run_loop (fun y : Nat × Nat => ⟨[(0, .d (.list (fldsD l))), (1, .d (.str nm)), (2, .fn (.func 105) [] []), (8, .d (.int .i64 l.length)), (9, .d (.int .i64 y.1)), (10, .d (.int .i64 y.2))], [], []⟩)
    (fun y => y.1 ≤ y.2 ∧ y.2 ≤ l.length ∧ (∀ i x, i < y.1 → l[i]? = some x → Op.bytesLess x.name nm = true) ∧ (∀ i x, y.2 ≤ i → l[i]? = some x → Op.bytesLess x.name nm = false)) (fun y => y.2 - y.1) (0, l.length) ?_ ?_ ?_
  · refine Weak.mk ?_ ?_ ?_ <;> simp (maxSteps := 2000000) only [go_sem, ↓reduceIte, Sub, Int.natCast_add, Int.natCast_mul]
  · exact ⟨by simp, by simp, fun i x hi => by simp at hi, fun i x hi hx => by simp only at hi; rw [List.getElem?_eq_none hi] at hx; cases hx⟩
  · rintro ⟨i, j⟩ ⟨hij, hj, h1, h2⟩
    simp only at hij hj h1 h2
    have hmid : IntKind.i64.wrap ((IntKind.u64.wrap ((i : Int) + j)).fdiv (2 ^ min 1 IntKind.u64.bits)) = (((i + j) / 2 : Nat) : Int) := by
      have e1 : IntKind.u64.wrap ((i : Int) + j) = ((i + j : Nat) : Int) := by
        rw [IntWalk.u64_in] <;> omega
      have e2 : (2 : Int) ^ min 1 IntKind.u64.bits = 2 := rfl
      rw [e1, e2]
      have e3 : ((i + j : Nat) : Int).fdiv 2 = (((i + j) / 2 : Nat) : Int) := by
        rw [Int.fdiv_eq_ediv_of_nonneg _ (by omega)]; omega
      rw [e3, IntWalk.i64_in] <;> omega
    simp (maxSteps := 2000000) only [run_skip, run_reg, run_dreg, run_seq, run_cond, run_block, run_exit, run_ret, pop_code, pop_goal, pop_blk, pop_nil, pop_ret_code, pop_ret_goal, pop_ret_blk, pop_exit_code, pop_exit_goal, pop_exit_blk, run_dead, pop_dead, pop_ret_dead, pop_exit_dead, St.dead, adelL, adel, ops_nil, ops_val, ops_asg, ops_nils, ops_box, ops_allo, ops_app, ops_bsl, ops_st, ops_sla, ops_call, ops_guard, dps_nil, dps_val, dps_asg, dps_nils, dps_box, dps_allo, dps_app, appD, dps_bsl, dps_st, dps_sla, dps_call, dps_guard, pev, St.ev, St.get, St.put, acons, St.mark, St.obj, St.setObj, aget, aset, amap, initρ, asgS, nilS, newO, newB, boxS, dnsL, appS, bslS, bspS, slaS, List.all_cons, List.all_nil, List.any_cons, List.any_nil, Bool.or_false, Bool.false_or, Bool.true_or, Bool.or_true, Bool.or_self, stS, stD, setA, St.erase, St.drop, AV.erase, AV.rename, AV.drop, AV.has, AV.isPtr, dropObj, srcL, evL, evP, evO, rdAll, rdL, allSz, fLd, fLdX, fLdA, AV.nsr, AV.rd1, rd1L, fIaR, fIaD, AV.solid, solidN, List.all, dps_primC, dps_stC, chkK_cons, chkK_nil, exists_eq_left', AV.locFree, fLdP, fFa, fIa, fIaA, fFld, fillD, lookP, setR, fExt, AV.simple, fMkI, fAsT, fNck, fEqB, fEqS, eqCs, eqC, fEqN, okN, fNil, isNil, fNot, fNeg, fCvI, fI2s, fIdxS, fSubS, fSub, loOf, hiOf, fLen, fLenK, fMm, fPick, fB, fB2s, fMkF, allSimple, hasLocal, isLocal, binD, binI, binS, AV.rd, D.cells, D.one, Res.av, putO, PutG_some, PutG_if, PutG_if', PutG_mif, StG_some, StG_if, BoolG_d, GuardG_d, GuardR_d, GuardR_u, IteG, Classical.not_not, retK_ret, retK_normal, RetG_some, resS, resL, resV, mkRes, Nat.reduceEqDiff, Nat.reduceBEq, Nat.reduceLT, Nat.reduceLeDiff, Nat.reduceAdd, Nat.reduceSub, Nat.reduceMul, Nat.zero_add, ↓reduceIte, Option.getD_some, Option.getD_none, Option.map_some, Option.map_none, Option.some.injEq, reduceCtorEq, Bool.not_true, Bool.not_false, Bool.not_eq_true', Bool.not_eq_false', decide_eq_true_eq, decide_eq_false_iff_not, decide_true, decide_false, true_implies, false_implies, true_and, and_true, and_self, implies_true, List.length_cons, List.length_nil, List.set_cons_zero, List.set_cons_succ, List.getElem?_cons_zero, List.getElem?_cons_succ, List.take_succ_cons, List.take_zero, List.drop_succ_cons, List.drop_zero, List.take_nil, List.drop_nil, List.map_cons, List.map_nil, List.cons_append, List.nil_append, List.append_nil, beq_self_eq_true, Bool.and_true, Bool.true_and, Bool.false_and, Bool.and_false, Lab.t.injEq, Lab.c.injEq, Ref.l.injEq, Ref.x.injEq, Bool.false_eq_true, Bool.true_eq_false, eq_self_iff_true, if_true, if_false, Bool.not_eq_true, Bool.not_eq_false, and_false, false_and, or_true, true_or, or_false, false_or, ne_eq, not_true_eq_false, not_false_eq_true, beq_iff_eq, Nat.reduceBNe, Nat.le_refl, Nat.reduceSubDiff, Int.reduceLT, gt_iff_lt, Int.reduceLE, Int.reduceEq, Int.reduceNeg, Int.reduceAdd, Int.reduceMul, Int.reduceSub, Int.reduceToNat, Int.toNat_zero, Int.toNat_one, Int.natCast_zero, Int.cast_ofNat_Int, Int.natCast_one, IntWalk.i64_in, IntWalk.u8_in, ops_prim, dps_prim, retM_normal, retM_ret, RetM_some, resR, resOwn, resAL, resA, okRes, mkA, objsOf, passA, amod, AV.den, AV.pub, passI, passQ, labsQ, eraseL, nsD, retO, backS, setObjs, AObj.ren, AV.ren, AV.ren1, renL, ren1L, renR, renQ, AV.unown, memR, List.getD_cons_zero, List.getD_cons_succ, initA, numO, AV.wf, AV.wf1, wfL, wf1L, wfR, Bool.and_self, decide_true, hfl]
    refine ⟨fun hlt => ?_, fun hge => ?_⟩
    · simp (maxSteps := 2000000) (disch := omega) only [run_skip, run_reg, run_dreg, run_seq, run_cond, run_block, run_exit, run_ret, pop_code, pop_goal, pop_blk, pop_nil, pop_ret_code, pop_ret_goal, pop_ret_blk, pop_exit_code, pop_exit_goal, pop_exit_blk, run_dead, pop_dead, pop_ret_dead, pop_exit_dead, St.dead, adelL, adel, ops_nil, ops_val, ops_asg, ops_nils, ops_box, ops_allo, ops_app, ops_bsl, ops_st, ops_sla, ops_call, ops_guard, dps_nil, dps_val, dps_asg, dps_nils, dps_box, dps_allo, dps_app, appD, dps_bsl, dps_st, dps_sla, dps_call, dps_guard, pev, St.ev, St.get, St.put, acons, St.mark, St.obj, St.setObj, aget, aset, amap, initρ, asgS, nilS, newO, newB, boxS, dnsL, appS, bslS, bspS, slaS, List.all_cons, List.all_nil, List.any_cons, List.any_nil, Bool.or_false, Bool.false_or, Bool.true_or, Bool.or_true, Bool.or_self, stS, stD, setA, St.erase, St.drop, AV.erase, AV.rename, AV.drop, AV.has, AV.isPtr, dropObj, srcL, evL, evP, evO, rdAll, rdL, allSz, fLd, fLdX, fLdA, AV.nsr, AV.rd1, rd1L, fIaR, fIaD, AV.solid, solidN, List.all, dps_primC, dps_stC, chkK_cons, chkK_nil, exists_eq_left', AV.locFree, fLdP, fFa, fIa, fIaA, fFld, fillD, lookP, setR, fExt, AV.simple, fMkI, fAsT, fNck, fEqB, fEqS, eqCs, eqC, fEqN, okN, fNil, isNil, fNot, fNeg, fCvI, fI2s, fIdxS, fSubS, fSub, loOf, hiOf, fLen, fLenK, fMm, fPick, fB, fB2s, fMkF, allSimple, hasLocal, isLocal, binD, binI, binS, AV.rd, D.cells, D.one, Res.av, putO, PutG_some, PutG_if, PutG_if', PutG_mif, StG_some, StG_if, BoolG_d, GuardG_d, GuardR_d, GuardR_u, IteG, Classical.not_not, retK_ret, retK_normal, RetG_some, resS, resL, resV, mkRes, Nat.reduceEqDiff, Nat.reduceBEq, Nat.reduceLT, Nat.reduceLeDiff, Nat.reduceAdd, Nat.reduceSub, Nat.reduceMul, Nat.zero_add, ↓reduceIte, Option.getD_some, Option.getD_none, Option.map_some, Option.map_none, Option.some.injEq, reduceCtorEq, Bool.not_true, Bool.not_false, Bool.not_eq_true', Bool.not_eq_false', decide_eq_true_eq, decide_eq_false_iff_not, decide_true, decide_false, true_implies, false_implies, true_and, and_true, and_self, implies_true, List.length_cons, List.length_nil, List.set_cons_zero, List.set_cons_succ, List.getElem?_cons_zero, List.getElem?_cons_succ, List.take_succ_cons, List.take_zero, List.drop_succ_cons, List.drop_zero, List.take_nil, List.drop_nil, List.map_cons, List.map_nil, List.cons_append, List.nil_append, List.append_nil, beq_self_eq_true, Bool.and_true, Bool.true_and, Bool.false_and, Bool.and_false, Lab.t.injEq, Lab.c.injEq, Ref.l.injEq, Ref.x.injEq, Bool.false_eq_true, Bool.true_eq_false, eq_self_iff_true, if_true, if_false, Bool.not_eq_true, Bool.not_eq_false, and_false, false_and, or_true, true_or, or_false, false_or, ne_eq, not_true_eq_false, not_false_eq_true, beq_iff_eq, Nat.reduceBNe, Nat.le_refl, Nat.reduceSubDiff, Int.reduceLT, gt_iff_lt, Int.reduceLE, Int.reduceEq, Int.reduceNeg, Int.reduceAdd, Int.reduceMul, Int.reduceSub, Int.reduceToNat, Int.toNat_zero, Int.toNat_one, Int.natCast_zero, Int.cast_ofNat_Int, Int.natCast_one, IntWalk.i64_in, IntWalk.u8_in, ops_prim, dps_prim, retM_normal, retM_ret, RetM_some, resR, resOwn, resAL, resA, okRes, mkA, objsOf, passA, amod, AV.den, AV.pub, passI, passQ, labsQ, eraseL, nsD, retO, backS, setObjs, AObj.ren, AV.ren, AV.ren1, renL, ren1L, renR, renQ, AV.unown, memR, List.getD_cons_zero, List.getD_cons_succ, initA, numO, AV.wf, AV.wf1, wfL, wf1L, wfR, Bool.and_self, decide_true, hmid]
      obtain ⟨x, hx⟩ := get_some (l := l) (i := (i + j) / 2) (by omega)
      have hc := (set1_call x nm).mcallE (by kernel_rfl)
      simp only [List.map_cons, List.map_nil, Res.av] at hc
      rw [Fld.d_eq x] at hc
      simp (maxSteps := 2000000) (disch := omega) only [run_skip, run_reg, run_dreg, run_seq, run_cond, run_block, run_exit, run_ret, pop_code, pop_goal, pop_blk, pop_nil, pop_ret_code, pop_ret_goal, pop_ret_blk, pop_exit_code, pop_exit_goal, pop_exit_blk, run_dead, pop_dead, pop_ret_dead, pop_exit_dead, St.dead, adelL, adel, ops_nil, ops_val, ops_asg, ops_nils, ops_box, ops_allo, ops_app, ops_bsl, ops_st, ops_sla, ops_call, ops_guard, dps_nil, dps_val, dps_asg, dps_nils, dps_box, dps_allo, dps_app, appD, dps_bsl, dps_st, dps_sla, dps_call, dps_guard, pev, St.ev, St.get, St.put, acons, St.mark, St.obj, St.setObj, aget, aset, amap, initρ, asgS, nilS, newO, newB, boxS, dnsL, appS, bslS, bspS, slaS, List.all_cons, List.all_nil, List.any_cons, List.any_nil, Bool.or_false, Bool.false_or, Bool.true_or, Bool.or_true, Bool.or_self, stS, stD, setA, St.erase, St.drop, AV.erase, AV.rename, AV.drop, AV.has, AV.isPtr, dropObj, srcL, evL, evP, evO, rdAll, rdL, allSz, fLd, fLdX, fLdA, AV.nsr, AV.rd1, rd1L, fIaR, fIaD, AV.solid, solidN, List.all, dps_primC, dps_stC, chkK_cons, chkK_nil, exists_eq_left', AV.locFree, fLdP, fFa, fIa, fIaA, fFld, fillD, lookP, setR, fExt, AV.simple, fMkI, fAsT, fNck, fEqB, fEqS, eqCs, eqC, fEqN, okN, fNil, isNil, fNot, fNeg, fCvI, fI2s, fIdxS, fSubS, fSub, loOf, hiOf, fLen, fLenK, fMm, fPick, fB, fB2s, fMkF, allSimple, hasLocal, isLocal, binD, binI, binS, AV.rd, D.cells, D.one, Res.av, putO, PutG_some, PutG_if, PutG_if', PutG_mif, StG_some, StG_if, BoolG_d, GuardG_d, GuardR_d, GuardR_u, IteG, Classical.not_not, retK_ret, retK_normal, RetG_some, resS, resL, resV, mkRes, Nat.reduceEqDiff, Nat.reduceBEq, Nat.reduceLT, Nat.reduceLeDiff, Nat.reduceAdd, Nat.reduceSub, Nat.reduceMul, Nat.zero_add, ↓reduceIte, Option.getD_some, Option.getD_none, Option.map_some, Option.map_none, Option.some.injEq, reduceCtorEq, Bool.not_true, Bool.not_false, Bool.not_eq_true', Bool.not_eq_false', decide_eq_true_eq, decide_eq_false_iff_not, decide_true, decide_false, true_implies, false_implies, true_and, and_true, and_self, implies_true, List.length_cons, List.length_nil, List.set_cons_zero, List.set_cons_succ, List.getElem?_cons_zero, List.getElem?_cons_succ, List.take_succ_cons, List.take_zero, List.drop_succ_cons, List.drop_zero, List.take_nil, List.drop_nil, List.map_cons, List.map_nil, List.cons_append, List.nil_append, List.append_nil, beq_self_eq_true, Bool.and_true, Bool.true_and, Bool.false_and, Bool.and_false, Lab.t.injEq, Lab.c.injEq, Ref.l.injEq, Ref.x.injEq, Bool.false_eq_true, Bool.true_eq_false, eq_self_iff_true, if_true, if_false, Bool.not_eq_true, Bool.not_eq_false, and_false, false_and, or_true, true_or, or_false, false_or, ne_eq, not_true_eq_false, not_false_eq_true, beq_iff_eq, Nat.reduceBNe, Nat.le_refl, Nat.reduceSubDiff, Int.reduceLT, gt_iff_lt, Int.reduceLE, Int.reduceEq, Int.reduceNeg, Int.reduceAdd, Int.reduceMul, Int.reduceSub, Int.reduceToNat, Int.toNat_zero, Int.toNat_one, Int.natCast_zero, Int.cast_ofNat_Int, Int.natCast_one, IntWalk.i64_in, IntWalk.u8_in, ops_prim, dps_prim, retM_normal, retM_ret, RetM_some, resR, resOwn, resAL, resA, okRes, mkA, objsOf, passA, amod, AV.den, AV.pub, passI, passQ, labsQ, eraseL, nsD, retO, backS, setObjs, AObj.ren, AV.ren, AV.ren1, renL, ren1L, renR, renQ, AV.unown, memR, List.getD_cons_zero, List.getD_cons_succ, initA, numO, AV.wf, AV.wf1, wfL, wf1L, wfR, Bool.and_self, decide_true, getI_nat, fldsD_get, hx, Fld.d_eq]
      refine PrimG.mcall ([]) ([]) rfl (hc) rfl rfl (by simp only [objsAt, St.obj, aget, AObj.ren, AV.ren, AV.ren1, renL, ren1L, renR, renQ, List.getD_cons_zero, List.getD_cons_succ, and_true, and_self, Nat.reduceEqDiff, ↓reduceIte, reduceCtorEq]) rfl rfl rfl ⟨rfl, rfl⟩ ?_
      simp (maxSteps := 2000000) (disch := omega) only [go_sem, ↓reduceIte]
      obtain ⟨c1, c2⟩ := cmpB x.name nm
      refine ⟨fun hl1 => ⟨((i + j) / 2 + 1, j), ?_, ⟨by simp only; omega, hj, fun k y hk hy => ?_, h2⟩, by simp only; omega⟩, fun hl1 => ⟨(i, (i + j) / 2), ?_, ⟨by simp only; omega, by simp only; omega, h1, fun k y hk hy => ?_⟩, by simp only; omega⟩⟩
      · refine Weak.mk ?_ ?_ ?_ <;> simp (maxSteps := 2000000) only [go_sem, ↓reduceIte, Sub, Int.natCast_add, Int.natCast_mul]
      · simp only at hk
        rcases Nat.lt_or_ge k ((i + j) / 2) with h3 | h3
        · exact less_trans (hs k _ y x h3 hy hx) (c1.1 hl1)
        · have : k = (i + j) / 2 := by omega
          subst this
          rw [hx] at hy; cases hy; exact c1.1 hl1
      · refine Weak.mk ?_ ?_ ?_ <;> simp (maxSteps := 2000000) only [go_sem, ↓reduceIte, Sub, Int.natCast_add, Int.natCast_mul]
      · simp only at hk
        have h4 : Op.bytesLess x.name nm = false := by
          cases h5 : Op.bytesLess x.name nm with
          | false => rfl
          | true => exact absurd (c1.2 h5) hl1
        rcases Nat.lt_or_ge ((i + j) / 2) k with h3 | h3
        · cases h5 : Op.bytesLess y.name nm with
          | false => rfl
          | true => rw [less_trans (hs _ k x y h3 hx hy) h5] at h4; cases h4
        · have : k = (i + j) / 2 := by omega
          subst this
          rw [hx] at hy; cases hy; exact h4
    · have hij' : i = j := by omega
      subst hij'
      have hpos := posV_eq nm l i hj h1 h2
      rw [hpos]
      have hhas : hasV nm l = (match l[i]? with | some x => decide (x.name = nm) | none => false) := by unfold hasV; rw [hpos]
      refine ⟨fun hlt => ?_, fun hge => ?_⟩
      · obtain ⟨x, hx⟩ := get_some (l := l) (i := i) (by omega)
        have hc := (set1_call x nm).mcallE (by kernel_rfl)
        simp only [List.map_cons, List.map_nil, Res.av] at hc
        rw [Fld.d_eq x] at hc
        simp (maxSteps := 2000000) (disch := omega) only [run_skip, run_reg, run_dreg, run_seq, run_cond, run_block, run_exit, run_ret, pop_code, pop_goal, pop_blk, pop_nil, pop_ret_code, pop_ret_goal, pop_ret_blk, pop_exit_code, pop_exit_goal, pop_exit_blk, run_dead, pop_dead, pop_ret_dead, pop_exit_dead, St.dead, adelL, adel, ops_nil, ops_val, ops_asg, ops_nils, ops_box, ops_allo, ops_app, ops_bsl, ops_st, ops_sla, ops_call, ops_guard, dps_nil, dps_val, dps_asg, dps_nils, dps_box, dps_allo, dps_app, appD, dps_bsl, dps_st, dps_sla, dps_call, dps_guard, pev, St.ev, St.get, St.put, acons, St.mark, St.obj, St.setObj, aget, aset, amap, initρ, asgS, nilS, newO, newB, boxS, dnsL, appS, bslS, bspS, slaS, List.all_cons, List.all_nil, List.any_cons, List.any_nil, Bool.or_false, Bool.false_or, Bool.true_or, Bool.or_true, Bool.or_self, stS, stD, setA, St.erase, St.drop, AV.erase, AV.rename, AV.drop, AV.has, AV.isPtr, dropObj, srcL, evL, evP, evO, rdAll, rdL, allSz, fLd, fLdX, fLdA, AV.nsr, AV.rd1, rd1L, fIaR, fIaD, AV.solid, solidN, List.all, dps_primC, dps_stC, chkK_cons, chkK_nil, exists_eq_left', AV.locFree, fLdP, fFa, fIa, fIaA, fFld, fillD, lookP, setR, fExt, AV.simple, fMkI, fAsT, fNck, fEqB, fEqS, eqCs, eqC, fEqN, okN, fNil, isNil, fNot, fNeg, fCvI, fI2s, fIdxS, fSubS, fSub, loOf, hiOf, fLen, fLenK, fMm, fPick, fB, fB2s, fMkF, allSimple, hasLocal, isLocal, binD, binI, binS, AV.rd, D.cells, D.one, Res.av, putO, PutG_some, PutG_if, PutG_if', PutG_mif, StG_some, StG_if, BoolG_d, GuardG_d, GuardR_d, GuardR_u, IteG, Classical.not_not, retK_ret, retK_normal, RetG_some, resS, resL, resV, mkRes, Nat.reduceEqDiff, Nat.reduceBEq, Nat.reduceLT, Nat.reduceLeDiff, Nat.reduceAdd, Nat.reduceSub, Nat.reduceMul, Nat.zero_add, ↓reduceIte, Option.getD_some, Option.getD_none, Option.map_some, Option.map_none, Option.some.injEq, reduceCtorEq, Bool.not_true, Bool.not_false, Bool.not_eq_true', Bool.not_eq_false', decide_eq_true_eq, decide_eq_false_iff_not, decide_true, decide_false, true_implies, false_implies, true_and, and_true, and_self, implies_true, List.length_cons, List.length_nil, List.set_cons_zero, List.set_cons_succ, List.getElem?_cons_zero, List.getElem?_cons_succ, List.take_succ_cons, List.take_zero, List.drop_succ_cons, List.drop_zero, List.take_nil, List.drop_nil, List.map_cons, List.map_nil, List.cons_append, List.nil_append, List.append_nil, beq_self_eq_true, Bool.and_true, Bool.true_and, Bool.false_and, Bool.and_false, Lab.t.injEq, Lab.c.injEq, Ref.l.injEq, Ref.x.injEq, Bool.false_eq_true, Bool.true_eq_false, eq_self_iff_true, if_true, if_false, Bool.not_eq_true, Bool.not_eq_false, and_false, false_and, or_true, true_or, or_false, false_or, ne_eq, not_true_eq_false, not_false_eq_true, beq_iff_eq, Nat.reduceBNe, Nat.le_refl, Nat.reduceSubDiff, Int.reduceLT, gt_iff_lt, Int.reduceLE, Int.reduceEq, Int.reduceNeg, Int.reduceAdd, Int.reduceMul, Int.reduceSub, Int.reduceToNat, Int.toNat_zero, Int.toNat_one, Int.natCast_zero, Int.cast_ofNat_Int, Int.natCast_one, IntWalk.i64_in, IntWalk.u8_in, ops_prim, dps_prim, retM_normal, retM_ret, RetM_some, resR, resOwn, resAL, resA, okRes, mkA, objsOf, passA, amod, AV.den, AV.pub, passI, passQ, labsQ, eraseL, nsD, retO, backS, setObjs, AObj.ren, AV.ren, AV.ren1, renL, ren1L, renR, renQ, AV.unown, memR, List.getD_cons_zero, List.getD_cons_succ, initA, numO, AV.wf, AV.wf1, wfL, wf1L, wfR, Bool.and_self, decide_true, getI_nat, fldsD_get, hx, Fld.d_eq]
        refine PrimG.mcall ([]) ([]) rfl (hc) rfl rfl (by simp only [objsAt, St.obj, aget, AObj.ren, AV.ren, AV.ren1, renL, ren1L, renR, renQ, List.getD_cons_zero, List.getD_cons_succ, and_true, and_self, Nat.reduceEqDiff, ↓reduceIte, reduceCtorEq]) rfl rfl rfl ⟨rfl, rfl⟩ ?_
        simp (maxSteps := 2000000) (disch := omega) only [go_sem, ↓reduceIte]
        rw [hhas, hx]
        have c2 := (cmpB x.name nm).2
        by_cases he : x.name = nm
        · have h0 := c2.2 he
          rw [he] at h0
          simp [he, h0]
        · have : ¬ Lib.compareBytes x.name nm = 0 := fun e => he (c2.1 e)
          simp [he, this]
      · have : l[i]? = none := List.getElem?_eq_none (by omega)
        rw [hhas, this]
end Go.Av.Tryz
set_option linter.unusedVariables false
set_option linter.unusedSimpArgs false
namespace Go.Av.Tryz
open Go.Proofs Go.RowKit Go.Lib

section
variable {P : Program}

/-- Elements go over from a row to a row. -/
theorem run_copy_sz (w : World) (dT sT ty elem : TypeId) (sz k b o dLen dCap : Nat) (a : Addr) (sLen sCap : Nat) (cs : List Value)
    (hu : P.underlying dT = some (.slice elem)) (hs : (P.info? elem).map (·.size) = some sz) (hk : k = Nat.min sLen dLen) (hn : cs.length = k * sz)
    (hsrc : ∀ j v, cs[j]? = some v → w.cell? (a.add j) = some v) (hc : ∀ j, j < cs.length → (w.cell? ⟨b, o + j, none⟩).isSome = true) (hf : ∀ j, j < cs.length → w.frozen? ⟨b, o + j, none⟩ = false) (h1 : ∀ v ∈ cs, v.oneCell' = true) :
    (Builtin.copy_ #[dT, sT] ty #[.slice (some ⟨b, o, none⟩) dLen dCap, .slice (some a) sLen sCap]).run P w = .ok (goInt k) (w.setCells b o cs) := by
  have hl := run_loadCells_list (P := P) w a cs hsrc
  have hst := run_storeCells_cells (P := P) b o cs 0 w (by simpa using hc) (by simpa using hf) h1
  cases hq : P.info? elem with
  | none => simp [hq] at hs
  | some i =>
    have hi : i.size = sz := by simpa [hq] using hs
    simp [Builtin.copy_, run_underlying hu, Builtin.lenOf, Builtin.firstCells, sizeOf, typeInfo, hq, hi, ← hk, ← hn, hl, hst]

theorem wp_copy_runJ (w : World) {o : Oper} {a : Act} {K : Act → World → Prop} {Q : Exit → Act → World → Prop} (d s : Operand) (t t' : TypeId)
    (ho : o.op = .call { callee := .builtin .copy, args := #[d, s], argTypes := #[t, t'] }) (v u : Value) (hd : a.eval d = v) (hs : a.eval s = u) {v' : Value} {w' : World}
    (hr : (Builtin.copy_ #[t, t'] o.type #[v, u]).run P w = .ok v' w') (h : K (a.put o.dst v') w') : o.wp P a w K Q := by
  unfold Oper.wp execOp
  simp only [ho, resolve, invoke, builtin, Sem.run_bind, Sem.run_pure, Result.andThen_ok, List.map_toArray, List.map_cons, List.map_nil, hd, hs, hr]
  exact h
theorem wpList_copy_runJ (w : World) {ops : Array Oper} {rest : List Oper} {o : Oper} {a : Act} {Q : Exit → Act → World → Prop} (hgd : o.guard = none) (d s : Operand) (t t' : TypeId)
    (ho : o.op = .call { callee := .builtin .copy, args := #[d, s], argTypes := #[t, t'] }) (v u : Value) (hd : a.eval d = v) (hs : a.eval s = u) {v' : Value} {w' : World}
    (hr : (Builtin.copy_ #[t, t'] o.type #[v, u]).run P w = .ok v' w') (h : wpList P ops Q rest (a.put o.dst v') w') : wpList P ops Q (o :: rest) a w :=
  wpList_plain hgd fun _ hK => wp_copy_runJ w d s t t' ho v u hd hs hr (hK _ _ h)
theorem step_copy_runJ {ops : Array Oper} {o : Oper} {a : Act} {w : World} {K : Act → World → Prop} {Q : Exit → Act → World → Prop} {E : Prop}
    (hg : o.guard = none) (d x : Operand) (dT sT : TypeId) (hop : o.op = Op.call { callee := Callee.builtin Builtin.copy, args := #[d, x], argTypes := #[dT, sT] })
    (v u : Value) (hd : a.eval d = v) (hx : a.eval x = u) {v' : Value} {w' : World} (hr : (Builtin.copy_ #[dT, sT] o.type #[v, u]).run P w = .ok v' w') (hK : K (a.put o.dst v') w') :
    if Region.wanted o (yielded ops a.tmps) = true then Oper.wp P o a w K Q else E := by
  have hw : Region.wanted o (yielded ops a.tmps) = true := by simp [Region.wanted, hg]
  rw [if_pos hw]
  unfold Oper.wp
  simp [execOp, hop, resolve, invoke, builtin, hd, hx, hr, Result.andThen]
  exact hK

/-- Two rows in two blocks, the second of which is plain: they do not overlap. -/
theorem run_overlaps_plain (w : World) (tS tR e : TypeId) (ht : P.underlying tS = some (.slice e)) (size : Nat) (hz : ∀ w, (Go.sizeOf e).run P w = .ok size w)
    (a b : Addr) (la ca lb cb : Nat) (hne : a.block ≠ b.block) (tA : TypeId) (kA : Nat) (hsa : w.shape? a.block = some (tA, kA)) (hkA : kA ≠ 0) {cs : Array Value} {el : TypeId} (hb : w.heap[b.block]? = some (.cells cs el (0, 0))) :
    (Extern.SlicesOverlaps.overlaps #[tS, tS] #[tR] #[.slice (some a) la ca, .slice (some b) lb cb]).run P w = .ok (.bool false) w := by
  have hnb : (a.block != b.block) = true := by simpa using hne
  have hnb' : (a.block == b.block) = false := by simpa using hne
  have hsb : w.shape? b.block = some (el, cs.size) := by simp [World.shape?, hb]
  have hfb : w.frozen? b = false := by simp [World.frozen?, hb]
  have hfe : w.frozen? { block := b.block, off := cs.size } = false := by simp [World.frozen?, hb]
  change Sem.run P (α := Value) (do
    let some t := (#[tS, tS] : Array TypeId)[0]? | stuck "slices.overlaps: no parameter types"
    let .slice elem ← underlying t | stuck "slices.overlaps: slice type expected"
    let size ← sizeOf elem
    match (some a : Option Addr), (some b : Option Addr) with
    | some a, some b =>
      if la = 0 ∨ lb = 0 ∨ size = 0 then pure (Value.bool false)
      else if a.block != b.block && (← frozen a) && (← frozen b) then unsupported .addressObserved
      else do
        if a.block != b.block then do
          noView a; noView b
          if ← mayBeOne a b then return Value.bool ((← choose (.extern "sameAddr.stringBytes" 2)) == 1)
        pure (Value.bool (a.block == b.block && a.off < b.off + lb * size && b.off < a.off + la * size))
    | _, _ => pure (Value.bool false)) w = _
  by_cases h0 : la = 0 ∨ lb = 0 ∨ size = 0
  · simp [run_underlying ht, hz, h0]
  · cases kA with
    | zero => exact absurd rfl hkA
    | succ kA =>
      cases hfa : w.frozen? a <;> cases hf2 : w.frozen? { block := a.block, off := kA + 1 } <;>
      simp [run_underlying ht, hz, h0, hnb, hnb', frozen, noView, viewAt, mayBeOne, stringish, shape, Sem.run, hsa, hsb, hfa, hf2, hfb, hfe]

/-- A row's cells, some of them written. -/
theorem heap_setCells (b : Nat) (el : TypeId) (fr : Nat × Nat) : ∀ (vs : List Value) (o : Nat) (w : World) (cur : Array Value), w.heap[b]? = some (.cells cur el fr) → o + vs.length ≤ cur.size →
    ∃ cur', (w.setCells b o vs).heap[b]? = some (.cells cur' el fr) ∧ cur'.toList = cur.toList.take o ++ vs ++ cur.toList.drop (o + vs.length)
  | [], o, w, cur, h, _ => ⟨cur, h, by simp⟩
  | v :: r, o, w, cur, h, hl => by
    simp only [List.length_cons] at hl
    have h1 := heap_setCell_at w b o v h
    obtain ⟨cur', h2, h3⟩ := heap_setCells b el fr r (o + 1) _ _ h1 (by simp; omega)
    refine ⟨cur', h2, ?_⟩
    rw [h3]
    have ho : o < cur.toList.length := by simp; omega
    simp only [Array.toList_setIfInBounds, List.length_cons]
    rw [List.take_add_one, List.drop_set_of_lt (by omega), List.take_set_of_le (Nat.le_refl _)]
    simp only [List.getElem?_set_self ho, Option.toList_some]
    simp [Nat.add_assoc, Nat.add_comm 1]

theorem setCells_other (b k : Nat) (hk : k ≠ b) : ∀ (vs : List Value) (o : Nat) (w : World), (w.setCells b o vs).heap[k]? = w.heap[k]?
  | [], _, _ => rfl
  | v :: r, o, w => by
    show ((w.setCell (at_ b o) v).setCells b (o + 1) r).heap[k]? = _
    rw [setCells_other b k hk r, heap_setCell_ne w b o k v hk]
theorem setCells_size (b : Nat) : ∀ (vs : List Value) (o : Nat) (w : World), (w.setCells b o vs).heap.size = w.heap.size
  | [], _, _ => rfl
  | v :: r, o, w => by
    show ((w.setCell (at_ b o) v).setCells b (o + 1) r).heap.size = _
    rw [setCells_size b r]; simp
end

theorem overlaps_run (w : World) (a b : Addr) (la ca lb cb : Nat) (hne : a.block ≠ b.block) (tA : TypeId) (kA : Nat) (hsa : w.shape? a.block = some (tA, kA)) (hkA : kA ≠ 0) {cs : Array Value} {el : TypeId} (hb : w.heap[b.block]? = some (.cells cs el (0, 0))) :
    (callFunc 116 #[.slice (some a) la ca, .slice (some b) lb cb]).run Tryz.prog w = .ok (.value (.bool false)) w := by
  rw [run_callFunc_extern Tryz.func116 (by kernel_rfl) (by kernel_rfl) (by kernel_rfl) (e := Extern.SlicesOverlaps.overlaps #[39, 39] #[4]) (by kernel_rfl),
    run_overlaps_plain w 39 4 77 Tryz.underlying39 6 (fun w => by kernel_rfl) a b la ca lb cb hne tA kA hsa hkA hb]
  rfl

set_option maxHeartbeats 4000000 in
set_option maxRecDepth 100000 in
theorem insert_end (v v' : Value) (n : Nat) (vb voff vc : Nat) (w w' : World) (base : Option Addr) (c : Nat) (hn : n ≤ c) (hc : c ≤ 9223372036854775807) (hv : v = .slice base n c) (hb : base = none → n = 0)
    (hr : (Builtin.append_ #[39, 39] 39 #[v, .slice (some (at_ vb voff)) 1 vc]).run Tryz.prog w = .ok v' w') :
    Calls Tryz.prog 107 #[v, .int .i64 n, .slice (some (at_ vb voff)) 1 vc] w fun e W => e = .returned v' ∧ W = w' := by
  subst hv
  go_enter Tryz.func107, Tryz.ntmps107
  cases base with
  | none =>
    have h0 := hb rfl
    subst h0
    go_wp2_with (at_builtin; refine Lib.wpList_append_run _ rfl _ _ _ _ rfl _ _ rfl rfl _ _ hr ?_)
    go_ret
    exact ⟨rfl, rfl⟩
  | some a =>
    obtain ⟨ab, ao, asp⟩ := a
    go_wp2_with (at_builtin; refine Lib.wpList_append_run _ rfl _ _ _ _ rfl _ _ rfl rfl _ _ hr ?_)
    all_goals (go_ret; exact ⟨rfl, rfl⟩)

theorem isSome_setCellsJ (b : Nat) (vs : List Value) (o : Nat) (w : World) (h : ∀ j, j < vs.length → (w.cell? ⟨b, o + j, none⟩).isSome = true) (k : Nat) (hk : (w.cell? ⟨b, k, none⟩).isSome = true) : ((w.setCells b o vs).cell? ⟨b, k, none⟩).isSome = true := by
  by_cases hin : o ≤ k ∧ k < o + vs.length
  · have := World.cell?_setCells_in b vs o w h (k - o) (by omega)
    rw [show o + (k - o) = k by omega] at this
    rw [this]; rfl
  · rw [World.cell?_setCells_out b vs o w ⟨b, k, none⟩ (fun _ _ => by show k < o ∨ o + vs.length ≤ k; omega)]
    exact hk

set_option maxHeartbeats 4000000 in
set_option maxRecDepth 100000 in
theorem insert_shift (b n c i vb voff vc : Nat) (cs vs : List Value) (w : World) (hi : i < n) (hroom : n + 1 ≤ c) (hc63 : c ≤ 9223372036854775807) (hvb : vb ≠ b) (hcl : cs.length = n * 6) (hvl : vs.length = 6)
    (hcs : ∀ j v, cs[j]? = some v → w.cell? ⟨b, j, none⟩ = some v) (hsp : ∀ j, j < (n + 1) * 6 → (w.cell? ⟨b, j, none⟩).isSome = true) (hfz : ∀ j, w.frozen? ⟨b, j, none⟩ = false)
    (hvs : ∀ j v, vs[j]? = some v → w.cell? ⟨vb, voff + j, none⟩ = some v) (h1c : ∀ v ∈ cs, v.oneCell' = true) (h1v : ∀ v ∈ vs, v.oneCell' = true)
    (tA : TypeId) (kA : Nat) (hsa : w.shape? vb = some (tA, kA)) (hkA : kA ≠ 0) {arr : Array Value} {el : TypeId} (hb : w.heap[b]? = some (.cells arr el (0, 0))) :
    Calls Tryz.prog 107 #[.slice (some ⟨b, 0, none⟩) n c, .int .i64 i, .slice (some ⟨vb, voff, none⟩) 1 vc] w fun e w' =>
      e = .returned (.slice (some ⟨b, 0, none⟩) (n + 1) c) ∧ w' = (w.drew.setCells b ((i + 1) * 6) (cs.drop (i * 6))).setCells b (i * 6) vs := by
  have hz2 : ¬ ((i : Int) = (n : Int)) := by omega
  have hsz : (Tryz.prog.info? 77).map (·.size) = some 6 := by kernel_rfl
  have hov : ∀ lb cb, (callFunc 116 #[.slice (some ⟨vb, voff, none⟩) 1 vc, .slice (some ⟨b, (i + 1) * 6, none⟩) lb cb]).run Tryz.prog w = .ok (.value (.bool false)) w := fun lb cb =>
    overlaps_run w ⟨vb, voff, none⟩ ⟨b, (i + 1) * 6, none⟩ 1 vc lb cb hvb tA kA hsa hkA hb
  have hdl : (cs.drop (i * 6)).length = (n - i) * 6 := by rw [List.length_drop, hcl, Nat.sub_mul]
  have mixed : Tryz.prog.follows .mixedOrders = true := by kernel_rfl
  have hcp1 : ∀ ty dc sc, (Builtin.copy_ #[39, 39] ty #[.slice (some ⟨b, (i + 1) * 6, none⟩) (n + 1 - (i + 1)) dc, .slice (some ⟨b, i * 6, none⟩) (n + 1 - i) sc]).run Tryz.prog w.drew = .ok (goInt ((n - i : Nat) : Int)) (w.drew.setCells b ((i + 1) * 6) (cs.drop (i * 6))) := fun ty dc sc =>
    run_copy_sz w.drew _ _ ty 77 6 (n - i) b ((i + 1) * 6) (n + 1 - (i + 1)) dc ⟨b, i * 6, none⟩ (n + 1 - i) sc (cs.drop (i * 6)) Tryz.underlying39 hsz (by simp only [Nat.min_def]; split <;> omega) hdl
      (fun j v hj => by rw [Addr.add_lit]; exact hcs (i * 6 + j) v (by rwa [List.getElem?_drop] at hj))
      (fun j hj => hsp _ (by omega)) (fun j hj => hfz _) (fun v hv => h1c v (List.mem_of_mem_drop hv))
  obtain ⟨W1, hW1⟩ : ∃ W1, W1 = w.drew.setCells b ((i + 1) * 6) (cs.drop (i * 6)) := ⟨_, rfl⟩
  have hsp1 : ∀ k, k < (n + 1) * 6 → (W1.cell? ⟨b, k, none⟩).isSome = true := fun k hk => by
    rw [hW1]
    exact isSome_setCellsJ b (cs.drop (i * 6)) ((i + 1) * 6) w.drew (fun j hj => hsp _ (by rw [hdl] at hj; omega)) _ (hsp k hk)
  have hcp2 : ∀ (W : World), (∀ x, W.cell? x = W1.cell? x) → (∀ x, W.frozen? x = W1.frozen? x) → ∀ ty dc, (Builtin.copy_ #[39, 39] ty #[.slice (some ⟨b, i * 6, none⟩) (n + 1 - i) dc, .slice (some ⟨vb, voff, none⟩) 1 vc]).run Tryz.prog W = .ok (goInt 1) (W.setCells b (i * 6) vs) := fun W hWc hWf ty dc =>
    run_copy_sz W _ _ ty 77 6 1 b (i * 6) (n + 1 - i) dc ⟨vb, voff, none⟩ 1 vc vs Tryz.underlying39 hsz (by simp only [Nat.min_def]; split <;> omega) (by rw [hvl])
      (fun j v hj => by
        rw [Addr.add_lit, hWc, hW1, World.cell?_setCells_out b _ _ _ _ (fun h _ => absurd h hvb)]
        exact hvs j v hj)
      (fun j hj => by rw [hWc]; exact hsp1 _ (by omega)) (fun j hj => by rw [hWf, hW1, World.frozen?_setCells]; exact hfz _) h1v
  rw [← hW1] at hcp1
  have hw1 : IntKind.i64.wrap ((i : Int) + 1) = (i : Int) + 1 := by rw [IntKind.wrap_i64]; omega
  have hw2 : IntKind.i64.wrap ((n : Int) + 1) = (n : Int) + 1 := by rw [IntKind.wrap_i64]; omega
  have hb1 : (0 : Int) ≤ (i : Int) + 1 := by omega
  have hin : i ≤ n := by omega
  have htn : ((i : Int) + 1).toNat = i + 1 := by omega
  have hb2 : ¬ (c = i + 1) := by omega
  have hb3 : (i : Int) ≤ (n : Int) + 1 := by omega
  have hb4 : ¬ (c = i) := by omega
  go_enter Tryz.func107, Tryz.ntmps107
  go_wp2_with (simp only [hov])
  go_region_law_o (refine step_copy_runJ rfl _ _ 39 39 rfl (.slice (some ⟨b, (i + 1) * 6, none⟩) (n + 1 - (i + 1)) (c - (i + 1))) (.slice (some ⟨b, i * 6, none⟩) (n + 1 - i) (c - i)) (by simp [Act.eval, Act.put]) (by simp [Act.eval, Act.put]) (hcp1 3 (c - (i + 1)) (c - i)) ?_)
  go_wp2_with (refine wpList_copy_runJ _ rfl _ _ 39 39 rfl _ _ rfl rfl (hcp2 _ (fun _ => rfl) (fun _ => rfl) _ _) ?_)
  go_ret
  first | exact ⟨rfl, rfl⟩ | exact ⟨rfl, by rw [hW1]⟩

set_option maxHeartbeats 4000000 in
set_option maxRecDepth 100000 in
theorem insert_grow (b n c i vb voff vc : Nat) (cs vs : List Value) (w : World) (hi : i < n) (hnc : n ≤ c) (hroom : c < n + 1) (hn : n ≤ 1048576) (hvb : vb ≠ b) (hcl : cs.length = n * 6) (hvl : vs.length = 6)
    (hcs : ∀ j v, cs[j]? = some v → w.cell? ⟨b, j, none⟩ = some v)
    (hvs : ∀ j v, vs[j]? = some v → w.cell? ⟨vb, voff + j, none⟩ = some v) (h1c : ∀ v ∈ cs, v.oneCell' = true) (h1v : ∀ v ∈ vs, v.oneCell' = true)
    {ti : TypeInfo} {z : Value} (hi0 : Tryz.prog.info? 77 = some ti) (hz0 : ti.zero = some z) (hzs : z.cells.size = ti.size) (hzo : ∀ x ∈ z.cells.toList, x.oneCell' = true) (hsz6 : ti.size = 6) (hbz : ti.bytes = 96) :
    ∃ ROW : Array Value, ∃ G : Nat, n + 1 ≤ G ∧ G ≤ maxLen ∧ ROW.size = G * 6 ∧ (∀ x ∈ ROW.toList, x.oneCell' = true) ∧ ROW.toList.take (i * 6) = cs.take (i * 6) ∧
    Calls Tryz.prog 107 #[.slice (some ⟨b, 0, none⟩) n c, .int .i64 i, .slice (some ⟨vb, voff, none⟩) 1 vc] w fun e w' =>
      e = .returned (.slice (some ⟨w.heap.size, 0, none⟩) (n + 1) G) ∧ w' = (((w.alloc (.cells ROW 77)).drew.setCells w.heap.size (i * 6) vs).drew).setCells w.heap.size ((i + 1) * 6) (cs.drop (i * 6)) := by
  have hz2 : ¬ ((i : Int) = (n : Int)) := by omega
  have hz3 : (c : Int) < (n : Int) + 1 := by omega
  have hsz : (Tryz.prog.info? 77).map (·.size) = some 6 := by rw [hi0]; simp [hsz6]
  have mixed : Tryz.prog.follows .mixedOrders = true := by kernel_rfl
  have hbw : b < w.heap.size := block_lt_of_cell (hcs 0 _ (List.getElem?_eq_getElem (by omega)))
  have hvw : vb < w.heap.size := block_lt_of_cell (hvs 0 _ (List.getElem?_eq_getElem (by omega)))
  have hkk : (n : Int) + 1 - (i : Int) = ((n + 1 - i : Nat) : Int) := by omega
  have hik : i + (n + 1 - i) = n + 1 := by omega
  have hold : (Builtin.firstCells ti.size i (.slice (some ⟨b, 0, none⟩) i c)).run Tryz.prog w.drew = .ok (cs.take (i * 6)).toArray w.drew := by
    rw [hsz6]
    exact run_firstCells_some w.drew 6 i ⟨b, 0, none⟩ i c (cs.take (i * 6)) (by rw [List.length_take]; omega) (fun j v hj => by
      rw [Addr.add_lit]
      rw [List.getElem?_take] at hj
      split at hj
      · rw [Nat.zero_add]; exact hcs j v hj
      · cases hj)
  have hrz : ∀ ty, (Builtin.append_ #[39, 3] ty #[.slice (some ⟨b, 0, none⟩) i c, .int .i64 ((n : Int) + 1 - (i : Int))]).run Tryz.prog w =
      .ok (.slice (some ⟨w.heap.size, 0, none⟩) (n + 1) (grownCap w (n + 1) c 77)) (w.drew.alloc (.cells ((cs.take (i * 6)).toArray ++ Builtin.zeroCells z.cells (n + 1 - i) ++ Builtin.zeroCells z.cells (grownCap w (n + 1) c 77 - (n + 1))) 77)) := fun ty => by
    have h := Lib.run_append_grow_zeros w 39 3 ty 77 ti z .i64 .i64 Tryz.underlying39 Tryz.underlying3 hi0 hz0 (some ⟨b, 0, none⟩) i c (cs.take (i * 6)) hold (n + 1 - i) (by omega) (by omega) (by omega) (by omega) (by rw [hbz]; omega) (by rw [hbz, hik]; exact growslice_fits hroom (by omega))
    rw [hik] at h
    rw [hkk]
    exact h
  obtain ⟨G, hG⟩ : ∃ G, G = grownCap w (n + 1) c 77 := ⟨_, rfl⟩
  obtain ⟨ROW, hROW⟩ : ∃ ROW : Array Value, ROW = (cs.take (i * 6)).toArray ++ Builtin.zeroCells z.cells (n + 1 - i) ++ Builtin.zeroCells z.cells (G - (n + 1)) := ⟨_, rfl⟩
  rw [← hG] at hrz
  rw [← hROW] at hrz
  have hGn : n + 1 ≤ G := by rw [hG]; exact grownCap_ge w _ _ _
  have hGm : G ≤ maxLen := by rw [hG]; exact grownCap_le_maxLen w (n + 1) c 77 (by unfold maxLen; omega)
  have hRs : ROW.size = G * 6 := by
    rw [hROW]
    simp only [Array.size_append, List.size_toArray, size_zeroCells, hzs, hsz6, List.length_take, hcl]
    omega
  have hRt : ROW.toList.take (i * 6) = cs.take (i * 6) := by
    rw [hROW]
    simp only [Array.toList_append, List.append_assoc]
    rw [List.take_append_of_le_length (by simp; omega), List.take_of_length_le (by simp; omega)]
  have hRo : ∀ x ∈ ROW.toList, x.oneCell' = true := fun x hx => by
    rw [hROW] at hx
    simp only [Array.toList_append, List.mem_append] at hx
    rcases hx with (hx | hx) | hx
    · exact h1c x (List.mem_of_mem_take hx)
    · exact hzo x (zeroCells_mem hx)
    · exact hzo x (zeroCells_mem hx)
  refine ⟨ROW, G, hGn, hGm, hRs, hRo, hRt, ?_⟩
  obtain ⟨W1, hW1⟩ : ∃ W1, W1 = w.drew.alloc (.cells ROW 77) := ⟨_, rfl⟩
  rw [← hW1] at hrz
  have hN : ∀ j, j < (n + 1) * 6 → (W1.cell? ⟨w.heap.size, j, none⟩).isSome = true := fun j hj => by
    rw [hW1, World.cell?_alloc_at (w := w.drew) ROW _ w.heap.size j rfl, Array.getElem?_eq_getElem (by omega)]; rfl
  have hNf : ∀ j, W1.frozen? ⟨w.heap.size, j, none⟩ = false := fun j => by rw [hW1]; exact World.frozen?_alloc_at (w := w.drew) ROW _ w.heap.size j rfl
  have hOb : ∀ j v, w.cell? ⟨b, j, none⟩ = some v → W1.cell? ⟨b, j, none⟩ = some v := fun j v h => by rw [hW1, World.cell?_alloc_past (w := w.drew) _ b j hbw]; exact h
  have hOv : ∀ j v, w.cell? ⟨vb, j, none⟩ = some v → W1.cell? ⟨vb, j, none⟩ = some v := fun j v h => by rw [hW1, World.cell?_alloc_past (w := w.drew) _ vb j hvw]; exact h
  have hcpA : ∀ (W : World), (∀ x, W.cell? x = W1.cell? x) → (∀ x, W.frozen? x = W1.frozen? x) → ∀ ty dc, (Builtin.copy_ #[39, 39] ty #[.slice (some ⟨w.heap.size, i * 6, none⟩) (n + 1 - i) dc, .slice (some ⟨vb, voff, none⟩) 1 vc]).run Tryz.prog W = .ok (goInt 1) (W.setCells w.heap.size (i * 6) vs) := fun W hWc hWf ty dc =>
    run_copy_sz W _ _ ty 77 6 1 w.heap.size (i * 6) (n + 1 - i) dc ⟨vb, voff, none⟩ 1 vc vs Tryz.underlying39 hsz (by simp only [Nat.min_def]; split <;> omega) (by rw [hvl])
      (fun j v hj => by rw [Addr.add_lit, hWc]; exact hOv _ v (hvs j v hj))
      (fun j hj => by rw [hWc]; exact hN _ (by omega)) (fun j hj => by rw [hWf]; exact hNf _) h1v
  have hG63 : G ≤ 9223372036854775807 := by unfold maxLen at hGm; omega
  have hGi : ¬ (G = i) := by omega
  have hGim : ¬ (G = i + 1) := by omega
  have hci : ¬ (c = i) := by omega
  have hbN : b ≠ w.heap.size := by omega
  have hdl : (cs.drop (i * 6)).length = (n - i) * 6 := by rw [List.length_drop, hcl, Nat.sub_mul]
  have hcpB : ∀ (W : World), (∀ x, W.cell? x = (W1.setCells w.heap.size (i * 6) vs).cell? x) → (∀ x, W.frozen? x = (W1.setCells w.heap.size (i * 6) vs).frozen? x) → ∀ ty dc sc, (Builtin.copy_ #[39, 39] ty #[.slice (some ⟨w.heap.size, (i + 1) * 6, none⟩) (n + 1 - (i + 1)) dc, .slice (some ⟨b, i * 6, none⟩) (n - i) sc]).run Tryz.prog W = .ok (goInt ((n - i : Nat) : Int)) (W.setCells w.heap.size ((i + 1) * 6) (cs.drop (i * 6))) := fun W hWc hWf ty dc sc =>
    run_copy_sz W _ _ ty 77 6 (n - i) w.heap.size ((i + 1) * 6) (n + 1 - (i + 1)) dc ⟨b, i * 6, none⟩ (n - i) sc (cs.drop (i * 6)) Tryz.underlying39 hsz (by simp only [Nat.min_def]; split <;> omega) hdl
      (fun j v hj => by
        rw [Addr.add_lit, hWc, World.cell?_setCells_out _ _ _ _ _ (fun h _ => absurd h hbN)]
        exact hOb _ v (hcs (i * 6 + j) v (by rwa [List.getElem?_drop] at hj)))
      (fun j hj => by rw [hWc]; exact isSome_setCellsJ _ _ _ _ (fun t ht => hN _ (by omega)) _ (hN _ (by omega)))
      (fun j hj => by rw [hWf, World.frozen?_setCells]; exact hNf _) (fun v hv => h1c v (List.mem_of_mem_drop hv))
  subst hW1
  have hE1 : ∀ x, ((w.alloc (.cells ROW 77)).drew).cell? x = (w.drew.alloc (.cells ROW 77)).cell? x := fun x => rfl
  have hE2 : ∀ x, ((w.alloc (.cells ROW 77)).drew).frozen? x = (w.drew.alloc (.cells ROW 77)).frozen? x := fun x => rfl
  have hF1 : ∀ x, (((w.alloc (.cells ROW 77)).drew.setCells w.heap.size (i * 6) vs).drew).cell? x = ((w.drew.alloc (.cells ROW 77)).setCells w.heap.size (i * 6) vs).cell? x := fun x => rfl
  have hF2 : ∀ x, (((w.alloc (.cells ROW 77)).drew.setCells w.heap.size (i * 6) vs).drew).frozen? x = ((w.drew.alloc (.cells ROW 77)).setCells w.heap.size (i * 6) vs).frozen? x := fun x => rfl
  have hw1 : IntKind.i64.wrap ((i : Int) + 1) = (i : Int) + 1 := by rw [IntKind.wrap_i64]; omega
  have hw2 : IntKind.i64.wrap ((n : Int) + 1) = (n : Int) + 1 := by rw [IntKind.wrap_i64]; omega
  have hw3 : IntKind.i64.wrap ((n : Int) + 1 - i) = (n : Int) + 1 - i := by rw [IntKind.wrap_i64]; omega
  have hb1 : (0 : Int) ≤ (i : Int) + 1 := by omega
  have hin : i ≤ n := by omega
  have htn : ((i : Int) + 1).toNat = i + 1 := by omega
  have hb3 : (i : Int) ≤ (n : Int) := by omega
  clear hkk hik hold hROW hG
  go_enter Tryz.func107, Tryz.ntmps107
  go_wp2_with (first
    | (at_builtin; refine Lib.wpList_append_run _ rfl _ _ _ _ rfl _ _ rfl rfl _ _ (hrz _) ?_)
    | (refine wpList_copy_runJ _ rfl _ _ 39 39 rfl _ _ rfl rfl (hcpA _ hE1 hE2 _ _) ?_)
    | (refine wpList_copy_runJ _ rfl _ _ 39 39 rfl _ _ rfl rfl (hcpB _ (fun _ => rfl) (fun _ => rfl) _ _ _) ?_))
  go_region_law_o (refine step_copy_runJ rfl _ _ 39 39 rfl (.slice (some ⟨w.heap.size, (i + 1) * 6, none⟩) (n + 1 - (i + 1)) (G - (i + 1))) (.slice (some ⟨b, i * 6, none⟩) (n - i) (c - i)) (by simp [Act.eval, Act.put]) (by simp [Act.eval, Act.put]) (hcpB _ hF1 hF2 3 (G - (i + 1)) (c - i)) ?_)
  go_wp2
  go_ret
  exact ⟨rfl, rfl⟩

theorem setCells_rest (b : Nat) : ∀ (vs : List Value) (o : Nat) (w : World), (w.setCells b o vs).os = w.os ∧ (w.setCells b o vs).tape = w.tape ∧ (w.setCells b o vs).output = w.output
  | [], _, _ => ⟨rfl, rfl, rfl⟩
  | v :: r, o, w => by
    have := setCells_rest b r (o + 1) (w.setCell (at_ b o) v)
    exact this

theorem cell_shape {w : World} {b o : Nat} {u : Value} (h : w.cell? (at_ b o) = some u) : ∃ t k, w.shape? b = some (t, k) ∧ k ≠ 0 := by
  simp only [World.cell?, at_] at h
  split at h
  · rename_i cs t fr hh
    simp at h
    have := (Array.getElem?_eq_some_iff.1 h).1
    exact ⟨t, cs.size, by simp [World.shape?, hh], by omega⟩
  · cases h

theorem fieldInfo : ∃ ti z, Tryz.prog.info? 77 = some ti ∧ ti.zero = some z ∧ z.cells.size = ti.size ∧ (∀ x ∈ z.cells.toList, x.oneCell' = true) ∧ ti.size = 6 ∧ ti.bytes = 96 := by
  obtain ⟨ti, z, h1, h2, h3, h4⟩ := zeroOne_inv (P := Tryz.prog) (e := 77) (by kernel_rfl)
  have h5 : (Tryz.prog.info? 77).map (fun i => (i.size, i.bytes)) = some (6, 96) := by kernel_rfl
  rw [h1] at h5
  simp at h5
  exact ⟨ti, z, h1, h2, h3, h4, h5.1, h5.2⟩

/-- What was there, an element put in, what was there behind it. -/
theorem shift_list {C xs news : List Value} {m i : Nat} (hx : C.take (m * 6) = xs) (hC : (m + 1) * 6 ≤ C.length) (hn : news.length = 6) (hi : i ≤ m) {C1 C2 : List Value}
    (h1 : C1 = C.take ((i + 1) * 6) ++ xs.drop (i * 6) ++ C.drop ((i + 1) * 6 + (xs.drop (i * 6)).length)) (h2 : C2 = C1.take (i * 6) ++ news ++ C1.drop (i * 6 + news.length)) :
    C2.length = C.length ∧ C2.take ((m + 1) * 6) = xs.take (i * 6) ++ news ++ xs.drop (i * 6) ∧ ∀ x ∈ C2, x ∈ C ∨ x ∈ news := by
  have hxl : xs.length = m * 6 := by rw [← hx, List.length_take]; omega
  have hdl : (xs.drop (i * 6)).length = (m - i) * 6 := by rw [List.length_drop, hxl, Nat.sub_mul]
  have hmi : (i + 1) * 6 + (m - i) * 6 = (m + 1) * 6 := by omega
  have htl : (C.take ((i + 1) * 6)).length = (i + 1) * 6 := by rw [List.length_take]; omega
  have e1 : C1.take (i * 6) = xs.take (i * 6) := by
    rw [h1, List.append_assoc, List.take_append_of_le_length (by omega), List.take_take, ← hx, List.take_take]
    congr 1; omega
  have e2 : C1.drop (i * 6 + news.length) = xs.drop (i * 6) ++ C.drop ((m + 1) * 6) := by
    have : i * 6 + news.length = (C.take ((i + 1) * 6)).length := by omega
    rw [this, h1, List.append_assoc, List.drop_left, hdl, hmi]
  rw [e1, e2] at h2
  have htl2 : (xs.take (i * 6)).length = i * 6 := by rw [List.length_take]; omega
  refine ⟨?_, ?_, fun x hx2 => ?_⟩
  · rw [h2]; simp only [List.length_append, htl2, hn, hdl, List.length_drop]; omega
  · have : (m + 1) * 6 = (xs.take (i * 6) ++ news ++ xs.drop (i * 6)).length := by simp only [List.length_append, htl2, hn, hdl]; omega
    rw [h2, ← List.append_assoc, this, List.take_left]
  · have hsub : ∀ y ∈ xs, y ∈ C := fun y hy => by rw [← hx] at hy; exact List.mem_of_mem_take hy
    rw [h2] at hx2
    simp only [List.mem_append] at hx2
    rcases hx2 with (h | h) | h | h
    · exact .inl (hsub x (List.mem_of_mem_take h))
    · exact .inr h
    · exact .inl (hsub x (List.mem_of_mem_drop h))
    · exact .inl (List.mem_of_mem_drop h)

theorem grow_list {R xs news : List Value} {m i : Nat} (hx : xs.length = m * 6) (hR : R.take (i * 6) = xs.take (i * 6)) (hRl : (m + 1) * 6 ≤ R.length) (hn : news.length = 6) (hi : i ≤ m) {C1 C2 : List Value}
    (h1 : C1 = R.take (i * 6) ++ news ++ R.drop (i * 6 + news.length)) (h2 : C2 = C1.take ((i + 1) * 6) ++ xs.drop (i * 6) ++ C1.drop ((i + 1) * 6 + (xs.drop (i * 6)).length)) :
    C2.length = R.length ∧ C2.take ((m + 1) * 6) = xs.take (i * 6) ++ news ++ xs.drop (i * 6) ∧ ∀ x ∈ C2, x ∈ R ∨ x ∈ news ∨ x ∈ xs := by
  have hdl : (xs.drop (i * 6)).length = (m - i) * 6 := by rw [List.length_drop, hx, Nat.sub_mul]
  have htl : (xs.take (i * 6)).length = i * 6 := by rw [List.length_take]; omega
  rw [hR] at h1
  have hc1 : C1.length = R.length := by rw [h1]; simp only [List.length_append, htl, hn, List.length_drop]; omega
  have e1 : C1.take ((i + 1) * 6) = xs.take (i * 6) ++ news := by
    have : (i + 1) * 6 = (xs.take (i * 6) ++ news).length := by simp only [List.length_append, htl, hn]; omega
    rw [h1, this, List.take_left]
  rw [e1] at h2
  refine ⟨?_, ?_, fun x hx2 => ?_⟩
  · rw [h2]; simp only [List.length_append, htl, hn, hdl, List.length_drop, hc1]; omega
  · have : (m + 1) * 6 = (xs.take (i * 6) ++ news ++ xs.drop (i * 6)).length := by simp only [List.length_append, htl, hn, hdl]; omega
    rw [h2, this, List.take_left]
  · rw [h2] at hx2
    simp only [List.mem_append] at hx2
    rcases hx2 with ((h | h) | h) | h
    · exact .inr (.inr (List.mem_of_mem_take h))
    · exact .inr (.inl h)
    · exact .inr (.inr (List.mem_of_mem_drop h))
    · have h := List.mem_of_mem_drop h
      rw [h1] at h
      simp only [List.mem_append] at h
      rcases h with (h | h) | h
      · exact .inr (.inr (List.mem_of_mem_take h))
      · exact .inr (.inl h)
      · exact .inl (List.mem_of_mem_drop h)

theorem insSpec : InsSpec Tryz.prog 107 6 := by
  refine ⟨by kernel_rfl, fun w el v m xs i vb voff vc news hown ho hi hm hne hnl hnc => ?_⟩
  obtain ⟨ti, z, q1, q2, q3, q4, q5, q6⟩ := fieldInfo
  have hxl : xs.length = m * 6 := hown.1
  have hnews : ∀ j u, news[j]? = some u → w.cell? ⟨vb, voff + j, none⟩ = some u := fun j u hj => (hnc j u hj).1
  have h1v : ∀ u ∈ news, u.oneCell' = true := fun u hu => by
    obtain ⟨j, hj⟩ := List.getElem?_of_mem hu
    exact (hnc j u hj).2
  have hmax : (1048577 : Nat) ≤ maxLen := by simp [maxLen]
  -- at the end
  have atEnd : ∀ base c, v = .slice base m c → m ≤ c → c ≤ 9223372036854775807 → (base = none → m = 0) → i = m →
      Calls Tryz.prog 107 #[v, .int .i64 i, .slice (some (at_ vb voff)) 1 vc] w fun e w' => ∃ v' el', e = .returned v' ∧ w'.ownsRow 0 el' 6 v' (m + 1) (xs.take (i * 6) ++ news ++ xs.drop (i * 6)) ∧ Grow w w' v v' 0 ∧ OneAll w' v' := fun base c hv hmc hc hb him => by
    subst him
    have hsrc : Src Tryz.prog ti.size 39 (.slice (some (at_ vb voff)) 1 vc) 1 news w := Src.ofSlice w Tryz.underlying39 (at_ vb voff) 1 vc news (by rw [q5, hnl]) (fun j u hj => by rw [at_add]; exact hnews j u hj) h1v
    rw [← q5] at hown
    obtain ⟨v', w', el', r1, r2, r3, r4⟩ := run_append_one (P := Tryz.prog) w 39 39 39 77 el ti z Tryz.underlying39 q1 q2 q3 v i xs hown _ 1 news hsrc (by omega) (by rw [q6]; omega) (by omega) ho q4
    refine (insert_end v v' i vb voff vc w w' base c hmc hc hv hb r1).mono fun e W ⟨he, hW⟩ => ?_
    subst he; subst hW
    refine ⟨v', el', rfl, ?_, { r3 with cells := fun b hb j hj => by omega }, r4⟩
    rw [List.take_of_length_le (by omega), List.drop_of_length_le (by omega), List.append_nil, ← q5]
    exact r2
  rcases hown.2 with ⟨rfl, rfl⟩ | ⟨g, cap, cur, rfl, _, hg, hnc2, hcm, hcs, htake⟩
  · exact atEnd none 0 rfl (by omega) (by omega) (fun _ => rfl) (by omega)
  · have hc63 : cap ≤ 9223372036854775807 := by simp only [maxLen] at hcm; omega
    by_cases him : i = m
    · exact atEnd _ cap rfl hnc2 hc63 (fun h => by cases h) him
    · have hlt : i < m := by omega
      have hgb : vb ≠ g := fun e => hne (by rw [e]; rfl)
      have hcell : ∀ j u, xs[j]? = some u → w.cell? ⟨g, j, none⟩ = some u := fun j u hj => by
        have := hown.cells (g := g) rfl j u hj
        rw [add_zero_at] at this
        exact this
      have h1c : ∀ u ∈ xs, u.oneCell' = true := fun u hu => by
        rw [← htake] at hu
        exact ho g cur _ _ rfl hg u (List.mem_of_mem_take hu)
      have hcl : cur.toList.length = cap * 6 := by simpa using hcs
      by_cases hroom : m + 1 ≤ cap
      · obtain ⟨u, hu⟩ : ∃ u, news[0]? = some u := ⟨_, List.getElem?_eq_getElem (by omega)⟩
        obtain ⟨tA, kA, s1, s2⟩ := cell_shape (hnc 0 u hu).1
        refine (insert_shift g m cap i vb voff vc xs news w hlt hroom hc63 hgb hxl hnl hcell (fun j hj => ?_) (fun j => by simp [World.frozen?, hg]) hnews h1c h1v tA kA s1 s2 hg).mono fun e W ⟨he, hW⟩ => ?_
        · simp only [World.cell?, hg]
          have : j < cur.size := by rw [hcs]; omega
          simp [this]
        · subst he
          have hdl : (xs.drop (i * 6)).length = (m - i) * 6 := by rw [List.length_drop, hxl, Nat.sub_mul]
          obtain ⟨c1, k1, k2⟩ := heap_setCells g el (0, 0) (xs.drop (i * 6)) ((i + 1) * 6) w.drew cur hg (by rw [hdl, hcs]; omega)
          have hc1 : c1.size = cur.size := by
            have := congrArg List.length k2
            simp only [Array.length_toList, List.length_append, List.length_take, List.length_drop, hdl] at this
            have hxl' := hxl
            omega
          obtain ⟨c2, k3, k4⟩ := heap_setCells g el (0, 0) news (i * 6) _ c1 k1 (by rw [hnl, hc1, hcs]; omega)
          rw [← hW] at k3
          obtain ⟨l1, l2, l3⟩ := shift_list (C := cur.toList) (xs := xs) (news := news) (m := m) (i := i) htake (by rw [hcl]; omega) hnl hi k2 k4
          refine ⟨_, el, rfl, ⟨?_, .inr ⟨g, cap, c2, rfl, Nat.zero_le _, k3, hroom, hcm, ?_, l2⟩⟩, ⟨?_, fun b hb hbb => ?_, fun _ _ j hj => by omega, .inl rfl, ?_, ?_, ?_⟩, fun b arr e2 fr hb hh x hx => ?_⟩
          · simp only [List.length_append, List.length_take, hdl, hnl, hxl]; omega
          · have : c2.size = cur.size := by simpa using l1
            rw [this, hcs]
          · rw [hW, setCells_size, setCells_size]; exact Nat.le_refl _
          · have : b ≠ g := fun e => hbb (by rw [e]; rfl)
            rw [hW, setCells_other g b this, setCells_other g b this]; rfl
          · rw [hW, (setCells_rest _ _ _ _).1, (setCells_rest _ _ _ _).1]; rfl
          · rw [hW, (setCells_rest _ _ _ _).2.1, (setCells_rest _ _ _ _).2.1]; rfl
          · rw [hW, (setCells_rest _ _ _ _).2.2, (setCells_rest _ _ _ _).2.2]; rfl
          · simp [Value.ownBlock] at hb; subst hb
            rw [k3] at hh; cases hh
            rcases l3 x hx with h | h
            · exact ho g cur _ _ rfl hg x h
            · exact h1v x h
      · obtain ⟨ROW, G, g1, g2, g3, g4, g5, hcall⟩ := insert_grow g m cap i vb voff vc xs news w hlt hnc2 (by omega) hm hgb hxl hnl hcell hnews h1c h1v q1 q2 q3 q4 q5 q6
        refine hcall.mono fun e W ⟨he, hW⟩ => ?_
        subst he
        have hdl : (xs.drop (i * 6)).length = (m - i) * 6 := by rw [List.length_drop, hxl, Nat.sub_mul]
        have hnew : ((w.alloc (.cells ROW 77)).drew).heap[w.heap.size]? = some (.cells ROW 77 (0, 0)) := heap_alloc_at w _
        obtain ⟨c1, k1, k2⟩ := heap_setCells w.heap.size 77 (0, 0) news (i * 6) _ ROW hnew (by rw [hnl, g3]; omega)
        have hc1 : c1.size = ROW.size := by
          have := congrArg List.length k2
          simp only [Array.length_toList, List.length_append, List.length_take, List.length_drop, hnl] at this
          omega
        obtain ⟨c2, k3, k4⟩ := heap_setCells w.heap.size 77 (0, 0) (xs.drop (i * 6)) ((i + 1) * 6) _ c1 (show (((w.alloc (.cells ROW 77)).drew.setCells w.heap.size (i * 6) news).drew).heap[w.heap.size]? = _ from k1) (by rw [hdl, hc1, g3]; omega)
        rw [← hW] at k3
        have hRl : ROW.toList.length = G * 6 := by simpa using g3
        obtain ⟨l1, l2, l3⟩ := grow_list (R := ROW.toList) (xs := xs) (news := news) (m := m) (i := i) hxl g5 (by rw [hRl]; omega) hnl hi k2 k4
        refine ⟨_, 77, rfl, ⟨?_, .inr ⟨w.heap.size, G, c2, rfl, Nat.zero_le _, k3, g1, g2, ?_, l2⟩⟩, ⟨?_, fun b hb hbb => ?_, fun _ _ j hj => by omega, .inr ⟨_, rfl, Nat.le_refl _⟩, ?_, ?_, ?_⟩, fun b arr e2 fr hb hh x hx => ?_⟩
        · simp only [List.length_append, List.length_take, hdl, hnl, hxl]; omega
        · have : c2.size = ROW.size := by simpa using l1
          rw [this, g3]
        · rw [hW, setCells_size]
          show _ ≤ ((w.alloc (.cells ROW 77)).drew.setCells w.heap.size (i * 6) news).heap.size
          rw [setCells_size]
          show _ ≤ (w.alloc (.cells ROW 77)).heap.size
          simp
        · have hb' : b ≠ w.heap.size := by omega
          rw [hW, setCells_other _ b hb']
          show ((w.alloc (.cells ROW 77)).drew.setCells w.heap.size (i * 6) news).heap[b]? = _
          rw [setCells_other _ b hb']
          exact heap_alloc_lt w _ hb
        · rw [hW, (setCells_rest _ _ _ _).1]
          show ((w.alloc (.cells ROW 77)).drew.setCells w.heap.size (i * 6) news).os = _
          rw [(setCells_rest _ _ _ _).1]; rfl
        · rw [hW, (setCells_rest _ _ _ _).2.1]
          show ((w.alloc (.cells ROW 77)).drew.setCells w.heap.size (i * 6) news).tape = _
          rw [(setCells_rest _ _ _ _).2.1]; rfl
        · rw [hW, (setCells_rest _ _ _ _).2.2]
          show ((w.alloc (.cells ROW 77)).drew.setCells w.heap.size (i * 6) news).output = _
          rw [(setCells_rest _ _ _ _).2.2]; rfl
        · simp [Value.ownBlock] at hb; subst hb
          rw [k3] at hh; cases hh
          rcases l3 x hx with h | h | h
          · exact g4 x h
          · exact h1v x h
          · exact h1c x h
end Go.Av.Tryz
set_option linter.unusedSimpArgs false
namespace Go.Av.Tryz
open Go.Proofs

theorem copyP (v : Val) (hsm : v.sm 1048576 = true) : PCall Tryz.prog 103 [v.d] (fun r => r = .one v.d) :=
  (copyN _ v (Nat.le_refl _) hsm).pcall fun r hr => by rw [hr.data]

def setF (nm : List UInt8) (x : Val) (f : List Fld) : List Fld := if hasV nm f then f.set (posV nm f) (.mk nm x) else f.take (posV nm f) ++ .mk nm x :: f.drop (posV nm f)
def setV (nm : List UInt8) (x v : Val) : Val := .mk v.kind v.n v.s v.l (setF nm x v.f)

theorem has_get {nm : List UInt8} {f : List Fld} (h : hasV nm f = true) : ∃ y : Fld, f[posV nm f]? = some y ∧ y.name = nm := by
  unfold hasV at h
  split at h
  · rename_i y hy; exact ⟨y, hy, by simpa using h⟩
  · cases h
theorem posV_nil (nm : List UInt8) : posV nm [] = 0 := rfl
theorem hasV_nil (nm : List UInt8) : hasV nm [] = false := rfl
theorem srt_nil : srt [] := fun i j x y _ h => by simp at h

theorem fld_mk (nm : List UInt8) (x : Val) : (Fld.mk nm x).d = .agg [.str nm, .int .i64 x.kind, .int .i64 x.n, .str x.s, .list (valsD x.l), .list (fldsD x.f)] := by rw [Fld.d_eq]; rfl
theorem fldsD_take (l : List Fld) (i : Nat) : fldsD (l.take i) = (fldsD l).take i := by simp [fldsD_eq, List.map_take]
theorem fldsD_drop (l : List Fld) (i : Nat) : fldsD (l.drop i) = (fldsD l).drop i := by simp [fldsD_eq, List.map_drop]
theorem setF_ins {nm : List UInt8} {x : Val} {f : List Fld} (h : hasV nm f = false) : fldsD (setF nm x f) = (fldsD f).take (posV nm f) ++ .agg [.str nm, .int .i64 x.kind, .int .i64 x.n, .str x.s, .list (valsD x.l), .list (fldsD x.f)] :: (fldsD f).drop (posV nm f) := by
  rw [setF, h, if_neg (by simp), fldsD_append, fldsD, fld_mk, fldsD_take, fldsD_drop]
theorem setF_set {nm : List UInt8} {x : Val} {f : List Fld} (h : hasV nm f = true) : fldsD (setF nm x f) = (fldsD f).set (posV nm f) (.agg [.str nm, .int .i64 x.kind, .int .i64 x.n, .str x.s, .list (valsD x.l), .list (fldsD x.f)]) := by
  rw [setF, h, if_pos rfl, fldsD_eq, List.map_set, ← fldsD_eq, fld_mk]
theorem setV_d (nm : List UInt8) (x v : Val) : (setV nm x v).d = .agg [.int .i64 v.kind, .int .i64 v.n, .str v.s, .list (valsD v.l), .list (fldsD (setF nm x v.f))] := by rw [Val.d_eq]; rfl

/-- value.Set -/
def L_value_Set : LCode :=
  .seq (.reg [⟨some 3, .box (.t 0), none⟩, ⟨some 5, .box (.t 2), none⟩, ⟨some 6, .allo [.int .i64 0, .int .i64 0, .str [], .list [], .list []], none⟩]) (.seq (.reg [⟨some 9, .val 
  (.ld true 5 (.t 3)), none⟩, ⟨some 10, .call 103 [.t 9], none⟩, ⟨none, .st 5 (.t 3) (.t 10), none⟩]) (.seq (.reg [⟨some 12, .val (.fa 4 (.t 3)), none⟩, ⟨some 13, .val (.ld false 1 
  (.t 12)), none⟩, ⟨some 14, .val (.cp (.t 1)), none⟩, ⟨some 15, .prim .call [.k (.fn (.func 104) [] []), .t 13, .t 14, .k (.fn (.func 105) [] [])] [], none⟩, ⟨some 11, .val (.cp 
  (.t 15)), none⟩, ⟨some 16, .val (.ext 0 (.t 11)), none⟩, ⟨some 17, .val (.ext 1 (.t 11)), none⟩, ⟨some 7, .asg (.t 16), none⟩, ⟨some 8, .asg (.t 17), none⟩]) (.seq (.seq (.reg 
  [⟨some 18, .val (.cp (.t 8)), none⟩]) (.cond (.t 18) (.dreg [⟨some 19, .val (.fa 4 (.t 3)), none⟩, ⟨some 20, .val (.ld false 1 (.t 19)), none⟩, ⟨some 21, .val (.cp (.t 7)), 
  none⟩, ⟨some 22, .val (.ld true 5 (.t 5)), none⟩, ⟨some 23, .call 103 [.t 22], none⟩, ⟨some 24, .val (.ia 6 (.t 20) (.t 21)), none⟩, ⟨some 25, .val (.fa 1 (.t 24)), none⟩, ⟨none, 
  .st 5 (.t 25) (.t 23), none⟩]) (.dreg [⟨some 26, .val (.fa 4 (.t 3)), none⟩, ⟨some 27, .val (.ld false 1 (.t 26)), none⟩, ⟨some 28, .val (.cp (.t 7)), none⟩, ⟨some 29, .val (.cp 
  (.t 1)), none⟩, ⟨some 30, .val (.ld true 5 (.t 5)), none⟩, ⟨some 31, .call 103 [.t 30], none⟩, ⟨some 32, .val (.bld [(0, 1), (1, 5)] [.str [], .int .i64 0, .int .i64 0, .str [], 
  .list [], .list []] [] [(0, .t 29), (1, .t 31)]), none⟩, ⟨some 33, .bsl 77 6 [.t 32], none⟩, ⟨some 34, .prim .call [.k (.fn (.func 107) [] []), .t 27, .t 28, .t 33] [], none⟩, 
  ⟨some 35, .val (.fa 4 (.t 3)), none⟩, ⟨none, .st 1 (.t 35) (.t 34), none⟩]))) (.seq (.reg [⟨some 36, .val (.ld true 5 (.t 3)), none⟩, ⟨none, .st 5 (.t 6) (.t 36), none⟩]) 
  .ret))))
def R_value_Set : List LRes := [.cell 6 true 5]
theorem lift_value_Set : Lifts Tryz.prog 87 37 L_value_Set R_value_Set := ⟨_, _, Tryz.func87, rfl, by kernel_rfl, by kernel_rfl, rfl⟩

theorem setP_call (v x : Val) (nm : List UInt8) (hs : srt v.f) (hv : v.sm 1048576 = true) (hx : x.sm 1048576 = true) : PCall Tryz.prog 87 [v.d, .str nm, x.d] (fun r => r = .one (setV nm x v).d) := by
  obtain ⟨_, hll, hfl, hsl, hsf⟩ := Val.sm_iff.1 hv
  have hvl := valsD_length v.l
  have hfl' := fldsD_length v.f
  have hcx := copyP x hx
  rw [Val.d_eq x] at hcx
  refine NCall.pcall (Post := fun r => r.data = (setV nm x v).d) ?_ (fun r hr => by rw [hr])
  refine lift_value_Set.ncall rfl ?_
  rw [Val.d_eq v, Val.d_eq x]
  simp (maxSteps := 2000000) only [go_sem, ↓reduceIte, L_value_Set]
  refine CallG.cstep (CStep.ncall (copyN _ v (Nat.le_refl _) hv) (by rw [Val.d_eq]; rfl) (fun r hok hr => ?_))
  obtain ⟨X, hX, hr⟩ := hr
  rcases hr with ⟨hf0, rfl⟩ | ⟨hf0, c, rfl⟩
  · rcases hX with ⟨rfl, hl0⟩ | rfl
    · simp (maxSteps := 2000000) only [go_sem, ↓reduceIte, XR.adopt]
      refine PrimG.mcall ([]) ([]) rfl ((search_call [] nm srt_nil (by simp)).nsArg) rfl rfl (by simp only [objsAt, St.obj, aget, AObj.ren, AV.ren, AV.ren1, renL, ren1L, renR, renQ, List.getD_cons_zero, List.getD_cons_succ, and_true, and_self, Nat.reduceEqDiff, ↓reduceIte, reduceCtorEq]) rfl rfl rfl ⟨rfl, rfl⟩ ?_
      simp (maxSteps := 2000000) only [go_sem, ↓reduceIte, posV_nil, hasV_nil]
      refine CallD.of hcx ?_
      simp (maxSteps := 2000000) (disch := omega) only [go_sem, ↓reduceIte]
      refine PrimG.insert (k := 10) (c := 0) (i := 0) (fs := []) insSpec rfl (.inl ⟨rfl, rfl⟩) rfl rfl rfl (by decide) (by simp) (by simp) (by simp) (fun c' h1 h2 => ?_)
      simp (maxSteps := 2000000) (disch := omega) only [go_sem, ↓reduceIte, rowC_drop]
      refine ⟨.row [.d (.int .i64 v.kind), .d (.int .i64 v.n), .d (.str v.s), .ns] 6 [.agg [.str nm, .int .i64 x.kind, .int .i64 x.n, .str x.s, .list (valsD x.l), .list (fldsD x.f)]] c', 10, rfl, (fun _ _ _ _ h => by cases h; rfl), ⟨by simp [AV.dns], by simp [D.cells], by simpa using h1, h2⟩, ?_⟩
      rw [setV_d, hf0, hl0, setF_ins (hasV_nil nm)]
      rfl
    · simp (maxSteps := 2000000) only [go_sem, ↓reduceIte, XR.adopt]
      refine PrimG.mcall ([]) ([]) rfl ((search_call [] nm srt_nil (by simp)).nsArg) rfl rfl (by simp only [objsAt, St.obj, aget, AObj.ren, AV.ren, AV.ren1, renL, ren1L, renR, renQ, List.getD_cons_zero, List.getD_cons_succ, and_true, and_self, Nat.reduceEqDiff, ↓reduceIte, reduceCtorEq]) rfl rfl rfl ⟨rfl, rfl⟩ ?_
      simp (maxSteps := 2000000) only [go_sem, ↓reduceIte, posV_nil, hasV_nil]
      refine CallD.of hcx ?_
      simp (maxSteps := 2000000) (disch := omega) only [go_sem, ↓reduceIte]
      refine PrimG.insert (k := 10) (c := 0) (i := 0) (fs := []) insSpec rfl (.inl ⟨rfl, rfl⟩) rfl rfl rfl (by decide) (by simp) (by simp) (by simp) (fun c' h1 h2 => ?_)
      simp (maxSteps := 2000000) (disch := omega) only [go_sem, ↓reduceIte, rowC_drop]
      refine ⟨.row [.d (.int .i64 v.kind), .d (.int .i64 v.n), .d (.str v.s), .d (.list (valsD v.l))] 6 [.agg [.str nm, .int .i64 x.kind, .int .i64 x.n, .str x.s, .list (valsD x.l), .list (fldsD x.f)]] c', 10, rfl, (fun _ _ _ _ h => by cases h; rfl), ⟨by simp [AV.dns], by simp [D.cells], by simpa using h1, h2⟩, ?_⟩
      rw [setV_d, hf0, setF_ins (hasV_nil nm)]
      rfl
  · rcases hX with ⟨rfl, hl0⟩ | rfl
    · simp (maxSteps := 2000000) only [go_sem, ↓reduceIte, XR.adopt]
      refine PrimG.callRow (k := 10) (sz := 6) (c := c) (fs := fldsD v.f) rfl rfl rfl (fldsD_cells _) hok.2.2.1 rfl (search_call v.f nm hs hfl) rfl ?_
      simp (maxSteps := 2000000) only [go_sem, ↓reduceIte]
      refine ⟨fun hh => ?_, fun hh => ?_⟩
      · refine CallD.of hcx ?_
        simp (maxSteps := 2000000) (disch := omega) only [go_sem, ↓reduceIte]
        obtain ⟨y, hy, hyn⟩ := has_get hh
        have hlt := (List.getElem?_eq_some_iff.1 hy).1
        have hrow := rowC_len (fldsD_cells v.f) hok.2.2.1
        have hset := rowC_set (sz := 6) (c := c) (i := posV nm v.f) (a := .str nm) (xs := [.int .i64 y.v.kind, .int .i64 y.v.n, .str y.v.s, .list (valsD y.v.l), .list (fldsD y.v.f)]) (fldsD_cells v.f) (by rw [fldsD_get, hy]; simp only [Option.map_some]; rw [Fld.d_eq, hyn]) (ys := [.int .i64 x.kind, .int .i64 x.n, .str x.s, .list (valsD x.l), .list (fldsD x.f)]) rfl
        refine ⟨⟨by omega, by omega⟩, ?_, ?_⟩
        · rw [hrow, Int.toNat_natCast]; have := hok.2.2.1; omega
        · refine ⟨.row [.d (.int .i64 v.kind), .d (.int .i64 v.n), .d (.str v.s), .ns] 6 ((fldsD v.f).set (posV nm v.f) (.agg [.str nm, .int .i64 x.kind, .int .i64 x.n, .str x.s, .list (valsD x.l), .list (fldsD x.f)])) c, 10, ?_, (fun _ _ _ _ h => by cases h; rw [← hset]; rfl), ⟨by simp [AV.dns], ?_, by rw [List.length_set]; exact hok.2.2.1, hok.2.2.2⟩, ?_⟩
          · show _ = some (AV.sx _)
            rw [List.length_set]; rfl
          · rw [← setF_set hh]; exact fldsD_cells _
          · rw [setV_d, hl0, setF_set hh]
            rfl
      · refine CallD.of hcx ?_
        simp (maxSteps := 2000000) (disch := omega) only [go_sem, ↓reduceIte]
        refine PrimG.insert (k := 10) (c := c) (i := posV nm v.f) (fs := fldsD v.f) insSpec rfl (.inr ⟨rfl, rfl, hok.2.2.1, hok.2.2.2⟩) rfl rfl rfl (by decide) (fldsD_cells _) (by rw [hfl']; exact posV_le _ _) (by omega) (fun c' h1 h2 => ?_)
        simp (maxSteps := 2000000) (disch := omega) only [go_sem, ↓reduceIte, rowC_drop]
        have hins := setF_ins (x := x) hh
        refine ⟨.row [.d (.int .i64 v.kind), .d (.int .i64 v.n), .d (.str v.s), .ns] 6 (fldsD (setF nm x v.f)) c', 10, ?_, (fun _ _ _ _ h => by cases h; rw [hins]; rfl), ⟨by simp [AV.dns], fldsD_cells _, ?_, h2⟩, ?_⟩
        · have hl : (fldsD (setF nm x v.f)).length = (fldsD v.f).length + 1 := by
            rw [hins, List.length_append, List.length_cons, List.length_take, List.length_drop]; have := posV_le nm v.f; omega
          show _ = some (AV.sx _)
          rw [hl]; rfl
        · rw [hins, List.length_append, List.length_cons, List.length_take, List.length_drop]; have := posV_le nm v.f; omega
        · rw [setV_d, hl0]
          rfl
    · simp (maxSteps := 2000000) only [go_sem, ↓reduceIte, XR.adopt]
      refine PrimG.callRow (k := 10) (sz := 6) (c := c) (fs := fldsD v.f) rfl rfl rfl (fldsD_cells _) hok.2.2.1 rfl (search_call v.f nm hs hfl) rfl ?_
      simp (maxSteps := 2000000) only [go_sem, ↓reduceIte]
      refine ⟨fun hh => ?_, fun hh => ?_⟩
      · refine CallD.of hcx ?_
        simp (maxSteps := 2000000) (disch := omega) only [go_sem, ↓reduceIte]
        obtain ⟨y, hy, hyn⟩ := has_get hh
        have hlt := (List.getElem?_eq_some_iff.1 hy).1
        have hrow := rowC_len (fldsD_cells v.f) hok.2.2.1
        have hset := rowC_set (sz := 6) (c := c) (i := posV nm v.f) (a := .str nm) (xs := [.int .i64 y.v.kind, .int .i64 y.v.n, .str y.v.s, .list (valsD y.v.l), .list (fldsD y.v.f)]) (fldsD_cells v.f) (by rw [fldsD_get, hy]; simp only [Option.map_some]; rw [Fld.d_eq, hyn]) (ys := [.int .i64 x.kind, .int .i64 x.n, .str x.s, .list (valsD x.l), .list (fldsD x.f)]) rfl
        refine ⟨⟨by omega, by omega⟩, ?_, ?_⟩
        · rw [hrow, Int.toNat_natCast]; have := hok.2.2.1; omega
        · refine ⟨.row [.d (.int .i64 v.kind), .d (.int .i64 v.n), .d (.str v.s), .d (.list (valsD v.l))] 6 ((fldsD v.f).set (posV nm v.f) (.agg [.str nm, .int .i64 x.kind, .int .i64 x.n, .str x.s, .list (valsD x.l), .list (fldsD x.f)])) c, 10, ?_, (fun _ _ _ _ h => by cases h; rw [← hset]; rfl), ⟨by simp [AV.dns], ?_, by rw [List.length_set]; exact hok.2.2.1, hok.2.2.2⟩, ?_⟩
          · show _ = some (AV.sx _)
            rw [List.length_set]; rfl
          · rw [← setF_set hh]; exact fldsD_cells _
          · rw [setV_d, setF_set hh]
            rfl
      · refine CallD.of hcx ?_
        simp (maxSteps := 2000000) (disch := omega) only [go_sem, ↓reduceIte]
        refine PrimG.insert (k := 10) (c := c) (i := posV nm v.f) (fs := fldsD v.f) insSpec rfl (.inr ⟨rfl, rfl, hok.2.2.1, hok.2.2.2⟩) rfl rfl rfl (by decide) (fldsD_cells _) (by rw [hfl']; exact posV_le _ _) (by omega) (fun c' h1 h2 => ?_)
        simp (maxSteps := 2000000) (disch := omega) only [go_sem, ↓reduceIte, rowC_drop]
        have hins := setF_ins (x := x) hh
        refine ⟨.row [.d (.int .i64 v.kind), .d (.int .i64 v.n), .d (.str v.s), .d (.list (valsD v.l))] 6 (fldsD (setF nm x v.f)) c', 10, ?_, (fun _ _ _ _ h => by cases h; rw [hins]; rfl), ⟨by simp [AV.dns], fldsD_cells _, ?_, h2⟩, ?_⟩
        · have hl : (fldsD (setF nm x v.f)).length = (fldsD v.f).length + 1 := by
            rw [hins, List.length_append, List.length_cons, List.length_take, List.length_drop]; have := posV_le nm v.f; omega
          show _ = some (AV.sx _)
          rw [hl]; rfl
        · rw [hins, List.length_append, List.length_cons, List.length_take, List.length_drop]; have := posV_le nm v.f; omega
        · rw [setV_d]
          rfl
end Go.Av.Tryz
set_option linter.unusedSimpArgs false
namespace Go.Av.Tryz
open Go.Proofs

def leqB (a b : List UInt8) : Bool := Op.bytesLess a b || decide (a = b)
theorem mk_d (k n : Int) (s : List UInt8) (l : List Val) (f : List Fld) : (Val.mk k n s l f).d = .agg [.int .i64 k, .int .i64 n, .str s, .list (valsD l), .list (fldsD f)] := by rw [Val.d_eq]; rfl

end Go.Av.Tryz
set_option linter.unusedSimpArgs false
namespace Go.Av.Tryz
open Go.Proofs

/-! ### Blanks, words -/
def signs10 : List UInt8 := [40, 41, 60, 62, 91, 93, 123, 125, 47, 37]
def signB (c : UInt8) : Bool := decide (c ∈ signs10)
def skipF (note : Bool) : List UInt8 → Nat → Nat
  | [], at_ => at_
  | c :: r, at_ =>
    if note = true then skipF (decide (c.toNat ≠ 10) && decide (c.toNat ≠ 13)) r (at_ + 1)
    else if c.toNat = 37 then skipF true r (at_ + 1)
    else if blankB c.toNat = true then skipF false r (at_ + 1)
    else at_
def skipP (s : List UInt8) (at_ : Nat) : Nat := skipF false (s.drop at_) at_
def wordL (s : List UInt8) : List UInt8 := s.takeWhile fun c => !blankB c.toNat && !signB c
def wordP (s : List UInt8) (at_ : Nat) : List UInt8 := wordL (s.drop at_)
/-- A place, brought into a text. -/
def clampP (s : List UInt8) (n : Int) : Nat := (min (max n 0) s.length).toNat

theorem skipF_le : ∀ (s : List UInt8) (b : Bool) (k : Nat), k ≤ skipF b s k ∧ skipF b s k ≤ k + s.length
  | [], b, k => by simp [skipF]
  | c :: r, b, k => by
    unfold skipF
    simp only [List.length_cons]
    split
    · have := skipF_le r (decide (c.toNat ≠ 10) && decide (c.toNat ≠ 13)) (k + 1); omega
    · split
      · have := skipF_le r true (k + 1); omega
      · split
        · have := skipF_le r false (k + 1); omega
        · omega
theorem skipP_le {s : List UInt8} {k : Nat} (h : k ≤ s.length) : k ≤ skipP s k ∧ skipP s k ≤ s.length := by
  have := skipF_le (s.drop k) false k
  rw [List.length_drop] at this
  unfold skipP
  omega
theorem skipF_shift : ∀ (s : List UInt8) (b : Bool) (k m : Nat), skipF b s (m + k) = m + skipF b s k
  | [], b, k, m => by simp [skipF]
  | c :: r, b, k, m => by
    unfold skipF
    split
    · rw [Nat.add_assoc, skipF_shift r _ (k + 1) m]
    · split
      · rw [Nat.add_assoc, skipF_shift r _ (k + 1) m]
      · split
        · rw [Nat.add_assoc, skipF_shift r _ (k + 1) m]
        · rfl
def stopL : List UInt8 → Prop
  | [] => True
  | c :: _ => c.toNat ≠ 37 ∧ blankB c.toNat = false
/-- What stands where blanks end is no blank, and begins no note. -/
theorem skipF_stop : ∀ (s : List UInt8) (b : Bool) (k : Nat), stopL (s.drop (skipF b s k - k))
  | [], b, k => by simp [skipF, stopL]
  | c :: r, b, k => by
    have step : ∀ b', stopL (r.drop (skipF b' r (k + 1) - (k + 1))) → stopL ((c :: r).drop (skipF b' r (k + 1) - k)) := fun b' h => by
      have := (skipF_le r b' (k + 1)).1
      rw [show skipF b' r (k + 1) - k = (skipF b' r (k + 1) - (k + 1)) + 1 by omega, List.drop_succ_cons]
      exact h
    unfold skipF
    by_cases h1 : b = true
    · rw [if_pos h1]; exact step _ (skipF_stop r _ (k + 1))
    · rw [if_neg h1]
      by_cases h2 : c.toNat = 37
      · rw [if_pos h2]; exact step _ (skipF_stop r _ (k + 1))
      · rw [if_neg h2]
        by_cases h3 : blankB c.toNat = true
        · rw [if_pos h3]; exact step _ (skipF_stop r _ (k + 1))
        · rw [if_neg h3, Nat.sub_self, List.drop_zero]
          exact ⟨h2, by simpa using h3⟩
theorem skipP_stop (s : List UInt8) (k : Nat) {c : UInt8} (h : s[skipP s k]? = some c) : c.toNat ≠ 37 ∧ blankB c.toNat = false := by
  have h1 := skipF_stop (s.drop k) false k
  have h2 := (skipF_le (s.drop k) false k).1
  rw [List.drop_drop, show k + (skipF false (s.drop k) k - k) = skipP s k by unfold skipP; omega, drop_at h] at h1
  exact h1
theorem skipP_idem (s : List UInt8) (k : Nat) : skipP s (skipP s k) = skipP s k := by
  cases h : s[skipP s k]? with
  | none =>
    have : s.drop (skipP s k) = [] := List.drop_eq_nil_of_le (List.getElem?_eq_none_iff.1 h)
    generalize skipP s k = q at this
    unfold skipP
    rw [this, skipF]
  | some c =>
    obtain ⟨h1, h2⟩ := skipP_stop s k h
    generalize skipP s k = q at h
    unfold skipP
    rw [drop_at h, skipF]
    simp [h1, h2]
theorem wordP_len (s : List UInt8) (k : Nat) : (wordP s k).length ≤ s.length - k := by
  have := (List.takeWhile_sublist (fun c : UInt8 => !blankB c.toNat && !signB c) (l := s.drop k)).length_le
  rw [List.length_drop] at this
  exact this

/-! ### Names, strings -/
/-- What a word behind '/' stands for. -/
def nameF : List UInt8 → List UInt8 → Option (List UInt8)
  | [], b => some b
  | c :: r, b =>
    if c.toNat = 35 then
      match r with
      | x :: y :: q => if hexI x.toNat < 0 ∨ hexI y.toNat < 0 then none else nameF q (b ++ [byteI (16 * hexI x.toNat + hexI y.toNat)])
      | _ => none
    else nameF r (b ++ [c])
def octB (c : UInt8) : Bool := decide (48 ≤ c.toNat) && decide (c.toNat ≤ 55)
def oct1 (e : UInt8) : Int := (e.toNat : Int) - 48
/-- Digits to the base 8, so many at most: the number, and how many bytes there were. -/
def octG : Nat → Int → List UInt8 → Nat → Int × Nat
  | 0, v, _, k => (v, k)
  | _ + 1, v, [], k => (v, k)
  | m + 1, v, x :: q, k => if octB x = true then octG m (8 * v + oct1 x) q (k + 1) else (v, k)
theorem octG_stop {m : Nat} {v : Int} {t : List UInt8} {k : Nat} (h : ∀ x q, t = x :: q → octB x = false) : octG m v t k = (v, k) := by
  match m, t with
  | 0, _ => rfl
  | m + 1, [] => rfl
  | m + 1, x :: q => rw [octG, if_neg (by simp [h x q rfl])]
def octL (e : UInt8) (r : List UInt8) : Option UInt8 × Nat := (some (byteI (octG 2 (oct1 e) r 1).1), (octG 2 (oct1 e) r 1).2)
/-- A byte behind '\\', and how many it takes. -/
def escL : List UInt8 → Option UInt8 × Nat
  | [] => (none, 1)
  | e :: r =>
    if e.toNat = 110 then (some 10, 1) else if e.toNat = 114 then (some 13, 1) else if e.toNat = 116 then (some 9, 1) else if e.toNat = 98 then (some 8, 1) else if e.toNat = 102 then (some 12, 1)
    else if e.toNat = 10 then (none, 1)
    else if e.toNat = 13 then (if r.head?.map UInt8.toNat = some 10 then (none, 2) else (none, 1))
    else if octB e = false then (some e, 1)
    else octL e r
/-- A string behind '(': the bytes, where it ends; none: it does not. -/
def litF : Nat → Nat → List UInt8 → List UInt8 → Nat → Option (List UInt8 × Nat)
  | _, _, [], _, _ => none
  | k + 1, d, _ :: r, b, p => litF k d r b (p + 1)
  | 0, d, c :: r, b, p =>
    if c.toNat = 92 then (if r = [] then none else litF (escL r).2 d r (b ++ (escL r).1.toList) (p + 1))
    else if c.toNat = 41 then (if d ≤ 1 then some (b, p + 1) else litF 0 (d - 1) r (b ++ [c]) (p + 1))
    else if c.toNat = 40 then litF 0 (d + 1) r (b ++ [c]) (p + 1)
    else litF 0 d r (b ++ [c]) (p + 1)
theorem litF_skip : ∀ (k : Nat) {d : Nat} {t b : List UInt8} {p : Nat}, k ≤ t.length → litF k d t b p = litF 0 d (t.drop k) b (p + k)
  | 0, _, _, _, _, _ => rfl
  | k + 1, d, [], b, p, h => by simp at h
  | k + 1, d, c :: r, b, p, h => by
    rw [litF, litF_skip k (by simpa using h), List.drop_succ_cons]
    congr 1; omega

/-! ### Values -/
inductive RV where
  | ok (v : Val) (k : Nat)
  | bad (e : Nat)
def numV (n : Int) : Val := .mk 2 n [] [] []
def strV (s : List UInt8) : Val := .mk 3 0 s [] []
def namV (s : List UInt8) : Val := .mk 4 0 s [] []
def lisV (l : List Val) : Val := .mk 5 0 [] l []
def dicV (f : List Fld) : Val := .mk 6 0 [] [] f

/-- Digits: the number; none: something else is there. -/
def digF : List UInt8 → Nat → Option Nat
  | [], n => some n
  | c :: r, n => if c.toNat < 48 ∨ 57 < c.toNat then none else digF r (10 * n + (c.toNat - 48))
/-- The digits of an object's number. -/
def objF (w : List UInt8) : Option Nat :=
  if w.length < 1 ∨ 2 < w.length ∨ w.head?.map UInt8.toNat = some 48 then none
  else match digF w 0 with
    | none => none
    | some n => if n ≤ 60 then some n else none
/-- A reference at a place: the number, where it ends. -/
def refAt (s : List UInt8) (at_ : Nat) : Option (Nat × Nat) :=
  match objF (wordP s at_) with
  | none => none
  | some n =>
    let i := skipP s (at_ + (wordP s at_).length)
    if wordP s i = [48] then
      let j := skipP s (i + 1)
      if wordP s j = [82] then some (n, j + 1) else none
    else none
def litAt (s : List UInt8) (at_ : Nat) : RV :=
  match litF 0 1 (s.drop at_) [] at_ with
  | none => .bad 5
  | some (b, k) => if b.length ≤ 200 then .ok (strV b) k else .bad 2
def hexAt (s : List UInt8) (at_ : Nat) : RV :=
  if (unhexF (s.drop at_) (-1) []).2 = 0 then (if (unhexF (s.drop at_) (-1) []).1.length ≤ 200 then .ok (strV (unhexF (s.drop at_) (-1) []).1) (at_ + gtEnd (s.drop at_)) else .bad 2)
  else .bad (unhexF (s.drop at_) (-1) []).2
/-- A name at the place of its '/': it, where it ends. -/
def nameAt (s : List UInt8) (at_ : Nat) : Option (List UInt8 × Nat) :=
  match nameF (wordP s (at_ + 1)) [] with
  | none => none
  | some b => if nameMay b = true then some (b, at_ + 1 + (wordP s (at_ + 1)).length) else none
def wordV (s : List UInt8) (at_ : Nat) : RV :=
  if wordP s at_ = [110, 117, 108, 108] then .ok zeroV (at_ + 4)
  else if wordP s at_ = [116, 114, 117, 101] then .ok (.mk 1 1 [] [] []) (at_ + 4)
  else if wordP s at_ = [102, 97, 108, 115, 101] then .ok (.mk 1 0 [] [] []) (at_ + 5)
  else match refAt s at_ with
    | some (n, k) => .ok (.mk 7 n [] [] []) k
    | none => if (parseF (wordP s at_)).2 = 0 then .ok (numV (parseF (wordP s at_)).1) (at_ + (wordP s at_).length) else .bad (parseF (wordP s at_)).2
def listF (rd : Nat → RV) (s : List UInt8) : Nat → List Val → Nat → RV
  | 0, _, _ => .bad 2
  | m + 1, acc, at_ =>
    match s[skipP s at_]? with
    | none => .bad 5
    | some c =>
      if c.toNat = 93 then .ok (lisV acc) (skipP s at_ + 1)
      else match rd (skipP s at_) with
        | .bad e => .bad e
        | .ok x k => listF rd s m (acc ++ [x]) k
def dictF (rd : Nat → RV) (s : List UInt8) : Nat → List Fld → Nat → RV
  | 0, _, _ => .bad 2
  | m + 1, acc, at_ =>
    match s[skipP s at_]? with
    | none => .bad 5
    | some c =>
      if c.toNat = 62 ∧ s[skipP s at_ + 1]? = some 62 then .ok (dicV acc) (skipP s at_ + 2)
      else if c.toNat ≠ 47 then .bad 4
      else match nameAt s (skipP s at_) with
        | none => .bad 4
        | some (nm, k) => match rd k with
          | .bad e => .bad e
          | .ok x k' => if (getV nm acc).isSome = true then .bad 3 else dictF rd s m (setF nm x acc) k'
/-- A value at a place, no deeper than that. -/
def readF : Nat → List UInt8 → Nat → RV
  | d, s, at_ =>
    match s[skipP s at_]? with
    | none => .bad 5
    | some c =>
      match d with
      | 0 => .bad 2
      | d + 1 =>
        if c.toNat = 47 then (match nameAt s (skipP s at_) with
          | none => .bad 4
          | some (b, k) => .ok (namV b) k)
        else if c.toNat = 40 then litAt s (skipP s at_ + 1)
        else if c.toNat = 60 ∧ s[skipP s at_ + 1]? = some 60 then dictF (readF d s) s 301 [] (skipP s at_ + 2)
        else if c.toNat = 60 then hexAt s (skipP s at_ + 1)
        else if c.toNat = 91 then listF (readF d s) s 301 [] (skipP s at_ + 1)
        else if signB c = true then .bad 4
        else wordV s (skipP s at_)
/-- A value from a place on. -/
def valueP (s : List UInt8) (at_ : Int) : RV :=
  if 60000 < s.length ∨ at_ < 0 ∨ (s.length : Int) < at_ then .bad 1
  else match readF 8 s at_.toNat with
    | .bad e => .bad e
    | .ok v k => if faultV v = 0 then .ok v k else .bad (faultV v)
end Go.Av.Tryz
set_option linter.unusedSimpArgs false
namespace Go.Av.Tryz
open Go.Proofs

def shRV (m : Nat) : RV → RV
  | .ok v k => .ok v (m + k)
  | .bad e => .bad e
def shP {α : Type} (m : Nat) (x : Option (α × Nat)) : Option (α × Nat) := x.map fun y => (y.1, m + y.2)

section
variable {p s : List UInt8}
theorem sh_drop (k : Nat) : (p ++ s).drop (p.length + k) = s.drop k := by rw [List.drop_append, List.drop_eq_nil_of_le (by omega), List.nil_append]; congr 1; omega
theorem sh_get (k : Nat) : (p ++ s)[p.length + k]? = s[k]? := by rw [List.getElem?_append_right (by omega)]; congr 1; omega
theorem sh_skip (k : Nat) : skipP (p ++ s) (p.length + k) = p.length + skipP s k := by unfold skipP; rw [sh_drop, skipF_shift]
theorem sh_word (k : Nat) : wordP (p ++ s) (p.length + k) = wordP s k := by unfold wordP; rw [sh_drop]
theorem sh_name (k : Nat) : nameAt (p ++ s) (p.length + k) = shP p.length (nameAt s k) := by
  unfold nameAt
  rw [Nat.add_assoc, sh_word]
  cases nameF (wordP s (k + 1)) [] with
  | none => rfl
  | some b =>
    simp only
    split
    · simp only [shP, Option.map_some]; congr 2; omega
    · rfl
theorem litF_sh : ∀ (t : List UInt8) (k d : Nat) (b : List UInt8) (q m : Nat), litF k d t b (m + q) = shP m (litF k d t b q)
  | [], k, d, b, q, m => by simp [litF, shP]
  | c :: r, k + 1, d, b, q, m => by
    rw [litF, litF, Nat.add_assoc]; exact litF_sh r k d b (q + 1) m
  | c :: r, 0, d, b, q, m => by
    rw [litF, litF]
    simp only [Nat.add_assoc]
    split
    · split
      · rfl
      · exact litF_sh r _ _ _ _ _
    · split
      · split
        · rfl
        · exact litF_sh r _ _ _ _ _
      · split
        · exact litF_sh r _ _ _ _ _
        · exact litF_sh r _ _ _ _ _
theorem sh_lit (k : Nat) : litAt (p ++ s) (p.length + k) = shRV p.length (litAt s k) := by
  unfold litAt
  rw [sh_drop, litF_sh]
  cases litF 0 1 (s.drop k) [] k with
  | none => rfl
  | some x =>
    obtain ⟨b, n⟩ := x
    simp only [shP, Option.map_some]
    split <;> rfl
theorem sh_hex (k : Nat) : hexAt (p ++ s) (p.length + k) = shRV p.length (hexAt s k) := by
  unfold hexAt
  rw [sh_drop]
  split
  · split
    · simp only [shRV, Nat.add_assoc]
    · rfl
  · rfl
theorem sh_ref (k : Nat) : refAt (p ++ s) (p.length + k) = shP p.length (refAt s k) := by
  unfold refAt
  rw [sh_word]
  cases objF (wordP s k) with
  | none => rfl
  | some n =>
    simp only
    rw [Nat.add_assoc, sh_skip, sh_word, Nat.add_assoc, sh_skip, sh_word]
    split
    · split
      · simp only [shP, Option.map_some, Nat.add_assoc]
      · rfl
    · rfl
theorem sh_wordV (k : Nat) : wordV (p ++ s) (p.length + k) = shRV p.length (wordV s k) := by
  unfold wordV
  rw [sh_word, sh_ref]
  split
  · simp only [shRV, Nat.add_assoc]
  · split
    · simp only [shRV, Nat.add_assoc]
    · split
      · simp only [shRV, Nat.add_assoc]
      · cases refAt s k with
        | some x => rfl
        | none =>
          simp only [shP, Option.map_none]
          split
          · simp only [shRV, Nat.add_assoc]
          · rfl
theorem sh_list {rd rd' : Nat → RV} (h : ∀ k, rd' (p.length + k) = shRV p.length (rd k)) : ∀ (m : Nat) (acc : List Val) (k : Nat), listF rd' (p ++ s) m acc (p.length + k) = shRV p.length (listF rd s m acc k)
  | 0, _, _ => rfl
  | m + 1, acc, k => by
    rw [listF, listF, sh_skip, sh_get]
    cases s[skipP s k]? with
    | none => rfl
    | some c =>
      simp only
      split
      · simp only [shRV, Nat.add_assoc]
      · rw [h]
        cases rd (skipP s k) with
        | bad e => rfl
        | ok x n => exact sh_list h m _ n
theorem sh_dict {rd rd' : Nat → RV} (h : ∀ k, rd' (p.length + k) = shRV p.length (rd k)) : ∀ (m : Nat) (acc : List Fld) (k : Nat), dictF rd' (p ++ s) m acc (p.length + k) = shRV p.length (dictF rd s m acc k)
  | 0, _, _ => rfl
  | m + 1, acc, k => by
    rw [dictF, dictF, sh_skip, sh_get]
    cases s[skipP s k]? with
    | none => rfl
    | some c =>
      simp only
      rw [Nat.add_assoc, sh_get]
      split
      · simp only [shRV, Nat.add_assoc]
      · split
        · rfl
        · rw [sh_name]
          cases nameAt s (skipP s k) with
          | none => rfl
          | some x =>
            obtain ⟨nm, n⟩ := x
            simp only [shP, Option.map_some]
            rw [h]
            cases rd n with
            | bad e => rfl
            | ok x n' =>
              simp only [shRV]
              split
              · rfl
              · exact sh_dict h m _ n'
theorem sh_read : ∀ (d k : Nat), readF d (p ++ s) (p.length + k) = shRV p.length (readF d s k)
  | 0, k => by
    rw [readF, readF, sh_skip, sh_get]
    cases s[skipP s k]? <;> rfl
  | d + 1, k => by
    rw [readF, readF, sh_skip, sh_get]
    cases s[skipP s k]? with
    | none => rfl
    | some c =>
      simp only
      rw [sh_name, Nat.add_assoc, Nat.add_assoc, sh_lit, sh_get, sh_dict (sh_read d), sh_hex, sh_list (sh_read d), sh_wordV]
      split
      · cases nameAt s (skipP s k) <;> rfl
      · split
        · rfl
        · split
          · rfl
          · split
            · rfl
            · split
              · rfl
              · split <;> rfl
end

theorem readF_skip {s : List UInt8} {a b : Nat} (h : skipP s a = skipP s b) : ∀ d, readF d s a = readF d s b
  | 0 => by rw [readF, readF, h]
  | d + 1 => by rw [readF, readF, h]

end Go.Av.Tryz
