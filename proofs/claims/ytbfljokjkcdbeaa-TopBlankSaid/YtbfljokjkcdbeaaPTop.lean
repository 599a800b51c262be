import Derived.Test.YtbfljokjkcdbeaaPRd7
import Derived.Test.YtbfljokjkcdbeaaEVal7
/- The program's Value. -/
set_option linter.unusedSimpArgs false
namespace Go.Av.Try
open Go.Proofs

/-- What the program's Value hands back. -/
def topP : RV → Res
  | .ok v k => .tup [v.d, .int .i64 k, .nil]
  | .bad e => .tup [zeroV.d, .int .i64 0, errD e]

/-- parse.Value -/
def L_parse_Value : LCode :=
  .seq (.reg [⟨some 4, .allo [.int .i64 0, .int .i64 0, .str [], .list [], .list []], none⟩, ⟨some 5, .asg (.k (.d (.int .i64 0))), none⟩, ⟨some 6, .asg (.k (.d .nil)), none⟩]) (.seq 
  (.seq (.reg [⟨some 9, .val (.cp (.t 0)), none⟩, ⟨some 10, .val (.len true (.t 9)), none⟩, ⟨some 11, .val (.bin .gtr (.t 10) (.k (.d (.int .i64 60000)))), none⟩, ⟨some 12, .val 
  (.cp (.t 11)), none⟩, ⟨some 13, .val (.cp (.t 1)), some (12, false)⟩, ⟨some 14, .val (.bin .lss (.t 13) (.k (.d (.int .i64 0)))), some (12, false)⟩, ⟨some 15, .val (.pick (.t 12) 
  (.k (.d (.bool true))) (.t 14)), none⟩, ⟨some 16, .val (.cp (.t 15)), none⟩, ⟨some 17, .val (.cp (.t 1)), some (16, false)⟩, ⟨some 18, .val (.cp (.t 0)), some (16, false)⟩, ⟨some 
  19, .val (.len true (.t 18)), some (16, false)⟩, ⟨some 20, .val (.bin .gtr (.t 17) (.t 19)), some (16, false)⟩, ⟨some 21, .val (.pick (.t 16) (.k (.d (.bool true))) (.t 20)), 
  none⟩]) (.cond (.t 21) (.seq (.reg [⟨some 22, .val (.bld [(0, 1), (1, 1), (2, 1), (3, 1), (4, 1)] [.int .i64 0, .int .i64 0, .str [], .list [], .list []] [] []), none⟩, ⟨some 23, 
  .val (.mkI 76 (.k (.d (.int .i64 1)))), none⟩, ⟨none, .st 5 (.t 4) (.t 22), none⟩, ⟨some 5, .asg (.k (.d (.int .i64 0))), none⟩, ⟨some 6, .asg (.t 23), none⟩]) .ret) .skip)) 
  (.seq (.reg [⟨some 24, .val (.cp (.t 0)), none⟩, ⟨some 25, .val (.cp (.t 1)), none⟩, ⟨some 26, .val (.bld [(0, 1), (1, 1), (2, 1)] [.str [], .int .i64 0, .nil] [] [(0, .t 24), 
  (1, .t 25)]), none⟩, ⟨some 27, .box (.t 26), none⟩, ⟨some 7, .asg (.t 27), none⟩]) (.seq (.reg [⟨some 28, .val (.cp (.t 7)), none⟩, ⟨some 29, .prim .call [.k (.fn (.func 39) [] 
  []), .t 28, .k (.d (.int .i64 1))] [], none⟩, ⟨some 8, .allo [.int .i64 0, .int .i64 0, .str [], .list [], .list []], none⟩, ⟨none, .st 5 (.t 8) (.t 29), none⟩]) (.seq (.seq 
  (.reg [⟨some 30, .val (.cp (.t 7)), none⟩, ⟨some 31, .val (.nck (.t 30)), none⟩, ⟨some 32, .val (.fa 2 (.t 31)), none⟩, ⟨some 33, .val (.ld false 1 (.t 32)), none⟩, ⟨some 34, 
  .val (.eqN 0 false (.t 33)), none⟩]) (.cond (.t 34) (.reg [⟨some 35, .val (.cp (.t 7)), none⟩, ⟨some 36, .val (.ld true 5 (.t 8)), none⟩, ⟨some 37, .call 41 [.t 36], none⟩, ⟨some 
  38, .prim .call [.k (.fn (.func 40) [] []), .t 35, .t 37] [], none⟩]) .skip)) (.seq (.seq (.reg [⟨some 39, .val (.cp (.t 7)), none⟩, ⟨some 40, .val (.nck (.t 39)), none⟩, ⟨some 
  41, .val (.fa 2 (.t 40)), none⟩, ⟨some 42, .val (.ld false 1 (.t 41)), none⟩, ⟨some 43, .val (.eqN 0 true (.t 42)), none⟩]) (.cond (.t 43) (.seq (.dreg [⟨some 44, .val (.bld [(0, 
  1), (1, 1), (2, 1), (3, 1), (4, 1)] [.int .i64 0, .int .i64 0, .str [], .list [], .list []] [] []), none⟩, ⟨some 45, .val (.cp (.t 7)), none⟩, ⟨some 46, .val (.nck (.t 45)), 
  none⟩, ⟨some 47, .val (.fa 2 (.t 46)), none⟩, ⟨some 48, .val (.ld false 1 (.t 47)), none⟩, ⟨none, .stC 5 (.t 4) (.t 44) [(45, .cp (.t 7)), (46, .nck (.t 45)), (47, .fa 2 (.t 
  46)), (48, .ld false 1 (.t 47))], none⟩, ⟨some 5, .val (.cp (.k (.d (.int .i64 0)))), none⟩, ⟨some 6, .val (.cp (.t 48)), none⟩]) .ret) .skip)) (.seq (.dreg [⟨some 49, .val (.ld 
  true 5 (.t 8)), none⟩, ⟨some 50, .val (.cp (.t 7)), none⟩, ⟨some 51, .val (.nck (.t 50)), none⟩, ⟨some 52, .val (.fa 1 (.t 51)), none⟩, ⟨some 53, .val (.ld false 1 (.t 52)), 
  none⟩, ⟨none, .stC 5 (.t 4) (.t 49) [(50, .cp (.t 7)), (51, .nck (.t 50)), (52, .fa 1 (.t 51)), (53, .ld false 1 (.t 52))], none⟩, ⟨some 5, .val (.cp (.t 53)), none⟩, ⟨some 6, 
  .val (.cp (.k (.d .nil))), none⟩]) .ret))))))
def R_parse_Value : List LRes := [.cell 4 true 5, .tmp 5, .tmp 6]
theorem lift_parse_Value : Lifts Try.prog 19 54 L_parse_Value R_parse_Value := ⟨_, _, Try.func19, rfl, by kernel_rfl, by kernel_rfl, rfl⟩

theorem valueTop_call (s : List UInt8) (k : Int) (hs : s.length ≤ 1000000000) : PCall Try.prog 19 [.str s, .int .i64 k] (fun r => r = topP (valueP s k)) := by
  refine lift_parse_Value.call rfl ?_
  generalize hR : valueP s k = R
  unfold valueP at hR
  simp (maxSteps := 2000000) only [go_sem, ↓reduceIte, L_parse_Value, R_parse_Value]
  have bad : ∀ (e : Nat), R = .bad e → Res.tup [.agg [.int .i64 0, .int .i64 0, .str [], .list [], .list []], .int .i64 0, errD e] = topP R := fun e he => by
    rw [he, topP, zeroV_d]
  have b1 := bad 1
  rw [errD_ne (by decide)] at b1
  refine ⟨fun h1 => ⟨fun h2 => ⟨fun h3 => ?_, fun h3 => ?_⟩, fun h2 => ?_⟩, fun h1 => ?_⟩
  · rw [if_pos (by omega)] at hR; exact b1 hR.symm
  · rw [if_neg (by omega)] at hR
    obtain ⟨q, rfl⟩ : ∃ q : Nat, k = q := ⟨k.toNat, by omega⟩
    rw [Int.toNat_natCast] at hR
    have hc := valueP_call s (by omega) 8 (by omega) q (by omega)
    have hg := readF_good s 8 q (by omega)
    rw [robj_0] at hc
    refine PrimG.mpost ([.l 27]) ([]) rfl (hc) rfl rfl (by simp only [objsAt, St.obj, aget, AObj.ren, AV.ren, AV.ren1, renL, ren1L, renR, renQ, List.getD_cons_zero, List.getD_cons_succ, and_true, and_self, Nat.reduceEqDiff, ↓reduceIte, reduceCtorEq]) rfl rfl rfl (fun r hs' hr => ?_)
    cases hx : readF 8 s q with
    | bad e =>
      rw [hx] at hR hr hg
      obtain ⟨v, k2, rfl, rfl⟩ := hr
      refine ⟨⟨rfl, rfl⟩, ?_⟩
      have he : e ≠ 0 := by obtain ⟨g1, _⟩ := hg; omega
      rw [robj_ne s k2 he, Val.d_eq v]
      have b2 := bad e hR.symm
      rw [errD_ne he] at b2
      simp (maxSteps := 2000000) only [go_sem, ↓reduceIte]
      exact b2
    | ok v n =>
      rw [hx] at hR hr hg
      obtain ⟨rfl, rfl⟩ := hr
      refine ⟨⟨rfl, rfl⟩, ?_⟩
      simp only at hR
      obtain ⟨g1, g2, g3, g4⟩ := hg
      have hf := checkV_call v (Val.sm_mono (by omega) v g3)
      have hfl := fail_0 s (n : Int) (faultV v)
      rw [robj_0] at hfl ⊢
      rw [Val.d_eq v] at hf ⊢
      simp (maxSteps := 2000000) only [go_sem, ↓reduceIte]
      refine CallG.of hf ?_
      simp (maxSteps := 2000000) only [go_sem, ↓reduceIte]
      refine PrimG.mcall ([.l 27]) ([]) rfl (hfl) rfl rfl (by simp only [objsAt, St.obj, aget, AObj.ren, AV.ren, AV.ren1, renL, ren1L, renR, renQ, List.getD_cons_zero, List.getD_cons_succ, and_true, and_self, Nat.reduceEqDiff, ↓reduceIte, reduceCtorEq]) rfl rfl rfl ⟨rfl, rfl⟩ ?_
      by_cases f0 : faultV v = 0
      · rw [if_pos f0] at hR
        rw [f0, robj_0]
        simp (maxSteps := 2000000) only [go_sem, ↓reduceIte]
        rw [← hR, topP, Val.d_eq]
      · rw [if_neg f0] at hR
        have b2 := bad _ hR.symm
        rw [errD_ne f0] at b2
        rw [robj_ne s n f0]
        simp (maxSteps := 2000000) only [go_sem, ↓reduceIte]
        exact b2
  · rw [if_pos (by omega)] at hR; exact b1 hR.symm
  · rw [if_pos (by omega)] at hR; exact b1 hR.symm
end Go.Av.Try
