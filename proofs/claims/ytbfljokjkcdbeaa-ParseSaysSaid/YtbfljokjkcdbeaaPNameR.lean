import Derived.Test.YtbfljokjkcdbeaaPSkip
/- The document's names and strings, walked. -/
set_option linter.unusedSimpArgs false
namespace Go.Av.Try
open Go.Proofs

theorem nameF_hex {c x y : UInt8} {r b : List UInt8} (h : c.toNat = 35) : nameF (c :: x :: y :: r) b = if hexI x.toNat < 0 ∨ hexI y.toNat < 0 then none else nameF r (b ++ [byteI (16 * hexI x.toNat + hexI y.toNat)]) := by
  rw [nameF, if_pos h]
theorem nameF_end {c : UInt8} {r b : List UInt8} (h : c.toNat = 35) (hr : r.length < 2) : nameF (c :: r) b = none := by
  match r, hr with
  | [], _ => rw [nameF, if_pos h]; intro x y q e; cases e
  | [x], _ => rw [nameF, if_pos h]; intro x y q e; cases e
theorem nameF_one {c : UInt8} {r b : List UInt8} (h : c.toNat ≠ 35) : nameF (c :: r) b = nameF r (b ++ [c]) := by
  match r with
  | [] => simp [nameF, h]
  | [x] => simp [nameF, h]
  | x :: y :: r => rw [nameF, if_neg h]
def nameRes (o : Option (List UInt8 × Nat)) : Res := match o with
  | none => .tup [.str [], .int .i64 0, .int .i64 4]
  | some (b, k) => .tup [.str b, .int .i64 k, .int .i64 0]

/-- foliowrightref.readName -/
def L_foliowrightref_readName : LCode :=
  .seq (.reg [⟨some 4, .asg (.k (.d (.str []))), none⟩, ⟨some 5, .asg (.k (.d (.int .i64 0))), none⟩, ⟨some 6, .asg (.k (.d (.int .i64 0))), none⟩]) (.seq (.reg [⟨some 14, .val (.cp 
  (.t 0)), none⟩, ⟨some 15, .val (.cp (.t 1)), none⟩, ⟨some 16, .val (.bin .add (.t 15) (.k (.d (.int .i64 1)))), none⟩, ⟨some 17, .call 26 [.t 14, .t 16], none⟩, ⟨some 7, .asg (.t 
  17), none⟩]) (.seq (.reg [⟨some 18, .val (.cp (.t 1)), none⟩, ⟨some 19, .val (.bin .add (.t 18) (.k (.d (.int .i64 1)))), none⟩, ⟨some 20, .val (.cp (.t 7)), none⟩, ⟨some 21, 
  .val (.len true (.t 20)), none⟩, ⟨some 22, .val (.bin .add (.t 19) (.t 21)), none⟩, ⟨some 8, .asg (.t 22), none⟩]) (.seq (.reg [⟨some 9, .nils 5 1, none⟩]) (.seq (.seq (.reg 
  [⟨some 10, .asg (.k (.d (.int .i64 0))), none⟩]) (.block 0 (.loop (.seq (.seq (.reg [⟨some 23, .val (.cp (.t 10)), none⟩, ⟨some 24, .val (.cp (.t 7)), none⟩, ⟨some 25, .val (.len 
  true (.t 24)), none⟩, ⟨some 26, .val (.bin .lss (.t 23) (.t 25)), none⟩]) (.cond (.t 26) .skip (.exit 0))) (.seq (.block 1 (.seq (.reg [⟨some 29, .val (.cp (.t 7)), none⟩, ⟨some 
  30, .val (.cp (.t 10)), none⟩, ⟨some 31, .val (.idxS (.t 29) (.t 30)), none⟩, ⟨some 32, .val (.bin .eql (.t 31) (.k (.d (.int .u8 35)))), none⟩]) (.cond (.t 32) (.seq (.seq (.reg 
  [⟨some 33, .val (.cp (.t 10)), none⟩, ⟨some 34, .val (.bin .add (.t 33) (.k (.d (.int .i64 2)))), none⟩, ⟨some 35, .val (.cp (.t 7)), none⟩, ⟨some 36, .val (.len true (.t 35)), 
  none⟩, ⟨some 37, .val (.bin .geq (.t 34) (.t 36)), none⟩]) (.cond (.t 37) (.seq (.reg [⟨some 4, .asg (.k (.d (.str []))), none⟩, ⟨some 5, .asg (.k (.d (.int .i64 0))), none⟩, 
  ⟨some 6, .asg (.k (.d (.int .i64 4))), none⟩]) .ret) .skip)) (.seq (.reg [⟨some 38, .val (.cp (.t 7)), none⟩, ⟨some 39, .val (.cp (.t 10)), none⟩, ⟨some 40, .val (.bin .add (.t 
  39) (.k (.d (.int .i64 1)))), none⟩, ⟨some 41, .val (.idxS (.t 38) (.t 40)), none⟩, ⟨some 42, .call 28 [.t 41], none⟩, ⟨some 11, .asg (.t 42), none⟩]) (.seq (.reg [⟨some 43, .val 
  (.cp (.t 7)), none⟩, ⟨some 44, .val (.cp (.t 10)), none⟩, ⟨some 45, .val (.bin .add (.t 44) (.k (.d (.int .i64 2)))), none⟩, ⟨some 46, .val (.idxS (.t 43) (.t 45)), none⟩, ⟨some 
  47, .call 28 [.t 46], none⟩, ⟨some 12, .asg (.t 47), none⟩]) (.seq (.seq (.reg [⟨some 48, .val (.cp (.t 11)), none⟩, ⟨some 49, .val (.bin .lss (.t 48) (.k (.d (.int .i64 0)))), 
  none⟩, ⟨some 50, .val (.cp (.t 49)), none⟩, ⟨some 51, .val (.cp (.t 12)), some (50, false)⟩, ⟨some 52, .val (.bin .lss (.t 51) (.k (.d (.int .i64 0)))), some (50, false)⟩, ⟨some 
  53, .val (.pick (.t 50) (.k (.d (.bool true))) (.t 52)), none⟩]) (.cond (.t 53) (.seq (.reg [⟨some 4, .asg (.k (.d (.str []))), none⟩, ⟨some 5, .asg (.k (.d (.int .i64 0))), 
  none⟩, ⟨some 6, .asg (.k (.d (.int .i64 4))), none⟩]) .ret) .skip)) (.seq (.reg [⟨some 54, .val (.cp (.t 9)), none⟩, ⟨some 55, .val (.cp (.t 11)), none⟩, ⟨some 56, .val (.bin 
  .mul (.k (.d (.int .i64 16))) (.t 55)), none⟩, ⟨some 57, .val (.cp (.t 12)), none⟩, ⟨some 58, .val (.bin .add (.t 56) (.t 57)), none⟩, ⟨some 59, .val (.cvI .u8 (.t 58)), none⟩, 
  ⟨some 60, .bsl 5 1 [.t 59], none⟩, ⟨some 61, .app 5 1 1 false (.t 54) (.t 60), none⟩, ⟨some 9, .asg (.t 61), none⟩]) (.reg [⟨some 62, .val (.cp (.t 10)), none⟩, ⟨some 63, .val 
  (.bin .add (.t 62) (.k (.d (.int .i64 2)))), none⟩, ⟨some 10, .asg (.t 63), none⟩])))))) (.reg [⟨some 64, .val (.cp (.t 9)), none⟩, ⟨some 65, .val (.cp (.t 7)), none⟩, ⟨some 66, 
  .val (.cp (.t 10)), none⟩, ⟨some 67, .val (.idxS (.t 65) (.t 66)), none⟩, ⟨some 68, .bsl 5 1 [.t 67], none⟩, ⟨some 69, .app 5 1 1 false (.t 64) (.t 68), none⟩, ⟨some 9, .asg (.t 
  69), none⟩])))) (.reg [⟨some 27, .val (.cp (.t 10)), none⟩, ⟨some 28, .val (.bin .add (.t 27) (.k (.d (.int .i64 1)))), none⟩, ⟨some 10, .asg (.t 28), none⟩])))))) (.seq (.reg 
  [⟨some 70, .val (.cp (.t 9)), none⟩, ⟨some 71, .val (.b2s (.t 70)), none⟩, ⟨some 72, .call 91 [.t 71], none⟩, ⟨some 13, .asg (.t 72), none⟩]) (.seq (.seq (.reg [⟨some 73, .val 
  (.cp (.t 13)), none⟩, ⟨some 74, .val (.not (.t 73)), none⟩]) (.cond (.t 74) (.seq (.reg [⟨some 4, .asg (.k (.d (.str []))), none⟩, ⟨some 5, .asg (.k (.d (.int .i64 0))), none⟩, 
  ⟨some 6, .asg (.k (.d (.int .i64 4))), none⟩]) .ret) .skip)) (.seq (.reg [⟨some 75, .val (.cp (.t 9)), none⟩, ⟨some 76, .val (.b2s (.t 75)), none⟩, ⟨some 77, .val (.cp (.t 8)), 
  none⟩, ⟨some 4, .asg (.t 76), none⟩, ⟨some 5, .asg (.t 77), none⟩, ⟨some 6, .asg (.k (.d (.int .i64 0))), none⟩]) .ret)))))))
def R_foliowrightref_readName : List LRes := [.tmp 4, .tmp 5, .tmp 6]
theorem lift_foliowrightref_readName : Lifts Try.prog 66 78 L_foliowrightref_readName R_foliowrightref_readName := ⟨_, _, Try.func66, rfl, by kernel_rfl, by kernel_rfl, rfl⟩

theorem readName_call (s : List UInt8) (k : Nat) (hs : s.length ≤ 1000000000) (hk : k < s.length) : PCall Try.prog 66 [.str s, .int .i64 k] (fun r => r = nameRes (nameAt s k)) := by
  refine lift_foliowrightref_readName.call rfl ?_
  have hw := wordR_call s ((k + 1 : Nat) : Int) hs
  rw [clamp_in (by omega)] at hw
  have hwl := wordP_len s (k + 1)
  generalize hR : nameAt s k = R
  unfold nameAt at hR
  generalize wordP s (k + 1) = w at *
  simp (maxSteps := 2000000) (disch := omega) only [go_sem, ↓reduceIte, L_foliowrightref_readName, R_foliowrightref_readName]
  refine CallG.of hw ?_
  simp (maxSteps := 2000000) (disch := omega) only [go_sem, ↓reduceIte]
  refine run_loop (fun y : Nat × List UInt8 => ⟨[(7, .d (.str w)), (8, .d (.int .i64 ((k : Int) + 1 + w.length))), (9, .own (.t 9) 5 1 (bytesD y.2)), (10, .d (.int .i64 y.1))], [], []⟩)
    (fun y => y.1 ≤ w.length ∧ y.2.length ≤ y.1 ∧ nameF (w.drop y.1) y.2 = nameF w []) (fun y => w.length - y.1) (0, []) ?_ ?_ ?_
  · refine weak_mk ?_ trivial
    simp (maxSteps := 2000000) only [go_sem, ↓reduceIte, Sub, Int.natCast_add, Int.natCast_mul, bytesD]
  · exact ⟨by simp, by simp, by simp⟩
  · rintro ⟨i, b⟩ ⟨hi, hb, hF⟩
    simp only at hi hb hF
    have hblen := bytesD_length b
    simp (maxSteps := 2000000) only [go_sem, ↓reduceIte]
    refine ⟨fun hlt => ?_, fun hge => ?_⟩
    · obtain ⟨c, hc⟩ := get_some (l := w) (i := i) (by omega)
      have hc8 := u8_lt c
      rw [drop_at hc] at hF
      have bad : R = none → Res.tup [D.str [], D.int .i64 0, D.int .i64 4] = nameRes R := fun e => by rw [e]; rfl
      simp (maxSteps := 2000000) only [go_sem, ↓reduceIte, getI_nat, hc]
      refine ⟨fun h1 => ⟨fun h2 => ?_, fun h2 => ?_⟩, fun h1 => ?_⟩
      · rw [IntWalk.i64_in _ (by omega)] at h2
        rw [nameF_end (by omega) (by rw [List.length_drop]; omega)] at hF
        rw [← hF] at hR
        exact bad hR.symm
      · rw [IntWalk.i64_in _ (by omega)] at h2
        obtain ⟨x, hx⟩ := get_some (l := w) (i := i + 1) (by omega)
        obtain ⟨y, hy⟩ := get_some (l := w) (i := i + 2) (by omega)
        have hx8 := u8_lt x
        have hy8 := u8_lt y
        have hxb := hexI_bounds x.toNat
        have hyb := hexI_bounds y.toNat
        rw [drop_at hx, drop_at hy, nameF_hex (by omega)] at hF
        have g1 : getI w ((i : Int) + 1) = some x := by rw [getI_add1, hx]
        have g2 : getI w ((i : Int) + 2) = some y := by rw [show (i : Int) + 2 = ((i + 2 : Nat) : Int) by omega, getI_nat, hy]
        simp (maxSteps := 2000000) (disch := omega) only [go_sem, ↓reduceIte, g1]
        refine CallG.of (hexOf_call x.toNat hx8) ?_
        simp (maxSteps := 2000000) (disch := omega) only [go_sem, ↓reduceIte, g2]
        refine CallG.of (hexOf_call y.toNat hy8) ?_
        simp (maxSteps := 2000000) (disch := omega) only [go_sem, ↓reduceIte]
        refine ⟨fun h3 => ⟨fun h4 => ?_, fun h4 => ?_⟩, fun h3 => ?_⟩
        · rw [if_pos (.inr h4)] at hF
          rw [← hF] at hR
          exact bad hR.symm
        · rw [if_neg (by omega)] at hF
          have hsn := bytesD_snocI (b := b) (n := 16 * hexI x.toNat + hexI y.toNat) (by omega) (by omega)
          simp (disch := omega) only [IntWalk.i64_in, IntWalk.u8_in]
          refine ⟨by omega, (i + 3, b ++ [byteI (16 * hexI x.toNat + hexI y.toNat)]), ?_, ⟨by simp only; omega, by simp only [List.length_append, List.length_cons, List.length_nil]; omega, hF⟩, by simp only; omega⟩
          have e3 : (((i + 3 : Nat) : Nat) : Int) = (i : Int) + 2 + 1 := by omega
          refine weak_mk ?_ trivial
          simp (maxSteps := 2000000) only [go_sem, ↓reduceIte, Sub, Int.natCast_add, Int.natCast_mul, hsn, e3]
        · rw [if_pos (.inl h3)] at hF
          rw [← hF] at hR
          exact bad hR.symm
      · rw [nameF_one (by omega)] at hF
        simp (disch := omega) only [IntWalk.i64_in, IntWalk.u8_in]
        refine ⟨by omega, (i + 1, b ++ [c]), ?_, ⟨by simp only; omega, by simp only [List.length_append, List.length_cons, List.length_nil]; omega, hF⟩, by simp only; omega⟩
        refine weak_mk ?_ trivial
        simp (maxSteps := 2000000) only [go_sem, ↓reduceIte, Sub, Int.natCast_add, Int.natCast_mul, bytesD_append, bytesD_cons, bytesD_nil]
    · rw [List.drop_eq_nil_of_le (by omega), nameF] at hF
      rw [← hF] at hR
      simp (maxSteps := 2000000) only [go_sem, ↓reduceIte, bytesOf_bytesD]
      refine CallG.of (refNameMay_call b) ?_
      simp (maxSteps := 2000000) only [go_sem, ↓reduceIte]
      refine ⟨fun h1 => ?_, fun h1 => ?_⟩
      · rw [← hR]; simp only [h1]; rfl
      · rw [← hR]
        simp (maxSteps := 2000000) only [go_sem, ↓reduceIte, bytesOf_bytesD, h1]
        simp only [nameRes, Int.natCast_add, Int.natCast_one]
end Go.Av.Try
