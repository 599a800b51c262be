import Derived.Test.YtbfljokjkcdbeaaPRd1
/- The program's reader: names. -/
set_option linter.unusedSimpArgs false
namespace Go.Av.Try
open Go.Proofs

/-- What name leaves. -/
def namePost (s : List UInt8) : Option (List UInt8 × Nat) → AV → List AObj → Prop
  | some (b, k), r, hs => r = .d (.str b) ∧ hs = [robj s k 0]
  | none, r, hs => ∃ (b : List UInt8) (k : Int), r = .d (.str b) ∧ hs = [robj s k 4]

/-- (*parse.reader).name -/
def L___parse_reader__name : LCode :=
  .seq (.reg [⟨some 2, .asg (.k (.d (.str []))), none⟩]) (.seq (.reg [⟨some 6, .val (.cp (.t 0)), none⟩, ⟨some 7, .val (.nck (.t 6)), none⟩, ⟨some 8, .val (.fa 1 (.t 7)), none⟩, 
  ⟨some 9, .val (.ld false 1 (.t 8)), none⟩, ⟨some 10, .val (.bin .add (.t 9) (.k (.d (.int .i64 1)))), none⟩, ⟨some 11, .val (.nck (.t 6)), none⟩, ⟨some 12, .val (.fa 1 (.t 11)), 
  none⟩, ⟨none, .st 1 (.t 12) (.t 10), none⟩]) (.seq (.dreg [⟨some 13, .val (.cp (.t 0)), none⟩, ⟨some 14, .val (.nck (.t 13)), none⟩, ⟨some 15, .val (.fa 0 (.t 14)), none⟩, ⟨some 
  16, .val (.ld false 1 (.t 15)), none⟩, ⟨some 17, .val (.cp (.t 0)), none⟩, ⟨some 18, .val (.nck (.t 17)), none⟩, ⟨some 19, .val (.fa 1 (.t 18)), none⟩, ⟨some 20, .val (.ld false 
  1 (.t 19)), none⟩, ⟨some 21, .call 25 [.t 16, .t 20], none⟩, ⟨some 3, .asg (.t 21), none⟩]) (.seq (.reg [⟨some 22, .val (.cp (.t 0)), none⟩, ⟨some 23, .val (.nck (.t 22)), none⟩, 
  ⟨some 24, .val (.fa 1 (.t 23)), none⟩, ⟨some 25, .val (.ld false 1 (.t 24)), none⟩, ⟨some 26, .val (.cp (.t 3)), none⟩, ⟨some 27, .val (.len true (.t 26)), none⟩, ⟨some 28, .val 
  (.bin .add (.t 25) (.t 27)), none⟩, ⟨some 29, .val (.nck (.t 22)), none⟩, ⟨some 30, .val (.fa 1 (.t 29)), none⟩, ⟨none, .st 1 (.t 30) (.t 28), none⟩]) (.seq (.reg [⟨some 4, .nils 
  5 1, none⟩]) (.seq (.seq (.reg [⟨some 5, .asg (.k (.d (.int .i64 0))), none⟩]) (.block 0 (.loop (.seq (.seq (.reg [⟨some 31, .val (.cp (.t 5)), none⟩, ⟨some 32, .val (.cp (.t 
  3)), none⟩, ⟨some 33, .val (.len true (.t 32)), none⟩, ⟨some 34, .val (.bin .lss (.t 31) (.t 33)), none⟩]) (.cond (.t 34) .skip (.exit 0))) (.seq (.block 1 (.seq (.seq (.reg 
  [⟨some 37, .val (.cp (.t 3)), none⟩, ⟨some 38, .val (.cp (.t 5)), none⟩, ⟨some 39, .val (.idxS (.t 37) (.t 38)), none⟩, ⟨some 40, .val (.bin .neq (.t 39) (.k (.d (.int .u8 
  35)))), none⟩]) (.cond (.t 40) (.seq (.reg [⟨some 41, .val (.cp (.t 4)), none⟩, ⟨some 42, .val (.cp (.t 3)), none⟩, ⟨some 43, .val (.cp (.t 5)), none⟩, ⟨some 44, .val (.idxS (.t 
  42) (.t 43)), none⟩, ⟨some 45, .bsl 5 1 [.t 44], none⟩, ⟨some 46, .app 5 1 1 false (.t 41) (.t 45), none⟩, ⟨some 4, .asg (.t 46), none⟩]) (.exit 1)) .skip)) (.seq (.seq (.reg 
  [⟨some 47, .val (.cp (.t 5)), none⟩, ⟨some 48, .val (.bin .add (.t 47) (.k (.d (.int .i64 2)))), none⟩, ⟨some 49, .val (.cp (.t 3)), none⟩, ⟨some 50, .val (.len true (.t 49)), 
  none⟩, ⟨some 51, .val (.bin .geq (.t 48) (.t 50)), none⟩, ⟨some 52, .val (.cp (.t 51)), none⟩, ⟨some 53, .val (.cp (.t 3)), some (52, false)⟩, ⟨some 54, .val (.cp (.t 5)), some 
  (52, false)⟩, ⟨some 55, .val (.bin .add (.t 54) (.k (.d (.int .i64 1)))), some (52, false)⟩, ⟨some 56, .val (.idxS (.t 53) (.t 55)), some (52, false)⟩, ⟨some 57, .call 27 [.t 
  56], some (52, false)⟩, ⟨some 58, .val (.bin .lss (.t 57) (.k (.d (.int .i64 0)))), some (52, false)⟩, ⟨some 59, .val (.pick (.t 52) (.k (.d (.bool true))) (.t 58)), none⟩, ⟨some 
  60, .val (.cp (.t 59)), none⟩, ⟨some 61, .val (.cp (.t 3)), some (60, false)⟩, ⟨some 62, .val (.cp (.t 5)), some (60, false)⟩, ⟨some 63, .val (.bin .add (.t 62) (.k (.d (.int 
  .i64 2)))), some (60, false)⟩, ⟨some 64, .val (.idxS (.t 61) (.t 63)), some (60, false)⟩, ⟨some 65, .call 27 [.t 64], some (60, false)⟩, ⟨some 66, .val (.bin .lss (.t 65) (.k (.d 
  (.int .i64 0)))), some (60, false)⟩, ⟨some 67, .val (.pick (.t 60) (.k (.d (.bool true))) (.t 66)), none⟩]) (.cond (.t 67) (.seq (.reg [⟨some 68, .val (.cp (.t 0)), none⟩, ⟨some 
  69, .val (.mkI 76 (.k (.d (.int .i64 4)))), none⟩, ⟨some 70, .prim .call [.k (.fn (.func 40) [] []), .t 68, .t 69] [], none⟩]) (.seq (.reg [⟨some 2, .asg (.k (.d (.str []))), 
  none⟩]) .ret)) .skip)) (.seq (.dreg [⟨some 71, .val (.cp (.t 4)), none⟩, ⟨some 72, .val (.cp (.t 3)), none⟩, ⟨some 73, .val (.cp (.t 5)), none⟩, ⟨some 74, .val (.bin .add (.t 73) 
  (.k (.d (.int .i64 1)))), none⟩, ⟨some 75, .val (.idxS (.t 72) (.t 74)), none⟩, ⟨some 76, .call 27 [.t 75], none⟩, ⟨some 77, .val (.bin .mul (.k (.d (.int .i64 16))) (.t 76)), 
  none⟩, ⟨some 78, .val (.cp (.t 3)), none⟩, ⟨some 79, .val (.cp (.t 5)), none⟩, ⟨some 80, .val (.bin .add (.t 79) (.k (.d (.int .i64 2)))), none⟩, ⟨some 81, .val (.idxS (.t 78) 
  (.t 80)), none⟩, ⟨some 82, .call 27 [.t 81], none⟩, ⟨some 83, .val (.bin .add (.t 77) (.t 82)), none⟩, ⟨some 84, .val (.cvI .u8 (.t 83)), none⟩, ⟨some 85, .bsl 5 1 [.t 84], 
  none⟩, ⟨some 86, .app 5 1 1 false (.t 71) (.t 85), none⟩, ⟨some 4, .asg (.t 86), none⟩]) (.reg [⟨some 87, .val (.cp (.t 5)), none⟩, ⟨some 88, .val (.bin .add (.t 87) (.k (.d 
  (.int .i64 2)))), none⟩, ⟨some 5, .asg (.t 88), none⟩]))))) (.reg [⟨some 35, .val (.cp (.t 5)), none⟩, ⟨some 36, .val (.bin .add (.t 35) (.k (.d (.int .i64 1)))), none⟩, ⟨some 5, 
  .asg (.t 36), none⟩])))))) (.seq (.seq (.reg [⟨some 89, .val (.cp (.t 4)), none⟩, ⟨some 90, .val (.b2s (.t 89)), none⟩, ⟨some 91, .call 81 [.t 90], none⟩, ⟨some 92, .val (.not 
  (.t 91)), none⟩]) (.cond (.t 92) (.reg [⟨some 93, .val (.cp (.t 0)), none⟩, ⟨some 94, .val (.mkI 76 (.k (.d (.int .i64 4)))), none⟩, ⟨some 95, .prim .call [.k (.fn (.func 40) [] 
  []), .t 93, .t 94] [], none⟩]) .skip)) (.seq (.reg [⟨some 96, .val (.cp (.t 4)), none⟩, ⟨some 97, .val (.b2s (.t 96)), none⟩, ⟨some 2, .asg (.t 97), none⟩]) .ret)))))))
def R___parse_reader__name : List LRes := [.tmp 2]
theorem lift___parse_reader__name : Lifts Try.prog 56 98 L___parse_reader__name R___parse_reader__name := ⟨_, _, Try.func56, rfl, by kernel_rfl, by kernel_rfl, rfl⟩

theorem name_call (s : List UInt8) (k : Nat) (hs : s.length ≤ 60000) (hk : k < s.length) : MCall Try.prog 56 [.ptr (.x 0) 0] [robj s k 0] (namePost s (nameAt s k)) := by
  have hw := word_call s ((k + 1 : Nat) : Int) (by omega)
  rw [clamp_in (by omega)] at hw
  have hwl := wordP_len s (k + 1)
  generalize hR : nameAt s k = R
  unfold nameAt at hR
  generalize wordP s (k + 1) = w at *
  rw [Int.natCast_add, Int.natCast_one] at hw
  rw [robj_0]
  refine lift___parse_reader__name.mcall (by kernel_rfl) rfl ?_
  simp (maxSteps := 2000000) (disch := omega) only [go_sem, ↓reduceIte, L___parse_reader__name, R___parse_reader__name]
  refine CallD.of hw ?_
  simp (maxSteps := 2000000) (disch := omega) only [go_sem, ↓reduceIte]
  refine run_loop (fun y : Nat × List UInt8 => ⟨[(0, .ptr (.x 0) 0), (3, .d (.str w)), (4, .own (.t 4) 5 1 (bytesD y.2)), (5, .d (.int .i64 y.1))], [], [(0, .cells [.d (.str s), .d (.int .i64 ((k : Int) + 1 + w.length)), .d .nil])]⟩)
    (fun y => y.1 ≤ w.length ∧ y.2.length ≤ y.1 ∧ nameF (w.drop y.1) y.2 = nameF w []) (fun y => w.length - y.1) (0, []) ?_ ?_ ?_
  · refine Weak.mk ?_ ?_ ?_ <;> simp (maxSteps := 2000000) only [go_sem, ↓reduceIte, Sub, Int.natCast_add, Int.natCast_mul, bytesD]
  · exact ⟨by simp, by simp, by simp⟩
  · rintro ⟨i, b⟩ ⟨hi, hb, hF⟩
    simp only at hi hb hF
    have hblen := bytesD_length b
    have hf := fail_0 s ((k : Int) + 1 + w.length) 4
    rw [robj_0, show errD 4 = .iface 76 (.int .i64 4) from rfl] at hf
    simp (maxSteps := 2000000) only [go_sem, ↓reduceIte]
    refine ⟨fun hlt => ?_, fun hge => ?_⟩
    · obtain ⟨c, hc⟩ := get_some (l := w) (i := i) (by omega)
      have hc8 := u8_lt c
      rw [drop_at hc] at hF
      have bad : R = none → namePost s R (.d (.str [])) [robj s ((k : Int) + 1 + w.length) 4] := fun e => by rw [e]; exact ⟨[], _, rfl, rfl⟩
      simp (maxSteps := 2000000) only [go_sem, ↓reduceIte, getI_nat, hc]
      refine ⟨fun h1 => ?_, fun h1 => ⟨fun h2 => ?_, fun h2 => ?_⟩⟩
      · rw [nameF_one (by omega)] at hF
        simp (disch := omega) only [IntWalk.i64_in, IntWalk.u8_in]
        refine ⟨by omega, (i + 1, b ++ [c]), ?_, ⟨by simp only; omega, by simp only [List.length_append, List.length_cons, List.length_nil]; omega, hF⟩, by simp only; omega⟩
        refine Weak.mk ?_ ?_ ?_ <;> simp (maxSteps := 2000000) only [go_sem, ↓reduceIte, Sub, Int.natCast_add, Int.natCast_mul, bytesD_append, bytesD_cons, bytesD_nil]
      · rw [IntWalk.i64_in _ (by omega)] at h2
        obtain ⟨x, hx⟩ := get_some (l := w) (i := i + 1) (by omega)
        obtain ⟨y, hy⟩ := get_some (l := w) (i := i + 2) (by omega)
        have hx8 := u8_lt x
        have hy8 := u8_lt y
        have hxb := hexI_bounds x.toNat
        have hyb := hexI_bounds y.toNat
        rw [drop_at hx, drop_at hy, nameF_hex (by omega)] at hF
        have g1 : getI w ((i : Int) + 1) = some x := by rw [getI_add1, hx]
        have g2 : getI w ((i : Int) + 2) = some y := by rw [show (i : Int) + 2 = ((i + 2 : Nat) : Int) by omega, getI_nat, hy]
        simp (maxSteps := 2000000) (disch := omega) only [go_sem, ↓reduceIte, g1]
        refine CallG.of (hex_call (n := x.toNat) (by omega)) ?_
        simp (maxSteps := 2000000) (disch := omega) only [go_sem, ↓reduceIte]
        refine ⟨fun h3 => ?_, fun h3 => ?_⟩
        · simp (maxSteps := 2000000) (disch := omega) only [go_sem, ↓reduceIte, g2]
          refine CallG.of (hex_call (n := y.toNat) (by omega)) ?_
          simp (maxSteps := 2000000) (disch := omega) only [go_sem, ↓reduceIte]
          refine ⟨fun h4 => ?_, fun h4 => ?_⟩
          · rw [if_pos (.inr h4)] at hF
            rw [← hF] at hR
            refine PrimG.mcall ([.x 0]) ([]) rfl (hf) rfl rfl (by simp only [objsAt, St.obj, aget, AObj.ren, AV.ren, AV.ren1, renL, ren1L, renR, renQ, List.getD_cons_zero, List.getD_cons_succ, and_true, and_self, Nat.reduceEqDiff, ↓reduceIte, reduceCtorEq]) rfl rfl rfl ⟨rfl, rfl⟩ ?_
            simp (maxSteps := 2000000) only [go_sem, ↓reduceIte, robj]
            exact bad hR.symm
          · rw [if_neg (by omega)] at hF
            have hsn := bytesD_snocI (b := b) (n := 16 * hexI x.toNat + hexI y.toNat) (by omega) (by omega)
            simp (maxSteps := 2000000) (disch := omega) only [go_sem, ↓reduceIte, g1]
            refine CallD.of (hex_call (n := x.toNat) (by omega)) ?_
            simp (maxSteps := 2000000) (disch := omega) only [go_sem, ↓reduceIte, g2]
            refine CallD.of (hex_call (n := y.toNat) (by omega)) ?_
            simp (maxSteps := 2000000) (disch := omega) only [go_sem, ↓reduceIte]
            rw [hsn]
            refine ⟨by omega, (i + 3, b ++ [byteI (16 * hexI x.toNat + hexI y.toNat)]), ?_, ⟨by simp only; omega, by simp only [List.length_append, List.length_cons, List.length_nil]; omega, hF⟩, by simp only; omega⟩
            have e3 : ((i + 3 : Nat) : Int) = (i : Int) + 2 + 1 := by omega
            refine Weak.mk ?_ ?_ ?_ <;> simp (maxSteps := 2000000) only [go_sem, ↓reduceIte, Sub, Int.natCast_add, Int.natCast_mul, e3]
        · rw [if_pos (.inl h3)] at hF
          rw [← hF] at hR
          refine PrimG.mcall ([.x 0]) ([]) rfl (hf) rfl rfl (by simp only [objsAt, St.obj, aget, AObj.ren, AV.ren, AV.ren1, renL, ren1L, renR, renQ, List.getD_cons_zero, List.getD_cons_succ, and_true, and_self, Nat.reduceEqDiff, ↓reduceIte, reduceCtorEq]) rfl rfl rfl ⟨rfl, rfl⟩ ?_
          simp (maxSteps := 2000000) only [go_sem, ↓reduceIte, robj]
          exact bad hR.symm
      · rw [IntWalk.i64_in _ (by omega)] at h2
        rw [nameF_end (by omega) (by rw [List.length_drop]; omega)] at hF
        rw [← hF] at hR
        refine PrimG.mcall ([.x 0]) ([]) rfl (hf) rfl rfl (by simp only [objsAt, St.obj, aget, AObj.ren, AV.ren, AV.ren1, renL, ren1L, renR, renQ, List.getD_cons_zero, List.getD_cons_succ, and_true, and_self, Nat.reduceEqDiff, ↓reduceIte, reduceCtorEq]) rfl rfl rfl ⟨rfl, rfl⟩ ?_
        simp (maxSteps := 2000000) only [go_sem, ↓reduceIte, robj]
        exact bad hR.symm
    · rw [List.drop_eq_nil_of_le (by omega), nameF] at hF
      rw [← hF] at hR
      simp (maxSteps := 2000000) only [go_sem, ↓reduceIte, bytesOf_bytesD]
      refine CallG.of (nameMay_call b) ?_
      simp (maxSteps := 2000000) only [go_sem, ↓reduceIte]
      refine ⟨fun h1 => ?_, fun h1 => ?_⟩
      · refine PrimG.mcall ([.x 0]) ([]) rfl (hf) rfl rfl (by simp only [objsAt, St.obj, aget, AObj.ren, AV.ren, AV.ren1, renL, ren1L, renR, renQ, List.getD_cons_zero, List.getD_cons_succ, and_true, and_self, Nat.reduceEqDiff, ↓reduceIte, reduceCtorEq]) rfl rfl rfl ⟨rfl, rfl⟩ ?_
        simp (maxSteps := 2000000) only [go_sem, ↓reduceIte, robj, bytesOf_bytesD]
        rw [← hR]
        simp only [h1]
        exact ⟨b, _, rfl, rfl⟩
      · simp (maxSteps := 2000000) only [go_sem, ↓reduceIte, bytesOf_bytesD]
        rw [← hR]
        simp only [h1, if_true]
        refine ⟨rfl, ?_⟩
        simp only [robj, Int.natCast_add, Int.natCast_one]; rfl

/-- (*parse.reader).hexed -/
def L___parse_reader__hexed : LCode :=
  .seq (.reg [⟨some 2, .asg (.k (.d (.str []))), none⟩]) (.seq (.reg [⟨some 7, .val (.cp (.t 0)), none⟩, ⟨some 8, .val (.nck (.t 7)), none⟩, ⟨some 9, .val (.fa 1 (.t 8)), none⟩, 
  ⟨some 10, .val (.ld false 1 (.t 9)), none⟩, ⟨some 11, .val (.bin .add (.t 10) (.k (.d (.int .i64 1)))), none⟩, ⟨some 12, .val (.nck (.t 7)), none⟩, ⟨some 13, .val (.fa 1 (.t 
  12)), none⟩, ⟨none, .st 1 (.t 13) (.t 11), none⟩]) (.seq (.reg [⟨some 3, .nils 5 1, none⟩]) (.seq (.reg [⟨some 4, .asg (.k (.d (.int .i64 (-1)))), none⟩]) (.seq (.block 0 (.loop 
  (.seq (.seq (.dreg [⟨some 14, .val (.cp (.t 0)), none⟩, ⟨some 15, .val (.nck (.t 14)), none⟩, ⟨some 16, .val (.fa 1 (.t 15)), none⟩, ⟨some 17, .val (.ld false 1 (.t 16)), none⟩, 
  ⟨some 18, .val (.cp (.t 0)), none⟩, ⟨some 19, .val (.nck (.t 18)), none⟩, ⟨some 20, .val (.fa 0 (.t 19)), none⟩, ⟨some 21, .val (.ld false 1 (.t 20)), none⟩, ⟨some 22, .val (.len 
  true (.t 21)), none⟩, ⟨some 23, .val (.bin .lss (.t 17) (.t 22)), none⟩]) (.cond (.t 23) .skip (.exit 0))) (.seq (.block 1 (.seq (.dreg [⟨some 31, .val (.cp (.t 0)), none⟩, ⟨some 
  32, .val (.nck (.t 31)), none⟩, ⟨some 33, .val (.fa 0 (.t 32)), none⟩, ⟨some 34, .val (.ld false 1 (.t 33)), none⟩, ⟨some 35, .val (.cp (.t 0)), none⟩, ⟨some 36, .val (.nck (.t 
  35)), none⟩, ⟨some 37, .val (.fa 1 (.t 36)), none⟩, ⟨some 38, .val (.ld false 1 (.t 37)), none⟩, ⟨some 39, .val (.idxS (.t 34) (.t 38)), none⟩, ⟨some 5, .asg (.t 39), none⟩]) 
  (.seq (.reg [⟨some 40, .val (.cp (.t 5)), none⟩, ⟨some 41, .call 27 [.t 40], none⟩, ⟨some 6, .asg (.t 41), none⟩]) (.block 2 (.seq (.reg [⟨some 51, .val (.cp (.t 5)), none⟩, 
  ⟨some 52, .val (.bin .eql (.t 51) (.k (.d (.int .u8 62)))), none⟩, ⟨some 50, .asg (.t 52), none⟩]) (.cond (.t 50) (.seq (.reg [⟨some 53, .val (.cp (.t 0)), none⟩, ⟨some 54, .val 
  (.nck (.t 53)), none⟩, ⟨some 55, .val (.fa 1 (.t 54)), none⟩, ⟨some 56, .val (.ld false 1 (.t 55)), none⟩, ⟨some 57, .val (.bin .add (.t 56) (.k (.d (.int .i64 1)))), none⟩, 
  ⟨some 58, .val (.nck (.t 53)), none⟩, ⟨some 59, .val (.fa 1 (.t 58)), none⟩, ⟨none, .st 1 (.t 59) (.t 57), none⟩]) (.seq (.seq (.reg [⟨some 60, .val (.cp (.t 4)), none⟩, ⟨some 
  61, .val (.bin .geq (.t 60) (.k (.d (.int .i64 0)))), none⟩]) (.cond (.t 61) (.reg [⟨some 62, .val (.cp (.t 3)), none⟩, ⟨some 63, .val (.cp (.t 4)), none⟩, ⟨some 64, .val (.bin 
  .mul (.k (.d (.int .i64 16))) (.t 63)), none⟩, ⟨some 65, .val (.cvI .u8 (.t 64)), none⟩, ⟨some 66, .bsl 5 1 [.t 65], none⟩, ⟨some 67, .app 5 1 1 false (.t 62) (.t 66), none⟩, 
  ⟨some 3, .asg (.t 67), none⟩]) .skip)) (.seq (.reg [⟨some 68, .val (.cp (.t 3)), none⟩, ⟨some 69, .val (.b2s (.t 68)), none⟩, ⟨some 2, .asg (.t 69), none⟩]) .ret))) (.seq (.reg 
  [⟨some 71, .val (.cp (.t 5)), none⟩, ⟨some 72, .call 29 [.t 71], none⟩, ⟨some 70, .asg (.t 72), none⟩]) (.cond (.t 70) .skip (.seq (.reg [⟨some 74, .val (.cp (.t 6)), none⟩, 
  ⟨some 75, .val (.bin .lss (.t 74) (.k (.d (.int .i64 0)))), none⟩, ⟨some 73, .asg (.t 75), none⟩]) (.cond (.t 73) (.seq (.reg [⟨some 76, .val (.cp (.t 0)), none⟩, ⟨some 77, .val 
  (.mkI 76 (.k (.d (.int .i64 4)))), none⟩, ⟨some 78, .prim .call [.k (.fn (.func 40) [] []), .t 76, .t 77] [], none⟩]) (.seq (.reg [⟨some 2, .asg (.k (.d (.str []))), none⟩]) 
  .ret)) (.seq (.reg [⟨some 80, .val (.cp (.t 4)), none⟩, ⟨some 81, .val (.bin .lss (.t 80) (.k (.d (.int .i64 0)))), none⟩, ⟨some 79, .asg (.t 81), none⟩]) (.cond (.t 79) (.reg 
  [⟨some 82, .val (.cp (.t 6)), none⟩, ⟨some 4, .asg (.t 82), none⟩]) (.reg [⟨some 42, .val (.cp (.t 3)), none⟩, ⟨some 43, .val (.cp (.t 4)), none⟩, ⟨some 44, .val (.bin .mul (.k 
  (.d (.int .i64 16))) (.t 43)), none⟩, ⟨some 45, .val (.cp (.t 6)), none⟩, ⟨some 46, .val (.bin .add (.t 44) (.t 45)), none⟩, ⟨some 47, .val (.cvI .u8 (.t 46)), none⟩, ⟨some 48, 
  .bsl 5 1 [.t 47], none⟩, ⟨some 49, .app 5 1 1 false (.t 42) (.t 48), none⟩, ⟨some 3, .asg (.t 49), none⟩, ⟨some 4, .asg (.k (.d (.int .i64 (-1)))), none⟩]))))))))))))) (.reg 
  [⟨some 24, .val (.cp (.t 0)), none⟩, ⟨some 25, .val (.nck (.t 24)), none⟩, ⟨some 26, .val (.fa 1 (.t 25)), none⟩, ⟨some 27, .val (.ld false 1 (.t 26)), none⟩, ⟨some 28, .val 
  (.bin .add (.t 27) (.k (.d (.int .i64 1)))), none⟩, ⟨some 29, .val (.nck (.t 24)), none⟩, ⟨some 30, .val (.fa 1 (.t 29)), none⟩, ⟨none, .st 1 (.t 30) (.t 28), none⟩]))))) (.seq 
  (.reg [⟨some 83, .val (.cp (.t 0)), none⟩, ⟨some 84, .val (.mkI 76 (.k (.d (.int .i64 5)))), none⟩, ⟨some 85, .prim .call [.k (.fn (.func 40) [] []), .t 83, .t 84] [], none⟩]) 
  (.seq (.reg [⟨some 2, .asg (.k (.d (.str []))), none⟩]) .ret))))))
def R___parse_reader__hexed : List LRes := [.tmp 2]
theorem lift___parse_reader__hexed : Lifts Try.prog 61 86 L___parse_reader__hexed R___parse_reader__hexed := ⟨_, _, Try.func61, rfl, by kernel_rfl, by kernel_rfl, rfl⟩

theorem hexed_call (s : List UInt8) (k : Nat) (hs : s.length ≤ 60000) (hk : k < s.length) : MCall Try.prog 61 [.ptr (.x 0) 0] [robj s k 0]
    (fun r hs' => r = .d (.str (unhexF (s.drop (k + 1)) (-1) []).1) ∧ ∃ k' : Int, hs' = [robj s k' (unhexF (s.drop (k + 1)) (-1) []).2] ∧ ((unhexF (s.drop (k + 1)) (-1) []).2 = 0 → k' = (k + 1 + gtEnd (s.drop (k + 1)) : Nat))) := by
  generalize hR : unhexF (s.drop (k + 1)) (-1) [] = R
  generalize hE : k + 1 + gtEnd (s.drop (k + 1)) = E
  rw [robj_0]
  refine lift___parse_reader__hexed.mcall (by kernel_rfl) rfl ?_
  simp (maxSteps := 2000000) (disch := omega) only [go_sem, ↓reduceIte, L___parse_reader__hexed, R___parse_reader__hexed]
  refine run_loop (fun y : Nat × List UInt8 × Int => ⟨[(0, .ptr (.x 0) 0), (3, .own (.t 3) 5 1 (bytesD y.2.1)), (4, .d (.int .i64 y.2.2))], [], [(0, .cells [.d (.str s), .d (.int .i64 y.1), .d .nil])]⟩)
    (fun y => k + 1 ≤ y.1 ∧ y.1 ≤ s.length ∧ y.2.1.length ≤ y.1 ∧ -1 ≤ y.2.2 ∧ y.2.2 ≤ 15 ∧ y.1 + gtEnd (s.drop y.1) = E ∧ unhexF (s.drop y.1) y.2.2 y.2.1 = R) (fun y => s.length - y.1) (k + 1, [], -1) ?_ ?_ ?_
  · refine Weak.mk ?_ ?_ ?_ <;> simp (maxSteps := 2000000) only [go_sem, ↓reduceIte, Sub, Int.natCast_add, Int.natCast_mul, bytesD]
  · exact ⟨Nat.le_refl _, hk, by simp, by simp, by simp, hE, hR⟩
  · rintro ⟨i, b, h⟩ ⟨hki, hi, hb, hh1, hh2, hE', hF⟩
    simp only at hki hi hb hh1 hh2 hE' hF
    have hblen := bytesD_length b
    simp (maxSteps := 2000000) only [go_sem, ↓reduceIte]
    refine ⟨fun hlt => ?_, fun hge => ?_⟩
    · obtain ⟨c, hc⟩ := get_some (l := s) (i := i) (by omega)
      have hc8 := u8_lt c
      have hxb := hexI_bounds c.toNat
      rw [drop_at hc] at hF hE'
      unfold unhexF at hF
      unfold gtEnd at hE'
      simp (maxSteps := 2000000) only [go_sem, ↓reduceIte, getI_nat, hc]
      refine CallG.of (hex_call (n := c.toNat) (by omega)) ?_
      simp (maxSteps := 2000000) only [go_sem, ↓reduceIte]
      refine ⟨fun h1 => ?_, fun h1 => ?_⟩
      · rw [if_pos (by omega)] at hF hE'
        simp (maxSteps := 2000000) (disch := omega) only [go_sem, ↓reduceIte]
        refine ⟨fun h2 => ?_, fun h2 => ?_⟩
        · rw [if_pos h2] at hF
          subst hF
          have hsn := bytesD_snocI (b := b) (n := 16 * h) (by omega) (by omega)
          simp (maxSteps := 2000000) (disch := omega) only [go_sem, ↓reduceIte, hsn, bytesOf_bytesD]
          exact ⟨by omega, _, rfl, by omega⟩
        · rw [if_neg (by omega)] at hF
          subst hF
          simp (maxSteps := 2000000) (disch := omega) only [go_sem, ↓reduceIte, bytesOf_bytesD]
          exact ⟨_, rfl, by omega⟩
      · rw [if_neg (by omega)] at hF hE'
        refine CallG.of (blank_call c.toNat) ?_
        simp (maxSteps := 2000000) only [go_sem, ↓reduceIte]
        refine ⟨fun h2 => ?_, fun h2 => ⟨fun h3 => ?_, fun h3 => ⟨fun h4 => ?_, fun h4 => ?_⟩⟩⟩
        · rw [if_pos h2] at hF
          simp (disch := omega) only [IntWalk.i64_in, IntWalk.u8_in]
          refine ⟨(i + 1, b, h), ?_, ⟨by simp only; omega, by simp only; omega, by simp only; omega, hh1, hh2, by simp only; omega, hF⟩, by simp only; omega⟩
          refine Weak.mk ?_ ?_ ?_ <;> simp (maxSteps := 2000000) only [go_sem, ↓reduceIte, Sub, Int.natCast_add, Int.natCast_mul]
        · rw [if_neg (by simp [h2]), if_pos h3] at hF
          subst hF
          have hf := fail_0 s (i : Int) 4
          rw [robj_0, show errD 4 = .iface 76 (.int .i64 4) from rfl] at hf
          refine PrimG.mcall ([.x 0]) ([]) rfl (hf) rfl rfl (by simp only [objsAt, St.obj, aget, AObj.ren, AV.ren, AV.ren1, renL, ren1L, renR, renQ, List.getD_cons_zero, List.getD_cons_succ, and_true, and_self, Nat.reduceEqDiff, ↓reduceIte, reduceCtorEq]) rfl rfl rfl ⟨rfl, rfl⟩ ?_
          simp (maxSteps := 2000000) only [go_sem, ↓reduceIte, robj]
          exact ⟨_, rfl⟩
        · rw [if_neg (by simp [h2]), if_neg h3, if_pos h4] at hF
          simp (disch := omega) only [IntWalk.i64_in, IntWalk.u8_in]
          refine ⟨(i + 1, b, hexI c.toNat), ?_, ⟨by simp only; omega, by simp only; omega, by simp only; omega, by simp only; omega, by simp only; omega, by simp only; omega, hF⟩, by simp only; omega⟩
          refine Weak.mk ?_ ?_ ?_ <;> simp (maxSteps := 2000000) only [go_sem, ↓reduceIte, Sub, Int.natCast_add, Int.natCast_mul]
        · rw [if_neg (by simp [h2]), if_neg h3, if_neg h4] at hF
          have hsn := bytesD_snocI (b := b) (n := 16 * h + hexI c.toNat) (by omega) (by omega)
          simp (maxSteps := 2000000) (disch := omega) only [go_sem, ↓reduceIte]
          rw [hsn]
          refine ⟨by omega, (i + 1, b ++ [byteI (16 * h + hexI c.toNat)], -1), ?_, ⟨by simp only; omega, by simp only; omega, by simp only [List.length_append, List.length_cons, List.length_nil]; omega, by simp, by simp, by simp only; omega, hF⟩, by simp only; omega⟩
          refine Weak.mk ?_ ?_ ?_ <;> simp (maxSteps := 2000000) only [go_sem, ↓reduceIte, Sub, Int.natCast_add, Int.natCast_mul]
    · rw [List.drop_eq_nil_of_le (by omega), unhexF] at hF
      subst hF
      have hf := fail_0 s (i : Int) 5
      rw [robj_0, show errD 5 = .iface 76 (.int .i64 5) from rfl] at hf
      refine PrimG.mcall ([.x 0]) ([]) rfl (hf) rfl rfl (by simp only [objsAt, St.obj, aget, AObj.ren, AV.ren, AV.ren1, renL, ren1L, renR, renQ, List.getD_cons_zero, List.getD_cons_succ, and_true, and_self, Nat.reduceEqDiff, ↓reduceIte, reduceCtorEq]) rfl rfl rfl ⟨rfl, rfl⟩ ?_
      simp (maxSteps := 2000000) only [go_sem, ↓reduceIte, robj]
      exact ⟨_, rfl⟩
end Go.Av.Try
