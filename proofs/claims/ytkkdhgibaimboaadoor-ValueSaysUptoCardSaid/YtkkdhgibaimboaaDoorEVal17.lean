import Derived.Test.YtkkdhgibaimboaaDoorEVal16
/- The law of values, walked. -/
set_option linter.unusedSimpArgs false
namespace Go.Av.Tryd
open Go.Proofs

/-! ### What is set is set as the document has it -/
theorem wellF_srt : ∀ (l : List Fld) (p : Option (List UInt8)), wellF p l = true → srt l ∧ ∀ q, p = some q → ∀ (i : Nat) (y : Fld), l[i]? = some y → Op.bytesLess q y.name = true
  | [], p, _ => ⟨srt_nil, fun q _ i y h => by simp at h⟩
  | .mk nm v :: r, p, h => by
    simp only [wellF, Bool.and_eq_true] at h
    obtain ⟨⟨_, _, h2⟩, h3⟩ := h
    obtain ⟨i1, i2⟩ := wellF_srt r (some nm) h3
    refine ⟨fun i j x y hij hx hy => ?_, fun q hq i y hy => ?_⟩
    · cases j with
      | zero => omega
      | succ j =>
        cases i with
        | zero => simp at hx; subst hx; exact i2 nm rfl j y (by simpa using hy)
        | succ i => exact i1 i j x y (by omega) (by simpa using hx) (by simpa using hy)
    · subst hq
      cases i with
      | zero => simp at hy; subst hy; exact h2
      | succ i => exact less_trans h2 (i2 nm rfl i y (by simpa using hy))

theorem srt_tail {y : Fld} {r : List Fld} (h : srt (y :: r)) : srt r ∧ ∀ z ∈ r, Op.bytesLess y.name z.name = true :=
  ⟨fun i j a b hij ha hb => h (i + 1) (j + 1) a b (by omega) (by simpa using ha) (by simpa using hb), fun z hz => by
    obtain ⟨i, hi⟩ := List.getElem?_of_mem hz
    exact h 0 (i + 1) y z (by omega) rfl (by simpa using hi)⟩

theorem refSet_laid {nm : List UInt8} {x : Val} : ∀ {l : List Fld}, (∀ z ∈ l, z.name ≠ nm) → refSet nm x true l = l
  | [], _ => by simp [refSet]
  | y :: r, h => by
    have h1 := h y (by simp)
    simp [refSet, h1, refSet_laid (l := r) fun z hz => h z (by simp [hz])]

theorem leqB_not (a b : List UInt8) : leqB a b = !Op.bytesLess b a := bytesLeq_not a b

theorem refSet_eq {nm : List UInt8} {x : Val} : ∀ {l : List Fld}, srt l → refSet nm x false l = setF nm x l
  | [], _ => by simp [refSet, setF, hasV_nil, posV_nil]
  | y :: r, h => by
    obtain ⟨h1, h2⟩ := srt_tail h
    have hq := leqB_not nm y.name
    cases hl : Op.bytesLess y.name nm with
    | true =>
      rw [hl] at hq
      have hne : y.name ≠ nm := fun e => by rw [e, less_irr] at hl; cases hl
      have ih := refSet_eq (nm := nm) (x := x) h1
      have hp : posV nm (y :: r) = posV nm r + 1 := by simp [posV, hl]
      have hh : hasV nm (y :: r) = hasV nm r := by simp [hasV, hp]
      simp only [refSet, hq, Bool.not_true, Bool.and_false, Bool.false_or, if_neg hne, Bool.false_eq_true, if_false, List.nil_append, List.cons_append, ih]
      simp only [setF, hh, hp]
      split <;> simp
    | false =>
      rw [hl] at hq
      have hp : posV nm (y :: r) = 0 := by simp [posV, hl]
      by_cases he : y.name = nm
      · have hl2 := refSet_laid (nm := nm) (x := x) (l := r) fun z hz e => by
          have := h2 z hz
          rw [e, he, less_irr] at this; cases this
        have hh : hasV nm (y :: r) = true := by simp [hasV, hp, he]
        rw [he] at hq
        simp [refSet, hq, he, hl2, setF, hh, hp]
      · have hlt : Op.bytesLess nm y.name = true := by
          have := hq
          simp only [leqB, Bool.not_false, Bool.or_eq_true, decide_eq_true_eq] at this
          rcases this with h | h
          · exact h
          · exact absurd h.symm he
        have hl2 := refSet_laid (nm := nm) (x := x) (l := r) fun z hz e => by
          have := less_trans hlt (h2 z hz)
          rw [e, less_irr] at this; cases this
        have hh : hasV nm (y :: r) = false := by simp [hasV, hp, he]
        simp [refSet, hq, he, hl2, setF, hh, hp]

theorem getV_sm {nm : List UInt8} : ∀ {l : List Fld}, (∀ y ∈ l, y.sm 1048576 = true) → ((getV nm l).getD zeroV).sm 1048576 = true
  | [], _ => by simp [getV, zeroV, Val.sm, smL, smF]
  | y :: r, h => by
    simp only [getV]
    split
    · exact (Fld.sm_iff.1 (h y (by simp))).2
    · exact getV_sm fun z hz => h z (by simp [hz])
theorem alikeV_refl (a : Val) : alikeV a a = true := (alikeV_iff a a).2 rfl

theorem ptF_len : ∀ l : List Fld, l.length ≤ (ptF l).1
  | [] => by simp [ptF]
  | y :: r => by rw [ptF_cons]; have := ptF_len r; have := ptV_pos y.v; simp only [List.length_cons]; omega
theorem setF_mem {nm : List UInt8} {x : Val} {f : List Fld} {y : Fld} (h : y ∈ setF nm x f) : y = .mk nm x ∨ y ∈ f := by
  unfold setF at h
  split at h
  · rcases List.mem_or_eq_of_mem_set h with h | h
    · exact .inr h
    · exact .inl h
  · rcases List.mem_append.1 h with h | h
    · exact .inr (List.mem_of_mem_take h)
    · rcases List.mem_cons.1 h with h | h
      · exact .inl h
      · exact .inr (List.mem_of_mem_drop h)
theorem setF_len (nm : List UInt8) (x : Val) (f : List Fld) : (setF nm x f).length ≤ f.length + 1 := by
  unfold setF
  split
  · rw [List.length_set]; omega
  · simp only [List.length_append, List.length_take, List.length_cons, List.length_drop]; omega
theorem setV_sm {nm : List UInt8} {x v : Val} (hv : v.sm 1048576 = true) (hx : x.sm 1048576 = true) (hn : nm.length ≤ 1048576) (hf : v.f.length < 1048576) : (setV nm x v).sm 1048576 = true := by
  obtain ⟨h1, h2, h3, h4, h5⟩ := Val.sm_iff.1 hv
  have hl := setF_len nm x v.f
  refine Val.sm_iff.2 ⟨h1, h2, ?_, h4, fun y hy => ?_⟩
  · show (setF nm x v.f).length ≤ _
    omega
  · rcases setF_mem hy with rfl | hy
    · exact Fld.sm_iff.2 ⟨hn, hx⟩
    · exact h5 y hy

/-- foliowrightlaw.ValueSays -/
def L_foliowrightlaw_ValueSays : LCode :=
  .seq (.reg [⟨some 3, .box (.t 0), none⟩, ⟨some 4, .box (.t 1), none⟩, ⟨some 6, .asg (.k (.d (.bool false))), none⟩]) (.seq (.reg [⟨some 16, .call 52 [], none⟩, ⟨some 7, .asg (.t 
  16), none⟩]) (.seq (.seq (.reg [⟨some 17, .val (.cp (.t 7)), none⟩, ⟨some 18, .val (.not (.t 17)), none⟩, ⟨some 19, .val (.cp (.t 18)), none⟩, ⟨some 20, .val (.ld true 5 (.t 3)), 
  some (19, false)⟩, ⟨some 21, .call 53 [.t 20], some (19, false)⟩, ⟨some 22, .val (.not (.t 21)), some (19, false)⟩, ⟨some 23, .val (.pick (.t 19) (.k (.d (.bool true))) (.t 22)), 
  none⟩, ⟨some 24, .val (.cp (.t 23)), none⟩, ⟨some 25, .val (.ld true 5 (.t 4)), some (24, false)⟩, ⟨some 26, .call 53 [.t 25], some (24, false)⟩, ⟨some 27, .val (.not (.t 26)), 
  some (24, false)⟩, ⟨some 28, .val (.pick (.t 24) (.k (.d (.bool true))) (.t 27)), none⟩, ⟨some 29, .val (.cp (.t 28)), none⟩, ⟨some 30, .val (.cp (.t 2)), some (29, false)⟩, 
  ⟨some 31, .val (.len true (.t 30)), some (29, false)⟩, ⟨some 32, .val (.bin .gtr (.t 31) (.k (.d (.int .i64 300)))), some (29, false)⟩, ⟨some 33, .val (.pick (.t 29) (.k (.d 
  (.bool true))) (.t 32)), none⟩]) (.cond (.t 33) (.seq (.reg [⟨some 34, .val (.cp (.t 7)), none⟩, ⟨some 6, .asg (.t 34), none⟩]) .ret) .skip)) (.seq (.reg [⟨some 35, .val (.ld 
  true 5 (.t 3)), none⟩, ⟨some 36, .call 54 [.t 35], none⟩, ⟨some 8, .asg (.t 36), none⟩]) (.seq (.reg [⟨some 38, .val (.ld true 5 (.t 3)), none⟩, ⟨some 39, .call 55 [.t 38], 
  none⟩, ⟨some 37, .val (.cp (.t 39)), none⟩, ⟨some 40, .val (.ext 0 (.t 37)), none⟩, ⟨some 41, .val (.ext 1 (.t 37)), none⟩, ⟨some 9, .asg (.t 40), none⟩, ⟨some 10, .asg (.t 41), 
  none⟩]) (.seq (.seq (.reg [⟨some 42, .val (.ld true 5 (.t 3)), none⟩, ⟨some 43, .call 56 [.t 42], none⟩, ⟨some 44, .val (.cp (.t 8)), none⟩, ⟨some 45, .call 19 [.t 43, .t 44], 
  none⟩, ⟨some 46, .val (.not (.t 45)), none⟩, ⟨some 47, .val (.cp (.t 46)), none⟩, ⟨some 48, .val (.cp (.t 10)), some (47, false)⟩, ⟨some 49, .val (.cp (.t 8)), some (47, false)⟩, 
  ⟨some 50, .call 19 [.t 48, .t 49], some (47, false)⟩, ⟨some 51, .val (.not (.t 50)), some (47, false)⟩, ⟨some 52, .val (.pick (.t 47) (.k (.d (.bool true))) (.t 51)), none⟩, 
  ⟨some 53, .val (.cp (.t 52)), none⟩, ⟨some 54, .val (.cp (.t 8)), some (53, false)⟩, ⟨some 55, .val (.bin .gtr (.t 54) (.k (.d (.int .i64 0)))), some (53, false)⟩, ⟨some 56, .val 
  (.cp (.t 55)), some (53, false)⟩, ⟨some 57, .val (.cp (.t 9)), some (56, true)⟩, ⟨some 58, .val (.bin .neq (.t 57) (.k (.d (.str [])))), some (56, true)⟩, ⟨some 59, .val (.pick 
  (.t 56) (.t 58) (.k (.d (.bool false)))), some (53, false)⟩, ⟨some 60, .val (.pick (.t 53) (.k (.d (.bool true))) (.t 59)), none⟩, ⟨some 61, .val (.cp (.t 60)), none⟩, ⟨some 62, 
  .val (.cp (.t 8)), some (61, false)⟩, ⟨some 63, .val (.bin .eql (.t 62) (.k (.d (.int .i64 0)))), some (61, false)⟩, ⟨some 64, .val (.cp (.t 63)), some (61, false)⟩, ⟨some 65, 
  .val (.cp (.t 9)), some (64, true)⟩, ⟨some 66, .val (.ld true 5 (.t 3)), some (64, true)⟩, ⟨some 67, .call 57 [.t 66], some (64, true)⟩, ⟨some 68, .val (.bin .neq (.t 65) (.t 
  67)), some (64, true)⟩, ⟨some 69, .val (.pick (.t 64) (.t 68) (.k (.d (.bool false)))), some (61, false)⟩, ⟨some 70, .val (.pick (.t 61) (.k (.d (.bool true))) (.t 69)), none⟩, 
  ⟨some 71, .val (.cp (.t 70)), none⟩, ⟨some 72, .val (.cp (.t 2)), some (71, false)⟩, ⟨some 73, .call 58 [.t 72], some (71, false)⟩, ⟨some 74, .val (.cp (.t 2)), some (71, 
  false)⟩, ⟨some 75, .call 59 [.t 74], some (71, false)⟩, ⟨some 76, .val (.eqB true (.t 73) (.t 75)), some (71, false)⟩, ⟨some 77, .val (.pick (.t 71) (.k (.d (.bool true))) (.t 
  76)), none⟩]) (.cond (.t 77) (.seq (.reg [⟨some 6, .asg (.k (.d (.bool false))), none⟩]) .ret) .skip)) (.seq (.reg [⟨some 78, .val (.ld true 5 (.t 3)), none⟩, ⟨some 79, .call 60 
  [.t 78], none⟩, ⟨some 11, .allo [.int .i64 0, .int .i64 0, .str [], .list [], .list []], none⟩, ⟨none, .st 5 (.t 11) (.t 79), none⟩]) (.seq (.reg [⟨some 81, .val (.ld true 5 (.t 
  3)), none⟩, ⟨some 82, .val (.cp (.t 2)), none⟩, ⟨some 83, .call 61 [.t 81, .t 82], none⟩, ⟨some 80, .val (.cp (.t 83)), none⟩, ⟨some 84, .val (.ext 0 (.t 80)), none⟩, ⟨some 85, 
  .val (.ext 1 (.t 80)), none⟩, ⟨some 12, .allo [.int .i64 0, .int .i64 0, .str [], .list [], .list []], none⟩, ⟨none, .st 5 (.t 12) (.t 84), none⟩, ⟨some 13, .asg (.t 85), none⟩]) 
  (.seq (.reg [⟨some 87, .val (.ld true 5 (.t 3)), none⟩, ⟨some 88, .val (.cp (.t 2)), none⟩, ⟨some 89, .call 62 [.t 87, .t 88], none⟩, ⟨some 86, .val (.cp (.t 89)), none⟩, ⟨some 
  90, .val (.ext 0 (.t 86)), none⟩, ⟨some 91, .val (.ext 1 (.t 86)), none⟩, ⟨some 14, .allo [.int .i64 0, .int .i64 0, .str [], .list [], .list []], none⟩, ⟨none, .st 5 (.t 14) (.t 
  90), none⟩, ⟨some 15, .asg (.t 91), none⟩]) (.seq (.seq (.dreg [⟨some 92, .val (.ld true 5 (.t 11)), none⟩, ⟨some 93, .val (.ld true 5 (.t 3)), none⟩, ⟨some 94, .call 63 [.t 92, 
  .t 93], none⟩, ⟨some 95, .val (.not (.t 94)), none⟩, ⟨some 96, .val (.cp (.t 95)), none⟩, ⟨some 97, .val (.ld true 5 (.t 3)), some (96, false)⟩, ⟨some 98, .val (.ld true 5 (.t 
  4)), some (96, false)⟩, ⟨some 99, .call 64 [.t 97, .t 98], some (96, false)⟩, ⟨some 100, .val (.ld true 5 (.t 3)), some (96, false)⟩, ⟨some 101, .val (.ld true 5 (.t 4)), some 
  (96, false)⟩, ⟨some 102, .call 63 [.t 100, .t 101], some (96, false)⟩, ⟨some 103, .val (.eqB true (.t 99) (.t 102)), some (96, false)⟩, ⟨some 104, .val (.pick (.t 96) (.k (.d 
  (.bool true))) (.t 103)), none⟩, ⟨some 105, .val (.cp (.t 104)), none⟩, ⟨some 106, .val (.cp (.t 13)), some (105, false)⟩, ⟨some 107, .val (.cp (.t 15)), some (105, false)⟩, 
  ⟨some 108, .val (.eqB true (.t 106) (.t 107)), some (105, false)⟩, ⟨some 109, .val (.pick (.t 105) (.k (.d (.bool true))) (.t 108)), none⟩, ⟨some 110, .val (.cp (.t 109)), none⟩, 
  ⟨some 111, .val (.ld true 5 (.t 12)), some (110, false)⟩, ⟨some 112, .val (.ld true 5 (.t 14)), some (110, false)⟩, ⟨some 113, .call 63 [.t 111, .t 112], some (110, false)⟩, 
  ⟨some 114, .val (.not (.t 113)), some (110, false)⟩, ⟨some 115, .val (.pick (.t 110) (.k (.d (.bool true))) (.t 114)), none⟩]) (.cond (.t 115) (.seq (.reg [⟨some 6, .asg (.k (.d 
  (.bool false))), none⟩]) .ret) .skip)) (.seq (.seq (.reg [⟨some 116, .val (.cp (.t 8)), none⟩, ⟨some 117, .val (.bin .gtr (.t 116) (.k (.d (.int .i64 0)))), none⟩, ⟨some 118, 
  .val (.cp (.t 117)), none⟩, ⟨some 119, .val (.fa 0 (.t 3)), some (118, false)⟩, ⟨some 120, .val (.ld false 1 (.t 119)), some (118, false)⟩, ⟨some 121, .val (.bin .neq (.t 120) 
  (.k (.d (.int .i64 6)))), some (118, false)⟩, ⟨some 122, .val (.pick (.t 118) (.k (.d (.bool true))) (.t 121)), none⟩]) (.cond (.t 122) (.seq (.reg [⟨some 6, .asg (.k (.d (.bool 
  true))), none⟩]) .ret) .skip)) (.seq (.dreg [⟨some 123, .val (.ld true 5 (.t 3)), none⟩, ⟨some 124, .val (.cp (.t 2)), none⟩, ⟨some 125, .val (.ld true 5 (.t 4)), none⟩, ⟨some 
  126, .call 65 [.t 123, .t 124, .t 125], none⟩, ⟨some 127, .val (.ld true 5 (.t 3)), none⟩, ⟨some 128, .val (.cp (.t 2)), none⟩, ⟨some 129, .val (.ld true 5 (.t 4)), none⟩, ⟨some 
  130, .call 66 [.t 127, .t 128, .t 129], none⟩, ⟨some 131, .call 63 [.t 126, .t 130], none⟩, ⟨some 132, .val (.cp (.t 131)), none⟩, ⟨some 133, .val (.ld true 5 (.t 3)), some (132, 
  true)⟩, ⟨some 134, .val (.ld true 5 (.t 11)), some (132, true)⟩, ⟨some 135, .call 63 [.t 133, .t 134], some (132, true)⟩, ⟨some 136, .val (.pick (.t 132) (.t 135) (.k (.d (.bool 
  false)))), none⟩, ⟨some 6, .asg (.t 136), none⟩]) .ret)))))))))))
def R_foliowrightlaw_ValueSays : List LRes := [.tmp 6]
theorem lift_foliowrightlaw_ValueSays : Lifts Tryd.prog 9 137 L_foliowrightlaw_ValueSays R_foliowrightlaw_ValueSays := ⟨_, _, Tryd.func9, rfl, by kernel_rfl, by kernel_rfl, rfl⟩

theorem valueSays_call (v o : Val) (nm : List UInt8) (hv : v.sm 1048576 = true) (ho : o.sm 1048576 = true) (hpt : (ptV v).1 ≤ 1000000000) : PCall Tryd.prog 9 [v.d, o.d, .str nm] (fun r => r = .one (.bool true)) := by
  have c1 := light_call v hv
  have c2 := light_call o ho
  have c3 := faultV_call v hv hpt
  have c4 := textV_call v hv
  have c5 := checkV_call v hv
  have c6 := copyP v hv
  have c7 := getP_call v nm (Val.sm_iff.1 hv).2.2.1
  have c8 := getR_call v nm (Val.sm_iff.1 hv).2.2.1
  have c9 := alikeR_call _ v v (Nat.le_refl _) hv
  have c10 := alikeP_call _ v o (Nat.le_refl _) hv
  have c11 := alikeR_call _ v o (Nat.le_refl _) hv
  have hW := getV_sm (nm := nm) (Val.sm_iff.1 hv).2.2.2.2
  have e7 : getR (getV nm v.f) = .tup [((getV nm v.f).getD zeroV).d, .bool (getV nm v.f).isSome] := rfl
  rw [e7] at c7 c8
  generalize (getV nm v.f).getD zeroV = W at c7 c8 hW
  generalize (getV nm v.f).isSome = wb at c7 c8
  have c13 := alikeR_call _ W W (Nat.le_refl _) hW
  rw [alikeV_refl] at c9 c13
  rw [Val.d_eq W] at c7 c8 c13
  rw [Val.d_eq v] at c1 c3 c4 c5 c6 c7 c8 c9 c10 c11
  rw [Val.d_eq o] at c2 c10 c11
  rw [Val.d_eq v, Val.d_eq o]
  refine lift_foliowrightlaw_ValueSays.call rfl ?_
  simp (maxSteps := 2000000) only [go_sem, Nat.reduceEqDiff, Nat.reduceBEq, Nat.reduceLT, Nat.reduceLeDiff, Nat.reduceAdd, Nat.reduceSub, Nat.reduceMul, ↓reduceIte, reduceCtorEq, Nat.reduceBNe, Nat.reduceSubDiff, Int.reduceLT, Int.reduceLE, Int.reduceEq, Int.reduceNeg, Int.reduceAdd, Int.reduceMul, Int.reduceSub, Int.reduceToNat, L_foliowrightlaw_ValueSays, R_foliowrightlaw_ValueSays]
  refine CallG.of values_call ?_
  simp (maxSteps := 2000000) only [go_sem, Nat.reduceEqDiff, Nat.reduceBEq, Nat.reduceLT, Nat.reduceLeDiff, Nat.reduceAdd, Nat.reduceSub, Nat.reduceMul, ↓reduceIte, reduceCtorEq, Nat.reduceBNe, Nat.reduceSubDiff, Int.reduceLT, Int.reduceLE, Int.reduceEq, Int.reduceNeg, Int.reduceAdd, Int.reduceMul, Int.reduceSub, Int.reduceToNat]
  refine CallG.of c1 ?_
  simp (maxSteps := 2000000) only [go_sem, Nat.reduceEqDiff, Nat.reduceBEq, Nat.reduceLT, Nat.reduceLeDiff, Nat.reduceAdd, Nat.reduceSub, Nat.reduceMul, ↓reduceIte, reduceCtorEq, Nat.reduceBNe, Nat.reduceSubDiff, Int.reduceLT, Int.reduceLE, Int.reduceEq, Int.reduceNeg, Int.reduceAdd, Int.reduceMul, Int.reduceSub, Int.reduceToNat]
  intro w1
  refine CallG.of c2 ?_
  simp (maxSteps := 2000000) only [go_sem, Nat.reduceEqDiff, Nat.reduceBEq, Nat.reduceLT, Nat.reduceLeDiff, Nat.reduceAdd, Nat.reduceSub, Nat.reduceMul, ↓reduceIte, reduceCtorEq, Nat.reduceBNe, Nat.reduceSubDiff, Int.reduceLT, Int.reduceLE, Int.reduceEq, Int.reduceNeg, Int.reduceAdd, Int.reduceMul, Int.reduceSub, Int.reduceToNat]
  intro w2 w3
  refine CallG.of c3 ?_
  simp (maxSteps := 2000000) only [go_sem, Nat.reduceEqDiff, Nat.reduceBEq, Nat.reduceLT, Nat.reduceLeDiff, Nat.reduceAdd, Nat.reduceSub, Nat.reduceMul, ↓reduceIte, reduceCtorEq, Nat.reduceBNe, Nat.reduceSubDiff, Int.reduceLT, Int.reduceLE, Int.reduceEq, Int.reduceNeg, Int.reduceAdd, Int.reduceMul, Int.reduceSub, Int.reduceToNat]
  refine CallG.of c4 ?_
  by_cases h0 : faultV v = 0
  · have e4 : textR v = .tup [.str (textV v), .nil] := by rw [textR, if_pos h0]
    rw [e4, h0]
    rw [h0] at c5
    simp (maxSteps := 2000000) only [go_sem, Nat.reduceEqDiff, Nat.reduceBEq, Nat.reduceLT, Nat.reduceLeDiff, Nat.reduceAdd, Nat.reduceSub, Nat.reduceMul, ↓reduceIte, reduceCtorEq, Nat.reduceBNe, Nat.reduceSubDiff, Int.reduceLT, Int.reduceLE, Int.reduceEq, Int.reduceNeg, Int.reduceAdd, Int.reduceMul, Int.reduceSub, Int.reduceToNat]
    refine CallG.of c5 ?_
    simp (maxSteps := 2000000) only [go_sem, Nat.reduceEqDiff, Nat.reduceBEq, Nat.reduceLT, Nat.reduceLeDiff, Nat.reduceAdd, Nat.reduceSub, Nat.reduceMul, ↓reduceIte, reduceCtorEq, Nat.reduceBNe, Nat.reduceSubDiff, Int.reduceLT, Int.reduceLE, Int.reduceEq, Int.reduceNeg, Int.reduceAdd, Int.reduceMul, Int.reduceSub, Int.reduceToNat]
    refine CallG.of (same_law 0 0) ?_
    simp (maxSteps := 2000000) only [go_sem, Nat.reduceEqDiff, Nat.reduceBEq, Nat.reduceLT, Nat.reduceLeDiff, Nat.reduceAdd, Nat.reduceSub, Nat.reduceMul, ↓reduceIte, reduceCtorEq, Nat.reduceBNe, Nat.reduceSubDiff, Int.reduceLT, Int.reduceLE, Int.reduceEq, Int.reduceNeg, Int.reduceAdd, Int.reduceMul, Int.reduceSub, Int.reduceToNat]
    refine CallG.of (same_law 0 0) ?_
    simp (maxSteps := 2000000) only [go_sem, Nat.reduceEqDiff, Nat.reduceBEq, Nat.reduceLT, Nat.reduceLeDiff, Nat.reduceAdd, Nat.reduceSub, Nat.reduceMul, ↓reduceIte, reduceCtorEq, Nat.reduceBNe, Nat.reduceSubDiff, Int.reduceLT, Int.reduceLE, Int.reduceEq, Int.reduceNeg, Int.reduceAdd, Int.reduceMul, Int.reduceSub, Int.reduceToNat]
    obtain ⟨hp1, hw⟩ := faultV_0.1 h0
    have hlen := textV_len v hw
    have c12 := valueText_call _ v (Nat.le_refl _) hv hw (by omega)
    rw [Val.d_eq v] at c12
    refine CallG.of c12 ?_
    simp (maxSteps := 2000000) only [go_sem, Nat.reduceEqDiff, Nat.reduceBEq, Nat.reduceLT, Nat.reduceLeDiff, Nat.reduceAdd, Nat.reduceSub, Nat.reduceMul, ↓reduceIte, reduceCtorEq, Nat.reduceBNe, Nat.reduceSubDiff, Int.reduceLT, Int.reduceLE, Int.reduceEq, Int.reduceNeg, Int.reduceAdd, Int.reduceMul, Int.reduceSub, Int.reduceToNat]
    refine CallG.of (nameMay_call nm) ?_
    simp (maxSteps := 2000000) only [go_sem, Nat.reduceEqDiff, Nat.reduceBEq, Nat.reduceLT, Nat.reduceLeDiff, Nat.reduceAdd, Nat.reduceSub, Nat.reduceMul, ↓reduceIte, reduceCtorEq, Nat.reduceBNe, Nat.reduceSubDiff, Int.reduceLT, Int.reduceLE, Int.reduceEq, Int.reduceNeg, Int.reduceAdd, Int.reduceMul, Int.reduceSub, Int.reduceToNat]
    refine CallG.of (refNameMay_call nm) ?_
    simp (maxSteps := 2000000) only [go_sem, Nat.reduceEqDiff, Nat.reduceBEq, Nat.reduceLT, Nat.reduceLeDiff, Nat.reduceAdd, Nat.reduceSub, Nat.reduceMul, ↓reduceIte, reduceCtorEq, Nat.reduceBNe, Nat.reduceSubDiff, Int.reduceLT, Int.reduceLE, Int.reduceEq, Int.reduceNeg, Int.reduceAdd, Int.reduceMul, Int.reduceSub, Int.reduceToNat]
    refine CallG.of c6 ?_
    simp (maxSteps := 2000000) only [go_sem, Nat.reduceEqDiff, Nat.reduceBEq, Nat.reduceLT, Nat.reduceLeDiff, Nat.reduceAdd, Nat.reduceSub, Nat.reduceMul, ↓reduceIte, reduceCtorEq, Nat.reduceBNe, Nat.reduceSubDiff, Int.reduceLT, Int.reduceLE, Int.reduceEq, Int.reduceNeg, Int.reduceAdd, Int.reduceMul, Int.reduceSub, Int.reduceToNat]
    refine CallG.of c7 ?_
    simp (maxSteps := 2000000) only [go_sem, Nat.reduceEqDiff, Nat.reduceBEq, Nat.reduceLT, Nat.reduceLeDiff, Nat.reduceAdd, Nat.reduceSub, Nat.reduceMul, ↓reduceIte, reduceCtorEq, Nat.reduceBNe, Nat.reduceSubDiff, Int.reduceLT, Int.reduceLE, Int.reduceEq, Int.reduceNeg, Int.reduceAdd, Int.reduceMul, Int.reduceSub, Int.reduceToNat]
    refine CallG.of c8 ?_
    simp (maxSteps := 2000000) only [go_sem, Nat.reduceEqDiff, Nat.reduceBEq, Nat.reduceLT, Nat.reduceLeDiff, Nat.reduceAdd, Nat.reduceSub, Nat.reduceMul, ↓reduceIte, reduceCtorEq, Nat.reduceBNe, Nat.reduceSubDiff, Int.reduceLT, Int.reduceLE, Int.reduceEq, Int.reduceNeg, Int.reduceAdd, Int.reduceMul, Int.reduceSub, Int.reduceToNat]
    refine CallD.of c9 ?_
    simp (maxSteps := 2000000) only [go_sem, Nat.reduceEqDiff, Nat.reduceBEq, Nat.reduceLT, Nat.reduceLeDiff, Nat.reduceAdd, Nat.reduceSub, Nat.reduceMul, ↓reduceIte, reduceCtorEq, Nat.reduceBNe, Nat.reduceSubDiff, Int.reduceLT, Int.reduceLE, Int.reduceEq, Int.reduceNeg, Int.reduceAdd, Int.reduceMul, Int.reduceSub, Int.reduceToNat]
    refine CallD.of c10 ?_
    simp (maxSteps := 2000000) only [go_sem, Nat.reduceEqDiff, Nat.reduceBEq, Nat.reduceLT, Nat.reduceLeDiff, Nat.reduceAdd, Nat.reduceSub, Nat.reduceMul, ↓reduceIte, reduceCtorEq, Nat.reduceBNe, Nat.reduceSubDiff, Int.reduceLT, Int.reduceLE, Int.reduceEq, Int.reduceNeg, Int.reduceAdd, Int.reduceMul, Int.reduceSub, Int.reduceToNat]
    refine CallD.of c11 ?_
    simp (maxSteps := 2000000) only [go_sem, Nat.reduceEqDiff, Nat.reduceBEq, Nat.reduceLT, Nat.reduceLeDiff, Nat.reduceAdd, Nat.reduceSub, Nat.reduceMul, ↓reduceIte, reduceCtorEq, Nat.reduceBNe, Nat.reduceSubDiff, Int.reduceLT, Int.reduceLE, Int.reduceEq, Int.reduceNeg, Int.reduceAdd, Int.reduceMul, Int.reduceSub, Int.reduceToNat]
    refine CallD.of c13 ?_
    simp (maxSteps := 2000000) only [go_sem, Nat.reduceEqDiff, Nat.reduceBEq, Nat.reduceLT, Nat.reduceLeDiff, Nat.reduceAdd, Nat.reduceSub, Nat.reduceMul, ↓reduceIte, reduceCtorEq, Nat.reduceBNe, Nat.reduceSubDiff, Int.reduceLT, Int.reduceLE, Int.reduceEq, Int.reduceNeg, Int.reduceAdd, Int.reduceMul, Int.reduceSub, Int.reduceToNat]
    intro hk
    have hw6 : wellF none v.f = true := by rw [wellV_eq, hk] at hw; simp at hw; exact hw.2.2.2
    obtain ⟨hsrt, _⟩ := wellF_srt v.f none hw6
    have hfn : v.f.length ≤ 300 := by have := ptF_len v.f; rw [ptV_eq] at hp1; simp only at hp1; omega
    have s1 := setP_call v o nm hsrt hv ho
    have s2 := setR_call v o nm (Val.sm_iff.1 hv).2.2.1
    have s3 : (Val.mk v.kind v.n v.s v.l (refSet nm o false v.f)) = setV nm o v := by rw [refSet_eq hsrt]; rfl
    rw [s3] at s2
    have hset : (setV nm o v).sm 1048576 = true := setV_sm hv ho (by omega) (by omega)
    have s4 := alikeR_call _ (setV nm o v) (setV nm o v) (Nat.le_refl _) hset
    rw [alikeV_refl] at s4
    generalize setV nm o v = S at s1 s2 s4
    rw [Val.d_eq v, Val.d_eq o] at s1 s2
    refine CallD.of s1 ?_
    simp (maxSteps := 2000000) only [go_sem, Nat.reduceEqDiff, Nat.reduceBEq, Nat.reduceLT, Nat.reduceLeDiff, Nat.reduceAdd, Nat.reduceSub, Nat.reduceMul, ↓reduceIte, reduceCtorEq, Nat.reduceBNe, Nat.reduceSubDiff, Int.reduceLT, Int.reduceLE, Int.reduceEq, Int.reduceNeg, Int.reduceAdd, Int.reduceMul, Int.reduceSub, Int.reduceToNat]
    refine CallD.of s2 ?_
    simp (maxSteps := 2000000) only [go_sem, Nat.reduceEqDiff, Nat.reduceBEq, Nat.reduceLT, Nat.reduceLeDiff, Nat.reduceAdd, Nat.reduceSub, Nat.reduceMul, ↓reduceIte, reduceCtorEq, Nat.reduceBNe, Nat.reduceSubDiff, Int.reduceLT, Int.reduceLE, Int.reduceEq, Int.reduceNeg, Int.reduceAdd, Int.reduceMul, Int.reduceSub, Int.reduceToNat]
    refine CallD.of s4 ?_
    simp (maxSteps := 2000000) only [go_sem, Nat.reduceEqDiff, Nat.reduceBEq, Nat.reduceLT, Nat.reduceLeDiff, Nat.reduceAdd, Nat.reduceSub, Nat.reduceMul, ↓reduceIte, reduceCtorEq, Nat.reduceBNe, Nat.reduceSubDiff, Int.reduceLT, Int.reduceLE, Int.reduceEq, Int.reduceNeg, Int.reduceAdd, Int.reduceMul, Int.reduceSub, Int.reduceToNat]
    refine CallD.of c9 ?_
    simp (maxSteps := 2000000) only [go_sem, Nat.reduceEqDiff, Nat.reduceBEq, Nat.reduceLT, Nat.reduceLeDiff, Nat.reduceAdd, Nat.reduceSub, Nat.reduceMul, ↓reduceIte, reduceCtorEq, Nat.reduceBNe, Nat.reduceSubDiff, Int.reduceLT, Int.reduceLE, Int.reduceEq, Int.reduceNeg, Int.reduceAdd, Int.reduceMul, Int.reduceSub, Int.reduceToNat]
  · have e4 : textR v = .tup [.str [], errD (faultV v)] := by rw [textR, if_neg h0]
    rw [e4]
    simp (maxSteps := 2000000) only [go_sem, Nat.reduceEqDiff, Nat.reduceBEq, Nat.reduceLT, Nat.reduceLeDiff, Nat.reduceAdd, Nat.reduceSub, Nat.reduceMul, ↓reduceIte, reduceCtorEq, Nat.reduceBNe, Nat.reduceSubDiff, Int.reduceLT, Int.reduceLE, Int.reduceEq, Int.reduceNeg, Int.reduceAdd, Int.reduceMul, Int.reduceSub, Int.reduceToNat]
    refine CallG.of c5 ?_
    simp (maxSteps := 2000000) only [go_sem, Nat.reduceEqDiff, Nat.reduceBEq, Nat.reduceLT, Nat.reduceLeDiff, Nat.reduceAdd, Nat.reduceSub, Nat.reduceMul, ↓reduceIte, reduceCtorEq, Nat.reduceBNe, Nat.reduceSubDiff, Int.reduceLT, Int.reduceLE, Int.reduceEq, Int.reduceNeg, Int.reduceAdd, Int.reduceMul, Int.reduceSub, Int.reduceToNat]
    refine CallG.of (same_law _ _) ?_
    simp (maxSteps := 2000000) only [go_sem, Nat.reduceEqDiff, Nat.reduceBEq, Nat.reduceLT, Nat.reduceLeDiff, Nat.reduceAdd, Nat.reduceSub, Nat.reduceMul, ↓reduceIte, reduceCtorEq, Nat.reduceBNe, Nat.reduceSubDiff, Int.reduceLT, Int.reduceLE, Int.reduceEq, Int.reduceNeg, Int.reduceAdd, Int.reduceMul, Int.reduceSub, Int.reduceToNat]
    refine CallG.of (same_law _ _) ?_
    simp (maxSteps := 2000000) only [go_sem, Nat.reduceEqDiff, Nat.reduceBEq, Nat.reduceLT, Nat.reduceLeDiff, Nat.reduceAdd, Nat.reduceSub, Nat.reduceMul, ↓reduceIte, reduceCtorEq, Nat.reduceBNe, Nat.reduceSubDiff, Int.reduceLT, Int.reduceLE, Int.reduceEq, Int.reduceNeg, Int.reduceAdd, Int.reduceMul, Int.reduceSub, Int.reduceToNat]
    have k1 : (0 < ((faultV v : Nat) : Int)) = True := by apply propext; simp only [iff_true]; omega
    have k2 : (((faultV v : Nat) : Int) = 0) = False := by apply propext; simp only [iff_false]; omega
    simp (maxSteps := 2000000) only [go_sem, Nat.reduceEqDiff, Nat.reduceBEq, Nat.reduceLT, Nat.reduceLeDiff, Nat.reduceAdd, Nat.reduceSub, Nat.reduceMul, ↓reduceIte, reduceCtorEq, Nat.reduceBNe, Nat.reduceSubDiff, Int.reduceLT, Int.reduceLE, Int.reduceEq, Int.reduceNeg, Int.reduceAdd, Int.reduceMul, Int.reduceSub, Int.reduceToNat, k1, k2]
    refine CallG.of (nameMay_call nm) ?_
    simp (maxSteps := 2000000) only [go_sem, Nat.reduceEqDiff, Nat.reduceBEq, Nat.reduceLT, Nat.reduceLeDiff, Nat.reduceAdd, Nat.reduceSub, Nat.reduceMul, ↓reduceIte, reduceCtorEq, Nat.reduceBNe, Nat.reduceSubDiff, Int.reduceLT, Int.reduceLE, Int.reduceEq, Int.reduceNeg, Int.reduceAdd, Int.reduceMul, Int.reduceSub, Int.reduceToNat]
    refine CallG.of (refNameMay_call nm) ?_
    simp (maxSteps := 2000000) only [go_sem, Nat.reduceEqDiff, Nat.reduceBEq, Nat.reduceLT, Nat.reduceLeDiff, Nat.reduceAdd, Nat.reduceSub, Nat.reduceMul, ↓reduceIte, reduceCtorEq, Nat.reduceBNe, Nat.reduceSubDiff, Int.reduceLT, Int.reduceLE, Int.reduceEq, Int.reduceNeg, Int.reduceAdd, Int.reduceMul, Int.reduceSub, Int.reduceToNat]
    refine CallG.of c6 ?_
    simp (maxSteps := 2000000) only [go_sem, Nat.reduceEqDiff, Nat.reduceBEq, Nat.reduceLT, Nat.reduceLeDiff, Nat.reduceAdd, Nat.reduceSub, Nat.reduceMul, ↓reduceIte, reduceCtorEq, Nat.reduceBNe, Nat.reduceSubDiff, Int.reduceLT, Int.reduceLE, Int.reduceEq, Int.reduceNeg, Int.reduceAdd, Int.reduceMul, Int.reduceSub, Int.reduceToNat]
    refine CallG.of c7 ?_
    simp (maxSteps := 2000000) only [go_sem, Nat.reduceEqDiff, Nat.reduceBEq, Nat.reduceLT, Nat.reduceLeDiff, Nat.reduceAdd, Nat.reduceSub, Nat.reduceMul, ↓reduceIte, reduceCtorEq, Nat.reduceBNe, Nat.reduceSubDiff, Int.reduceLT, Int.reduceLE, Int.reduceEq, Int.reduceNeg, Int.reduceAdd, Int.reduceMul, Int.reduceSub, Int.reduceToNat]
    refine CallG.of c8 ?_
    simp (maxSteps := 2000000) only [go_sem, Nat.reduceEqDiff, Nat.reduceBEq, Nat.reduceLT, Nat.reduceLeDiff, Nat.reduceAdd, Nat.reduceSub, Nat.reduceMul, ↓reduceIte, reduceCtorEq, Nat.reduceBNe, Nat.reduceSubDiff, Int.reduceLT, Int.reduceLE, Int.reduceEq, Int.reduceNeg, Int.reduceAdd, Int.reduceMul, Int.reduceSub, Int.reduceToNat]
    refine CallD.of c9 ?_
    simp (maxSteps := 2000000) only [go_sem, Nat.reduceEqDiff, Nat.reduceBEq, Nat.reduceLT, Nat.reduceLeDiff, Nat.reduceAdd, Nat.reduceSub, Nat.reduceMul, ↓reduceIte, reduceCtorEq, Nat.reduceBNe, Nat.reduceSubDiff, Int.reduceLT, Int.reduceLE, Int.reduceEq, Int.reduceNeg, Int.reduceAdd, Int.reduceMul, Int.reduceSub, Int.reduceToNat]
    refine CallD.of c10 ?_
    simp (maxSteps := 2000000) only [go_sem, Nat.reduceEqDiff, Nat.reduceBEq, Nat.reduceLT, Nat.reduceLeDiff, Nat.reduceAdd, Nat.reduceSub, Nat.reduceMul, ↓reduceIte, reduceCtorEq, Nat.reduceBNe, Nat.reduceSubDiff, Int.reduceLT, Int.reduceLE, Int.reduceEq, Int.reduceNeg, Int.reduceAdd, Int.reduceMul, Int.reduceSub, Int.reduceToNat]
    refine CallD.of c11 ?_
    simp (maxSteps := 2000000) only [go_sem, Nat.reduceEqDiff, Nat.reduceBEq, Nat.reduceLT, Nat.reduceLeDiff, Nat.reduceAdd, Nat.reduceSub, Nat.reduceMul, ↓reduceIte, reduceCtorEq, Nat.reduceBNe, Nat.reduceSubDiff, Int.reduceLT, Int.reduceLE, Int.reduceEq, Int.reduceNeg, Int.reduceAdd, Int.reduceMul, Int.reduceSub, Int.reduceToNat]
    refine CallD.of c13 ?_
    simp (maxSteps := 2000000) only [go_sem, Nat.reduceEqDiff, Nat.reduceBEq, Nat.reduceLT, Nat.reduceLeDiff, Nat.reduceAdd, Nat.reduceSub, Nat.reduceMul, ↓reduceIte, reduceCtorEq, Nat.reduceBNe, Nat.reduceSubDiff, Int.reduceLT, Int.reduceLE, Int.reduceEq, Int.reduceNeg, Int.reduceAdd, Int.reduceMul, Int.reduceSub, Int.reduceToNat]
    intro h1
    exfalso; omega
end Go.Av.Tryd
