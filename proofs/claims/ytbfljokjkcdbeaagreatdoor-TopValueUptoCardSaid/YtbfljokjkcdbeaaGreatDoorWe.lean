import Derived.Test.YtbfljokjkcdbeaaGreatDoorWd
import Derived.Test.YtbfljokjkcdbeaaGreatDoorAvE
set_option linter.unusedSimpArgs false
namespace Go.Av.Tryz
open Go.Proofs

/-- The reader: its text, its place, what is wrong. -/
def robj (s : List UInt8) (k : Int) (n : Nat) : AObj := .cells [.d (.str s), .d (.int .i64 k), .d (errD n)]
theorem robj_0 (s : List UInt8) (k : Int) : robj s k 0 = .cells [.d (.str s), .d (.int .i64 k), .d .nil] := rfl
theorem robj_ne (s : List UInt8) (k : Int) {n : Nat} (h : n ≠ 0) : robj s k n = .cells [.d (.str s), .d (.int .i64 k), .d (.iface 50 (.int .i64 n))] := by rw [robj, errD_ne h]

theorem robj_2 (s : List UInt8) (k : Int) : robj s k 2 = .cells [.d (.str s), .d (.int .i64 k), .d (.iface 50 (.int .i64 2))] := rfl
theorem robj_3 (s : List UInt8) (k : Int) : robj s k 3 = .cells [.d (.str s), .d (.int .i64 k), .d (.iface 50 (.int .i64 3))] := rfl
theorem robj_4 (s : List UInt8) (k : Int) : robj s k 4 = .cells [.d (.str s), .d (.int .i64 k), .d (.iface 50 (.int .i64 4))] := rfl
theorem robj_5 (s : List UInt8) (k : Int) : robj s k 5 = .cells [.d (.str s), .d (.int .i64 k), .d (.iface 50 (.int .i64 5))] := rfl
theorem robj_lit : errD 2 = .iface 50 (.int .i64 2) ∧ errD 3 = .iface 50 (.int .i64 3) ∧ errD 4 = .iface 50 (.int .i64 4) ∧ errD 5 = .iface 50 (.int .i64 5) := ⟨rfl, rfl, rfl, rfl⟩

/-- (*parse.reader).fail -/
def L___parse_reader__fail : LCode :=
  .seq (.reg [⟨some 4, .val (.cp (.t 0)), none⟩, ⟨some 5, .val (.nck (.t 4)), none⟩, ⟨some 6, .val (.fa 2 (.t 5)), none⟩, ⟨some 7, .val (.ld false 1 (.t 6)), none⟩, ⟨some 8, .val 
  (.eqN 0 false (.t 7)), none⟩]) (.cond (.t 8) (.reg [⟨some 9, .val (.cp (.t 0)), none⟩, ⟨some 10, .val (.cp (.t 1)), none⟩, ⟨some 11, .val (.nck (.t 9)), none⟩, ⟨some 12, .val 
  (.fa 2 (.t 11)), none⟩, ⟨none, .st 1 (.t 12) (.t 10), none⟩]) .skip)
def R___parse_reader__fail : List LRes := []
theorem lift___parse_reader__fail : Lifts Tryz.prog 34 13 L___parse_reader__fail R___parse_reader__fail := ⟨_, _, Tryz.func34, rfl, by kernel_rfl, by kernel_rfl, rfl⟩

theorem fail_0 (s : List UInt8) (k : Int) (e : Nat) : MCallE Tryz.prog 34 [.ptr (.x 0) 0, .d (errD e)] [robj s k 0] (.tuple []) [robj s k e] := by
  rw [robj_0]
  by_cases h : e = 0
  · subst h
    rw [robj_0, show errD 0 = .nil from rfl]
    refine lift___parse_reader__fail.mcall (by kernel_rfl) rfl ?_
    simp (maxSteps := 2000000) only [go_sem, ↓reduceIte, L___parse_reader__fail, R___parse_reader__fail]
  · rw [robj_ne s k h, errD_ne h]
    refine lift___parse_reader__fail.mcall (by kernel_rfl) rfl ?_
    simp (maxSteps := 2000000) only [go_sem, ↓reduceIte, L___parse_reader__fail, R___parse_reader__fail]
theorem fail_ne (s : List UInt8) (k : Int) {n : Nat} (h : n ≠ 0) (E : D) : MCallE Tryz.prog 34 [.ptr (.x 0) 0, .d E] [robj s k n] (.tuple []) [robj s k n] := by
  rw [robj_ne s k h]
  refine lift___parse_reader__fail.mcall (by kernel_rfl) rfl ?_
  simp (maxSteps := 2000000) only [go_sem, ↓reduceIte, L___parse_reader__fail, R___parse_reader__fail]

/-- internal/stringslite.HasPrefix -/
def L_internal_stringslite_HasPrefix : LCode :=
  .seq (.reg [⟨some 4, .asg (.k (.d (.bool false))), none⟩]) (.seq (.reg [⟨some 5, .val (.cp (.t 0)), none⟩, ⟨some 6, .val (.len true (.t 5)), none⟩, ⟨some 7, .val (.cp (.t 1)), 
  none⟩, ⟨some 8, .val (.len true (.t 7)), none⟩, ⟨some 9, .val (.bin .geq (.t 6) (.t 8)), none⟩, ⟨some 10, .val (.cp (.t 9)), none⟩, ⟨some 11, .val (.cp (.t 0)), some (10, true)⟩, 
  ⟨some 12, .val (.cp (.t 1)), some (10, true)⟩, ⟨some 13, .val (.len true (.t 12)), some (10, true)⟩, ⟨some 14, .val (.subS (.t 11) none (some (.t 13))), some (10, true)⟩, ⟨some 
  15, .val (.cp (.t 1)), some (10, true)⟩, ⟨some 16, .val (.bin .eql (.t 14) (.t 15)), some (10, true)⟩, ⟨some 17, .val (.pick (.t 10) (.t 16) (.k (.d (.bool false)))), none⟩, 
  ⟨some 4, .asg (.t 17), none⟩]) .ret)
def R_internal_stringslite_HasPrefix : List LRes := [.tmp 4]
theorem lift_internal_stringslite_HasPrefix : Lifts Tryz.prog 102 18 L_internal_stringslite_HasPrefix R_internal_stringslite_HasPrefix := ⟨_, _, Tryz.func102, rfl, by kernel_rfl, by kernel_rfl, rfl⟩

/-- strings.HasPrefix -/
def L_strings_HasPrefix : LCode :=
  .seq (.reg [⟨some 4, .asg (.k (.d (.bool false))), none⟩]) (.seq (.reg [⟨some 5, .val (.cp (.t 0)), none⟩, ⟨some 6, .val (.cp (.t 1)), none⟩, ⟨some 7, .call 102 [.t 5, .t 6], 
  none⟩, ⟨some 4, .asg (.t 7), none⟩]) .ret)
def R_strings_HasPrefix : List LRes := [.tmp 4]
theorem lift_strings_HasPrefix : Lifts Tryz.prog 85 8 L_strings_HasPrefix R_strings_HasPrefix := ⟨_, _, Tryz.func85, rfl, by kernel_rfl, by kernel_rfl, rfl⟩

/-- Does a text begin so? -/
def hasPre (s t : List UInt8) : Bool := decide (s.take t.length = t)
theorem hasPrefix_call (s t : List UInt8) : PCall Tryz.prog 85 [.str s, .str t] (fun r => r = .one (.bool (hasPre s t))) := by
  have h : PCall Tryz.prog 102 [.str s, .str t] (fun r => r = .one (.bool (hasPre s t))) := by
    refine lift_internal_stringslite_HasPrefix.call rfl ?_
    simp (maxSteps := 2000000) only [go_sem, ↓reduceIte, L_internal_stringslite_HasPrefix, R_internal_stringslite_HasPrefix]
    refine ⟨fun h => ⟨by omega, ?_⟩, fun h => ?_⟩
    · rw [show (0 : Int) = ((0 : Nat) : Int) from rfl, cutI_nat, List.drop_zero]; rfl
    · have : hasPre s t = false := by
        simp only [hasPre, decide_eq_false_iff_not]
        intro e
        have := congrArg List.length e
        simp at this
        omega
      rw [this]
  refine lift_strings_HasPrefix.call rfl ?_
  simp (maxSteps := 2000000) only [go_sem, ↓reduceIte, L_strings_HasPrefix, R_strings_HasPrefix]
  refine CallG.of h ?_
  simp (maxSteps := 2000000) only [go_sem, ↓reduceIte]

/-- (*parse.reader).next -/
def L___parse_reader__next : LCode :=
  .seq (.reg [⟨some 2, .asg (.k (.d (.int .u8 0))), none⟩]) (.seq (.dreg [⟨some 3, .val (.cp (.t 0)), none⟩, ⟨some 4, .val (.cp (.t 0)), none⟩, ⟨some 5, .val (.nck (.t 4)), none⟩, 
  ⟨some 6, .val (.fa 0 (.t 5)), none⟩, ⟨some 7, .val (.ld false 1 (.t 6)), none⟩, ⟨some 8, .val (.cp (.t 0)), none⟩, ⟨some 9, .val (.nck (.t 8)), none⟩, ⟨some 10, .val (.fa 1 (.t 
  9)), none⟩, ⟨some 11, .val (.ld false 1 (.t 10)), none⟩, ⟨some 12, .call 18 [.t 7, .t 11], none⟩, ⟨some 13, .val (.nck (.t 3)), none⟩, ⟨some 14, .val (.fa 1 (.t 13)), none⟩, 
  ⟨none, .st 1 (.t 14) (.t 12), none⟩]) (.seq (.seq (.dreg [⟨some 15, .val (.cp (.t 0)), none⟩, ⟨some 16, .val (.nck (.t 15)), none⟩, ⟨some 17, .val (.fa 1 (.t 16)), none⟩, ⟨some 
  18, .val (.ld false 1 (.t 17)), none⟩, ⟨some 19, .val (.cp (.t 0)), none⟩, ⟨some 20, .val (.nck (.t 19)), none⟩, ⟨some 21, .val (.fa 0 (.t 20)), none⟩, ⟨some 22, .val (.ld false 
  1 (.t 21)), none⟩, ⟨some 23, .val (.len true (.t 22)), none⟩, ⟨some 24, .val (.bin .lss (.t 18) (.t 23)), none⟩]) (.cond (.t 24) (.seq (.dreg [⟨some 25, .val (.cp (.t 0)), none⟩, 
  ⟨some 26, .val (.nck (.t 25)), none⟩, ⟨some 27, .val (.fa 0 (.t 26)), none⟩, ⟨some 28, .val (.ld false 1 (.t 27)), none⟩, ⟨some 29, .val (.cp (.t 0)), none⟩, ⟨some 30, .val (.nck 
  (.t 29)), none⟩, ⟨some 31, .val (.fa 1 (.t 30)), none⟩, ⟨some 32, .val (.ld false 1 (.t 31)), none⟩, ⟨some 33, .val (.idxS (.t 28) (.t 32)), none⟩, ⟨some 2, .asg (.t 33), none⟩]) 
  .ret) .skip)) (.seq (.reg [⟨some 34, .val (.cp (.t 0)), none⟩, ⟨some 35, .val (.mkI 50 (.k (.d (.int .i64 5)))), none⟩, ⟨some 36, .prim .call [.k (.fn (.func 34) [] []), .t 34, 
  .t 35] [], none⟩]) (.seq (.reg [⟨some 2, .asg (.k (.d (.int .u8 0))), none⟩]) .ret))))
def R___parse_reader__next : List LRes := [.tmp 2]
theorem lift___parse_reader__next : Lifts Tryz.prog 56 37 L___parse_reader__next R___parse_reader__next := ⟨_, _, Tryz.func56, rfl, by kernel_rfl, by kernel_rfl, rfl⟩

theorem next_0 (s : List UInt8) (k : Nat) (hs : s.length ≤ 60000) (hk : k ≤ s.length) : MCallE Tryz.prog 56 [.ptr (.x 0) 0] [robj s k 0]
    (.d (.int .u8 (match s[skipP s k]? with | none => 0 | some c => c.toNat))) [robj s (skipP s k) (match s[skipP s k]? with | none => 5 | some _ => 0)] := by
  have hw := skip_call s ((k : Nat) : Int) (by omega)
  rw [clamp_in hk] at hw
  have hsk := skipP_le hk
  generalize skipP s k = q at *
  rw [robj_0]
  refine lift___parse_reader__next.mcall (by kernel_rfl) rfl ?_
  simp (maxSteps := 2000000) only [go_sem, ↓reduceIte, L___parse_reader__next, R___parse_reader__next]
  refine CallD.of hw ?_
  simp (maxSteps := 2000000) only [go_sem, ↓reduceIte]
  refine ⟨fun h1 => ?_, fun h1 => ?_⟩
  · obtain ⟨c, hc⟩ := get_some (l := s) (i := q) (by omega)
    simp (maxSteps := 2000000) only [go_sem, ↓reduceIte, getI_nat, hc]
    rfl
  · rw [List.getElem?_eq_none (by omega)]
    have hf := fail_0 s (q : Int) 5
    rw [robj_0, show errD 5 = .iface 50 (.int .i64 5) from rfl] at hf
    refine PrimG.mcall ([.x 0]) ([]) rfl (hf) rfl rfl (by simp only [objsAt, St.obj, aget, AObj.ren, AV.ren, AV.ren1, renL, ren1L, renR, renQ, List.getD_cons_zero, List.getD_cons_succ, and_true, and_self, Nat.reduceEqDiff, ↓reduceIte, reduceCtorEq]) rfl rfl rfl ⟨rfl, rfl⟩ ?_
    simp (maxSteps := 2000000) only [go_sem, ↓reduceIte, robj]
theorem next_ne (s : List UInt8) (k : Int) {n : Nat} (hn : n ≠ 0) (hs : s.length ≤ 60000) : ∃ c : Int, MCallE Tryz.prog 56 [.ptr (.x 0) 0] [robj s k n] (.d (.int .u8 c)) [robj s (skipP s (clampP s k)) n] := by
  have hw := skip_call s k (by omega)
  have hsk := skipP_le (clamp_le s k)
  generalize skipP s (clampP s k) = q at *
  rcases Nat.lt_or_ge q s.length with h | h
  · obtain ⟨c, hc⟩ := get_some (l := s) (i := q) h
    refine ⟨c.toNat, ?_⟩
    rw [robj_ne s k hn, robj_ne s q hn]
    refine lift___parse_reader__next.mcall (by kernel_rfl) rfl ?_
    simp (maxSteps := 2000000) only [go_sem, ↓reduceIte, L___parse_reader__next, R___parse_reader__next]
    refine CallD.of hw ?_
    have e1 : ((q : Int) < s.length) = True := by simp only [eq_iff_iff, iff_true]; omega
    simp (maxSteps := 2000000) only [go_sem, ↓reduceIte, getI_nat, hc, e1]
  · refine ⟨0, ?_⟩
    have hf := fail_ne s (q : Int) hn (errD 5)
    rw [robj_ne s q hn, show errD 5 = .iface 50 (.int .i64 5) from rfl] at hf
    rw [robj_ne s k hn, robj_ne s q hn]
    refine lift___parse_reader__next.mcall (by kernel_rfl) rfl ?_
    simp (maxSteps := 2000000) only [go_sem, ↓reduceIte, L___parse_reader__next, R___parse_reader__next]
    refine CallD.of hw ?_
    have e1 : ((q : Int) < s.length) = False := by simp only [eq_iff_iff, iff_false]; omega
    simp (maxSteps := 2000000) only [go_sem, ↓reduceIte, e1]
    refine PrimG.mcall ([.x 0]) ([]) rfl (hf) rfl rfl (by simp only [objsAt, St.obj, aget, AObj.ren, AV.ren, AV.ren1, renL, ren1L, renR, renQ, List.getD_cons_zero, List.getD_cons_succ, and_true, and_self, Nat.reduceEqDiff, ↓reduceIte, reduceCtorEq]) rfl rfl rfl ⟨rfl, rfl⟩ ?_
    simp (maxSteps := 2000000) only [go_sem, ↓reduceIte]

/-- (*parse.reader).eat -/
def L___parse_reader__eat : LCode :=
  .seq (.reg [⟨some 4, .asg (.k (.d (.bool false))), none⟩]) (.seq (.dreg [⟨some 6, .val (.cp (.t 0)), none⟩, ⟨some 7, .val (.nck (.t 6)), none⟩, ⟨some 8, .val (.fa 2 (.t 7)), none⟩, 
  ⟨some 9, .val (.ld false 1 (.t 8)), none⟩, ⟨some 10, .val (.eqN 0 false (.t 9)), none⟩, ⟨some 11, .val (.cp (.t 10)), none⟩, ⟨some 12, .val (.cp (.t 0)), some (11, true)⟩, ⟨some 
  13, .val (.nck (.t 12)), some (11, true)⟩, ⟨some 14, .val (.fa 0 (.t 13)), some (11, true)⟩, ⟨some 15, .val (.ld false 1 (.t 14)), some (11, true)⟩, ⟨some 16, .val (.cp (.t 0)), 
  some (11, true)⟩, ⟨some 17, .val (.nck (.t 16)), some (11, true)⟩, ⟨some 18, .val (.fa 1 (.t 17)), some (11, true)⟩, ⟨some 19, .val (.ld false 1 (.t 18)), some (11, true)⟩, ⟨some 
  20, .val (.subS (.t 15) (some (.t 19)) none), some (11, true)⟩, ⟨some 21, .val (.cp (.t 1)), some (11, true)⟩, ⟨some 22, .call 85 [.t 20, .t 21], some (11, true)⟩, ⟨some 23, .val 
  (.pick (.t 11) (.t 22) (.k (.d (.bool false)))), none⟩, ⟨some 5, .asg (.t 23), none⟩]) (.seq (.seq (.reg [⟨some 24, .val (.cp (.t 5)), none⟩]) (.cond (.t 24) (.reg [⟨some 25, 
  .val (.cp (.t 0)), none⟩, ⟨some 26, .val (.nck (.t 25)), none⟩, ⟨some 27, .val (.fa 1 (.t 26)), none⟩, ⟨some 28, .val (.ld false 1 (.t 27)), none⟩, ⟨some 29, .val (.cp (.t 1)), 
  none⟩, ⟨some 30, .val (.len true (.t 29)), none⟩, ⟨some 31, .val (.bin .add (.t 28) (.t 30)), none⟩, ⟨some 32, .val (.nck (.t 25)), none⟩, ⟨some 33, .val (.fa 1 (.t 32)), none⟩, 
  ⟨none, .st 1 (.t 33) (.t 31), none⟩]) .skip)) (.seq (.reg [⟨some 34, .val (.cp (.t 5)), none⟩, ⟨some 4, .asg (.t 34), none⟩]) .ret)))
def R___parse_reader__eat : List LRes := [.tmp 4]
theorem lift___parse_reader__eat : Lifts Tryz.prog 60 35 L___parse_reader__eat R___parse_reader__eat := ⟨_, _, Tryz.func60, rfl, by kernel_rfl, by kernel_rfl, rfl⟩

theorem eat_0 (s : List UInt8) (k : Nat) (t : List UInt8) (hs : s.length ≤ 60000) (hk : k ≤ s.length) (ht : t.length ≤ 10) : MCallE Tryz.prog 60 [.ptr (.x 0) 0, .d (.str t)] [robj s k 0]
    (.d (.bool (hasPre (s.drop k) t))) [robj s (if hasPre (s.drop k) t = true then (k : Int) + t.length else k) 0] := by
  have hp := hasPrefix_call (s.drop k) t
  generalize hasPre (s.drop k) t = b at *
  rw [robj_0]
  refine lift___parse_reader__eat.mcall (by kernel_rfl) rfl ?_
  simp (maxSteps := 2000000) only [go_sem, ↓reduceIte, L___parse_reader__eat, R___parse_reader__eat]
  rw [show (s.length : Int) = ((s.length : Nat) : Int) from rfl, cutI_nat, List.take_length]
  refine ⟨by omega, ?_⟩
  refine CallD.of hp ?_
  simp (maxSteps := 2000000) only [go_sem, ↓reduceIte]
  refine ⟨fun h => ?_, fun h => ?_⟩
  · simp (disch := omega) only [IntWalk.i64_in, IntWalk.u8_in]
    rw [if_pos h]; rfl
  · rw [if_neg (by simp [h])]; rfl
theorem eat_ne (s : List UInt8) (k : Int) (t : List UInt8) {n : Nat} (hn : n ≠ 0) : MCallE Tryz.prog 60 [.ptr (.x 0) 0, .d (.str t)] [robj s k n] (.d (.bool false)) [robj s k n] := by
  rw [robj_ne s k hn]
  refine lift___parse_reader__eat.mcall (by kernel_rfl) rfl ?_
  simp (maxSteps := 2000000) only [go_sem, ↓reduceIte, L___parse_reader__eat, R___parse_reader__eat]

/-- (*parse.reader).str -/
def L___parse_reader__str : LCode :=
  .seq (.reg [⟨some 4, .allo [.int .i64 0, .int .i64 0, .str [], .list [], .list []], none⟩]) (.seq (.seq (.reg [⟨some 5, .val (.cp (.t 1)), none⟩, ⟨some 6, .val (.len true (.t 5)), 
  none⟩, ⟨some 7, .val (.bin .gtr (.t 6) (.k (.d (.int .i64 200)))), none⟩]) (.cond (.t 7) (.reg [⟨some 8, .val (.cp (.t 0)), none⟩, ⟨some 9, .val (.mkI 50 (.k (.d (.int .i64 
  2)))), none⟩, ⟨some 10, .prim .call [.k (.fn (.func 34) [] []), .t 8, .t 9] [], none⟩]) .skip)) (.seq (.reg [⟨some 11, .val (.cp (.t 1)), none⟩, ⟨some 12, .val (.bld [(0, 1), (1, 
  1), (2, 1), (3, 1), (4, 1)] [.int .i64 0, .int .i64 0, .str [], .list [], .list []] [false, false, false, true, true] [(0, .k (.d (.int .i64 3))), (2, .t 11)]), none⟩, ⟨none, .st 
  5 (.t 4) (.t 12), none⟩]) .ret))
def R___parse_reader__str : List LRes := [.cell 4 true 5]
theorem lift___parse_reader__str : Lifts Tryz.prog 58 13 L___parse_reader__str R___parse_reader__str := ⟨_, _, Tryz.func58, rfl, by kernel_rfl, by kernel_rfl, rfl⟩

theorem str_0 (s : List UInt8) (k : Int) (t : List UInt8) : MCallE Tryz.prog 58 [.ptr (.x 0) 0, .d (.str t)] [robj s k 0] (.d (strV t).d) [robj s k (if t.length ≤ 200 then 0 else 2)] := by
  have hf := fail_0 s k 2
  rw [show errD 2 = .iface 50 (.int .i64 2) from rfl] at hf
  rw [robj_0] at hf ⊢
  refine lift___parse_reader__str.mcall (by kernel_rfl) rfl ?_
  simp (maxSteps := 2000000) only [go_sem, ↓reduceIte, L___parse_reader__str, R___parse_reader__str]
  refine ⟨fun h => ?_, fun h => ?_⟩
  · refine PrimG.mcall ([.x 0]) ([]) rfl (hf) rfl rfl (by simp only [objsAt, St.obj, aget, AObj.ren, AV.ren, AV.ren1, renL, ren1L, renR, renQ, List.getD_cons_zero, List.getD_cons_succ, and_true, and_self, Nat.reduceEqDiff, ↓reduceIte, reduceCtorEq]) rfl rfl rfl ⟨rfl, rfl⟩ ?_
    simp (maxSteps := 2000000) only [go_sem, ↓reduceIte, robj]
    rw [if_neg (by omega), Val.d_eq]
    exact ⟨rfl, rfl⟩
  · rw [if_pos (by omega), Val.d_eq]
    exact ⟨rfl, rfl⟩
theorem str_ne (s : List UInt8) (k : Int) (t : List UInt8) {n : Nat} (hn : n ≠ 0) : MCallE Tryz.prog 58 [.ptr (.x 0) 0, .d (.str t)] [robj s k n] (.d (strV t).d) [robj s k n] := by
  have hf := fail_ne s k hn (errD 2)
  rw [show errD 2 = .iface 50 (.int .i64 2) from rfl] at hf
  rw [robj_ne s k hn] at hf ⊢
  refine lift___parse_reader__str.mcall (by kernel_rfl) rfl ?_
  simp (maxSteps := 2000000) only [go_sem, ↓reduceIte, L___parse_reader__str, R___parse_reader__str]
  refine ⟨fun h => ?_, fun h => ?_⟩
  · refine PrimG.mcall ([.x 0]) ([]) rfl (hf) rfl rfl (by simp only [objsAt, St.obj, aget, AObj.ren, AV.ren, AV.ren1, renL, ren1L, renR, renQ, List.getD_cons_zero, List.getD_cons_succ, and_true, and_self, Nat.reduceEqDiff, ↓reduceIte, reduceCtorEq]) rfl rfl rfl ⟨rfl, rfl⟩ ?_
    simp (maxSteps := 2000000) only [go_sem, ↓reduceIte]
    rw [Val.d_eq]; rfl
  · rw [Val.d_eq]; rfl
end Go.Av.Tryz
set_option linter.unusedSimpArgs false
namespace Go.Av.Tryz
open Go.Proofs

/-- What name leaves. -/
def namePost (s : List UInt8) : Option (List UInt8 × Nat) → AV → List AObj → Prop
  | some (b, k), r, hs => r = .d (.str b) ∧ hs = [robj s k 0]
  | none, r, hs => ∃ (b : List UInt8) (k : Int), r = .d (.str b) ∧ hs = [robj s k 4]

/-- (*parse.reader).name -/
def L___parse_reader__name : LCode :=
  .seq (.reg [⟨some 2, .asg (.k (.d (.str []))), none⟩]) (.seq (.reg [⟨some 6, .val (.cp (.t 0)), none⟩, ⟨some 7, .val (.nck (.t 6)), none⟩, ⟨some 8, .val (.fa 1 (.t 7)), none⟩, 
  ⟨some 9, .val (.ld false 1 (.t 8)), none⟩, ⟨some 10, .val (.bin .add (.t 9) (.k (.d (.int .i64 1)))), none⟩, ⟨some 11, .val (.nck (.t 6)), none⟩, ⟨some 12, .val (.fa 1 (.t 11)), 
  none⟩, ⟨none, .st 1 (.t 12) (.t 10), none⟩]) (.seq (.dreg [⟨some 13, .val (.cp (.t 0)), none⟩, ⟨some 14, .val (.nck (.t 13)), none⟩, ⟨some 15, .val (.fa 0 (.t 14)), none⟩, ⟨some 
  16, .val (.ld false 1 (.t 15)), none⟩, ⟨some 17, .val (.cp (.t 0)), none⟩, ⟨some 18, .val (.nck (.t 17)), none⟩, ⟨some 19, .val (.fa 1 (.t 18)), none⟩, ⟨some 20, .val (.ld false 
  1 (.t 19)), none⟩, ⟨some 21, .call 19 [.t 16, .t 20], none⟩, ⟨some 3, .asg (.t 21), none⟩]) (.seq (.reg [⟨some 22, .val (.cp (.t 0)), none⟩, ⟨some 23, .val (.nck (.t 22)), none⟩, 
  ⟨some 24, .val (.fa 1 (.t 23)), none⟩, ⟨some 25, .val (.ld false 1 (.t 24)), none⟩, ⟨some 26, .val (.cp (.t 3)), none⟩, ⟨some 27, .val (.len true (.t 26)), none⟩, ⟨some 28, .val 
  (.bin .add (.t 25) (.t 27)), none⟩, ⟨some 29, .val (.nck (.t 22)), none⟩, ⟨some 30, .val (.fa 1 (.t 29)), none⟩, ⟨none, .st 1 (.t 30) (.t 28), none⟩]) (.seq (.reg [⟨some 4, .nils 
  5 1, none⟩]) (.seq (.seq (.reg [⟨some 5, .asg (.k (.d (.int .i64 0))), none⟩]) (.block 0 (.loop (.seq (.seq (.reg [⟨some 31, .val (.cp (.t 5)), none⟩, ⟨some 32, .val (.cp (.t 
  3)), none⟩, ⟨some 33, .val (.len true (.t 32)), none⟩, ⟨some 34, .val (.bin .lss (.t 31) (.t 33)), none⟩]) (.cond (.t 34) .skip (.exit 0))) (.seq (.block 1 (.seq (.seq (.reg 
  [⟨some 37, .val (.cp (.t 3)), none⟩, ⟨some 38, .val (.cp (.t 5)), none⟩, ⟨some 39, .val (.idxS (.t 37) (.t 38)), none⟩, ⟨some 40, .val (.bin .neq (.t 39) (.k (.d (.int .u8 
  35)))), none⟩]) (.cond (.t 40) (.seq (.reg [⟨some 41, .val (.cp (.t 4)), none⟩, ⟨some 42, .val (.cp (.t 3)), none⟩, ⟨some 43, .val (.cp (.t 5)), none⟩, ⟨some 44, .val (.idxS (.t 
  42) (.t 43)), none⟩, ⟨some 45, .bsl 5 1 [.t 44], none⟩, ⟨some 46, .app 5 1 1 false (.t 41) (.t 45), none⟩, ⟨some 4, .asg (.t 46), none⟩]) (.exit 1)) .skip)) (.seq (.seq (.reg 
  [⟨some 47, .val (.cp (.t 5)), none⟩, ⟨some 48, .val (.bin .add (.t 47) (.k (.d (.int .i64 2)))), none⟩, ⟨some 49, .val (.cp (.t 3)), none⟩, ⟨some 50, .val (.len true (.t 49)), 
  none⟩, ⟨some 51, .val (.bin .geq (.t 48) (.t 50)), none⟩, ⟨some 52, .val (.cp (.t 51)), none⟩, ⟨some 53, .val (.cp (.t 3)), some (52, false)⟩, ⟨some 54, .val (.cp (.t 5)), some 
  (52, false)⟩, ⟨some 55, .val (.bin .add (.t 54) (.k (.d (.int .i64 1)))), some (52, false)⟩, ⟨some 56, .val (.idxS (.t 53) (.t 55)), some (52, false)⟩, ⟨some 57, .call 83 [.t 
  56], some (52, false)⟩, ⟨some 58, .val (.bin .lss (.t 57) (.k (.d (.int .i64 0)))), some (52, false)⟩, ⟨some 59, .val (.pick (.t 52) (.k (.d (.bool true))) (.t 58)), none⟩, ⟨some 
  60, .val (.cp (.t 59)), none⟩, ⟨some 61, .val (.cp (.t 3)), some (60, false)⟩, ⟨some 62, .val (.cp (.t 5)), some (60, false)⟩, ⟨some 63, .val (.bin .add (.t 62) (.k (.d (.int 
  .i64 2)))), some (60, false)⟩, ⟨some 64, .val (.idxS (.t 61) (.t 63)), some (60, false)⟩, ⟨some 65, .call 83 [.t 64], some (60, false)⟩, ⟨some 66, .val (.bin .lss (.t 65) (.k (.d 
  (.int .i64 0)))), some (60, false)⟩, ⟨some 67, .val (.pick (.t 60) (.k (.d (.bool true))) (.t 66)), none⟩]) (.cond (.t 67) (.seq (.reg [⟨some 68, .val (.cp (.t 0)), none⟩, ⟨some 
  69, .val (.mkI 50 (.k (.d (.int .i64 4)))), none⟩, ⟨some 70, .prim .call [.k (.fn (.func 34) [] []), .t 68, .t 69] [], none⟩]) (.seq (.reg [⟨some 2, .asg (.k (.d (.str []))), 
  none⟩]) .ret)) .skip)) (.seq (.dreg [⟨some 71, .val (.cp (.t 4)), none⟩, ⟨some 72, .val (.cp (.t 3)), none⟩, ⟨some 73, .val (.cp (.t 5)), none⟩, ⟨some 74, .val (.bin .add (.t 73) 
  (.k (.d (.int .i64 1)))), none⟩, ⟨some 75, .val (.idxS (.t 72) (.t 74)), none⟩, ⟨some 76, .call 83 [.t 75], none⟩, ⟨some 77, .val (.bin .mul (.k (.d (.int .i64 16))) (.t 76)), 
  none⟩, ⟨some 78, .val (.cp (.t 3)), none⟩, ⟨some 79, .val (.cp (.t 5)), none⟩, ⟨some 80, .val (.bin .add (.t 79) (.k (.d (.int .i64 2)))), none⟩, ⟨some 81, .val (.idxS (.t 78) 
  (.t 80)), none⟩, ⟨some 82, .call 83 [.t 81], none⟩, ⟨some 83, .val (.bin .add (.t 77) (.t 82)), none⟩, ⟨some 84, .val (.cvI .u8 (.t 83)), none⟩, ⟨some 85, .bsl 5 1 [.t 84], 
  none⟩, ⟨some 86, .app 5 1 1 false (.t 71) (.t 85), none⟩, ⟨some 4, .asg (.t 86), none⟩]) (.reg [⟨some 87, .val (.cp (.t 5)), none⟩, ⟨some 88, .val (.bin .add (.t 87) (.k (.d 
  (.int .i64 2)))), none⟩, ⟨some 5, .asg (.t 88), none⟩]))))) (.reg [⟨some 35, .val (.cp (.t 5)), none⟩, ⟨some 36, .val (.bin .add (.t 35) (.k (.d (.int .i64 1)))), none⟩, ⟨some 5, 
  .asg (.t 36), none⟩])))))) (.seq (.seq (.reg [⟨some 89, .val (.cp (.t 4)), none⟩, ⟨some 90, .val (.b2s (.t 89)), none⟩, ⟨some 91, .call 77 [.t 90], none⟩, ⟨some 92, .val (.not 
  (.t 91)), none⟩]) (.cond (.t 92) (.reg [⟨some 93, .val (.cp (.t 0)), none⟩, ⟨some 94, .val (.mkI 50 (.k (.d (.int .i64 4)))), none⟩, ⟨some 95, .prim .call [.k (.fn (.func 34) [] 
  []), .t 93, .t 94] [], none⟩]) .skip)) (.seq (.reg [⟨some 96, .val (.cp (.t 4)), none⟩, ⟨some 97, .val (.b2s (.t 96)), none⟩, ⟨some 2, .asg (.t 97), none⟩]) .ret)))))))
def R___parse_reader__name : List LRes := [.tmp 2]
theorem lift___parse_reader__name : Lifts Tryz.prog 57 98 L___parse_reader__name R___parse_reader__name := ⟨_, _, Tryz.func57, rfl, by kernel_rfl, by kernel_rfl, rfl⟩

theorem name_call (s : List UInt8) (k : Nat) (hs : s.length ≤ 60000) (hk : k < s.length) : MCall Tryz.prog 57 [.ptr (.x 0) 0] [robj s k 0] (namePost s (nameAt s k)) := by
  have hw := word_call s ((k + 1 : Nat) : Int) (by omega)
  rw [clamp_in (by omega)] at hw
  have hwl := wordP_len s (k + 1)
  generalize hR : nameAt s k = R
  unfold nameAt at hR
  generalize wordP s (k + 1) = w at *
  rw [Int.natCast_add, Int.natCast_one] at hw
  rw [robj_0]
  refine lift___parse_reader__name.mcall (by kernel_rfl) rfl ?_
  simp (maxSteps := 2000000) (disch := omega) only [go_sem, ↓reduceIte, L___parse_reader__name, R___parse_reader__name]
  refine CallD.of hw ?_
  simp (maxSteps := 2000000) (disch := omega) only [go_sem, ↓reduceIte]
  refine run_loop (fun y : Nat × List UInt8 => ⟨[(0, .ptr (.x 0) 0), (3, .d (.str w)), (4, .own (.t 4) 5 1 (bytesD y.2)), (5, .d (.int .i64 y.1))], [], [(0, .cells [.d (.str s), .d (.int .i64 ((k : Int) + 1 + w.length)), .d .nil])]⟩)
    (fun y => y.1 ≤ w.length ∧ y.2.length ≤ y.1 ∧ nameF (w.drop y.1) y.2 = nameF w []) (fun y => w.length - y.1) (0, []) ?_ ?_ ?_
  · refine Weak.mk ?_ ?_ ?_ <;> simp (maxSteps := 2000000) only [go_sem, ↓reduceIte, Sub, Int.natCast_add, Int.natCast_mul, bytesD]
  · exact ⟨by simp, by simp, by simp⟩
  · rintro ⟨i, b⟩ ⟨hi, hb, hF⟩
    simp only at hi hb hF
    have hblen := bytesD_length b
    have hf := fail_0 s ((k : Int) + 1 + w.length) 4
    rw [robj_0, show errD 4 = .iface 50 (.int .i64 4) from rfl] at hf
    simp (maxSteps := 2000000) only [go_sem, ↓reduceIte]
    refine ⟨fun hlt => ?_, fun hge => ?_⟩
    · obtain ⟨c, hc⟩ := get_some (l := w) (i := i) (by omega)
      have hc8 := u8_lt c
      rw [drop_at hc] at hF
      have bad : R = none → namePost s R (.d (.str [])) [robj s ((k : Int) + 1 + w.length) 4] := fun e => by rw [e]; exact ⟨[], _, rfl, rfl⟩
      simp (maxSteps := 2000000) only [go_sem, ↓reduceIte, getI_nat, hc]
      refine ⟨fun h1 => ?_, fun h1 => ⟨fun h2 => ?_, fun h2 => ?_⟩⟩
      · rw [nameF_one (by omega)] at hF
        simp (disch := omega) only [IntWalk.i64_in, IntWalk.u8_in]
        refine ⟨by omega, (i + 1, b ++ [c]), ?_, ⟨by simp only; omega, by simp only [List.length_append, List.length_cons, List.length_nil]; omega, hF⟩, by simp only; omega⟩
        refine Weak.mk ?_ ?_ ?_ <;> simp (maxSteps := 2000000) only [go_sem, ↓reduceIte, Sub, Int.natCast_add, Int.natCast_mul, bytesD_append, bytesD_cons, bytesD_nil]
      · rw [IntWalk.i64_in _ (by omega)] at h2
        obtain ⟨x, hx⟩ := get_some (l := w) (i := i + 1) (by omega)
        obtain ⟨y, hy⟩ := get_some (l := w) (i := i + 2) (by omega)
        have hx8 := u8_lt x
        have hy8 := u8_lt y
        have hxb := hexI_bounds x.toNat
        have hyb := hexI_bounds y.toNat
        rw [drop_at hx, drop_at hy, nameF_hex (by omega)] at hF
        have g1 : getI w ((i : Int) + 1) = some x := by rw [getI_add1, hx]
        have g2 : getI w ((i : Int) + 2) = some y := by rw [show (i : Int) + 2 = ((i + 2 : Nat) : Int) by omega, getI_nat, hy]
        simp (maxSteps := 2000000) (disch := omega) only [go_sem, ↓reduceIte, g1]
        refine CallG.of (hex_call (n := x.toNat) (by omega)) ?_
        simp (maxSteps := 2000000) (disch := omega) only [go_sem, ↓reduceIte]
        refine ⟨fun h3 => ?_, fun h3 => ?_⟩
        · simp (maxSteps := 2000000) (disch := omega) only [go_sem, ↓reduceIte, g2]
          refine CallG.of (hex_call (n := y.toNat) (by omega)) ?_
          simp (maxSteps := 2000000) (disch := omega) only [go_sem, ↓reduceIte]
          refine ⟨fun h4 => ?_, fun h4 => ?_⟩
          · rw [if_pos (.inr h4)] at hF
            rw [← hF] at hR
            refine PrimG.mcall ([.x 0]) ([]) rfl (hf) rfl rfl (by simp only [objsAt, St.obj, aget, AObj.ren, AV.ren, AV.ren1, renL, ren1L, renR, renQ, List.getD_cons_zero, List.getD_cons_succ, and_true, and_self, Nat.reduceEqDiff, ↓reduceIte, reduceCtorEq]) rfl rfl rfl ⟨rfl, rfl⟩ ?_
            simp (maxSteps := 2000000) only [go_sem, ↓reduceIte, robj]
            exact bad hR.symm
          · rw [if_neg (by omega)] at hF
            have hsn := bytesD_snocI (b := b) (n := 16 * hexI x.toNat + hexI y.toNat) (by omega) (by omega)
            simp (maxSteps := 2000000) (disch := omega) only [go_sem, ↓reduceIte, g1]
            refine CallD.of (hex_call (n := x.toNat) (by omega)) ?_
            simp (maxSteps := 2000000) (disch := omega) only [go_sem, ↓reduceIte, g2]
            refine CallD.of (hex_call (n := y.toNat) (by omega)) ?_
            simp (maxSteps := 2000000) (disch := omega) only [go_sem, ↓reduceIte]
            rw [hsn]
            refine ⟨by omega, (i + 3, b ++ [byteI (16 * hexI x.toNat + hexI y.toNat)]), ?_, ⟨by simp only; omega, by simp only [List.length_append, List.length_cons, List.length_nil]; omega, hF⟩, by simp only; omega⟩
            have e3 : ((i + 3 : Nat) : Int) = (i : Int) + 2 + 1 := by omega
            refine Weak.mk ?_ ?_ ?_ <;> simp (maxSteps := 2000000) only [go_sem, ↓reduceIte, Sub, Int.natCast_add, Int.natCast_mul, e3]
        · rw [if_pos (.inl h3)] at hF
          rw [← hF] at hR
          refine PrimG.mcall ([.x 0]) ([]) rfl (hf) rfl rfl (by simp only [objsAt, St.obj, aget, AObj.ren, AV.ren, AV.ren1, renL, ren1L, renR, renQ, List.getD_cons_zero, List.getD_cons_succ, and_true, and_self, Nat.reduceEqDiff, ↓reduceIte, reduceCtorEq]) rfl rfl rfl ⟨rfl, rfl⟩ ?_
          simp (maxSteps := 2000000) only [go_sem, ↓reduceIte, robj]
          exact bad hR.symm
      · rw [IntWalk.i64_in _ (by omega)] at h2
        rw [nameF_end (by omega) (by rw [List.length_drop]; omega)] at hF
        rw [← hF] at hR
        refine PrimG.mcall ([.x 0]) ([]) rfl (hf) rfl rfl (by simp only [objsAt, St.obj, aget, AObj.ren, AV.ren, AV.ren1, renL, ren1L, renR, renQ, List.getD_cons_zero, List.getD_cons_succ, and_true, and_self, Nat.reduceEqDiff, ↓reduceIte, reduceCtorEq]) rfl rfl rfl ⟨rfl, rfl⟩ ?_
        simp (maxSteps := 2000000) only [go_sem, ↓reduceIte, robj]
        exact bad hR.symm
    · rw [List.drop_eq_nil_of_le (by omega), nameF] at hF
      rw [← hF] at hR
      simp (maxSteps := 2000000) only [go_sem, ↓reduceIte, bytesOf_bytesD]
      refine CallG.of (nameMay_call b) ?_
      simp (maxSteps := 2000000) only [go_sem, ↓reduceIte]
      refine ⟨fun h1 => ?_, fun h1 => ?_⟩
      · refine PrimG.mcall ([.x 0]) ([]) rfl (hf) rfl rfl (by simp only [objsAt, St.obj, aget, AObj.ren, AV.ren, AV.ren1, renL, ren1L, renR, renQ, List.getD_cons_zero, List.getD_cons_succ, and_true, and_self, Nat.reduceEqDiff, ↓reduceIte, reduceCtorEq]) rfl rfl rfl ⟨rfl, rfl⟩ ?_
        simp (maxSteps := 2000000) only [go_sem, ↓reduceIte, robj, bytesOf_bytesD]
        rw [← hR]
        simp only [h1]
        exact ⟨b, _, rfl, rfl⟩
      · simp (maxSteps := 2000000) only [go_sem, ↓reduceIte, bytesOf_bytesD]
        rw [← hR]
        simp only [h1, if_true]
        refine ⟨rfl, ?_⟩
        simp only [robj, Int.natCast_add, Int.natCast_one]; rfl

/-- (*parse.reader).hexed -/
def L___parse_reader__hexed : LCode :=
  .seq (.reg [⟨some 2, .asg (.k (.d (.str []))), none⟩]) (.seq (.reg [⟨some 7, .val (.cp (.t 0)), none⟩, ⟨some 8, .val (.nck (.t 7)), none⟩, ⟨some 9, .val (.fa 1 (.t 8)), none⟩, 
  ⟨some 10, .val (.ld false 1 (.t 9)), none⟩, ⟨some 11, .val (.bin .add (.t 10) (.k (.d (.int .i64 1)))), none⟩, ⟨some 12, .val (.nck (.t 7)), none⟩, ⟨some 13, .val (.fa 1 (.t 
  12)), none⟩, ⟨none, .st 1 (.t 13) (.t 11), none⟩]) (.seq (.reg [⟨some 3, .nils 5 1, none⟩]) (.seq (.reg [⟨some 4, .asg (.k (.d (.int .i64 (-1)))), none⟩]) (.seq (.block 0 (.loop 
  (.seq (.seq (.dreg [⟨some 14, .val (.cp (.t 0)), none⟩, ⟨some 15, .val (.nck (.t 14)), none⟩, ⟨some 16, .val (.fa 1 (.t 15)), none⟩, ⟨some 17, .val (.ld false 1 (.t 16)), none⟩, 
  ⟨some 18, .val (.cp (.t 0)), none⟩, ⟨some 19, .val (.nck (.t 18)), none⟩, ⟨some 20, .val (.fa 0 (.t 19)), none⟩, ⟨some 21, .val (.ld false 1 (.t 20)), none⟩, ⟨some 22, .val (.len 
  true (.t 21)), none⟩, ⟨some 23, .val (.bin .lss (.t 17) (.t 22)), none⟩]) (.cond (.t 23) .skip (.exit 0))) (.seq (.block 1 (.seq (.dreg [⟨some 31, .val (.cp (.t 0)), none⟩, ⟨some 
  32, .val (.nck (.t 31)), none⟩, ⟨some 33, .val (.fa 0 (.t 32)), none⟩, ⟨some 34, .val (.ld false 1 (.t 33)), none⟩, ⟨some 35, .val (.cp (.t 0)), none⟩, ⟨some 36, .val (.nck (.t 
  35)), none⟩, ⟨some 37, .val (.fa 1 (.t 36)), none⟩, ⟨some 38, .val (.ld false 1 (.t 37)), none⟩, ⟨some 39, .val (.idxS (.t 34) (.t 38)), none⟩, ⟨some 5, .asg (.t 39), none⟩]) 
  (.seq (.reg [⟨some 40, .val (.cp (.t 5)), none⟩, ⟨some 41, .call 83 [.t 40], none⟩, ⟨some 6, .asg (.t 41), none⟩]) (.block 2 (.seq (.reg [⟨some 51, .val (.cp (.t 5)), none⟩, 
  ⟨some 52, .val (.bin .eql (.t 51) (.k (.d (.int .u8 62)))), none⟩, ⟨some 50, .asg (.t 52), none⟩]) (.cond (.t 50) (.seq (.reg [⟨some 53, .val (.cp (.t 0)), none⟩, ⟨some 54, .val 
  (.nck (.t 53)), none⟩, ⟨some 55, .val (.fa 1 (.t 54)), none⟩, ⟨some 56, .val (.ld false 1 (.t 55)), none⟩, ⟨some 57, .val (.bin .add (.t 56) (.k (.d (.int .i64 1)))), none⟩, 
  ⟨some 58, .val (.nck (.t 53)), none⟩, ⟨some 59, .val (.fa 1 (.t 58)), none⟩, ⟨none, .st 1 (.t 59) (.t 57), none⟩]) (.seq (.seq (.reg [⟨some 60, .val (.cp (.t 4)), none⟩, ⟨some 
  61, .val (.bin .geq (.t 60) (.k (.d (.int .i64 0)))), none⟩]) (.cond (.t 61) (.reg [⟨some 62, .val (.cp (.t 3)), none⟩, ⟨some 63, .val (.cp (.t 4)), none⟩, ⟨some 64, .val (.bin 
  .mul (.k (.d (.int .i64 16))) (.t 63)), none⟩, ⟨some 65, .val (.cvI .u8 (.t 64)), none⟩, ⟨some 66, .bsl 5 1 [.t 65], none⟩, ⟨some 67, .app 5 1 1 false (.t 62) (.t 66), none⟩, 
  ⟨some 3, .asg (.t 67), none⟩]) .skip)) (.seq (.reg [⟨some 68, .val (.cp (.t 3)), none⟩, ⟨some 69, .val (.b2s (.t 68)), none⟩, ⟨some 2, .asg (.t 69), none⟩]) .ret))) (.seq (.reg 
  [⟨some 71, .val (.cp (.t 5)), none⟩, ⟨some 72, .call 38 [.t 71], none⟩, ⟨some 70, .asg (.t 72), none⟩]) (.cond (.t 70) .skip (.seq (.reg [⟨some 74, .val (.cp (.t 6)), none⟩, 
  ⟨some 75, .val (.bin .lss (.t 74) (.k (.d (.int .i64 0)))), none⟩, ⟨some 73, .asg (.t 75), none⟩]) (.cond (.t 73) (.seq (.reg [⟨some 76, .val (.cp (.t 0)), none⟩, ⟨some 77, .val 
  (.mkI 50 (.k (.d (.int .i64 4)))), none⟩, ⟨some 78, .prim .call [.k (.fn (.func 34) [] []), .t 76, .t 77] [], none⟩]) (.seq (.reg [⟨some 2, .asg (.k (.d (.str []))), none⟩]) 
  .ret)) (.seq (.reg [⟨some 80, .val (.cp (.t 4)), none⟩, ⟨some 81, .val (.bin .lss (.t 80) (.k (.d (.int .i64 0)))), none⟩, ⟨some 79, .asg (.t 81), none⟩]) (.cond (.t 79) (.reg 
  [⟨some 82, .val (.cp (.t 6)), none⟩, ⟨some 4, .asg (.t 82), none⟩]) (.reg [⟨some 42, .val (.cp (.t 3)), none⟩, ⟨some 43, .val (.cp (.t 4)), none⟩, ⟨some 44, .val (.bin .mul (.k 
  (.d (.int .i64 16))) (.t 43)), none⟩, ⟨some 45, .val (.cp (.t 6)), none⟩, ⟨some 46, .val (.bin .add (.t 44) (.t 45)), none⟩, ⟨some 47, .val (.cvI .u8 (.t 46)), none⟩, ⟨some 48, 
  .bsl 5 1 [.t 47], none⟩, ⟨some 49, .app 5 1 1 false (.t 42) (.t 48), none⟩, ⟨some 3, .asg (.t 49), none⟩, ⟨some 4, .asg (.k (.d (.int .i64 (-1)))), none⟩]))))))))))))) (.reg 
  [⟨some 24, .val (.cp (.t 0)), none⟩, ⟨some 25, .val (.nck (.t 24)), none⟩, ⟨some 26, .val (.fa 1 (.t 25)), none⟩, ⟨some 27, .val (.ld false 1 (.t 26)), none⟩, ⟨some 28, .val 
  (.bin .add (.t 27) (.k (.d (.int .i64 1)))), none⟩, ⟨some 29, .val (.nck (.t 24)), none⟩, ⟨some 30, .val (.fa 1 (.t 29)), none⟩, ⟨none, .st 1 (.t 30) (.t 28), none⟩]))))) (.seq 
  (.reg [⟨some 83, .val (.cp (.t 0)), none⟩, ⟨some 84, .val (.mkI 50 (.k (.d (.int .i64 5)))), none⟩, ⟨some 85, .prim .call [.k (.fn (.func 34) [] []), .t 83, .t 84] [], none⟩]) 
  (.seq (.reg [⟨some 2, .asg (.k (.d (.str []))), none⟩]) .ret))))))
def R___parse_reader__hexed : List LRes := [.tmp 2]
theorem lift___parse_reader__hexed : Lifts Tryz.prog 62 86 L___parse_reader__hexed R___parse_reader__hexed := ⟨_, _, Tryz.func62, rfl, by kernel_rfl, by kernel_rfl, rfl⟩

theorem hexed_call (s : List UInt8) (k : Nat) (hs : s.length ≤ 60000) (hk : k < s.length) : MCall Tryz.prog 62 [.ptr (.x 0) 0] [robj s k 0]
    (fun r hs' => r = .d (.str (unhexF (s.drop (k + 1)) (-1) []).1) ∧ ∃ k' : Int, hs' = [robj s k' (unhexF (s.drop (k + 1)) (-1) []).2] ∧ ((unhexF (s.drop (k + 1)) (-1) []).2 = 0 → k' = (k + 1 + gtEnd (s.drop (k + 1)) : Nat))) := by
  generalize hR : unhexF (s.drop (k + 1)) (-1) [] = R
  generalize hE : k + 1 + gtEnd (s.drop (k + 1)) = E
  rw [robj_0]
  refine lift___parse_reader__hexed.mcall (by kernel_rfl) rfl ?_
  simp (maxSteps := 2000000) (disch := omega) only [go_sem, ↓reduceIte, L___parse_reader__hexed, R___parse_reader__hexed]
  refine run_loop (fun y : Nat × List UInt8 × Int => ⟨[(0, .ptr (.x 0) 0), (3, .own (.t 3) 5 1 (bytesD y.2.1)), (4, .d (.int .i64 y.2.2))], [], [(0, .cells [.d (.str s), .d (.int .i64 y.1), .d .nil])]⟩)
    (fun y => k + 1 ≤ y.1 ∧ y.1 ≤ s.length ∧ y.2.1.length ≤ y.1 ∧ -1 ≤ y.2.2 ∧ y.2.2 ≤ 15 ∧ y.1 + gtEnd (s.drop y.1) = E ∧ unhexF (s.drop y.1) y.2.2 y.2.1 = R) (fun y => s.length - y.1) (k + 1, [], -1) ?_ ?_ ?_
  · refine Weak.mk ?_ ?_ ?_ <;> simp (maxSteps := 2000000) only [go_sem, ↓reduceIte, Sub, Int.natCast_add, Int.natCast_mul, bytesD]
  · exact ⟨Nat.le_refl _, hk, by simp, by simp, by simp, hE, hR⟩
  · rintro ⟨i, b, h⟩ ⟨hki, hi, hb, hh1, hh2, hE', hF⟩
    simp only at hki hi hb hh1 hh2 hE' hF
    have hblen := bytesD_length b
    simp (maxSteps := 2000000) only [go_sem, ↓reduceIte]
    refine ⟨fun hlt => ?_, fun hge => ?_⟩
    · obtain ⟨c, hc⟩ := get_some (l := s) (i := i) (by omega)
      have hc8 := u8_lt c
      have hxb := hexI_bounds c.toNat
      rw [drop_at hc] at hF hE'
      unfold unhexF at hF
      unfold gtEnd at hE'
      simp (maxSteps := 2000000) only [go_sem, ↓reduceIte, getI_nat, hc]
      refine CallG.of (hex_call (n := c.toNat) (by omega)) ?_
      simp (maxSteps := 2000000) only [go_sem, ↓reduceIte]
      refine ⟨fun h1 => ?_, fun h1 => ?_⟩
      · rw [if_pos (by omega)] at hF hE'
        simp (maxSteps := 2000000) (disch := omega) only [go_sem, ↓reduceIte]
        refine ⟨fun h2 => ?_, fun h2 => ?_⟩
        · rw [if_pos h2] at hF
          subst hF
          have hsn := bytesD_snocI (b := b) (n := 16 * h) (by omega) (by omega)
          simp (maxSteps := 2000000) (disch := omega) only [go_sem, ↓reduceIte, hsn, bytesOf_bytesD]
          exact ⟨by omega, _, rfl, by omega⟩
        · rw [if_neg (by omega)] at hF
          subst hF
          simp (maxSteps := 2000000) (disch := omega) only [go_sem, ↓reduceIte, bytesOf_bytesD]
          exact ⟨_, rfl, by omega⟩
      · rw [if_neg (by omega)] at hF hE'
        refine CallG.of (blank_call c.toNat) ?_
        simp (maxSteps := 2000000) only [go_sem, ↓reduceIte]
        refine ⟨fun h2 => ?_, fun h2 => ⟨fun h3 => ?_, fun h3 => ⟨fun h4 => ?_, fun h4 => ?_⟩⟩⟩
        · rw [if_pos h2] at hF
          simp (disch := omega) only [IntWalk.i64_in, IntWalk.u8_in]
          refine ⟨(i + 1, b, h), ?_, ⟨by simp only; omega, by simp only; omega, by simp only; omega, hh1, hh2, by simp only; omega, hF⟩, by simp only; omega⟩
          refine Weak.mk ?_ ?_ ?_ <;> simp (maxSteps := 2000000) only [go_sem, ↓reduceIte, Sub, Int.natCast_add, Int.natCast_mul]
        · rw [if_neg (by simp [h2]), if_pos h3] at hF
          subst hF
          have hf := fail_0 s (i : Int) 4
          rw [robj_0, show errD 4 = .iface 50 (.int .i64 4) from rfl] at hf
          refine PrimG.mcall ([.x 0]) ([]) rfl (hf) rfl rfl (by simp only [objsAt, St.obj, aget, AObj.ren, AV.ren, AV.ren1, renL, ren1L, renR, renQ, List.getD_cons_zero, List.getD_cons_succ, and_true, and_self, Nat.reduceEqDiff, ↓reduceIte, reduceCtorEq]) rfl rfl rfl ⟨rfl, rfl⟩ ?_
          simp (maxSteps := 2000000) only [go_sem, ↓reduceIte, robj]
          exact ⟨_, rfl⟩
        · rw [if_neg (by simp [h2]), if_neg h3, if_pos h4] at hF
          simp (disch := omega) only [IntWalk.i64_in, IntWalk.u8_in]
          refine ⟨(i + 1, b, hexI c.toNat), ?_, ⟨by simp only; omega, by simp only; omega, by simp only; omega, by simp only; omega, by simp only; omega, by simp only; omega, hF⟩, by simp only; omega⟩
          refine Weak.mk ?_ ?_ ?_ <;> simp (maxSteps := 2000000) only [go_sem, ↓reduceIte, Sub, Int.natCast_add, Int.natCast_mul]
        · rw [if_neg (by simp [h2]), if_neg h3, if_neg h4] at hF
          have hsn := bytesD_snocI (b := b) (n := 16 * h + hexI c.toNat) (by omega) (by omega)
          simp (maxSteps := 2000000) (disch := omega) only [go_sem, ↓reduceIte]
          rw [hsn]
          refine ⟨by omega, (i + 1, b ++ [byteI (16 * h + hexI c.toNat)], -1), ?_, ⟨by simp only; omega, by simp only; omega, by simp only [List.length_append, List.length_cons, List.length_nil]; omega, by simp, by simp, by simp only; omega, hF⟩, by simp only; omega⟩
          refine Weak.mk ?_ ?_ ?_ <;> simp (maxSteps := 2000000) only [go_sem, ↓reduceIte, Sub, Int.natCast_add, Int.natCast_mul]
    · rw [List.drop_eq_nil_of_le (by omega), unhexF] at hF
      subst hF
      have hf := fail_0 s (i : Int) 5
      rw [robj_0, show errD 5 = .iface 50 (.int .i64 5) from rfl] at hf
      refine PrimG.mcall ([.x 0]) ([]) rfl (hf) rfl rfl (by simp only [objsAt, St.obj, aget, AObj.ren, AV.ren, AV.ren1, renL, ren1L, renR, renQ, List.getD_cons_zero, List.getD_cons_succ, and_true, and_self, Nat.reduceEqDiff, ↓reduceIte, reduceCtorEq]) rfl rfl rfl ⟨rfl, rfl⟩ ?_
      simp (maxSteps := 2000000) only [go_sem, ↓reduceIte, robj]
      exact ⟨_, rfl⟩
end Go.Av.Tryz
set_option linter.unusedSimpArgs false
namespace Go.Av.Tryz
open Go.Proofs

def escI (o : Option UInt8) : Int := match o with
  | none => -1
  | some b => b.toNat
theorem idx5 (e : UInt8) : Lib.indexByte [110, 114, 116, 98, 102] e = if e.toNat = 110 then 0 else if e.toNat = 114 then 1 else if e.toNat = 116 then 2 else if e.toNat = 98 then 3 else if e.toNat = 102 then 4 else -1 := by
  have h : ∀ i : Fin 256, Lib.indexByte [110, 114, 116, 98, 102] (UInt8.ofNat i.val) = if i.val = 110 then 0 else if i.val = 114 then 1 else if i.val = 116 then 2 else if i.val = 98 then 3 else if i.val = 102 then 4 else -1 := by decide +kernel
  have := h ⟨e.toNat, u8_lt e⟩
  simpa using this
theorem and255 {n : Int} (h : 0 ≤ n ∧ n ≤ 511) : IntKind.i64.wrap (((BitVec.ofInt IntKind.i64.bits n &&& BitVec.ofInt IntKind.i64.bits 255).toNat : Nat) : Int) = ((byteI n).toNat : Int) := by
  have hd : ∀ i : Fin 512, IntKind.i64.wrap (((BitVec.ofInt IntKind.i64.bits ((i.val : Nat) : Int) &&& BitVec.ofInt IntKind.i64.bits 255).toNat : Nat) : Int) = ((byteI ((i.val : Nat) : Int)).toNat : Int) := by decide +kernel
  have := hd ⟨n.toNat, by omega⟩
  simp only at this
  rwa [show ((n.toNat : Nat) : Int) = n by omega] at this

/-- parse.escaped -/
def L_parse_escaped : LCode :=
  .seq (.reg [⟨some 4, .asg (.k (.d (.int .i64 0))), none⟩, ⟨some 5, .asg (.k (.d (.int .i64 0))), none⟩]) (.seq (.reg [⟨some 10, .val (.cp (.t 0)), none⟩, ⟨some 11, .val (.cp (.t 
  1)), none⟩, ⟨some 12, .val (.idxS (.t 10) (.t 11)), none⟩, ⟨some 6, .asg (.t 12), none⟩]) (.seq (.reg [⟨some 13, .val (.cp (.t 6)), none⟩, ⟨some 14, .call 101 [.k (.d (.str [110, 
  114, 116, 98, 102])), .t 13], none⟩, ⟨some 7, .asg (.t 14), none⟩]) (.seq (.block 0 (.seq (.reg [⟨some 16, .val (.cp (.t 7)), none⟩, ⟨some 17, .val (.bin .geq (.t 16) (.k (.d 
  (.int .i64 0)))), none⟩, ⟨some 15, .asg (.t 17), none⟩]) (.cond (.t 15) (.seq (.reg [⟨some 18, .val (.cp (.t 7)), none⟩, ⟨some 19, .val (.idxS (.k (.d (.str [10, 13, 9, 8, 12]))) 
  (.t 18)), none⟩, ⟨some 20, .val (.cvI .i64 (.t 19)), none⟩, ⟨some 4, .asg (.t 20), none⟩, ⟨some 5, .asg (.k (.d (.int .i64 1))), none⟩]) .ret) (.seq (.reg [⟨some 22, .val (.cp 
  (.t 6)), none⟩, ⟨some 23, .val (.bin .eql (.t 22) (.k (.d (.int .u8 10)))), none⟩, ⟨some 21, .asg (.t 23), none⟩]) (.cond (.t 21) (.seq (.reg [⟨some 4, .asg (.k (.d (.int .i64 
  (-1)))), none⟩, ⟨some 5, .asg (.k (.d (.int .i64 1))), none⟩]) .ret) (.seq (.reg [⟨some 25, .val (.cp (.t 6)), none⟩, ⟨some 26, .val (.bin .eql (.t 25) (.k (.d (.int .u8 13)))), 
  none⟩, ⟨some 27, .val (.cp (.t 26)), none⟩, ⟨some 28, .val (.cp (.t 1)), some (27, true)⟩, ⟨some 29, .val (.bin .add (.t 28) (.k (.d (.int .i64 1)))), some (27, true)⟩, ⟨some 30, 
  .val (.cp (.t 0)), some (27, true)⟩, ⟨some 31, .val (.len true (.t 30)), some (27, true)⟩, ⟨some 32, .val (.bin .lss (.t 29) (.t 31)), some (27, true)⟩, ⟨some 33, .val (.pick (.t 
  27) (.t 32) (.k (.d (.bool false)))), none⟩, ⟨some 34, .val (.cp (.t 33)), none⟩, ⟨some 35, .val (.cp (.t 0)), some (34, true)⟩, ⟨some 36, .val (.cp (.t 1)), some (34, true)⟩, 
  ⟨some 37, .val (.bin .add (.t 36) (.k (.d (.int .i64 1)))), some (34, true)⟩, ⟨some 38, .val (.idxS (.t 35) (.t 37)), some (34, true)⟩, ⟨some 39, .val (.bin .eql (.t 38) (.k (.d 
  (.int .u8 10)))), some (34, true)⟩, ⟨some 40, .val (.pick (.t 34) (.t 39) (.k (.d (.bool false)))), none⟩, ⟨some 24, .asg (.t 40), none⟩]) (.cond (.t 24) (.seq (.reg [⟨some 4, 
  .asg (.k (.d (.int .i64 (-1)))), none⟩, ⟨some 5, .asg (.k (.d (.int .i64 2))), none⟩]) .ret) (.seq (.reg [⟨some 42, .val (.cp (.t 6)), none⟩, ⟨some 43, .val (.bin .eql (.t 42) 
  (.k (.d (.int .u8 13)))), none⟩, ⟨some 41, .asg (.t 43), none⟩]) (.cond (.t 41) (.seq (.reg [⟨some 4, .asg (.k (.d (.int .i64 (-1)))), none⟩, ⟨some 5, .asg (.k (.d (.int .i64 
  1))), none⟩]) .ret) (.seq (.reg [⟨some 45, .val (.cp (.t 6)), none⟩, ⟨some 46, .val (.bin .lss (.t 45) (.k (.d (.int .u8 48)))), none⟩, ⟨some 47, .val (.cp (.t 46)), none⟩, ⟨some 
  48, .val (.cp (.t 6)), some (47, false)⟩, ⟨some 49, .val (.bin .gtr (.t 48) (.k (.d (.int .u8 55)))), some (47, false)⟩, ⟨some 50, .val (.pick (.t 47) (.k (.d (.bool true))) (.t 
  49)), none⟩, ⟨some 44, .asg (.t 50), none⟩]) (.cond (.t 44) (.seq (.reg [⟨some 51, .val (.cp (.t 6)), none⟩, ⟨some 52, .val (.cvI .i64 (.t 51)), none⟩, ⟨some 4, .asg (.t 52), 
  none⟩, ⟨some 5, .asg (.k (.d (.int .i64 1))), none⟩]) .ret) .skip))))))))))) (.seq (.reg [⟨some 8, .asg (.k (.d (.int .i64 0))), none⟩, ⟨some 9, .asg (.k (.d (.int .i64 0))), 
  none⟩]) (.seq (.block 1 (.loop (.seq (.seq (.reg [⟨some 53, .val (.cp (.t 9)), none⟩, ⟨some 54, .val (.bin .lss (.t 53) (.k (.d (.int .i64 3)))), none⟩, ⟨some 55, .val (.cp (.t 
  54)), none⟩, ⟨some 56, .val (.cp (.t 1)), some (55, true)⟩, ⟨some 57, .val (.cp (.t 9)), some (55, true)⟩, ⟨some 58, .val (.bin .add (.t 56) (.t 57)), some (55, true)⟩, ⟨some 59, 
  .val (.cp (.t 0)), some (55, true)⟩, ⟨some 60, .val (.len true (.t 59)), some (55, true)⟩, ⟨some 61, .val (.bin .lss (.t 58) (.t 60)), some (55, true)⟩, ⟨some 62, .val (.pick (.t 
  55) (.t 61) (.k (.d (.bool false)))), none⟩, ⟨some 63, .val (.cp (.t 62)), none⟩, ⟨some 64, .val (.cp (.t 0)), some (63, true)⟩, ⟨some 65, .val (.cp (.t 1)), some (63, true)⟩, 
  ⟨some 66, .val (.cp (.t 9)), some (63, true)⟩, ⟨some 67, .val (.bin .add (.t 65) (.t 66)), some (63, true)⟩, ⟨some 68, .val (.idxS (.t 64) (.t 67)), some (63, true)⟩, ⟨some 69, 
  .val (.bin .geq (.t 68) (.k (.d (.int .u8 48)))), some (63, true)⟩, ⟨some 70, .val (.pick (.t 63) (.t 69) (.k (.d (.bool false)))), none⟩, ⟨some 71, .val (.cp (.t 70)), none⟩, 
  ⟨some 72, .val (.cp (.t 0)), some (71, true)⟩, ⟨some 73, .val (.cp (.t 1)), some (71, true)⟩, ⟨some 74, .val (.cp (.t 9)), some (71, true)⟩, ⟨some 75, .val (.bin .add (.t 73) (.t 
  74)), some (71, true)⟩, ⟨some 76, .val (.idxS (.t 72) (.t 75)), some (71, true)⟩, ⟨some 77, .val (.bin .leq (.t 76) (.k (.d (.int .u8 55)))), some (71, true)⟩, ⟨some 78, .val 
  (.pick (.t 71) (.t 77) (.k (.d (.bool false)))), none⟩]) (.cond (.t 78) .skip (.exit 1))) (.block 2 (.seq (.reg [⟨some 79, .val (.cp (.t 8)), none⟩, ⟨some 80, .val (.bin .mul (.k 
  (.d (.int .i64 8))) (.t 79)), none⟩, ⟨some 81, .val (.cp (.t 0)), none⟩, ⟨some 82, .val (.cp (.t 1)), none⟩, ⟨some 83, .val (.cp (.t 9)), none⟩, ⟨some 84, .val (.bin .add (.t 82) 
  (.t 83)), none⟩, ⟨some 85, .val (.idxS (.t 81) (.t 84)), none⟩, ⟨some 86, .val (.bin .sub (.t 85) (.k (.d (.int .u8 48)))), none⟩, ⟨some 87, .val (.cvI .i64 (.t 86)), none⟩, 
  ⟨some 88, .val (.bin .add (.t 80) (.t 87)), none⟩, ⟨some 8, .asg (.t 88), none⟩]) (.reg [⟨some 89, .val (.cp (.t 9)), none⟩, ⟨some 90, .val (.bin .add (.t 89) (.k (.d (.int .i64 
  1)))), none⟩, ⟨some 9, .asg (.t 90), none⟩])))))) (.seq (.reg [⟨some 91, .val (.cp (.t 8)), none⟩, ⟨some 92, .val (.bin .and (.t 91) (.k (.d (.int .i64 255)))), none⟩, ⟨some 93, 
  .val (.cp (.t 9)), none⟩, ⟨some 4, .asg (.t 92), none⟩, ⟨some 5, .asg (.t 93), none⟩]) .ret))))))
def R_parse_escaped : List LRes := [.tmp 4, .tmp 5]
theorem lift_parse_escaped : Lifts Tryz.prog 84 94 L_parse_escaped R_parse_escaped := ⟨_, _, Tryz.func84, rfl, by kernel_rfl, by kernel_rfl, rfl⟩

theorem escaped_call (s : List UInt8) (k : Nat) (hs : s.length ≤ 60000) (hk : k < s.length) : PCall Tryz.prog 84 [.str s, .int .i64 k] (fun r => r = .tup [.int .i64 (escI (escL (s.drop k)).1), .int .i64 (escL (s.drop k)).2]) := by
  obtain ⟨e, he⟩ := get_some (l := s) (i := k) hk
  have he8 := u8_lt e
  have hx := indexByte_call [110, 114, 116, 98, 102] e
  rw [idx5] at hx
  rw [drop_at he]
  generalize hR : escL (e :: s.drop (k + 1)) = R
  rw [escL] at hR
  refine lift_parse_escaped.call rfl ?_
  simp (maxSteps := 2000000) only [go_sem, ↓reduceIte, L_parse_escaped, R_parse_escaped, getI_nat, he]
  refine CallG.of hx ?_
  by_cases q0 : e.toNat = 110
  · rw [if_pos q0] at hR ⊢
    subst hR
    have g : getI ([10, 13, 9, 8, 12] : List UInt8) 0 = some 10 := rfl
    simp (maxSteps := 2000000) only [go_sem, ↓reduceIte, g]
    rfl
  rw [if_neg q0] at hR ⊢
  by_cases q1 : e.toNat = 114
  · rw [if_pos q1] at hR ⊢
    subst hR
    have g : getI ([10, 13, 9, 8, 12] : List UInt8) 1 = some 13 := rfl
    simp (maxSteps := 2000000) only [go_sem, ↓reduceIte, g]
    rfl
  rw [if_neg q1] at hR ⊢
  by_cases q2 : e.toNat = 116
  · rw [if_pos q2] at hR ⊢
    subst hR
    have g : getI ([10, 13, 9, 8, 12] : List UInt8) 2 = some 9 := rfl
    simp (maxSteps := 2000000) only [go_sem, ↓reduceIte, g]
    rfl
  rw [if_neg q2] at hR ⊢
  by_cases q3 : e.toNat = 98
  · rw [if_pos q3] at hR ⊢
    subst hR
    have g : getI ([10, 13, 9, 8, 12] : List UInt8) 3 = some 8 := rfl
    simp (maxSteps := 2000000) only [go_sem, ↓reduceIte, g]
    rfl
  rw [if_neg q3] at hR ⊢
  by_cases q4 : e.toNat = 102
  · rw [if_pos q4] at hR ⊢
    subst hR
    have g : getI ([10, 13, 9, 8, 12] : List UInt8) 4 = some 12 := rfl
    simp (maxSteps := 2000000) only [go_sem, ↓reduceIte, g]
    rfl
  rw [if_neg q4] at hR ⊢
  by_cases q5 : e.toNat = 10
  · rw [if_pos q5] at hR
    subst hR
    have z : ((e.toNat : Int) = 10) = True := by simp only [eq_iff_iff, iff_true]; omega
    simp (maxSteps := 2000000) only [go_sem, ↓reduceIte, z]
    rfl
  rw [if_neg q5] at hR
  have z5 : ((e.toNat : Int) = 10) = False := by simp only [eq_iff_iff, iff_false]; omega
  by_cases q6 : e.toNat = 13
  · rw [if_pos q6] at hR
    have z : ((e.toNat : Int) = 13) = True := by simp only [eq_iff_iff, iff_true]; omega
    simp (maxSteps := 2000000) (disch := omega) only [go_sem, ↓reduceIte, z5, z]
    refine ⟨fun h1 => ?_, fun h1 => ?_⟩
    · obtain ⟨x, hx⟩ := get_some (l := s) (i := k + 1) (by omega)
      have hx8 := u8_lt x
      have g : getI s ((k : Int) + 1) = some x := by rw [getI_add1, hx]
      have hh : (s.drop (k + 1)).head? = some x := by rw [drop_at hx]; rfl
      rw [hh] at hR
      simp (maxSteps := 2000000) (disch := omega) only [go_sem, ↓reduceIte, g]
      refine ⟨fun h2 => ?_, fun h2 => ?_⟩
      · rw [if_pos (by simp; omega)] at hR; subst hR; rfl
      · rw [if_neg (by simp; omega)] at hR; subst hR; exact ⟨fun _ => rfl, fun h => absurd (show (e.toNat : Int) = 13 by omega) h⟩
    · rw [List.drop_eq_nil_of_le (by omega)] at hR
      rw [if_neg (by simp)] at hR
      subst hR; rfl
  rw [if_neg q6] at hR
  have z6 : ((e.toNat : Int) = 13) = False := by simp only [eq_iff_iff, iff_false]; omega
  by_cases q7 : octB e = true
  · rw [if_neg (by simp [q7])] at hR
    have q7' := q7
    simp only [octB, Bool.and_eq_true, decide_eq_true_eq] at q7'
    have z7 : ((e.toNat : Int) < 48) = False := by simp only [eq_iff_iff, iff_false]; omega
    have z8 : (55 < (e.toNat : Int)) = False := by simp only [eq_iff_iff, iff_false]; omega
    simp (maxSteps := 2000000) only [go_sem, ↓reduceIte, z5, z6, z7, z8]
    have h0 : octG 3 0 (s.drop k) 0 = octG 2 (oct1 e) (s.drop (k + 1)) 1 := by
      rw [drop_at he, octG, if_pos q7]; congr 1; simp
    unfold octL at hR
    rw [← h0] at hR
    generalize hG : octG 3 0 (s.drop k) 0 = G at hR
    refine run_loop (fun y : Nat × Int => ⟨[(0, .d (.str s)), (1, .d (.int .i64 k)), (8, .d (.int .i64 y.2)), (9, .d (.int .i64 y.1))], [], []⟩)
      (fun y => y.1 ≤ 3 ∧ k + y.1 ≤ s.length ∧ 0 ≤ y.2 ∧ y.2 ≤ 511 ∧ (y.1 = 0 → y.2 = 0) ∧ (y.1 = 1 → y.2 ≤ 7) ∧ (y.1 = 2 → y.2 ≤ 63) ∧ octG (3 - y.1) y.2 (s.drop (k + y.1)) y.1 = G) (fun y => 3 - y.1) (0, 0) ?_ ?_ ?_
    · refine weak_mk ?_ trivial
      simp (maxSteps := 2000000) only [go_sem, ↓reduceIte, Sub, Int.natCast_add, Int.natCast_mul]
    · exact ⟨by simp, by simp only; omega, by simp, by simp, by simp, by simp, by simp, hG⟩
    · rintro ⟨j, v⟩ ⟨hj, hjl, hv0, hv1, hv2, hv3, hv4, hF⟩
      simp only at hj hjl hv0 hv1 hv2 hv3 hv4 hF
      have stop : octG (3 - j) v (s.drop (k + j)) j = (v, j) → Res.tup [D.int .i64 (IntKind.i64.wrap (((BitVec.ofInt IntKind.i64.bits v &&& BitVec.ofInt IntKind.i64.bits 255).toNat : Nat) : Int)), D.int .i64 j] = Res.tup [D.int .i64 (escI R.1), D.int .i64 R.2] := fun h => by
        rw [h] at hF
        subst hF
        subst hR
        rw [and255 ⟨hv0, hv1⟩]; rfl
      have ej : (k : Int) + (j : Int) = ((k + j : Nat) : Int) := by omega
      simp (maxSteps := 2000000) (disch := omega) only [go_sem, ↓reduceIte]
      refine ⟨fun c1 => ⟨fun c2 => ?_, fun c2 => stop (octG_stop fun x q h => by rw [List.drop_eq_nil_of_le (by omega)] at h; cases h)⟩, fun c1 => stop (by rw [show 3 - j = 0 by omega]; rfl)⟩
      obtain ⟨x, hx⟩ := get_some (l := s) (i := k + j) (by omega)
      have hx8 := u8_lt x
      have stop2 := fun (h : octB x = false) => stop (octG_stop fun x' q h' => by rw [drop_at hx] at h'; cases h'; exact h)
      have gx : getI s ((k : Int) + (j : Int)) = some x := by rw [ej, getI_nat, hx]
      simp (maxSteps := 2000000) (disch := omega) only [go_sem, ↓reduceIte, gx]
      refine ⟨fun c3 => ⟨fun c4 => ?_, fun c4 => stop2 (by simp [octB]; omega)⟩, fun c3 => stop2 (by simp [octB]; omega)⟩
      have ox : octB x = true := by simp [octB]; omega
      rw [drop_at hx, show 3 - j = (3 - (j + 1)) + 1 by omega, octG, if_pos ox] at hF
      refine ⟨(j + 1, 8 * v + oct1 x), ?_, ⟨by simp only; omega, by simp only; omega, by simp only [oct1]; omega, by simp only [oct1]; omega, by simp only; omega, by simp only [oct1]; omega, by simp only [oct1]; omega, hF⟩, by simp only; omega⟩
      have zz : decide ((x.toNat : Int) ≤ 55) = true := by simpa using c4
      refine weak_mk ?_ trivial
      simp (maxSteps := 2000000) only [go_sem, ↓reduceIte, Sub, Int.natCast_add, Int.natCast_mul, oct1, zz]
      all_goals ((repeat' apply And.intro) <;> (congr 2 <;> omega))
  · have q7 : octB e = false := by simpa using q7
    rw [if_pos q7] at hR
    subst hR
    simp (maxSteps := 2000000) only [go_sem, ↓reduceIte, z5, z6]
    rw [IntWalk.i64_in _ (by omega)]
    refine ⟨fun h1 => ?_, fun h1 => rfl⟩
    refine ⟨fun h2 => rfl, fun h2 => ?_⟩
    simp [octB] at q7
    exfalso; omega

theorem escL_n {t : List UInt8} (ht : t ≠ []) : 1 ≤ (escL t).2 ∧ (escL t).2 ≤ t.length := by
  cases t with
  | nil => exact absurd rfl ht
  | cons e r =>
    have g : ∀ (m : Nat) (v : Int) (q : List UInt8) (k : Nat), k ≤ (octG m v q k).2 ∧ (octG m v q k).2 ≤ k + q.length := fun m => by
      induction m with
      | zero => intro v q k; simp [octG]
      | succ m ih =>
        intro v q k
        cases q with
        | nil => simp [octG]
        | cons x q =>
          rw [octG]
          split
          · have := ih (8 * v + oct1 x) q (k + 1); simp only [List.length_cons]; omega
          · simp
    have h3 := g 2 (oct1 e) r 1
    rw [escL]
    simp only [List.length_cons]
    repeat' split
    all_goals first
      | (simp only [octL]; omega)
      | (simp only; omega)
      | skip
    all_goals
      rename_i h
      cases r with
      | nil => simp at h
      | cons x q => simp only [List.length_cons]; omega

/-- (*parse.reader).literal -/
def L___parse_reader__literal : LCode :=
  .seq (.reg [⟨some 2, .asg (.k (.d (.str []))), none⟩]) (.seq (.reg [⟨some 8, .val (.cp (.t 0)), none⟩, ⟨some 9, .val (.nck (.t 8)), none⟩, ⟨some 10, .val (.fa 1 (.t 9)), none⟩, 
  ⟨some 11, .val (.ld false 1 (.t 10)), none⟩, ⟨some 12, .val (.bin .add (.t 11) (.k (.d (.int .i64 1)))), none⟩, ⟨some 13, .val (.nck (.t 8)), none⟩, ⟨some 14, .val (.fa 1 (.t 
  13)), none⟩, ⟨none, .st 1 (.t 14) (.t 12), none⟩]) (.seq (.reg [⟨some 3, .nils 5 1, none⟩]) (.seq (.reg [⟨some 4, .asg (.k (.d (.int .i64 1))), none⟩]) (.seq (.block 0 (.loop 
  (.seq (.seq (.dreg [⟨some 15, .val (.cp (.t 0)), none⟩, ⟨some 16, .val (.nck (.t 15)), none⟩, ⟨some 17, .val (.fa 1 (.t 16)), none⟩, ⟨some 18, .val (.ld false 1 (.t 17)), none⟩, 
  ⟨some 19, .val (.cp (.t 0)), none⟩, ⟨some 20, .val (.nck (.t 19)), none⟩, ⟨some 21, .val (.fa 0 (.t 20)), none⟩, ⟨some 22, .val (.ld false 1 (.t 21)), none⟩, ⟨some 23, .val (.len 
  true (.t 22)), none⟩, ⟨some 24, .val (.bin .lss (.t 18) (.t 23)), none⟩]) (.cond (.t 24) .skip (.exit 0))) (.block 1 (.seq (.dreg [⟨some 25, .val (.cp (.t 0)), none⟩, ⟨some 26, 
  .val (.nck (.t 25)), none⟩, ⟨some 27, .val (.fa 0 (.t 26)), none⟩, ⟨some 28, .val (.ld false 1 (.t 27)), none⟩, ⟨some 29, .val (.cp (.t 0)), none⟩, ⟨some 30, .val (.nck (.t 29)), 
  none⟩, ⟨some 31, .val (.fa 1 (.t 30)), none⟩, ⟨some 32, .val (.ld false 1 (.t 31)), none⟩, ⟨some 33, .val (.idxS (.t 28) (.t 32)), none⟩, ⟨some 5, .asg (.t 33), none⟩]) (.seq 
  (.reg [⟨some 34, .val (.cp (.t 0)), none⟩, ⟨some 35, .val (.nck (.t 34)), none⟩, ⟨some 36, .val (.fa 1 (.t 35)), none⟩, ⟨some 37, .val (.ld false 1 (.t 36)), none⟩, ⟨some 38, 
  .val (.bin .add (.t 37) (.k (.d (.int .i64 1)))), none⟩, ⟨some 39, .val (.nck (.t 34)), none⟩, ⟨some 40, .val (.fa 1 (.t 39)), none⟩, ⟨none, .st 1 (.t 40) (.t 38), none⟩]) (.seq 
  (.seq (.reg [⟨some 41, .val (.cp (.t 5)), none⟩]) (.block 2 (.seq (.reg [⟨some 43, .val (.bin .eql (.t 41) (.k (.d (.int .u8 92)))), none⟩, ⟨some 42, .asg (.t 43), none⟩]) (.cond 
  (.t 42) (.seq (.seq (.dreg [⟨some 44, .val (.cp (.t 0)), none⟩, ⟨some 45, .val (.nck (.t 44)), none⟩, ⟨some 46, .val (.fa 1 (.t 45)), none⟩, ⟨some 47, .val (.ld false 1 (.t 46)), 
  none⟩, ⟨some 48, .val (.cp (.t 0)), none⟩, ⟨some 49, .val (.nck (.t 48)), none⟩, ⟨some 50, .val (.fa 0 (.t 49)), none⟩, ⟨some 51, .val (.ld false 1 (.t 50)), none⟩, ⟨some 52, 
  .val (.len true (.t 51)), none⟩, ⟨some 53, .val (.bin .eql (.t 47) (.t 52)), none⟩]) (.cond (.t 53) (.exit 1) .skip)) (.seq (.dreg [⟨some 55, .val (.cp (.t 0)), none⟩, ⟨some 56, 
  .val (.nck (.t 55)), none⟩, ⟨some 57, .val (.fa 0 (.t 56)), none⟩, ⟨some 58, .val (.ld false 1 (.t 57)), none⟩, ⟨some 59, .val (.cp (.t 0)), none⟩, ⟨some 60, .val (.nck (.t 59)), 
  none⟩, ⟨some 61, .val (.fa 1 (.t 60)), none⟩, ⟨some 62, .val (.ld false 1 (.t 61)), none⟩, ⟨some 63, .call 84 [.t 58, .t 62], none⟩, ⟨some 54, .val (.cp (.t 63)), none⟩, ⟨some 
  64, .val (.ext 0 (.t 54)), none⟩, ⟨some 65, .val (.ext 1 (.t 54)), none⟩, ⟨some 6, .val (.cp (.t 64)), none⟩, ⟨some 7, .val (.cp (.t 65)), none⟩]) (.seq (.reg [⟨some 66, .val 
  (.cp (.t 0)), none⟩, ⟨some 67, .val (.nck (.t 66)), none⟩, ⟨some 68, .val (.fa 1 (.t 67)), none⟩, ⟨some 69, .val (.ld false 1 (.t 68)), none⟩, ⟨some 70, .val (.cp (.t 7)), none⟩, 
  ⟨some 71, .val (.bin .add (.t 69) (.t 70)), none⟩, ⟨some 72, .val (.nck (.t 66)), none⟩, ⟨some 73, .val (.fa 1 (.t 72)), none⟩, ⟨none, .st 1 (.t 73) (.t 71), none⟩]) (.seq (.seq 
  (.reg [⟨some 74, .val (.cp (.t 6)), none⟩, ⟨some 75, .val (.bin .geq (.t 74) (.k (.d (.int .i64 0)))), none⟩]) (.cond (.t 75) (.reg [⟨some 76, .val (.cp (.t 3)), none⟩, ⟨some 77, 
  .val (.cp (.t 6)), none⟩, ⟨some 78, .val (.cvI .u8 (.t 77)), none⟩, ⟨some 79, .bsl 5 1 [.t 78], none⟩, ⟨some 80, .app 5 1 1 false (.t 76) (.t 79), none⟩, ⟨some 3, .asg (.t 80), 
  none⟩]) .skip)) (.exit 1))))) (.seq (.reg [⟨some 82, .val (.bin .eql (.t 41) (.k (.d (.int .u8 40)))), none⟩, ⟨some 81, .asg (.t 82), none⟩]) (.cond (.t 81) (.reg [⟨some 83, .val 
  (.cp (.t 4)), none⟩, ⟨some 84, .val (.bin .add (.t 83) (.k (.d (.int .i64 1)))), none⟩, ⟨some 4, .asg (.t 84), none⟩]) (.seq (.reg [⟨some 86, .val (.bin .eql (.t 41) (.k (.d 
  (.int .u8 41)))), none⟩, ⟨some 85, .asg (.t 86), none⟩]) (.cond (.t 85) (.seq (.reg [⟨some 87, .val (.cp (.t 4)), none⟩, ⟨some 88, .val (.bin .sub (.t 87) (.k (.d (.int .i64 
  1)))), none⟩, ⟨some 4, .asg (.t 88), none⟩]) (.seq (.reg [⟨some 89, .val (.cp (.t 4)), none⟩, ⟨some 90, .val (.bin .eql (.t 89) (.k (.d (.int .i64 0)))), none⟩]) (.cond (.t 90) 
  (.seq (.reg [⟨some 91, .val (.cp (.t 3)), none⟩, ⟨some 92, .val (.b2s (.t 91)), none⟩, ⟨some 2, .asg (.t 92), none⟩]) .ret) .skip))) .skip)))))))) (.reg [⟨some 93, .val (.cp (.t 
  3)), none⟩, ⟨some 94, .val (.cp (.t 5)), none⟩, ⟨some 95, .bsl 5 1 [.t 94], none⟩, ⟨some 96, .app 5 1 1 false (.t 93) (.t 95), none⟩, ⟨some 3, .asg (.t 96), none⟩])))))))) (.seq 
  (.reg [⟨some 97, .val (.cp (.t 0)), none⟩, ⟨some 98, .val (.mkI 50 (.k (.d (.int .i64 5)))), none⟩, ⟨some 99, .prim .call [.k (.fn (.func 34) [] []), .t 97, .t 98] [], none⟩]) 
  (.seq (.reg [⟨some 2, .asg (.k (.d (.str []))), none⟩]) .ret))))))
def R___parse_reader__literal : List LRes := [.tmp 2]
theorem lift___parse_reader__literal : Lifts Tryz.prog 59 100 L___parse_reader__literal R___parse_reader__literal := ⟨_, _, Tryz.func59, rfl, by kernel_rfl, by kernel_rfl, rfl⟩

theorem litP_call (s : List UInt8) (k : Nat) (hs : s.length ≤ 60000) (hk : k < s.length) : MCall Tryz.prog 59 [.ptr (.x 0) 0] [robj s k 0]
    (fun r hs' => match litF 0 1 (s.drop (k + 1)) [] (k + 1) with
      | some (b, k') => r = .d (.str b) ∧ hs' = [robj s k' 0]
      | none => ∃ k' : Int, r = .d (.str []) ∧ hs' = [robj s k' 5]) := by
  generalize hR : litF 0 1 (s.drop (k + 1)) [] (k + 1) = R
  rw [robj_0]
  refine lift___parse_reader__literal.mcall (by kernel_rfl) rfl ?_
  simp (maxSteps := 2000000) (disch := omega) only [go_sem, ↓reduceIte, L___parse_reader__literal, R___parse_reader__literal]
  refine run_loop (fun y : Nat × Nat × List UInt8 => ⟨[(0, .ptr (.x 0) 0), (3, .own (.t 3) 5 1 (bytesD y.2.2)), (4, .d (.int .i64 y.2.1))], [], [(0, .cells [.d (.str s), .d (.int .i64 y.1), .d .nil])]⟩)
    (fun y => y.1 ≤ s.length ∧ y.2.2.length ≤ y.1 ∧ 1 ≤ y.2.1 ∧ y.2.1 ≤ y.1 + 1 ∧ litF 0 y.2.1 (s.drop y.1) y.2.2 y.1 = R) (fun y => s.length - y.1) (k + 1, 1, []) ?_ ?_ ?_
  · refine Weak.mk ?_ ?_ ?_ <;> simp (maxSteps := 2000000) only [go_sem, ↓reduceIte, Sub, Int.natCast_add, Int.natCast_mul, bytesD]
  · exact ⟨hk, by simp, by simp, by simp, hR⟩
  · rintro ⟨i, d, b⟩ ⟨hi, hb, hd1, hd2, hF⟩
    simp only at hi hb hd1 hd2 hF
    have hblen := bytesD_length b
    simp (maxSteps := 2000000) only [go_sem, ↓reduceIte]
    refine ⟨fun hlt => ?_, fun hge => ?_⟩
    · obtain ⟨c, hc⟩ := get_some (l := s) (i := i) (by omega)
      have hc8 := u8_lt c
      rw [drop_at hc, litF] at hF
      simp (maxSteps := 2000000) (disch := omega) only [go_sem, ↓reduceIte, getI_nat, hc]
      refine ⟨fun h92 => ?_, fun h92 => ⟨fun h40 => ?_, fun h40 => ⟨fun h41 => ⟨fun hd0 => ?_, fun hd0 => ?_⟩, fun h41 => ?_⟩⟩⟩
      · rw [if_pos (by omega)] at hF
        refine ⟨fun he => ?_, fun he => ?_⟩
        · rw [if_pos (List.drop_eq_nil_of_le (by omega))] at hF
          refine ⟨(i + 1, d, b), ?_, ⟨by simp only; omega, by simp only; omega, hd1, by simp only; omega, ?_⟩, by simp only; omega⟩
          · refine Weak.mk ?_ ?_ ?_ <;> simp (maxSteps := 2000000) only [go_sem, ↓reduceIte, Sub, Int.natCast_add, Int.natCast_mul]
          · simp only
            rw [List.drop_eq_nil_of_le (by omega), litF]; exact hF
        · have hne : s.drop (i + 1) ≠ [] := fun e => by have := congrArg List.length e; simp at this; omega
          rw [if_neg hne] at hF
          have hesc := escaped_call s (i + 1) hs (by omega)
          have hen := escL_n hne
          rw [List.length_drop] at hen
          rw [litF_skip _ (by rw [List.length_drop]; omega), List.drop_drop] at hF
          generalize escL (s.drop (i + 1)) = X at hesc hen hF
          obtain ⟨xo, xn⟩ := X
          simp only at hesc hen hF
          rw [Int.natCast_add, Int.natCast_one] at hesc
          refine CallD.of hesc ?_
          cases xo with
          | none =>
            simp (maxSteps := 2000000) (disch := omega) only [go_sem, ↓reduceIte, escI]
            refine ⟨(i + 1 + xn, d, b), ?_, ⟨by simp only; omega, by simp only; omega, hd1, by simp only; omega, by simpa using hF⟩, by simp only; omega⟩
            refine Weak.mk ?_ ?_ ?_ <;> simp (maxSteps := 2000000) only [go_sem, ↓reduceIte, Sub, Int.natCast_add, Int.natCast_mul]
          | some x =>
            have hx8 := u8_lt x
            simp (maxSteps := 2000000) (disch := omega) only [go_sem, ↓reduceIte, escI]
            refine ⟨fun _ => ⟨by omega, (i + 1 + xn, d, b ++ [x]), ?_, ⟨by simp only; omega, by simp only [List.length_append, List.length_cons, List.length_nil]; omega, hd1, by simp only; omega, hF⟩, by simp only; omega⟩, fun h => by exfalso; omega⟩
            refine Weak.mk ?_ ?_ ?_ <;> simp (maxSteps := 2000000) only [go_sem, ↓reduceIte, Sub, Int.natCast_add, Int.natCast_mul, bytesD_append, bytesD_cons, bytesD_nil]
      · rw [if_neg (by omega), if_neg (by omega), if_pos (by omega)] at hF
        refine ⟨by omega, (i + 1, d + 1, b ++ [c]), ?_, ⟨by simp only; omega, by simp only [List.length_append, List.length_cons, List.length_nil]; omega, by simp only; omega, by simp only; omega, hF⟩, by simp only; omega⟩
        refine Weak.mk ?_ ?_ ?_ <;> simp (maxSteps := 2000000) only [go_sem, ↓reduceIte, Sub, Int.natCast_add, Int.natCast_mul, bytesD_append, bytesD_cons, bytesD_nil]
      · rw [if_neg (by omega), if_pos (by omega), if_pos (by omega)] at hF
        subst hF
        simp (maxSteps := 2000000) (disch := omega) only [go_sem, ↓reduceIte, bytesOf_bytesD]
        simp only [robj, Int.natCast_add, Int.natCast_one]; rfl
      · rw [if_neg (by omega), if_pos (by omega), if_neg (by omega)] at hF
        refine ⟨by omega, (i + 1, d - 1, b ++ [c]), ?_, ⟨by simp only; omega, by simp only [List.length_append, List.length_cons, List.length_nil]; omega, by simp only; omega, by simp only; omega, hF⟩, by simp only; omega⟩
        have e1 : ((d - 1 : Nat) : Int) = (d : Int) - 1 := by omega
        refine Weak.mk ?_ ?_ ?_ <;> simp (maxSteps := 2000000) only [go_sem, ↓reduceIte, Sub, Int.natCast_add, Int.natCast_mul, bytesD_append, bytesD_cons, bytesD_nil, e1]
      · rw [if_neg (by omega), if_neg (by omega), if_neg (by omega)] at hF
        refine ⟨by omega, (i + 1, d, b ++ [c]), ?_, ⟨by simp only; omega, by simp only [List.length_append, List.length_cons, List.length_nil]; omega, by simp only; omega, by simp only; omega, hF⟩, by simp only; omega⟩
        refine Weak.mk ?_ ?_ ?_ <;> simp (maxSteps := 2000000) only [go_sem, ↓reduceIte, Sub, Int.natCast_add, Int.natCast_mul, bytesD_append, bytesD_cons, bytesD_nil]
    · rw [List.drop_eq_nil_of_le (by omega), litF] at hF
      subst hF
      have hf := fail_0 s (i : Int) 5
      rw [robj_0, show errD 5 = .iface 50 (.int .i64 5) from rfl] at hf
      refine PrimG.mcall ([.x 0]) ([]) rfl (hf) rfl rfl (by simp only [objsAt, St.obj, aget, AObj.ren, AV.ren, AV.ren1, renL, ren1L, renR, renQ, List.getD_cons_zero, List.getD_cons_succ, and_true, and_self, Nat.reduceEqDiff, ↓reduceIte, reduceCtorEq]) rfl rfl rfl ⟨rfl, rfl⟩ ?_
      simp (maxSteps := 2000000) only [go_sem, ↓reduceIte, robj]
      exact ⟨_, rfl⟩
end Go.Av.Tryz
set_option linter.unusedSimpArgs false
namespace Go.Av.Tryz
open Go.Proofs

/-- What object tells of a word. -/
def objPost : Option Nat → Res → Prop
  | some n, r => r = .tup [.int .i64 n, .bool true]
  | none, r => ∃ n : Int, r = .tup [.int .i64 n, .bool false]

/-- parse.object -/
def L_parse_object : LCode :=
  .seq (.reg [⟨some 2, .asg (.k (.d (.int .i64 0))), none⟩, ⟨some 3, .asg (.k (.d (.bool false))), none⟩]) (.seq (.seq (.reg [⟨some 6, .val (.cp (.t 0)), none⟩, ⟨some 7, .val (.bin 
  .eql (.t 6) (.k (.d (.str [])))), none⟩, ⟨some 8, .val (.cp (.t 7)), none⟩, ⟨some 9, .val (.cp (.t 0)), some (8, false)⟩, ⟨some 10, .val (.len true (.t 9)), some (8, false)⟩, 
  ⟨some 11, .val (.bin .gtr (.t 10) (.k (.d (.int .i64 2)))), some (8, false)⟩, ⟨some 12, .val (.pick (.t 8) (.k (.d (.bool true))) (.t 11)), none⟩, ⟨some 13, .val (.cp (.t 12)), 
  none⟩, ⟨some 14, .val (.cp (.t 0)), some (13, false)⟩, ⟨some 15, .val (.idxS (.t 14) (.k (.d (.int .i64 0)))), some (13, false)⟩, ⟨some 16, .val (.bin .eql (.t 15) (.k (.d (.int 
  .u8 48)))), some (13, false)⟩, ⟨some 17, .val (.pick (.t 13) (.k (.d (.bool true))) (.t 16)), none⟩]) (.cond (.t 17) (.seq (.reg [⟨some 2, .asg (.k (.d (.int .i64 0))), none⟩, 
  ⟨some 3, .asg (.k (.d (.bool false))), none⟩]) .ret) .skip)) (.seq (.reg [⟨some 4, .asg (.k (.d (.int .i64 0))), none⟩]) (.seq (.seq (.reg [⟨some 18, .val (.cp (.t 0)), none⟩, 
  ⟨some 19, .val (.len true (.t 18)), none⟩, ⟨some 20, .val (.cp (.k (.d (.int .i64 0)))), none⟩]) (.block 0 (.loop (.seq (.reg [⟨some 21, .val (.bin .lss (.t 20) (.t 19)), none⟩]) 
  (.seq (.cond (.t 21) .skip (.exit 0)) (.seq (.block 1 (.seq (.reg [⟨some 22, .val (.cp (.t 20)), none⟩, ⟨some 5, .asg (.t 22), none⟩]) (.seq (.seq (.reg [⟨some 23, .val (.cp (.t 
  0)), none⟩, ⟨some 24, .val (.cp (.t 5)), none⟩, ⟨some 25, .val (.idxS (.t 23) (.t 24)), none⟩, ⟨some 26, .val (.bin .lss (.t 25) (.k (.d (.int .u8 48)))), none⟩, ⟨some 27, .val 
  (.cp (.t 26)), none⟩, ⟨some 28, .val (.cp (.t 0)), some (27, false)⟩, ⟨some 29, .val (.cp (.t 5)), some (27, false)⟩, ⟨some 30, .val (.idxS (.t 28) (.t 29)), some (27, false)⟩, 
  ⟨some 31, .val (.bin .gtr (.t 30) (.k (.d (.int .u8 57)))), some (27, false)⟩, ⟨some 32, .val (.pick (.t 27) (.k (.d (.bool true))) (.t 31)), none⟩]) (.cond (.t 32) (.seq (.reg 
  [⟨some 2, .asg (.k (.d (.int .i64 0))), none⟩, ⟨some 3, .asg (.k (.d (.bool false))), none⟩]) .ret) .skip)) (.reg [⟨some 33, .val (.cp (.t 4)), none⟩, ⟨some 34, .val (.bin .mul 
  (.k (.d (.int .i64 10))) (.t 33)), none⟩, ⟨some 35, .val (.cp (.t 0)), none⟩, ⟨some 36, .val (.cp (.t 5)), none⟩, ⟨some 37, .val (.idxS (.t 35) (.t 36)), none⟩, ⟨some 38, .val 
  (.bin .sub (.t 37) (.k (.d (.int .u8 48)))), none⟩, ⟨some 39, .val (.cvI .i64 (.t 38)), none⟩, ⟨some 40, .val (.bin .add (.t 34) (.t 39)), none⟩, ⟨some 4, .asg (.t 40), 
  none⟩])))) (.reg [⟨some 41, .val (.bin .add (.t 20) (.k (.d (.int .i64 1)))), none⟩, ⟨some 20, .val (.cp (.t 41)), none⟩]))))))) (.seq (.reg [⟨some 42, .val (.cp (.t 4)), none⟩, 
  ⟨some 43, .val (.cp (.t 4)), none⟩, ⟨some 44, .val (.bin .leq (.t 43) (.k (.d (.int .i64 60)))), none⟩, ⟨some 2, .asg (.t 42), none⟩, ⟨some 3, .asg (.t 44), none⟩]) .ret))))
def R_parse_object : List LRes := [.tmp 2, .tmp 3]
theorem lift_parse_object : Lifts Tryz.prog 108 45 L_parse_object R_parse_object := ⟨_, _, Tryz.func108, rfl, by kernel_rfl, by kernel_rfl, rfl⟩

theorem object_call (w : List UInt8) (hw : w.length ≤ 60000) : PCall Tryz.prog 108 [.str w] (objPost (objF w)) := by
  generalize hR : objF w = R
  have bad : R = none → ∀ n : Int, objPost R (.tup [.int .i64 n, .bool false]) := fun e n => by subst e; exact ⟨n, rfl⟩
  refine lift_parse_object.call rfl ?_
  simp (maxSteps := 2000000) only [go_sem, ↓reduceIte, L_parse_object, R_parse_object]
  refine ⟨fun h1 => ⟨fun h2 => ?_, fun h2 => bad (by rw [← hR, objF, if_pos (by omega)]) 0⟩, fun h1 => bad (by rw [← hR, objF, if_pos (by rw [h1]; simp)]) 0⟩
  have hlen : 1 ≤ w.length := by cases w with | nil => exact absurd rfl h1 | cons a r => simp
  obtain ⟨c0, hc0⟩ := get_some (l := w) (i := 0) (by omega)
  have g0 : getI w 0 = some c0 := by rw [← hc0]; exact getI_nat w 0
  have hd0 : w.head? = some c0 := by rw [← hc0]; cases w <;> rfl
  simp (maxSteps := 2000000) only [go_sem, ↓reduceIte, g0]
  refine ⟨fun h3 => bad (by rw [← hR, objF, if_pos (.inr (.inr (by rw [hd0]; simp; omega)))]) 0, fun h3 => ?_⟩
  have ho : objF w = match digF w 0 with
    | none => none
    | some n => if n ≤ 60 then some n else none := by rw [objF, if_neg (by rw [hd0]; simp only [Option.map_some, Option.some.injEq]; omega)]; rfl
  rw [ho] at hR
  refine run_loop (fun y : Nat × Nat => ⟨[(0, .d (.str w)), (4, .d (.int .i64 y.2)), (19, .d (.int .i64 w.length)), (20, .d (.int .i64 y.1))], [], []⟩)
    (fun y => y.1 ≤ w.length ∧ (y.1 = 0 → y.2 = 0) ∧ (y.1 = 1 → y.2 ≤ 9) ∧ y.2 ≤ 99 ∧ digF (w.drop y.1) y.2 = digF w 0) (fun y => w.length - y.1) (0, 0) ?_ ?_ ?_
  · refine weak_mk ?_ trivial
    simp (maxSteps := 2000000) only [go_sem, ↓reduceIte, Sub, Int.natCast_add, Int.natCast_mul]
  · exact ⟨by simp, by simp, by simp, by simp, rfl⟩
  · rintro ⟨i, n⟩ ⟨hi, hn0, hn1, hn2, hF⟩
    simp only at hi hn0 hn1 hn2 hF
    simp (maxSteps := 2000000) only [go_sem, ↓reduceIte]
    refine ⟨fun hlt => ?_, fun hge => ?_⟩
    · obtain ⟨c, hc⟩ := get_some (l := w) (i := i) (by omega)
      have hc8 := u8_lt c
      rw [drop_at hc, digF] at hF
      have nodig : (c.toNat < 48 ∨ 57 < c.toNat) → R = none := fun h => by
        rw [if_pos h] at hF
        rw [← hF] at hR
        exact hR.symm
      simp (maxSteps := 2000000) only [go_sem, ↓reduceIte, getI_nat, hc]
      refine ⟨fun h4 => ⟨fun h5 => bad (nodig (by omega)) 0, fun h5 => ?_⟩, fun h4 => bad (nodig (by omega)) 0⟩
      simp (maxSteps := 2000000) (disch := omega) only [go_sem, ↓reduceIte, getI_nat, hc]
      rw [if_neg (by omega)] at hF
      refine ⟨(i + 1, 10 * n + (c.toNat - 48)), ?_, ⟨by simp only; omega, by simp only; omega, by simp only; omega, by simp only; omega, hF⟩, by simp only; omega⟩
      have zz : decide (57 < (c.toNat : Int)) = false := by simpa using h5
      refine weak_mk ?_ trivial
      simp (maxSteps := 2000000) only [go_sem, ↓reduceIte, Sub, Int.natCast_add, Int.natCast_mul, zz]
      all_goals ((repeat' apply And.intro) <;> (congr 2 <;> omega))
    · rw [List.drop_eq_nil_of_le (by omega), digF] at hF
      rw [← hF] at hR
      simp only at hR
      by_cases h6 : n ≤ 60
      · rw [if_pos h6] at hR
        subst hR
        have z : ((n : Int) ≤ 60) = True := by simp only [eq_iff_iff, iff_true]; omega
        simp (maxSteps := 2000000) only [go_sem, ↓reduceIte, z]
        rfl
      · rw [if_neg h6] at hR
        have z : ((n : Int) ≤ 60) = False := by simp only [eq_iff_iff, iff_false]; omega
        simp (maxSteps := 2000000) only [go_sem, ↓reduceIte, z]
        exact bad hR.symm _

def refPost (s : List UInt8) (k : Nat) : Option (Nat × Nat) → AV → List AObj → Prop
  | some (n, k'), r, hs => r = .tuple [.d (.int .i64 n), .d (.bool true)] ∧ hs = [robj s k' 0]
  | none, r, hs => ∃ n : Int, r = .tuple [.d (.int .i64 n), .d (.bool false)] ∧ hs = [robj s k 0]

/-- (*parse.reader).ref -/
def L___parse_reader__ref : LCode :=
  .seq (.reg [⟨some 2, .asg (.k (.d (.int .i64 0))), none⟩, ⟨some 3, .asg (.k (.d (.bool false))), none⟩]) (.seq (.dreg [⟨some 8, .val (.cp (.t 0)), none⟩, ⟨some 9, .val (.nck (.t 
  8)), none⟩, ⟨some 10, .val (.fa 0 (.t 9)), none⟩, ⟨some 11, .val (.ld false 1 (.t 10)), none⟩, ⟨some 12, .val (.cp (.t 0)), none⟩, ⟨some 13, .val (.nck (.t 12)), none⟩, ⟨some 14, 
  .val (.fa 1 (.t 13)), none⟩, ⟨some 15, .val (.ld false 1 (.t 14)), none⟩, ⟨some 16, .call 19 [.t 11, .t 15], none⟩, ⟨some 4, .asg (.t 16), none⟩]) (.seq (.reg [⟨some 18, .val 
  (.cp (.t 4)), none⟩, ⟨some 19, .call 108 [.t 18], none⟩, ⟨some 17, .val (.cp (.t 19)), none⟩, ⟨some 20, .val (.ext 0 (.t 17)), none⟩, ⟨some 21, .val (.ext 1 (.t 17)), none⟩, 
  ⟨some 5, .asg (.t 20), none⟩, ⟨some 6, .asg (.t 21), none⟩]) (.seq (.dreg [⟨some 22, .val (.cp (.t 0)), none⟩, ⟨some 23, .val (.nck (.t 22)), none⟩, ⟨some 24, .val (.fa 0 (.t 
  23)), none⟩, ⟨some 25, .val (.ld false 1 (.t 24)), none⟩, ⟨some 26, .val (.cp (.t 0)), none⟩, ⟨some 27, .val (.nck (.t 26)), none⟩, ⟨some 28, .val (.fa 1 (.t 27)), none⟩, ⟨some 
  29, .val (.ld false 1 (.t 28)), none⟩, ⟨some 30, .val (.cp (.t 4)), none⟩, ⟨some 31, .val (.len true (.t 30)), none⟩, ⟨some 32, .val (.bin .add (.t 29) (.t 31)), none⟩, ⟨some 33, 
  .call 18 [.t 25, .t 32], none⟩, ⟨some 7, .asg (.t 33), none⟩]) (.seq (.seq (.reg [⟨some 34, .val (.cp (.t 6)), none⟩, ⟨some 35, .val (.not (.t 34)), none⟩, ⟨some 36, .val (.cp 
  (.t 35)), none⟩, ⟨some 37, .val (.cp (.t 0)), some (36, false)⟩, ⟨some 38, .val (.nck (.t 37)), some (36, false)⟩, ⟨some 39, .val (.fa 0 (.t 38)), some (36, false)⟩, ⟨some 40, 
  .val (.ld false 1 (.t 39)), some (36, false)⟩, ⟨some 41, .val (.cp (.t 7)), some (36, false)⟩, ⟨some 42, .call 19 [.t 40, .t 41], some (36, false)⟩, ⟨some 43, .val (.bin .neq (.t 
  42) (.k (.d (.str [48])))), some (36, false)⟩, ⟨some 44, .val (.pick (.t 36) (.k (.d (.bool true))) (.t 43)), none⟩]) (.cond (.t 44) (.seq (.reg [⟨some 2, .asg (.k (.d (.int .i64 
  0))), none⟩, ⟨some 3, .asg (.k (.d (.bool false))), none⟩]) .ret) .skip)) (.seq (.reg [⟨some 45, .val (.cp (.t 0)), none⟩, ⟨some 46, .val (.nck (.t 45)), none⟩, ⟨some 47, .val 
  (.fa 0 (.t 46)), none⟩, ⟨some 48, .val (.ld false 1 (.t 47)), none⟩, ⟨some 49, .val (.cp (.t 7)), none⟩, ⟨some 50, .val (.bin .add (.t 49) (.k (.d (.int .i64 1)))), none⟩, ⟨some 
  51, .call 18 [.t 48, .t 50], none⟩, ⟨some 7, .asg (.t 51), none⟩]) (.seq (.seq (.reg [⟨some 52, .val (.cp (.t 0)), none⟩, ⟨some 53, .val (.nck (.t 52)), none⟩, ⟨some 54, .val 
  (.fa 0 (.t 53)), none⟩, ⟨some 55, .val (.ld false 1 (.t 54)), none⟩, ⟨some 56, .val (.cp (.t 7)), none⟩, ⟨some 57, .call 19 [.t 55, .t 56], none⟩, ⟨some 58, .val (.bin .neq (.t 
  57) (.k (.d (.str [82])))), none⟩]) (.cond (.t 58) (.seq (.reg [⟨some 2, .asg (.k (.d (.int .i64 0))), none⟩, ⟨some 3, .asg (.k (.d (.bool false))), none⟩]) .ret) .skip)) (.seq 
  (.reg [⟨some 59, .val (.cp (.t 0)), none⟩, ⟨some 60, .val (.cp (.t 7)), none⟩, ⟨some 61, .val (.bin .add (.t 60) (.k (.d (.int .i64 1)))), none⟩, ⟨some 62, .val (.nck (.t 59)), 
  none⟩, ⟨some 63, .val (.fa 1 (.t 62)), none⟩, ⟨none, .st 1 (.t 63) (.t 61), none⟩]) (.seq (.reg [⟨some 64, .val (.cp (.t 5)), none⟩, ⟨some 2, .asg (.t 64), none⟩, ⟨some 3, .asg 
  (.k (.d (.bool true))), none⟩]) .ret))))))))
def R___parse_reader__ref : List LRes := [.tmp 2, .tmp 3]
theorem lift___parse_reader__ref : Lifts Tryz.prog 88 65 L___parse_reader__ref R___parse_reader__ref := ⟨_, _, Tryz.func88, rfl, by kernel_rfl, by kernel_rfl, rfl⟩

theorem refP_call (s : List UInt8) (k : Nat) (hs : s.length ≤ 60000) (hk : k ≤ s.length) : MCall Tryz.prog 88 [.ptr (.x 0) 0] [robj s k 0] (refPost s k (refAt s k)) := by
  have hwl := wordP_len s k
  generalize hR : refAt s k = R
  unfold refAt at hR
  have hw := word_call s ((k : Nat) : Int) (by omega)
  rw [clamp_in hk] at hw
  generalize wordP s k = w at *
  have hob := object_call w (by omega)
  have bad : R = none → ∀ n : Int, refPost s k R (.tuple [.d (.int .i64 n), .d (.bool false)]) [robj s k 0] := fun e n => by rw [e]; exact ⟨n, rfl, rfl⟩
  have hw1 := skip_call s ((k : Int) + (w.length : Int)) (by omega)
  have hcl : clampP s ((k : Int) + (w.length : Int)) = k + w.length := by rw [show (k : Int) + (w.length : Int) = ((k + w.length : Nat) : Int) by omega, clamp_in (by omega)]
  rw [hcl] at hw1
  have hi1 := skipP_le (s := s) (k := k + w.length) (by omega)
  rw [robj_0]
  refine lift___parse_reader__ref.mcall (by kernel_rfl) rfl ?_
  simp (maxSteps := 2000000) only [go_sem, ↓reduceIte, L___parse_reader__ref, R___parse_reader__ref]
  refine CallD.of hw ?_
  simp (maxSteps := 2000000) only [go_sem, ↓reduceIte]
  refine CallG.post hob (fun r hr => ?_)
  cases ho : objF w with
  | none =>
    rw [ho] at hr hR
    obtain ⟨n, rfl⟩ := hr
    simp (maxSteps := 2000000) (disch := omega) only [go_sem, ↓reduceIte]
    refine CallD.of hw1 ?_
    simp (maxSteps := 2000000) only [go_sem, ↓reduceIte]
    exact bad hR.symm 0
  | some n =>
    rw [ho] at hr hR
    simp only [objPost] at hr
    subst hr
    simp (maxSteps := 2000000) (disch := omega) only [go_sem, ↓reduceIte]
    refine CallD.of hw1 ?_
    simp only at hR
    generalize skipP s (k + w.length) = q at *
    have hw2 := word_call s ((q : Nat) : Int) (by omega)
    rw [clamp_in (by omega)] at hw2
    simp (maxSteps := 2000000) only [go_sem, ↓reduceIte]
    refine CallG.of hw2 ?_
    simp (maxSteps := 2000000) only [go_sem, ↓reduceIte]
    refine ⟨fun h5 => bad (by rw [← hR, if_neg h5]) 0, fun h5 => ?_⟩
    rw [if_pos h5] at hR
    have hql : q < s.length := by
      rcases Nat.lt_or_ge q s.length with h | h
      · exact h
      · unfold wordP at h5; rw [List.drop_eq_nil_of_le h] at h5; cases h5
    have hw3 := skip_call s ((q : Int) + 1) (by omega)
    rw [show clampP s ((q : Int) + 1) = q + 1 by rw [show (q : Int) + 1 = ((q + 1 : Nat) : Int) by omega, clamp_in (by omega)]] at hw3
    have hj1 := skipP_le (s := s) (k := q + 1) (by omega)
    generalize skipP s (q + 1) = j at *
    have hw4 := word_call s ((j : Nat) : Int) (by omega)
    rw [clamp_in (by omega)] at hw4
    rw [IntWalk.i64_in _ (by omega)]
    refine CallG.of hw3 ?_
    simp (maxSteps := 2000000) only [go_sem, ↓reduceIte]
    refine CallG.of hw4 ?_
    simp (maxSteps := 2000000) only [go_sem, ↓reduceIte]
    refine ⟨fun h6 => bad (by rw [← hR, if_neg h6]) 0, fun h6 => ?_⟩
    rw [if_pos h6] at hR
    simp (disch := omega) only [IntWalk.i64_in, IntWalk.u8_in]
    subst hR
    exact ⟨rfl, by simp only [robj, Int.natCast_add, Int.natCast_one]; rfl⟩

/-! ### Words -/
/-- What a step of the reader leaves: a value, or what is wrong. -/
def rdPost (s : List UInt8) : RV → AV → List AObj → Prop
  | .ok v k, r, hs => r = .d v.d ∧ hs = [robj s k 0]
  | .bad e, r, hs => ∃ (v : Val) (k : Int), r = .d v.d ∧ hs = [robj s k e]
theorem rdPost_ok {s : List UInt8} {v : Val} {k : Nat} {R : RV} (h : R = .ok v k) : rdPost s R (.d v.d) [robj s k 0] := by subst h; exact ⟨rfl, rfl⟩
theorem rdPost_bad {s : List UInt8} {e : Nat} (v : Val) (k : Int) {R : RV} (h : R = .bad e) : rdPost s R (.d v.d) [robj s k e] := by subst h; exact ⟨v, k, rfl, rfl⟩

/-- (*parse.reader).word -/
def L___parse_reader__word : LCode :=
  .seq (.reg [⟨some 2, .allo [.int .i64 0, .int .i64 0, .str [], .list [], .list []], none⟩]) (.seq (.dreg [⟨some 8, .val (.cp (.t 0)), none⟩, ⟨some 9, .val (.nck (.t 8)), none⟩, 
  ⟨some 10, .val (.fa 0 (.t 9)), none⟩, ⟨some 11, .val (.ld false 1 (.t 10)), none⟩, ⟨some 12, .val (.cp (.t 0)), none⟩, ⟨some 13, .val (.nck (.t 12)), none⟩, ⟨some 14, .val (.fa 1 
  (.t 13)), none⟩, ⟨some 15, .val (.ld false 1 (.t 14)), none⟩, ⟨some 16, .call 19 [.t 11, .t 15], none⟩, ⟨some 3, .asg (.t 16), none⟩]) (.seq (.seq (.reg [⟨some 17, .val (.cp (.t 
  3)), none⟩]) (.block 0 (.seq (.reg [⟨some 19, .val (.bin .eql (.t 17) (.k (.d (.str [110, 117, 108, 108])))), none⟩, ⟨some 18, .asg (.t 19), none⟩]) (.cond (.t 18) (.seq (.reg 
  [⟨some 20, .val (.cp (.t 0)), none⟩, ⟨some 21, .val (.nck (.t 20)), none⟩, ⟨some 22, .val (.fa 1 (.t 21)), none⟩, ⟨some 23, .val (.ld false 1 (.t 22)), none⟩, ⟨some 24, .val 
  (.bin .add (.t 23) (.k (.d (.int .i64 4)))), none⟩, ⟨some 25, .val (.nck (.t 20)), none⟩, ⟨some 26, .val (.fa 1 (.t 25)), none⟩, ⟨none, .st 1 (.t 26) (.t 24), none⟩]) (.seq (.reg 
  [⟨some 27, .val (.bld [(0, 1), (1, 1), (2, 1), (3, 1), (4, 1)] [.int .i64 0, .int .i64 0, .str [], .list [], .list []] [] []), none⟩, ⟨none, .st 5 (.t 2) (.t 27), none⟩]) .ret)) 
  (.seq (.reg [⟨some 29, .val (.bin .eql (.t 17) (.k (.d (.str [116, 114, 117, 101])))), none⟩, ⟨some 28, .asg (.t 29), none⟩]) (.cond (.t 28) (.seq (.reg [⟨some 30, .val (.cp (.t 
  0)), none⟩, ⟨some 31, .val (.nck (.t 30)), none⟩, ⟨some 32, .val (.fa 1 (.t 31)), none⟩, ⟨some 33, .val (.ld false 1 (.t 32)), none⟩, ⟨some 34, .val (.bin .add (.t 33) (.k (.d 
  (.int .i64 4)))), none⟩, ⟨some 35, .val (.nck (.t 30)), none⟩, ⟨some 36, .val (.fa 1 (.t 35)), none⟩, ⟨none, .st 1 (.t 36) (.t 34), none⟩]) (.seq (.reg [⟨some 37, .val (.bld [(0, 
  1), (1, 1), (2, 1), (3, 1), (4, 1)] [.int .i64 0, .int .i64 0, .str [], .list [], .list []] [false, false, false, true, true] [(0, .k (.d (.int .i64 1))), (1, .k (.d (.int .i64 
  1)))]), none⟩, ⟨none, .st 5 (.t 2) (.t 37), none⟩]) .ret)) (.seq (.reg [⟨some 39, .val (.bin .eql (.t 17) (.k (.d (.str [102, 97, 108, 115, 101])))), none⟩, ⟨some 38, .asg (.t 
  39), none⟩]) (.cond (.t 38) (.seq (.reg [⟨some 40, .val (.cp (.t 0)), none⟩, ⟨some 41, .val (.nck (.t 40)), none⟩, ⟨some 42, .val (.fa 1 (.t 41)), none⟩, ⟨some 43, .val (.ld 
  false 1 (.t 42)), none⟩, ⟨some 44, .val (.bin .add (.t 43) (.k (.d (.int .i64 5)))), none⟩, ⟨some 45, .val (.nck (.t 40)), none⟩, ⟨some 46, .val (.fa 1 (.t 45)), none⟩, ⟨none, 
  .st 1 (.t 46) (.t 44), none⟩]) (.seq (.reg [⟨some 47, .val (.bld [(0, 1), (1, 1), (2, 1), (3, 1), (4, 1)] [.int .i64 0, .int .i64 0, .str [], .list [], .list []] [false, false, 
  false, true, true] [(0, .k (.d (.int .i64 1)))]), none⟩, ⟨none, .st 5 (.t 2) (.t 47), none⟩]) .ret)) .skip)))))))) (.seq (.reg [⟨some 49, .val (.cp (.t 0)), none⟩, ⟨some 50, 
  .prim .call [.k (.fn (.func 88) [] []), .t 49] [], none⟩, ⟨some 48, .val (.cp (.t 50)), none⟩, ⟨some 51, .val (.ext 0 (.t 48)), none⟩, ⟨some 52, .val (.ext 1 (.t 48)), none⟩, 
  ⟨some 4, .asg (.t 51), none⟩, ⟨some 5, .asg (.t 52), none⟩]) (.seq (.seq (.reg [⟨some 53, .val (.cp (.t 5)), none⟩]) (.cond (.t 53) (.seq (.reg [⟨some 54, .val (.cp (.t 4)), 
  none⟩, ⟨some 55, .val (.bld [(0, 1), (1, 1), (2, 1), (3, 1), (4, 1)] [.int .i64 0, .int .i64 0, .str [], .list [], .list []] [false, false, false, true, true] [(0, .k (.d (.int 
  .i64 7))), (1, .t 54)]), none⟩, ⟨none, .st 5 (.t 2) (.t 55), none⟩]) .ret) .skip)) (.seq (.reg [⟨some 57, .val (.cp (.t 3)), none⟩, ⟨some 58, .call 89 [.t 57], none⟩, ⟨some 56, 
  .val (.cp (.t 58)), none⟩, ⟨some 59, .val (.ext 0 (.t 56)), none⟩, ⟨some 60, .val (.ext 1 (.t 56)), none⟩, ⟨some 6, .asg (.t 59), none⟩, ⟨some 7, .asg (.t 60), none⟩]) (.seq 
  (.seq (.reg [⟨some 61, .val (.cp (.t 7)), none⟩, ⟨some 62, .val (.eqN 0 true (.t 61)), none⟩]) (.cond (.t 62) (.seq (.reg [⟨some 63, .val (.cp (.t 0)), none⟩, ⟨some 64, .val (.cp 
  (.t 7)), none⟩, ⟨some 65, .prim .call [.k (.fn (.func 34) [] []), .t 63, .t 64] [], none⟩]) (.seq (.reg [⟨some 66, .val (.bld [(0, 1), (1, 1), (2, 1), (3, 1), (4, 1)] [.int .i64 
  0, .int .i64 0, .str [], .list [], .list []] [] []), none⟩, ⟨none, .st 5 (.t 2) (.t 66), none⟩]) .ret)) .skip)) (.seq (.reg [⟨some 67, .val (.cp (.t 0)), none⟩, ⟨some 68, .val 
  (.nck (.t 67)), none⟩, ⟨some 69, .val (.fa 1 (.t 68)), none⟩, ⟨some 70, .val (.ld false 1 (.t 69)), none⟩, ⟨some 71, .val (.cp (.t 3)), none⟩, ⟨some 72, .val (.len true (.t 71)), 
  none⟩, ⟨some 73, .val (.bin .add (.t 70) (.t 72)), none⟩, ⟨some 74, .val (.nck (.t 67)), none⟩, ⟨some 75, .val (.fa 1 (.t 74)), none⟩, ⟨none, .st 1 (.t 75) (.t 73), none⟩]) (.seq 
  (.reg [⟨some 76, .val (.cp (.t 6)), none⟩, ⟨some 77, .val (.bld [(0, 1), (1, 1), (2, 1), (3, 1), (4, 1)] [.int .i64 0, .int .i64 0, .str [], .list [], .list []] [false, false, 
  false, true, true] [(0, .k (.d (.int .i64 2))), (1, .t 76)]), none⟩, ⟨none, .st 5 (.t 2) (.t 77), none⟩]) .ret))))))))
def R___parse_reader__word : List LRes := [.cell 2 true 5]
theorem lift___parse_reader__word : Lifts Tryz.prog 64 78 L___parse_reader__word R___parse_reader__word := ⟨_, _, Tryz.func64, rfl, by kernel_rfl, by kernel_rfl, rfl⟩

theorem wordV_call (s : List UInt8) (k : Nat) (hs : s.length ≤ 60000) (hk : k ≤ s.length) : MCall Tryz.prog 64 [.ptr (.x 0) 0] [robj s k 0] (rdPost s (wordV s k)) := by
  have hwl := wordP_len s k
  generalize hR : wordV s k = R
  unfold wordV at hR
  have hw := word_call s ((k : Nat) : Int) (by omega)
  rw [clamp_in hk] at hw
  have hrf := refP_call s k hs hk
  have hfx := parse_call (wordP s k) (by omega)
  have good : ∀ (a b : Int) (t : List UInt8) (m : Int), R = .ok (Val.mk a b t [] []) m.toNat → 0 ≤ m → rdPost s R (.d (.agg [.int .i64 a, .int .i64 b, .str t, .list [], .list []])) [.cells [.d (.str s), .d (.int .i64 m), .d .nil]] := fun a b t m he hm => by
    have := rdPost_ok (s := s) he
    rwa [kmk, robj_0, show ((m.toNat : Nat) : Int) = m by omega] at this
  generalize wordP s k = w at *
  rw [robj_0] at hrf ⊢
  refine lift___parse_reader__word.mcall (by kernel_rfl) rfl ?_
  simp (maxSteps := 2000000) only [go_sem, ↓reduceIte, L___parse_reader__word, R___parse_reader__word]
  refine CallD.of hw ?_
  simp (maxSteps := 2000000) (disch := omega) only [go_sem, ↓reduceIte]
  refine ⟨fun w1 => ?_, fun w1 => ⟨fun w2 => ?_, fun w2 => ⟨fun w3 => ?_, fun w3 => ?_⟩⟩⟩
  · rw [if_pos w1] at hR
    exact good 0 0 [] (k + 4) (by rw [← hR]; congr 1) (by omega)
  · rw [if_neg w1, if_pos w2] at hR
    exact good 1 1 [] (k + 4) (by rw [← hR]; congr 1) (by omega)
  · rw [if_neg w1, if_neg w2, if_pos w3] at hR
    exact good 1 0 [] (k + 5) (by rw [← hR]; congr 1) (by omega)
  · rw [if_neg w1, if_neg w2, if_neg w3] at hR
    refine PrimG.mpost ([.x 0]) ([]) rfl (hrf) rfl rfl (by simp only [objsAt, St.obj, aget, AObj.ren, AV.ren, AV.ren1, renL, ren1L, renR, renQ, List.getD_cons_zero, List.getD_cons_succ, and_true, and_self, Nat.reduceEqDiff, ↓reduceIte, reduceCtorEq]) rfl rfl rfl (fun r hs' hr => ?_)
    cases hra : refAt s k with
    | some p =>
      obtain ⟨n, kn⟩ := p
      rw [hra] at hR hr
      obtain ⟨rfl, rfl⟩ := hr
      refine ⟨⟨rfl, rfl⟩, ?_⟩
      simp (maxSteps := 2000000) only [go_sem, ↓reduceIte, robj, errD]
      exact good 7 n [] kn (by rw [← hR]; rfl) (by omega)
    | none =>
      rw [hra] at hR hr
      obtain ⟨n, rfl, rfl⟩ := hr
      refine ⟨⟨rfl, rfl⟩, ?_⟩
      simp (maxSteps := 2000000) only [go_sem, ↓reduceIte, robj, errD]
      refine CallG.of hfx ?_
      simp only [resP]
      generalize parseF w = F at hR
      obtain ⟨fn, fc⟩ := F
      simp only at hR
      by_cases f0 : fc = 0
      · subst f0
        rw [if_pos rfl] at hR
        rw [show errD 0 = .nil from rfl]
        simp (maxSteps := 2000000) (disch := omega) only [go_sem, ↓reduceIte]
        exact good 2 fn [] _ (by rw [← hR]; congr 1) (by omega)
      · rw [if_neg f0] at hR
        rw [errD_ne f0]
        have hf := fail_0 s (k : Int) fc
        rw [robj_0, errD_ne f0] at hf
        simp (maxSteps := 2000000) only [go_sem, ↓reduceIte]
        refine PrimG.mcall ([.x 0]) ([]) rfl (hf) rfl rfl (by simp only [objsAt, St.obj, aget, AObj.ren, AV.ren, AV.ren1, renL, ren1L, renR, renQ, List.getD_cons_zero, List.getD_cons_succ, and_true, and_self, Nat.reduceEqDiff, ↓reduceIte, reduceCtorEq]) rfl rfl rfl ⟨rfl, rfl⟩ ?_
        simp (maxSteps := 2000000) only [go_sem, ↓reduceIte, robj]
        have := rdPost_bad (s := s) zeroV (k : Int) hR.symm
        rwa [Val.d_eq] at this
end Go.Av.Tryz
set_option linter.unusedSimpArgs false
namespace Go.Av.Tryz
open Go.Proofs

/-- An iteration of a reader: what the steps below it tell. -/
def RdAt (s : List UInt8) (rd : Nat → RV) (deep : Int) : Prop := ∀ k : Nat, k ≤ s.length → MCall Tryz.prog 33 [.ptr (.x 0) 0, .d (.int .i64 deep)] [robj s k 0] (rdPost s (rd k))

theorem hasPre_one {s : List UInt8} {k : Nat} {c : UInt8} {x : UInt8} (h : s[k]? = some c) : hasPre (s.drop k) [x] = decide (c = x) := by
  rw [drop_at h]; simp [hasPre]

/-- The reader in a loop: well at a place, or with what is wrong. -/
def ro (s : List UInt8) (i : Nat) : Option (Int × Nat) → AObj
  | none => .cells [.d (.str s), .d (.int .i64 i), .d .nil]
  | some (k, e) => robj s k e

/-- (*parse.reader).list -/
def L___parse_reader__list : LCode :=
  .seq (.reg [⟨some 4, .allo [.int .i64 0, .int .i64 0, .str [], .list [], .list []], none⟩]) (.seq (.reg [⟨some 7, .val (.bld [(0, 1), (1, 1), (2, 1), (3, 1), (4, 1)] [.int .i64 0, 
  .int .i64 0, .str [], .list [], .list []] [false, false, false, true, true] [(0, .k (.d (.int .i64 5)))]), none⟩, ⟨some 5, .allo [.int .i64 0, .int .i64 0, .str [], .list [], 
  .list []], none⟩, ⟨none, .st 5 (.t 5) (.t 7), none⟩]) (.seq (.block 0 (.loop (.seq (.seq (.reg [⟨some 8, .val (.cp (.t 0)), none⟩, ⟨some 9, .val (.nck (.t 8)), none⟩, ⟨some 10, 
  .val (.fa 2 (.t 9)), none⟩, ⟨some 11, .val (.ld false 1 (.t 10)), none⟩, ⟨some 12, .val (.eqN 0 false (.t 11)), none⟩, ⟨some 13, .val (.cp (.t 12)), none⟩, ⟨some 14, .val (.cp 
  (.t 0)), some (13, true)⟩, ⟨some 15, .prim .call [.k (.fn (.func 56) [] []), .t 14] [], some (13, true)⟩, ⟨some 16, .val (.bin .neq (.t 15) (.k (.d (.int .u8 93)))), some (13, 
  true)⟩, ⟨some 17, .val (.pick (.t 13) (.t 16) (.k (.d (.bool false)))), none⟩, ⟨some 18, .val (.cp (.t 17)), none⟩, ⟨some 19, .val (.cp (.t 0)), some (18, true)⟩, ⟨some 20, .val 
  (.nck (.t 19)), some (18, true)⟩, ⟨some 21, .val (.fa 2 (.t 20)), some (18, true)⟩, ⟨some 22, .val (.ld false 1 (.t 21)), some (18, true)⟩, ⟨some 23, .val (.eqN 0 false (.t 22)), 
  some (18, true)⟩, ⟨some 24, .val (.pick (.t 18) (.t 23) (.k (.d (.bool false)))), none⟩]) (.cond (.t 24) .skip (.exit 0))) (.block 1 (.seq (.reg [⟨some 25, .val (.cp (.t 0)), 
  none⟩, ⟨some 26, .val (.cp (.t 1)), none⟩, ⟨some 27, .val (.bin .add (.t 26) (.k (.d (.int .i64 1)))), none⟩, ⟨some 28, .prim .call [.k (.fn (.func 33) [] []), .t 25, .t 27] [], 
  none⟩, ⟨some 6, .allo [.int .i64 0, .int .i64 0, .str [], .list [], .list []], none⟩, ⟨none, .st 5 (.t 6) (.t 28), none⟩]) (.seq (.reg [⟨some 29, .val (.fa 3 (.t 5)), none⟩, 
  ⟨some 30, .val (.ld false 1 (.t 29)), none⟩, ⟨some 31, .val (.ld true 5 (.t 6)), none⟩, ⟨some 32, .bsl 41 5 [.t 31], none⟩, ⟨some 33, .app 41 5 80 false (.t 30) (.t 32), none⟩, 
  ⟨some 34, .val (.fa 3 (.t 5)), none⟩, ⟨none, .st 1 (.t 34) (.t 33), none⟩]) (.seq (.reg [⟨some 35, .val (.fa 3 (.t 5)), none⟩, ⟨some 36, .val (.ld false 1 (.t 35)), none⟩, ⟨some 
  37, .val (.len false (.t 36)), none⟩, ⟨some 38, .val (.bin .gtr (.t 37) (.k (.d (.int .i64 300)))), none⟩]) (.cond (.t 38) (.reg [⟨some 39, .val (.cp (.t 0)), none⟩, ⟨some 40, 
  .val (.mkI 50 (.k (.d (.int .i64 2)))), none⟩, ⟨some 41, .prim .call [.k (.fn (.func 34) [] []), .t 39, .t 40] [], none⟩]) .skip)))))))) (.seq (.reg [⟨some 42, .val (.cp (.t 0)), 
  none⟩, ⟨some 43, .prim .call [.k (.fn (.func 60) [] []), .t 42, .k (.d (.str [93]))] [], none⟩]) (.seq (.reg [⟨some 44, .val (.ld true 5 (.t 5)), none⟩, ⟨none, .st 5 (.t 4) (.t 
  44), none⟩]) .ret))))
def R___parse_reader__list : List LRes := [.cell 4 true 5]
theorem lift___parse_reader__list : Lifts Tryz.prog 63 45 L___parse_reader__list R___parse_reader__list := ⟨_, _, Tryz.func63, rfl, by kernel_rfl, by kernel_rfl, rfl⟩

theorem listP_of (s : List UInt8) (hs : s.length ≤ 60000) (rd : Nat → RV) (deep : Int) (hd : 0 ≤ deep ∧ deep ≤ 8) (hg : ∀ k, k ≤ s.length → goodR s k (rd k)) (ih : RdAt s rd (deep + 1)) (k : Nat) (hk : k ≤ s.length) :
    MCall Tryz.prog 63 [.ptr (.x 0) 0, .d (.int .i64 deep)] [robj s k 0] (rdPost s (listF rd s 301 [] k)) := by
  generalize hR : listF rd s 301 [] k = R
  rw [robj_0]
  refine lift___parse_reader__list.mcall (by kernel_rfl) rfl ?_
  simp (maxSteps := 2000000) (disch := omega) only [go_sem, ↓reduceIte, L___parse_reader__list, R___parse_reader__list]
  refine run_loop (fun y : Nat × List Val × Option (Int × Nat) => ⟨[(0, .ptr (.x 0) 0), (1, .d (.int .i64 deep)), (4, .ptr (.l 4) 0), (5, .ptr (.l 5) 0)],
      [(4, .cells [.d (.int .i64 0), .d (.int .i64 0), .d (.str []), .ns, .ns]), (5, .cells [.d (.int .i64 5), .d (.int .i64 0), .d (.str []), lrow (.l 5) 3 y.2.1, .ns])], [(0, ro s y.1 y.2.2)]⟩)
    (fun y => y.1 ≤ s.length ∧ y.2.1.length ≤ 301 ∧ (y.2.2 = none → y.2.1.length ≤ 300 ∧ listF rd s (301 - y.2.1.length) y.2.1 y.1 = R) ∧ ∀ k e, y.2.2 = some (k, e) → e ≠ 0 ∧ R = .bad e) (fun y => 2 * (s.length - y.1) + (if y.2.2.isNone = true then 1 else 0)) (k, [], none) ?_ ?_ ?_
  · refine Weak.mk ?_ ?_ ?_ <;> simp (maxSteps := 2000000) only [go_sem, ↓reduceIte, Sub, Int.natCast_add, Int.natCast_mul, lrow, ro]
  · exact ⟨hk, by simp, fun _ => ⟨by simp, hR⟩, fun _ _ h => by cases h⟩
  · rintro ⟨i, acc, o⟩ ⟨hi, ha, hF, hE⟩
    simp only at hi ha hF hE
    have hal := valsD_length acc
    have fin : (lrow (.l 5) 3 acc = .ns ∧ valsD acc = []) ∨ lrow (.l 5) 3 acc = .own (.c (.l 5) 3) 41 5 (valsD acc) := by
      rcases lrow_cases (.l 5) 3 acc with ⟨h, rfl⟩ | h
      · exact .inl ⟨h, rfl⟩
      · exact .inr h
    have dd : (lisV acc).d = D.agg [.int .i64 5, .int .i64 0, .str [], .list (valsD acc), .list []] := by rw [Val.d_eq]; rfl
    cases o with
    | some p =>
      obtain ⟨k', e⟩ := p
      obtain ⟨e0, rfl⟩ := hE k' e rfl
      have het := eat_ne s k' [93] e0
      have fb := rdPost_bad (s := s) (R := .bad e) (lisV acc) k' rfl
      rw [dd, robj_ne s k' e0] at fb
      simp only [ro]
      rw [robj_ne s k' e0] at het ⊢
      simp (maxSteps := 2000000) only [go_sem, ↓reduceIte]
      refine PrimG.mcall ([.x 0]) ([]) rfl (het) rfl rfl (by simp only [objsAt, St.obj, aget, AObj.ren, AV.ren, AV.ren1, renL, ren1L, renR, renQ, List.getD_cons_zero, List.getD_cons_succ, and_true, and_self, Nat.reduceEqDiff, ↓reduceIte, reduceCtorEq]) rfl rfl rfl ⟨rfl, rfl⟩ ?_
      rcases fin with ⟨h1, h2⟩ | h1 <;> rw [h1]
      all_goals
        simp (maxSteps := 2000000) only [go_sem, ↓reduceIte]
        first
        | exact fb
        | (rw [h2] at fb; exact fb)
    | none =>
      obtain ⟨ha', hF⟩ := hF rfl
      obtain ⟨m, hm⟩ : ∃ m, 301 - acc.length = m + 1 := ⟨300 - acc.length, by omega⟩
      rw [hm, listF] at hF
      have hsk := skipP_le hi
      have hnx := next_0 s i hs hi
      generalize skipP s i = q at *
      simp only [ro]
      rw [robj_0] at hnx
      simp (maxSteps := 2000000) only [go_sem, ↓reduceIte]
      refine PrimG.mcall ([.x 0]) ([]) rfl (hnx) rfl rfl (by simp only [objsAt, St.obj, aget, AObj.ren, AV.ren, AV.ren1, renL, ren1L, renR, renQ, List.getD_cons_zero, List.getD_cons_succ, and_true, and_self, Nat.reduceEqDiff, ↓reduceIte, reduceCtorEq]) rfl rfl rfl ⟨rfl, rfl⟩ ?_
      cases hc : s[q]? with
      | none =>
        rw [hc] at hF
        simp only at hF
        have het := eat_ne s (q : Int) [93] (n := 5) (by decide)
        have fb := rdPost_bad (s := s) (R := R) (lisV acc) (q : Int) hF.symm
        rw [dd, robj_5] at fb
        rw [robj_5] at het
        simp only
        rw [robj_5]
        simp (maxSteps := 2000000) only [go_sem, ↓reduceIte]
        refine PrimG.mcall ([.x 0]) ([]) rfl (het) rfl rfl (by simp only [objsAt, St.obj, aget, AObj.ren, AV.ren, AV.ren1, renL, ren1L, renR, renQ, List.getD_cons_zero, List.getD_cons_succ, and_true, and_self, Nat.reduceEqDiff, ↓reduceIte, reduceCtorEq]) rfl rfl rfl ⟨rfl, rfl⟩ ?_
        rcases fin with ⟨h1, h2⟩ | h1 <;> rw [h1]
        all_goals
          simp (maxSteps := 2000000) only [go_sem, ↓reduceIte]
          first
          | exact fb
          | (rw [h2] at fb; exact fb)
      | some c =>
        have hc8 := u8_lt c
        have hlt : q < s.length := (List.getElem?_eq_some_iff.1 hc).1
        rw [hc] at hF
        simp only at hF
        simp only
        rw [robj_0]
        simp (maxSteps := 2000000) only [go_sem, ↓reduceIte]
        refine ⟨fun h2 => ?_, fun h2 => ?_⟩
        · rw [if_neg (by omega)] at hF
          have hv := ih q (by omega)
          have hgq := hg q (by omega)
          rw [robj_0] at hv
          simp (disch := omega) only [IntWalk.i64_in, IntWalk.u8_in]
          refine PrimG.mpost ([.x 0]) ([]) rfl (hv) rfl rfl (by simp only [objsAt, St.obj, aget, AObj.ren, AV.ren, AV.ren1, renL, ren1L, renR, renQ, List.getD_cons_zero, List.getD_cons_succ, and_true, and_self, Nat.reduceEqDiff, ↓reduceIte, reduceCtorEq]) rfl rfl rfl (fun r hs' hr => ?_)
          cases hx : rd q with
          | bad e =>
            rw [hx] at hF hr hgq
            obtain ⟨x, k', rfl, rfl⟩ := hr
            obtain ⟨g1, _⟩ := hgq
            have e0 : e ≠ 0 := by omega
            refine ⟨⟨rfl, rfl⟩, ?_⟩
            rw [Val.d_eq x, robj_ne s k' e0]
            have hrow : lrow (.l 5) 3 (acc ++ [x]) = .own (.c (.l 5) 3) 41 5 (valsD acc ++ [D.agg [.int .i64 x.kind, .int .i64 x.n, .str x.s, .list (valsD x.l), .list (fldsD x.f)]]) := by rw [lrow_snoc, Val.d_eq]
            have hfn := fail_ne s k' e0 (.iface 50 (.int .i64 2))
            rw [robj_ne s k' e0] at hfn
            have hnext : ∀ τ : St, τ = τ := fun _ => rfl
            have inv : i ≤ s.length ∧ (acc ++ [x]).length ≤ 301 ∧ (some (k', e) = none → (acc ++ [x]).length ≤ 300 ∧ listF rd s (301 - (acc ++ [x]).length) (acc ++ [x]) i = R) ∧ ∀ k e', some (k', e) = some (k, e') → e' ≠ 0 ∧ R = .bad e' :=
              ⟨hi, by simp; omega, fun h => (by cases h), fun k e' h => by cases h; exact ⟨e0, hF.symm⟩⟩
            have hsl := valsD_length (acc ++ [x])
            simp only [List.length_append, List.length_cons, List.length_nil] at hsl
            have hsn : valsD acc ++ [D.agg [.int .i64 x.kind, .int .i64 x.n, .str x.s, .list (valsD x.l), .list (fldsD x.f)]] = valsD (acc ++ [x]) := by rw [valsD_append]; simp [valsD, Val.d_eq]
            rw [hsn] at hrow
            rcases fin with ⟨h3, h4⟩ | h3 <;> rw [h3]
            · rw [h4, List.nil_append] at hsn
              simp (maxSteps := 2000000) only [go_sem, ↓reduceIte]
              rw [hsn]
              refine ⟨(i, acc ++ [x], some (k', e)), ?_, inv, by simp⟩
              refine Weak.mk ?_ ?_ ?_ <;> simp (maxSteps := 2000000) only [go_sem, ↓reduceIte, Sub, Int.natCast_add, Int.natCast_mul, hrow, ro, robj_ne s k' e0]
            · simp (maxSteps := 2000000) only [go_sem, ↓reduceIte]
              rw [hsn]
              refine ⟨by omega, fun h5 => ?_, fun h5 => ?_⟩
              · refine PrimG.mcall ([.x 0]) ([]) rfl (hfn) rfl rfl (by simp only [objsAt, St.obj, aget, AObj.ren, AV.ren, AV.ren1, renL, ren1L, renR, renQ, List.getD_cons_zero, List.getD_cons_succ, and_true, and_self, Nat.reduceEqDiff, ↓reduceIte, reduceCtorEq]) rfl rfl rfl ⟨rfl, rfl⟩ ?_
                simp (maxSteps := 2000000) only [go_sem, ↓reduceIte]
                refine ⟨(i, acc ++ [x], some (k', e)), ?_, inv, by simp⟩
                refine Weak.mk ?_ ?_ ?_ <;> simp (maxSteps := 2000000) only [go_sem, ↓reduceIte, Sub, Int.natCast_add, Int.natCast_mul, hrow, ro, robj_ne s k' e0]
              · refine ⟨(i, acc ++ [x], some (k', e)), ?_, inv, by simp⟩
                refine Weak.mk ?_ ?_ ?_ <;> simp (maxSteps := 2000000) only [go_sem, ↓reduceIte, Sub, Int.natCast_add, Int.natCast_mul, hrow, ro, robj_ne s k' e0]
          | ok x k' =>
            rw [hx] at hF hr hgq
            obtain ⟨rfl, rfl⟩ := hr
            obtain ⟨g1, g2, g3, g4⟩ := hgq
            refine ⟨⟨rfl, rfl⟩, ?_⟩
            simp only at hF
            rw [Val.d_eq x, robj_0]
            have hrow : lrow (.l 5) 3 (acc ++ [x]) = .own (.c (.l 5) 3) 41 5 (valsD acc ++ [D.agg [.int .i64 x.kind, .int .i64 x.n, .str x.s, .list (valsD x.l), .list (fldsD x.f)]]) := by rw [lrow_snoc, Val.d_eq]
            have hf0 := fail_0 s (k' : Int) 2
            rw [robj_0, robj_2, robj_lit.1] at hf0
            have hsl := valsD_length (acc ++ [x])
            have hlen : (acc ++ [x]).length = acc.length + 1 := by simp
            have hsn : valsD acc ++ [D.agg [.int .i64 x.kind, .int .i64 x.n, .str x.s, .list (valsD x.l), .list (fldsD x.f)]] = valsD (acc ++ [x]) := by rw [valsD_append]; simp [valsD, Val.d_eq]
            rw [hsn] at hrow
            have more : ¬ 300 < (valsD (acc ++ [x])).length → k' ≤ s.length ∧ (acc ++ [x]).length ≤ 301 ∧ ((none : Option (Int × Nat)) = none → (acc ++ [x]).length ≤ 300 ∧ listF rd s (301 - (acc ++ [x]).length) (acc ++ [x]) k' = R) ∧ ∀ k e', (none : Option (Int × Nat)) = some (k, e') → e' ≠ 0 ∧ R = .bad e' := fun h =>
              ⟨g2, by omega, fun _ => ⟨by omega, by rw [← hF]; congr 1; omega⟩, fun _ _ h => by cases h⟩
            have stop : 300 < (valsD (acc ++ [x])).length → k' ≤ s.length ∧ (acc ++ [x]).length ≤ 301 ∧ (some ((k' : Int), 2) = none → (acc ++ [x]).length ≤ 300 ∧ listF rd s (301 - (acc ++ [x]).length) (acc ++ [x]) k' = R) ∧ ∀ k e', some ((k' : Int), 2) = some (k, e') → e' ≠ 0 ∧ R = .bad e' := fun h =>
              ⟨g2, by omega, fun h => (by cases h), fun k e' h' => by
                cases h'
                have hm0 : m = 0 := by omega
                rw [hm0, listF] at hF
                exact ⟨by decide, hF.symm⟩⟩
            rcases fin with ⟨h3, h4⟩ | h3 <;> rw [h3]
            · rw [h4, List.nil_append] at hsn
              simp (maxSteps := 2000000) only [go_sem, ↓reduceIte]
              rw [hsn]
              have h5 : ¬ 300 < (valsD (acc ++ [x])).length := by rw [← hsn]; simp
              refine ⟨(k', acc ++ [x], none), ?_, more h5, by simp; omega⟩
              refine Weak.mk ?_ ?_ ?_ <;> simp (maxSteps := 2000000) only [go_sem, ↓reduceIte, Sub, Int.natCast_add, Int.natCast_mul, hrow, ro]
            · simp (maxSteps := 2000000) only [go_sem, ↓reduceIte]
              rw [hsn]
              refine ⟨by omega, fun h5 => ?_, fun h5 => ?_⟩
              · refine PrimG.mcall ([.x 0]) ([]) rfl (hf0) rfl rfl (by simp only [objsAt, St.obj, aget, AObj.ren, AV.ren, AV.ren1, renL, ren1L, renR, renQ, List.getD_cons_zero, List.getD_cons_succ, and_true, and_self, Nat.reduceEqDiff, ↓reduceIte, reduceCtorEq]) rfl rfl rfl ⟨rfl, rfl⟩ ?_
                simp (maxSteps := 2000000) only [go_sem, ↓reduceIte]
                refine ⟨(k', acc ++ [x], some ((k' : Int), 2)), ?_, stop (by omega), by simp; omega⟩
                refine Weak.mk ?_ ?_ ?_ <;> simp (maxSteps := 2000000) only [go_sem, ↓reduceIte, Sub, Int.natCast_add, Int.natCast_mul, hrow, ro, robj_2]
              · refine ⟨(k', acc ++ [x], none), ?_, more (by omega), by simp; omega⟩
                refine Weak.mk ?_ ?_ ?_ <;> simp (maxSteps := 2000000) only [go_sem, ↓reduceIte, Sub, Int.natCast_add, Int.natCast_mul, hrow, ro]
        · rw [if_pos (by omega)] at hF
          have het := eat_0 s q [93] hs (by omega) (by simp)
          have hp : hasPre (s.drop q) [93] = true := by
            rw [hasPre_one hc]
            have : c = 93 := UInt8.toNat_inj.1 (by have : (93 : UInt8).toNat = 93 := rfl; omega)
            simp [this]
          rw [hp, if_pos rfl, robj_0, robj_0] at het
          have fb := rdPost_ok (s := s) hF.symm
          rw [dd, robj_0] at fb
          refine PrimG.mcall ([.x 0]) ([]) rfl (het) rfl rfl (by simp only [objsAt, St.obj, aget, AObj.ren, AV.ren, AV.ren1, renL, ren1L, renR, renQ, List.getD_cons_zero, List.getD_cons_succ, and_true, and_self, Nat.reduceEqDiff, ↓reduceIte, reduceCtorEq]) rfl rfl rfl ⟨rfl, rfl⟩ ?_
          rcases fin with ⟨h1, h3⟩ | h1 <;> rw [h1]
          all_goals
            simp (maxSteps := 2000000) only [go_sem, ↓reduceIte]
            first
            | exact fb
            | (rw [h3] at fb; exact fb)
end Go.Av.Tryz
