import Derived.Test.YtbfljokjkcdbeaaPReadR
import Derived.Test.YtbfljokjkcdbeaaAvE
/- The program's reader: its small steps. -/
set_option linter.unusedSimpArgs false
namespace Go.Av.Try
open Go.Proofs

/-- The reader: its text, its place, what is wrong. -/
def robj (s : List UInt8) (k : Int) (n : Nat) : AObj := .cells [.d (.str s), .d (.int .i64 k), .d (errD n)]
theorem robj_0 (s : List UInt8) (k : Int) : robj s k 0 = .cells [.d (.str s), .d (.int .i64 k), .d .nil] := rfl
theorem robj_ne (s : List UInt8) (k : Int) {n : Nat} (h : n ≠ 0) : robj s k n = .cells [.d (.str s), .d (.int .i64 k), .d (.iface 76 (.int .i64 n))] := by rw [robj, errD_ne h]

theorem robj_2 (s : List UInt8) (k : Int) : robj s k 2 = .cells [.d (.str s), .d (.int .i64 k), .d (.iface 76 (.int .i64 2))] := rfl
theorem robj_3 (s : List UInt8) (k : Int) : robj s k 3 = .cells [.d (.str s), .d (.int .i64 k), .d (.iface 76 (.int .i64 3))] := rfl
theorem robj_4 (s : List UInt8) (k : Int) : robj s k 4 = .cells [.d (.str s), .d (.int .i64 k), .d (.iface 76 (.int .i64 4))] := rfl
theorem robj_5 (s : List UInt8) (k : Int) : robj s k 5 = .cells [.d (.str s), .d (.int .i64 k), .d (.iface 76 (.int .i64 5))] := rfl
theorem robj_lit : errD 2 = .iface 76 (.int .i64 2) ∧ errD 3 = .iface 76 (.int .i64 3) ∧ errD 4 = .iface 76 (.int .i64 4) ∧ errD 5 = .iface 76 (.int .i64 5) := ⟨rfl, rfl, rfl, rfl⟩

/-- (*parse.reader).fail -/
def L___parse_reader__fail : LCode :=
  .seq (.reg [⟨some 4, .val (.cp (.t 0)), none⟩, ⟨some 5, .val (.nck (.t 4)), none⟩, ⟨some 6, .val (.fa 2 (.t 5)), none⟩, ⟨some 7, .val (.ld false 1 (.t 6)), none⟩, ⟨some 8, .val 
  (.eqN 0 false (.t 7)), none⟩]) (.cond (.t 8) (.reg [⟨some 9, .val (.cp (.t 0)), none⟩, ⟨some 10, .val (.cp (.t 1)), none⟩, ⟨some 11, .val (.nck (.t 9)), none⟩, ⟨some 12, .val 
  (.fa 2 (.t 11)), none⟩, ⟨none, .st 1 (.t 12) (.t 10), none⟩]) .skip)
def R___parse_reader__fail : List LRes := []
theorem lift___parse_reader__fail : Lifts Try.prog 40 13 L___parse_reader__fail R___parse_reader__fail := ⟨_, _, Try.func40, rfl, by kernel_rfl, by kernel_rfl, rfl⟩

theorem fail_0 (s : List UInt8) (k : Int) (e : Nat) : MCallE Try.prog 40 [.ptr (.x 0) 0, .d (errD e)] [robj s k 0] (.tuple []) [robj s k e] := by
  rw [robj_0]
  by_cases h : e = 0
  · subst h
    rw [robj_0, show errD 0 = .nil from rfl]
    refine lift___parse_reader__fail.mcall (by kernel_rfl) rfl ?_
    simp (maxSteps := 2000000) only [go_sem, ↓reduceIte, L___parse_reader__fail, R___parse_reader__fail]
  · rw [robj_ne s k h, errD_ne h]
    refine lift___parse_reader__fail.mcall (by kernel_rfl) rfl ?_
    simp (maxSteps := 2000000) only [go_sem, ↓reduceIte, L___parse_reader__fail, R___parse_reader__fail]
theorem fail_ne (s : List UInt8) (k : Int) {n : Nat} (h : n ≠ 0) (E : D) : MCallE Try.prog 40 [.ptr (.x 0) 0, .d E] [robj s k n] (.tuple []) [robj s k n] := by
  rw [robj_ne s k h]
  refine lift___parse_reader__fail.mcall (by kernel_rfl) rfl ?_
  simp (maxSteps := 2000000) only [go_sem, ↓reduceIte, L___parse_reader__fail, R___parse_reader__fail]

/-- internal/stringslite.HasPrefix -/
def L_internal_stringslite_HasPrefix : LCode :=
  .seq (.reg [⟨some 4, .asg (.k (.d (.bool false))), none⟩]) (.seq (.reg [⟨some 5, .val (.cp (.t 0)), none⟩, ⟨some 6, .val (.len true (.t 5)), none⟩, ⟨some 7, .val (.cp (.t 1)), 
  none⟩, ⟨some 8, .val (.len true (.t 7)), none⟩, ⟨some 9, .val (.bin .geq (.t 6) (.t 8)), none⟩, ⟨some 10, .val (.cp (.t 9)), none⟩, ⟨some 11, .val (.cp (.t 0)), some (10, true)⟩, 
  ⟨some 12, .val (.cp (.t 1)), some (10, true)⟩, ⟨some 13, .val (.len true (.t 12)), some (10, true)⟩, ⟨some 14, .val (.subS (.t 11) none (some (.t 13))), some (10, true)⟩, ⟨some 
  15, .val (.cp (.t 1)), some (10, true)⟩, ⟨some 16, .val (.bin .eql (.t 14) (.t 15)), some (10, true)⟩, ⟨some 17, .val (.pick (.t 10) (.t 16) (.k (.d (.bool false)))), none⟩, 
  ⟨some 4, .asg (.t 17), none⟩]) .ret)
def R_internal_stringslite_HasPrefix : List LRes := [.tmp 4]
theorem lift_internal_stringslite_HasPrefix : Lifts Try.prog 99 18 L_internal_stringslite_HasPrefix R_internal_stringslite_HasPrefix := ⟨_, _, Try.func99, rfl, by kernel_rfl, by kernel_rfl, rfl⟩

/-- strings.HasPrefix -/
def L_strings_HasPrefix : LCode :=
  .seq (.reg [⟨some 4, .asg (.k (.d (.bool false))), none⟩]) (.seq (.reg [⟨some 5, .val (.cp (.t 0)), none⟩, ⟨some 6, .val (.cp (.t 1)), none⟩, ⟨some 7, .call 99 [.t 5, .t 6], none⟩, 
  ⟨some 4, .asg (.t 7), none⟩]) .ret)
def R_strings_HasPrefix : List LRes := [.tmp 4]
theorem lift_strings_HasPrefix : Lifts Try.prog 83 8 L_strings_HasPrefix R_strings_HasPrefix := ⟨_, _, Try.func83, rfl, by kernel_rfl, by kernel_rfl, rfl⟩

/-- Does a text begin so? -/
def hasPre (s t : List UInt8) : Bool := decide (s.take t.length = t)
theorem hasPrefix_call (s t : List UInt8) : PCall Try.prog 83 [.str s, .str t] (fun r => r = .one (.bool (hasPre s t))) := by
  have h : PCall Try.prog 99 [.str s, .str t] (fun r => r = .one (.bool (hasPre s t))) := by
    refine lift_internal_stringslite_HasPrefix.call rfl ?_
    simp (maxSteps := 2000000) only [go_sem, ↓reduceIte, L_internal_stringslite_HasPrefix, R_internal_stringslite_HasPrefix]
    refine ⟨fun h => ⟨by omega, ?_⟩, fun h => ?_⟩
    · rw [show (0 : Int) = ((0 : Nat) : Int) from rfl, cutI_nat, List.drop_zero]; rfl
    · have : hasPre s t = false := by
        simp only [hasPre, decide_eq_false_iff_not]
        intro e
        have := congrArg List.length e
        simp at this
        omega
      rw [this]
  refine lift_strings_HasPrefix.call rfl ?_
  simp (maxSteps := 2000000) only [go_sem, ↓reduceIte, L_strings_HasPrefix, R_strings_HasPrefix]
  refine CallG.of h ?_
  simp (maxSteps := 2000000) only [go_sem, ↓reduceIte]

/-- (*parse.reader).next -/
def L___parse_reader__next : LCode :=
  .seq (.reg [⟨some 2, .asg (.k (.d (.int .u8 0))), none⟩]) (.seq (.dreg [⟨some 3, .val (.cp (.t 0)), none⟩, ⟨some 4, .val (.cp (.t 0)), none⟩, ⟨some 5, .val (.nck (.t 4)), none⟩, 
  ⟨some 6, .val (.fa 0 (.t 5)), none⟩, ⟨some 7, .val (.ld false 1 (.t 6)), none⟩, ⟨some 8, .val (.cp (.t 0)), none⟩, ⟨some 9, .val (.nck (.t 8)), none⟩, ⟨some 10, .val (.fa 1 (.t 
  9)), none⟩, ⟨some 11, .val (.ld false 1 (.t 10)), none⟩, ⟨some 12, .call 23 [.t 7, .t 11], none⟩, ⟨some 13, .val (.nck (.t 3)), none⟩, ⟨some 14, .val (.fa 1 (.t 13)), none⟩, 
  ⟨none, .st 1 (.t 14) (.t 12), none⟩]) (.seq (.seq (.dreg [⟨some 15, .val (.cp (.t 0)), none⟩, ⟨some 16, .val (.nck (.t 15)), none⟩, ⟨some 17, .val (.fa 1 (.t 16)), none⟩, ⟨some 
  18, .val (.ld false 1 (.t 17)), none⟩, ⟨some 19, .val (.cp (.t 0)), none⟩, ⟨some 20, .val (.nck (.t 19)), none⟩, ⟨some 21, .val (.fa 0 (.t 20)), none⟩, ⟨some 22, .val (.ld false 
  1 (.t 21)), none⟩, ⟨some 23, .val (.len true (.t 22)), none⟩, ⟨some 24, .val (.bin .lss (.t 18) (.t 23)), none⟩]) (.cond (.t 24) (.seq (.dreg [⟨some 25, .val (.cp (.t 0)), none⟩, 
  ⟨some 26, .val (.nck (.t 25)), none⟩, ⟨some 27, .val (.fa 0 (.t 26)), none⟩, ⟨some 28, .val (.ld false 1 (.t 27)), none⟩, ⟨some 29, .val (.cp (.t 0)), none⟩, ⟨some 30, .val (.nck 
  (.t 29)), none⟩, ⟨some 31, .val (.fa 1 (.t 30)), none⟩, ⟨some 32, .val (.ld false 1 (.t 31)), none⟩, ⟨some 33, .val (.idxS (.t 28) (.t 32)), none⟩, ⟨some 2, .asg (.t 33), none⟩]) 
  .ret) .skip)) (.seq (.reg [⟨some 34, .val (.cp (.t 0)), none⟩, ⟨some 35, .val (.mkI 76 (.k (.d (.int .i64 5)))), none⟩, ⟨some 36, .prim .call [.k (.fn (.func 40) [] []), .t 34, 
  .t 35] [], none⟩]) (.seq (.reg [⟨some 2, .asg (.k (.d (.int .u8 0))), none⟩]) .ret))))
def R___parse_reader__next : List LRes := [.tmp 2]
theorem lift___parse_reader__next : Lifts Try.prog 55 37 L___parse_reader__next R___parse_reader__next := ⟨_, _, Try.func55, rfl, by kernel_rfl, by kernel_rfl, rfl⟩

theorem next_0 (s : List UInt8) (k : Nat) (hs : s.length ≤ 60000) (hk : k ≤ s.length) : MCallE Try.prog 55 [.ptr (.x 0) 0] [robj s k 0]
    (.d (.int .u8 (match s[skipP s k]? with | none => 0 | some c => c.toNat))) [robj s (skipP s k) (match s[skipP s k]? with | none => 5 | some _ => 0)] := by
  have hw := skip_call s ((k : Nat) : Int) (by omega)
  rw [clamp_in hk] at hw
  have hsk := skipP_le hk
  generalize skipP s k = q at *
  rw [robj_0]
  refine lift___parse_reader__next.mcall (by kernel_rfl) rfl ?_
  simp (maxSteps := 2000000) only [go_sem, ↓reduceIte, L___parse_reader__next, R___parse_reader__next]
  refine CallD.of hw ?_
  simp (maxSteps := 2000000) only [go_sem, ↓reduceIte]
  refine ⟨fun h1 => ?_, fun h1 => ?_⟩
  · obtain ⟨c, hc⟩ := get_some (l := s) (i := q) (by omega)
    simp (maxSteps := 2000000) only [go_sem, ↓reduceIte, getI_nat, hc]
    rfl
  · rw [List.getElem?_eq_none (by omega)]
    have hf := fail_0 s (q : Int) 5
    rw [robj_0, show errD 5 = .iface 76 (.int .i64 5) from rfl] at hf
    refine PrimG.mcall ([.x 0]) ([]) rfl (hf) rfl rfl (by simp only [objsAt, St.obj, aget, AObj.ren, AV.ren, AV.ren1, renL, ren1L, renR, renQ, List.getD_cons_zero, List.getD_cons_succ, and_true, and_self, Nat.reduceEqDiff, ↓reduceIte, reduceCtorEq]) rfl rfl rfl ⟨rfl, rfl⟩ ?_
    simp (maxSteps := 2000000) only [go_sem, ↓reduceIte, robj]
theorem next_ne (s : List UInt8) (k : Int) {n : Nat} (hn : n ≠ 0) (hs : s.length ≤ 60000) : ∃ c : Int, MCallE Try.prog 55 [.ptr (.x 0) 0] [robj s k n] (.d (.int .u8 c)) [robj s (skipP s (clampP s k)) n] := by
  have hw := skip_call s k (by omega)
  have hsk := skipP_le (clamp_le s k)
  generalize skipP s (clampP s k) = q at *
  rcases Nat.lt_or_ge q s.length with h | h
  · obtain ⟨c, hc⟩ := get_some (l := s) (i := q) h
    refine ⟨c.toNat, ?_⟩
    rw [robj_ne s k hn, robj_ne s q hn]
    refine lift___parse_reader__next.mcall (by kernel_rfl) rfl ?_
    simp (maxSteps := 2000000) only [go_sem, ↓reduceIte, L___parse_reader__next, R___parse_reader__next]
    refine CallD.of hw ?_
    have e1 : ((q : Int) < s.length) = True := by simp only [eq_iff_iff, iff_true]; omega
    simp (maxSteps := 2000000) only [go_sem, ↓reduceIte, getI_nat, hc, e1]
  · refine ⟨0, ?_⟩
    have hf := fail_ne s (q : Int) hn (errD 5)
    rw [robj_ne s q hn, show errD 5 = .iface 76 (.int .i64 5) from rfl] at hf
    rw [robj_ne s k hn, robj_ne s q hn]
    refine lift___parse_reader__next.mcall (by kernel_rfl) rfl ?_
    simp (maxSteps := 2000000) only [go_sem, ↓reduceIte, L___parse_reader__next, R___parse_reader__next]
    refine CallD.of hw ?_
    have e1 : ((q : Int) < s.length) = False := by simp only [eq_iff_iff, iff_false]; omega
    simp (maxSteps := 2000000) only [go_sem, ↓reduceIte, e1]
    refine PrimG.mcall ([.x 0]) ([]) rfl (hf) rfl rfl (by simp only [objsAt, St.obj, aget, AObj.ren, AV.ren, AV.ren1, renL, ren1L, renR, renQ, List.getD_cons_zero, List.getD_cons_succ, and_true, and_self, Nat.reduceEqDiff, ↓reduceIte, reduceCtorEq]) rfl rfl rfl ⟨rfl, rfl⟩ ?_
    simp (maxSteps := 2000000) only [go_sem, ↓reduceIte]

/-- (*parse.reader).eat -/
def L___parse_reader__eat : LCode :=
  .seq (.reg [⟨some 4, .asg (.k (.d (.bool false))), none⟩]) (.seq (.dreg [⟨some 6, .val (.cp (.t 0)), none⟩, ⟨some 7, .val (.nck (.t 6)), none⟩, ⟨some 8, .val (.fa 2 (.t 7)), none⟩, 
  ⟨some 9, .val (.ld false 1 (.t 8)), none⟩, ⟨some 10, .val (.eqN 0 false (.t 9)), none⟩, ⟨some 11, .val (.cp (.t 10)), none⟩, ⟨some 12, .val (.cp (.t 0)), some (11, true)⟩, ⟨some 
  13, .val (.nck (.t 12)), some (11, true)⟩, ⟨some 14, .val (.fa 0 (.t 13)), some (11, true)⟩, ⟨some 15, .val (.ld false 1 (.t 14)), some (11, true)⟩, ⟨some 16, .val (.cp (.t 0)), 
  some (11, true)⟩, ⟨some 17, .val (.nck (.t 16)), some (11, true)⟩, ⟨some 18, .val (.fa 1 (.t 17)), some (11, true)⟩, ⟨some 19, .val (.ld false 1 (.t 18)), some (11, true)⟩, ⟨some 
  20, .val (.subS (.t 15) (some (.t 19)) none), some (11, true)⟩, ⟨some 21, .val (.cp (.t 1)), some (11, true)⟩, ⟨some 22, .call 83 [.t 20, .t 21], some (11, true)⟩, ⟨some 23, .val 
  (.pick (.t 11) (.t 22) (.k (.d (.bool false)))), none⟩, ⟨some 5, .asg (.t 23), none⟩]) (.seq (.seq (.reg [⟨some 24, .val (.cp (.t 5)), none⟩]) (.cond (.t 24) (.reg [⟨some 25, 
  .val (.cp (.t 0)), none⟩, ⟨some 26, .val (.nck (.t 25)), none⟩, ⟨some 27, .val (.fa 1 (.t 26)), none⟩, ⟨some 28, .val (.ld false 1 (.t 27)), none⟩, ⟨some 29, .val (.cp (.t 1)), 
  none⟩, ⟨some 30, .val (.len true (.t 29)), none⟩, ⟨some 31, .val (.bin .add (.t 28) (.t 30)), none⟩, ⟨some 32, .val (.nck (.t 25)), none⟩, ⟨some 33, .val (.fa 1 (.t 32)), none⟩, 
  ⟨none, .st 1 (.t 33) (.t 31), none⟩]) .skip)) (.seq (.reg [⟨some 34, .val (.cp (.t 5)), none⟩, ⟨some 4, .asg (.t 34), none⟩]) .ret)))
def R___parse_reader__eat : List LRes := [.tmp 4]
theorem lift___parse_reader__eat : Lifts Try.prog 59 35 L___parse_reader__eat R___parse_reader__eat := ⟨_, _, Try.func59, rfl, by kernel_rfl, by kernel_rfl, rfl⟩

theorem eat_0 (s : List UInt8) (k : Nat) (t : List UInt8) (hs : s.length ≤ 60000) (hk : k ≤ s.length) (ht : t.length ≤ 10) : MCallE Try.prog 59 [.ptr (.x 0) 0, .d (.str t)] [robj s k 0]
    (.d (.bool (hasPre (s.drop k) t))) [robj s (if hasPre (s.drop k) t = true then (k : Int) + t.length else k) 0] := by
  have hp := hasPrefix_call (s.drop k) t
  generalize hasPre (s.drop k) t = b at *
  rw [robj_0]
  refine lift___parse_reader__eat.mcall (by kernel_rfl) rfl ?_
  simp (maxSteps := 2000000) only [go_sem, ↓reduceIte, L___parse_reader__eat, R___parse_reader__eat]
  rw [show (s.length : Int) = ((s.length : Nat) : Int) from rfl, cutI_nat, List.take_length]
  refine ⟨by omega, ?_⟩
  refine CallD.of hp ?_
  simp (maxSteps := 2000000) only [go_sem, ↓reduceIte]
  refine ⟨fun h => ?_, fun h => ?_⟩
  · simp (disch := omega) only [IntWalk.i64_in, IntWalk.u8_in]
    rw [if_pos h]; rfl
  · rw [if_neg (by simp [h])]; rfl
theorem eat_ne (s : List UInt8) (k : Int) (t : List UInt8) {n : Nat} (hn : n ≠ 0) : MCallE Try.prog 59 [.ptr (.x 0) 0, .d (.str t)] [robj s k n] (.d (.bool false)) [robj s k n] := by
  rw [robj_ne s k hn]
  refine lift___parse_reader__eat.mcall (by kernel_rfl) rfl ?_
  simp (maxSteps := 2000000) only [go_sem, ↓reduceIte, L___parse_reader__eat, R___parse_reader__eat]

/-- (*parse.reader).str -/
def L___parse_reader__str : LCode :=
  .seq (.reg [⟨some 4, .allo [.int .i64 0, .int .i64 0, .str [], .list [], .list []], none⟩]) (.seq (.seq (.reg [⟨some 5, .val (.cp (.t 1)), none⟩, ⟨some 6, .val (.len true (.t 5)), 
  none⟩, ⟨some 7, .val (.bin .gtr (.t 6) (.k (.d (.int .i64 200)))), none⟩]) (.cond (.t 7) (.reg [⟨some 8, .val (.cp (.t 0)), none⟩, ⟨some 9, .val (.mkI 76 (.k (.d (.int .i64 
  2)))), none⟩, ⟨some 10, .prim .call [.k (.fn (.func 40) [] []), .t 8, .t 9] [], none⟩]) .skip)) (.seq (.reg [⟨some 11, .val (.cp (.t 1)), none⟩, ⟨some 12, .val (.bld [(0, 1), (1, 
  1), (2, 1), (3, 1), (4, 1)] [.int .i64 0, .int .i64 0, .str [], .list [], .list []] [false, false, false, true, true] [(0, .k (.d (.int .i64 3))), (2, .t 11)]), none⟩, ⟨none, .st 
  5 (.t 4) (.t 12), none⟩]) .ret))
def R___parse_reader__str : List LRes := [.cell 4 true 5]
theorem lift___parse_reader__str : Lifts Try.prog 57 13 L___parse_reader__str R___parse_reader__str := ⟨_, _, Try.func57, rfl, by kernel_rfl, by kernel_rfl, rfl⟩

theorem str_0 (s : List UInt8) (k : Int) (t : List UInt8) : MCallE Try.prog 57 [.ptr (.x 0) 0, .d (.str t)] [robj s k 0] (.d (strV t).d) [robj s k (if t.length ≤ 200 then 0 else 2)] := by
  have hf := fail_0 s k 2
  rw [show errD 2 = .iface 76 (.int .i64 2) from rfl] at hf
  rw [robj_0] at hf ⊢
  refine lift___parse_reader__str.mcall (by kernel_rfl) rfl ?_
  simp (maxSteps := 2000000) only [go_sem, ↓reduceIte, L___parse_reader__str, R___parse_reader__str]
  refine ⟨fun h => ?_, fun h => ?_⟩
  · refine PrimG.mcall ([.x 0]) ([]) rfl (hf) rfl rfl (by simp only [objsAt, St.obj, aget, AObj.ren, AV.ren, AV.ren1, renL, ren1L, renR, renQ, List.getD_cons_zero, List.getD_cons_succ, and_true, and_self, Nat.reduceEqDiff, ↓reduceIte, reduceCtorEq]) rfl rfl rfl ⟨rfl, rfl⟩ ?_
    simp (maxSteps := 2000000) only [go_sem, ↓reduceIte, robj]
    rw [if_neg (by omega), Val.d_eq]
    exact ⟨rfl, rfl⟩
  · rw [if_pos (by omega), Val.d_eq]
    exact ⟨rfl, rfl⟩
theorem str_ne (s : List UInt8) (k : Int) (t : List UInt8) {n : Nat} (hn : n ≠ 0) : MCallE Try.prog 57 [.ptr (.x 0) 0, .d (.str t)] [robj s k n] (.d (strV t).d) [robj s k n] := by
  have hf := fail_ne s k hn (errD 2)
  rw [show errD 2 = .iface 76 (.int .i64 2) from rfl] at hf
  rw [robj_ne s k hn] at hf ⊢
  refine lift___parse_reader__str.mcall (by kernel_rfl) rfl ?_
  simp (maxSteps := 2000000) only [go_sem, ↓reduceIte, L___parse_reader__str, R___parse_reader__str]
  refine ⟨fun h => ?_, fun h => ?_⟩
  · refine PrimG.mcall ([.x 0]) ([]) rfl (hf) rfl rfl (by simp only [objsAt, St.obj, aget, AObj.ren, AV.ren, AV.ren1, renL, ren1L, renR, renQ, List.getD_cons_zero, List.getD_cons_succ, and_true, and_self, Nat.reduceEqDiff, ↓reduceIte, reduceCtorEq]) rfl rfl rfl ⟨rfl, rfl⟩ ?_
    simp (maxSteps := 2000000) only [go_sem, ↓reduceIte]
    rw [Val.d_eq]; rfl
  · rw [Val.d_eq]; rfl
end Go.Av.Try
