import Derived.Test.YtbfljokjkcdbeaaPRd5
import Derived.Test.YtbfljokjkcdbeaaPDictR
/- The program's reader: dictionaries. -/
set_option linter.unusedSimpArgs false
namespace Go.Av.Try
open Go.Proofs

def zD : D := .agg [.int .i64 0, .int .i64 0, .str [], .list [], .list []]
/-- (*parse.reader).value -/
def L___parse_reader__value : LCode :=
  .seq (.reg [⟨some 4, .allo [.int .i64 0, .int .i64 0, .str [], .list [], .list []], none⟩]) (.seq (.reg [⟨some 6, .val (.cp (.t 0)), none⟩, ⟨some 7, .prim .call [.k (.fn (.func 55) 
  [] []), .t 6] [], none⟩, ⟨some 5, .asg (.t 7), none⟩]) (.seq (.seq (.reg [⟨some 8, .val (.cp (.t 1)), none⟩, ⟨some 9, .val (.bin .gtr (.t 8) (.k (.d (.int .i64 8)))), none⟩]) 
  (.cond (.t 9) (.reg [⟨some 10, .val (.cp (.t 0)), none⟩, ⟨some 11, .val (.mkI 76 (.k (.d (.int .i64 2)))), none⟩, ⟨some 12, .prim .call [.k (.fn (.func 40) [] []), .t 10, .t 11] 
  [], none⟩]) .skip)) (.seq (.seq (.reg [⟨some 13, .val (.cp (.t 0)), none⟩, ⟨some 14, .val (.nck (.t 13)), none⟩, ⟨some 15, .val (.fa 2 (.t 14)), none⟩, ⟨some 16, .val (.ld false 
  1 (.t 15)), none⟩, ⟨some 17, .val (.eqN 0 true (.t 16)), none⟩]) (.cond (.t 17) (.seq (.reg [⟨some 18, .val (.bld [(0, 1), (1, 1), (2, 1), (3, 1), (4, 1)] [.int .i64 0, .int .i64 
  0, .str [], .list [], .list []] [] []), none⟩, ⟨none, .st 5 (.t 4) (.t 18), none⟩]) .ret) .skip)) (.seq (.block 0 (.seq (.reg [⟨some 20, .val (.cp (.t 5)), none⟩, ⟨some 21, .val 
  (.bin .eql (.t 20) (.k (.d (.int .u8 47)))), none⟩, ⟨some 19, .asg (.t 21), none⟩]) (.cond (.t 19) (.seq (.reg [⟨some 22, .val (.cp (.t 0)), none⟩, ⟨some 23, .prim .call [.k (.fn 
  (.func 56) [] []), .t 22] [], none⟩, ⟨some 24, .val (.bld [(0, 1), (1, 1), (2, 1), (3, 1), (4, 1)] [.int .i64 0, .int .i64 0, .str [], .list [], .list []] [false, false, false, 
  true, true] [(0, .k (.d (.int .i64 4))), (2, .t 23)]), none⟩, ⟨none, .st 5 (.t 4) (.t 24), none⟩]) .ret) (.seq (.reg [⟨some 26, .val (.cp (.t 5)), none⟩, ⟨some 27, .val (.bin 
  .eql (.t 26) (.k (.d (.int .u8 40)))), none⟩, ⟨some 25, .asg (.t 27), none⟩]) (.cond (.t 25) (.seq (.reg [⟨some 28, .val (.cp (.t 0)), none⟩, ⟨some 29, .val (.cp (.t 0)), none⟩, 
  ⟨some 30, .prim .call [.k (.fn (.func 58) [] []), .t 29] [], none⟩, ⟨some 31, .prim .call [.k (.fn (.func 57) [] []), .t 28, .t 30] [], none⟩, ⟨none, .st 5 (.t 4) (.t 31), 
  none⟩]) .ret) (.seq (.reg [⟨some 33, .val (.cp (.t 0)), none⟩, ⟨some 34, .prim .call [.k (.fn (.func 59) [] []), .t 33, .k (.d (.str [60, 60]))] [], none⟩, ⟨some 32, .asg (.t 
  34), none⟩]) (.cond (.t 32) (.seq (.reg [⟨some 35, .val (.cp (.t 0)), none⟩, ⟨some 36, .val (.cp (.t 1)), none⟩, ⟨some 37, .prim .call [.k (.fn (.func 60) [] []), .t 35, .t 36] 
  [], none⟩, ⟨none, .st 5 (.t 4) (.t 37), none⟩]) .ret) (.seq (.reg [⟨some 39, .val (.cp (.t 5)), none⟩, ⟨some 40, .val (.bin .eql (.t 39) (.k (.d (.int .u8 60)))), none⟩, ⟨some 
  38, .asg (.t 40), none⟩]) (.cond (.t 38) (.seq (.reg [⟨some 41, .val (.cp (.t 0)), none⟩, ⟨some 42, .val (.cp (.t 0)), none⟩, ⟨some 43, .prim .call [.k (.fn (.func 61) [] []), .t 
  42] [], none⟩, ⟨some 44, .prim .call [.k (.fn (.func 57) [] []), .t 41, .t 43] [], none⟩, ⟨none, .st 5 (.t 4) (.t 44), none⟩]) .ret) (.seq (.reg [⟨some 46, .val (.cp (.t 0)), 
  none⟩, ⟨some 47, .prim .call [.k (.fn (.func 59) [] []), .t 46, .k (.d (.str [91]))] [], none⟩, ⟨some 45, .asg (.t 47), none⟩]) (.cond (.t 45) (.seq (.reg [⟨some 48, .val (.cp 
  (.t 0)), none⟩, ⟨some 49, .val (.cp (.t 1)), none⟩, ⟨some 50, .prim .call [.k (.fn (.func 62) [] []), .t 48, .t 49] [], none⟩, ⟨none, .st 5 (.t 4) (.t 50), none⟩]) .ret) (.seq 
  (.reg [⟨some 52, .val (.cp (.t 5)), none⟩, ⟨some 53, .call 44 [.t 52], none⟩, ⟨some 51, .asg (.t 53), none⟩]) (.cond (.t 51) (.seq (.reg [⟨some 54, .val (.cp (.t 0)), none⟩, 
  ⟨some 55, .val (.mkI 76 (.k (.d (.int .i64 4)))), none⟩, ⟨some 56, .prim .call [.k (.fn (.func 40) [] []), .t 54, .t 55] [], none⟩]) (.seq (.reg [⟨some 57, .val (.bld [(0, 1), 
  (1, 1), (2, 1), (3, 1), (4, 1)] [.int .i64 0, .int .i64 0, .str [], .list [], .list []] [] []), none⟩, ⟨none, .st 5 (.t 4) (.t 57), none⟩]) .ret)) .skip))))))))))))) (.seq (.reg 
  [⟨some 58, .val (.cp (.t 0)), none⟩, ⟨some 59, .prim .call [.k (.fn (.func 63) [] []), .t 58] [], none⟩, ⟨none, .st 5 (.t 4) (.t 59), none⟩]) .ret)))))
def R___parse_reader__value : List LRes := [.cell 4 true 5]
theorem lift___parse_reader__value : Lifts Try.prog 39 60 L___parse_reader__value R___parse_reader__value := ⟨_, _, Try.func39, rfl, by kernel_rfl, by kernel_rfl, rfl⟩

theorem value_ne (s : List UInt8) (k : Int) (deep : Int) {n : Nat} (hn : n ≠ 0) (hs : s.length ≤ 60000) : MCallE Try.prog 39 [.ptr (.x 0) 0, .d (.int .i64 deep)] [robj s k n] (.d zD) [robj s (skipP s (clampP s k)) n] := by
  obtain ⟨c, hnx⟩ := next_ne s k hn hs
  have hf := fail_ne s (skipP s (clampP s k) : Int) hn (.iface 76 (.int .i64 2))
  generalize (skipP s (clampP s k) : Int) = q at *
  rw [robj_ne s k hn, robj_ne s q hn] at *
  refine lift___parse_reader__value.mcall (by kernel_rfl) rfl ?_
  simp (maxSteps := 2000000) only [go_sem, ↓reduceIte, L___parse_reader__value, R___parse_reader__value]
  refine PrimG.mcall ([.x 0]) ([]) rfl (hnx) rfl rfl (by simp only [objsAt, St.obj, aget, AObj.ren, AV.ren, AV.ren1, renL, ren1L, renR, renQ, List.getD_cons_zero, List.getD_cons_succ, and_true, and_self, Nat.reduceEqDiff, ↓reduceIte, reduceCtorEq]) rfl rfl rfl ⟨rfl, rfl⟩ ?_
  simp (maxSteps := 2000000) only [go_sem, ↓reduceIte]
  refine ⟨fun h => ?_, fun h => rfl⟩
  refine PrimG.mcall ([.x 0]) ([]) rfl (hf) rfl rfl (by simp only [objsAt, St.obj, aget, AObj.ren, AV.ren, AV.ren1, renL, ren1L, renR, renQ, List.getD_cons_zero, List.getD_cons_succ, and_true, and_self, Nat.reduceEqDiff, ↓reduceIte, reduceCtorEq]) rfl rfl rfl ⟨rfl, rfl⟩ ?_
  simp (maxSteps := 2000000) only [go_sem, ↓reduceIte]
  rfl

theorem hasPre_two {s : List UInt8} {k : Nat} {c : UInt8} {x y : UInt8} (h : s[k]? = some c) : hasPre (s.drop k) [x, y] = (decide (c = x) && decide (s[k + 1]? = some y)) := by
  rw [drop_at h]
  simp only [hasPre, List.length_cons, List.length_nil, List.take_succ_cons]
  cases hd : s[k + 1]? with
  | none =>
    rw [List.drop_eq_nil_of_le (List.getElem?_eq_none_iff.1 hd)]
    simp
  | some d =>
    rw [drop_at hd]
    simp
theorem setV_dic (nm : List UInt8) (x : Val) (acc : List Fld) : setV nm x (dicV acc) = dicV (setF nm x acc) := rfl
theorem dicV_sm {acc : List Fld} (h : acc.length ≤ 1048576) (hm : ∀ y ∈ acc, y.sm 300 = true) : (dicV acc).sm 1048576 = true :=
  Val.sm_iff.2 ⟨by simp [dicV, Val.s], by simp [dicV, Val.l], h, by simp [dicV, Val.l], fun y hy => by
    have := hm y hy
    obtain ⟨h1, h2⟩ := Fld.sm_iff.1 this
    exact Fld.sm_iff.2 ⟨by omega, Val.sm_mono (by omega) _ h2⟩⟩

/-- (*parse.reader).dict -/
def L___parse_reader__dict : LCode :=
  .seq (.reg [⟨some 4, .allo [.int .i64 0, .int .i64 0, .str [], .list [], .list []], none⟩]) (.seq (.reg [⟨some 11, .val (.bld [(0, 1), (1, 1), (2, 1), (3, 1), (4, 1)] [.int .i64 0, 
  .int .i64 0, .str [], .list [], .list []] [false, false, false, true, true] [(0, .k (.d (.int .i64 6)))]), none⟩, ⟨some 5, .allo [.int .i64 0, .int .i64 0, .str [], .list [], 
  .list []], none⟩, ⟨none, .st 5 (.t 5) (.t 11), none⟩]) (.seq (.block 0 (.loop (.seq (.seq (.reg [⟨some 12, .val (.cp (.t 0)), none⟩, ⟨some 13, .val (.nck (.t 12)), none⟩, ⟨some 
  14, .val (.fa 2 (.t 13)), none⟩, ⟨some 15, .val (.ld false 1 (.t 14)), none⟩, ⟨some 16, .val (.eqN 0 false (.t 15)), none⟩]) (.cond (.t 16) .skip (.exit 0))) (.block 1 (.seq 
  (.reg [⟨some 17, .val (.cp (.t 0)), none⟩, ⟨some 18, .prim .call [.k (.fn (.func 55) [] []), .t 17] [], none⟩, ⟨some 6, .asg (.t 18), none⟩]) (.seq (.seq (.reg [⟨some 19, .val 
  (.cp (.t 0)), none⟩, ⟨some 20, .prim .call [.k (.fn (.func 59) [] []), .t 19, .k (.d (.str [62, 62]))] [], none⟩]) (.cond (.t 20) (.exit 0) .skip)) (.seq (.seq (.reg [⟨some 21, 
  .val (.cp (.t 0)), none⟩, ⟨some 22, .val (.nck (.t 21)), none⟩, ⟨some 23, .val (.fa 2 (.t 22)), none⟩, ⟨some 24, .val (.ld false 1 (.t 23)), none⟩, ⟨some 25, .val (.eqN 0 false 
  (.t 24)), none⟩, ⟨some 26, .val (.cp (.t 25)), none⟩, ⟨some 27, .val (.cp (.t 6)), some (26, true)⟩, ⟨some 28, .val (.bin .neq (.t 27) (.k (.d (.int .u8 47)))), some (26, true)⟩, 
  ⟨some 29, .val (.pick (.t 26) (.t 28) (.k (.d (.bool false)))), none⟩]) (.cond (.t 29) (.reg [⟨some 30, .val (.cp (.t 0)), none⟩, ⟨some 31, .val (.mkI 76 (.k (.d (.int .i64 
  4)))), none⟩, ⟨some 32, .prim .call [.k (.fn (.func 40) [] []), .t 30, .t 31] [], none⟩]) .skip)) (.seq (.seq (.reg [⟨some 33, .val (.cp (.t 0)), none⟩, ⟨some 34, .val (.nck (.t 
  33)), none⟩, ⟨some 35, .val (.fa 2 (.t 34)), none⟩, ⟨some 36, .val (.ld false 1 (.t 35)), none⟩, ⟨some 37, .val (.eqN 0 true (.t 36)), none⟩]) (.cond (.t 37) (.exit 0) .skip)) 
  (.seq (.reg [⟨some 38, .val (.cp (.t 0)), none⟩, ⟨some 39, .prim .call [.k (.fn (.func 56) [] []), .t 38] [], none⟩, ⟨some 7, .asg (.t 39), none⟩]) (.seq (.reg [⟨some 40, .val 
  (.cp (.t 0)), none⟩, ⟨some 41, .val (.cp (.t 1)), none⟩, ⟨some 42, .val (.bin .add (.t 41) (.k (.d (.int .i64 1)))), none⟩, ⟨some 43, .prim .call [.k (.fn (.func 39) [] []), .t 
  40, .t 42] [], none⟩, ⟨some 8, .allo [.int .i64 0, .int .i64 0, .str [], .list [], .list []], none⟩, ⟨none, .st 5 (.t 8) (.t 43), none⟩]) (.seq (.reg [⟨some 45, .val (.ld true 5 
  (.t 5)), none⟩, ⟨some 46, .val (.cp (.t 7)), none⟩, ⟨some 47, .call 84 [.t 45, .t 46], none⟩, ⟨some 44, .val (.cp (.t 47)), none⟩, ⟨some 48, .val (.ext 0 (.t 44)), none⟩, ⟨some 
  49, .val (.ext 1 (.t 44)), none⟩, ⟨some 9, .allo [.int .i64 0, .int .i64 0, .str [], .list [], .list []], none⟩, ⟨none, .st 5 (.t 9) (.t 48), none⟩, ⟨some 10, .asg (.t 49), 
  none⟩]) (.seq (.seq (.reg [⟨some 50, .val (.cp (.t 10)), none⟩]) (.cond (.t 50) (.reg [⟨some 51, .val (.cp (.t 0)), none⟩, ⟨some 52, .val (.mkI 76 (.k (.d (.int .i64 3)))), 
  none⟩, ⟨some 53, .prim .call [.k (.fn (.func 40) [] []), .t 51, .t 52] [], none⟩]) .skip)) (.seq (.seq (.reg [⟨some 54, .val (.cp (.t 0)), none⟩, ⟨some 55, .val (.nck (.t 54)), 
  none⟩, ⟨some 56, .val (.fa 2 (.t 55)), none⟩, ⟨some 57, .val (.ld false 1 (.t 56)), none⟩, ⟨some 58, .val (.eqN 0 false (.t 57)), none⟩]) (.cond (.t 58) (.reg [⟨some 59, .val 
  (.ld true 5 (.t 5)), none⟩, ⟨some 60, .val (.cp (.t 7)), none⟩, ⟨some 61, .val (.ld true 5 (.t 8)), none⟩, ⟨some 62, .call 85 [.t 59, .t 60, .t 61], none⟩, ⟨none, .st 5 (.t 5) 
  (.t 62), none⟩]) .skip)) (.seq (.reg [⟨some 63, .val (.fa 4 (.t 5)), none⟩, ⟨some 64, .val (.ld false 1 (.t 63)), none⟩, ⟨some 65, .val (.len false (.t 64)), none⟩, ⟨some 66, 
  .val (.bin .gtr (.t 65) (.k (.d (.int .i64 300)))), none⟩]) (.cond (.t 66) (.reg [⟨some 67, .val (.cp (.t 0)), none⟩, ⟨some 68, .val (.mkI 76 (.k (.d (.int .i64 2)))), none⟩, 
  ⟨some 69, .prim .call [.k (.fn (.func 40) [] []), .t 67, .t 68] [], none⟩]) .skip))))))))))))))) (.seq (.reg [⟨some 70, .val (.ld true 5 (.t 5)), none⟩, ⟨none, .st 5 (.t 4) (.t 
  70), none⟩]) .ret)))
def R___parse_reader__dict : List LRes := [.cell 4 true 5]
theorem lift___parse_reader__dict : Lifts Try.prog 60 71 L___parse_reader__dict R___parse_reader__dict := ⟨_, _, Try.func60, rfl, by kernel_rfl, by kernel_rfl, rfl⟩

theorem dictP_of (s : List UInt8) (hs : s.length ≤ 60000) (rd : Nat → RV) (deep : Int) (hd : 0 ≤ deep ∧ deep ≤ 8) (hg : ∀ k, k ≤ s.length → goodR s k (rd k)) (ih : RdAt s rd (deep + 1)) (k : Nat) (hk : k ≤ s.length) :
    MCall Try.prog 60 [.ptr (.x 0) 0, .d (.int .i64 deep)] [robj s k 0] (rdPost s (dictF rd s 301 [] k)) := by
  generalize hR : dictF rd s 301 [] k = R
  rw [robj_0]
  refine lift___parse_reader__dict.mcall (by kernel_rfl) rfl ?_
  simp (maxSteps := 2000000) (disch := omega) only [go_sem, ↓reduceIte, L___parse_reader__dict, R___parse_reader__dict]
  refine run_loop (fun y : Nat × List Fld × Option (Int × Nat) => ⟨[(0, .ptr (.x 0) 0), (1, .d (.int .i64 deep)), (4, .ptr (.l 4) 0), (5, .ptr (.l 5) 0)],
      [(4, .cells [.d (.int .i64 0), .d (.int .i64 0), .d (.str []), .ns, .ns]), (5, dobj y.2.1)], [(0, ro s y.1 y.2.2)]⟩)
    (fun y => y.1 ≤ s.length ∧ y.2.1.length ≤ 301 ∧ srt y.2.1 ∧ (∀ z ∈ y.2.1, z.sm 300 = true) ∧ (y.2.2 = none → y.2.1.length ≤ 300 ∧ dictF rd s (301 - y.2.1.length) y.2.1 y.1 = R) ∧ ∀ k e, y.2.2 = some (k, e) → e ≠ 0 ∧ R = .bad e) (fun y => 2 * (s.length - y.1) + (if y.2.2.isNone = true then 1 else 0)) (k, [], none) ?_ ?_ ?_
  · refine Weak.mk ?_ ?_ ?_ <;> simp (maxSteps := 2000000) only [go_sem, ↓reduceIte, Sub, Int.natCast_add, Int.natCast_mul, dobj, ro]
  · exact ⟨hk, by simp, srt_nil, by simp, fun _ => ⟨by simp, hR⟩, fun _ _ h => by cases h⟩
  · rintro ⟨i, acc, o⟩ ⟨hi, ha, hsrt, hsm, hF, hE⟩
    simp only at hi ha hsrt hsm hF hE
    have hal := fldsD_length acc
    have dd : (dicV acc).d = D.agg [.int .i64 6, .int .i64 0, .str [], .list [], .list (fldsD acc)] := by rw [Val.d_eq]; rfl
    have hcs : (dobj acc = .cells [.d (.int .i64 6), .d (.int .i64 0), .d (.str []), .ns, .ns] ∧ fldsD acc = []) ∨ dobj acc = .cells [.d (.int .i64 6), .d (.int .i64 0), .d (.str []), .d (.list []), .d (.list (fldsD acc))] := by
      rcases dobj_cases acc with ⟨h, rfl⟩ | h
      · exact .inl ⟨h, rfl⟩
      · exact .inr h
    have hget := fun nm => getP_call (dicV acc) nm (by show acc.length ≤ _; omega)
    have hset := fun nm x hx => setP_call (dicV acc) x nm hsrt (dicV_sm (by omega) hsm) hx
    simp only [dd] at hget hset
    have inv : ∀ (k' : Int) (e : Nat), e ≠ 0 → R = .bad e → i ≤ s.length ∧ acc.length ≤ 301 ∧ srt acc ∧ (∀ z ∈ acc, z.sm 300 = true) ∧ (some (k', e) = none → acc.length ≤ 300 ∧ dictF rd s (301 - acc.length) acc i = R) ∧ ∀ k e', some (k', e) = some (k, e') → e' ≠ 0 ∧ R = .bad e' := fun k' e e0 he =>
      ⟨hi, ha, hsrt, hsm, fun h => (by cases h), fun k e' h => by cases h; exact ⟨e0, he⟩⟩
    cases o with
    | some p =>
      obtain ⟨k', e⟩ := p
      obtain ⟨e0, rfl⟩ := hE k' e rfl
      have fb := rdPost_bad (s := s) (R := .bad e) (dicV acc) k' rfl
      rw [dd, robj_ne s k' e0] at fb
      simp only [ro]
      rw [robj_ne s k' e0]
      rcases hcs with ⟨h1, h2⟩ | h1 <;> rw [h1]
      all_goals
        simp (maxSteps := 2000000) only [go_sem, ↓reduceIte]
        first
        | exact fb
        | (rw [h2] at fb; exact fb)
    | none =>
      obtain ⟨ha', hF⟩ := hF rfl
      have hlen : (300 < (acc.length : Int)) = False := by simp only [eq_iff_iff, iff_false]; omega
      obtain ⟨m, hm⟩ : ∃ m, 301 - acc.length = m + 1 := ⟨300 - acc.length, by omega⟩
      rw [hm, dictF] at hF
      have hsk := skipP_le hi
      have hnx := next_0 s i hs hi
      generalize skipP s i = q at *
      simp only [ro]
      rw [robj_0] at hnx
      simp (maxSteps := 2000000) only [go_sem, ↓reduceIte]
      refine PrimG.mcall ([.x 0]) ([]) rfl (hnx) rfl rfl (by simp only [objsAt, St.obj, aget, AObj.ren, AV.ren, AV.ren1, renL, ren1L, renR, renQ, List.getD_cons_zero, List.getD_cons_succ, and_true, and_self, Nat.reduceEqDiff, ↓reduceIte, reduceCtorEq]) rfl rfl rfl ⟨rfl, rfl⟩ ?_
      cases hc : s[q]? with
      | none =>
        rw [hc] at hF
        simp only at hF
        have het := eat_ne s (q : Int) [62, 62] (n := 5) (by decide)
        have fb := rdPost_bad (s := s) (R := R) (dicV acc) (q : Int) hF.symm
        rw [dd, robj_5] at fb
        rw [robj_5] at het
        simp only
        rw [robj_5]
        simp (maxSteps := 2000000) only [go_sem, ↓reduceIte]
        refine PrimG.mcall ([.x 0]) ([]) rfl (het) rfl rfl (by simp only [objsAt, St.obj, aget, AObj.ren, AV.ren, AV.ren1, renL, ren1L, renR, renQ, List.getD_cons_zero, List.getD_cons_succ, and_true, and_self, Nat.reduceEqDiff, ↓reduceIte, reduceCtorEq]) rfl rfl rfl ⟨rfl, rfl⟩ ?_
        rcases hcs with ⟨h1, h2⟩ | h1 <;> rw [h1]
        all_goals
          simp (maxSteps := 2000000) only [go_sem, ↓reduceIte]
          first
          | exact fb
          | (rw [h2] at fb; exact fb)
      | some c =>
        have hc8 := u8_lt c
        have hlt : q < s.length := (List.getElem?_eq_some_iff.1 hc).1
        rw [hc] at hF
        simp only at hF
        simp only
        rw [robj_0]
        simp (maxSteps := 2000000) only [go_sem, ↓reduceIte]
        have het := eat_0 s q [62, 62] hs (by omega) (by simp)
        rw [hasPre_two hc] at het
        by_cases c62 : c.toNat = 62 ∧ s[q + 1]? = some 62
        · have e62 : c = 62 := UInt8.toNat_inj.1 (by have : (62 : UInt8).toNat = 62 := rfl; omega)
          rw [if_pos c62] at hF
          have hb : (decide (c = 62) && decide (s[q + 1]? = some 62)) = true := by simp [e62, c62.2]
          rw [hb, if_pos rfl, robj_0, robj_0] at het
          have fb := rdPost_ok (s := s) hF.symm
          rw [dd, robj_0] at fb
          refine PrimG.mcall ([.x 0]) ([]) rfl (het) rfl rfl (by simp only [objsAt, St.obj, aget, AObj.ren, AV.ren, AV.ren1, renL, ren1L, renR, renQ, List.getD_cons_zero, List.getD_cons_succ, and_true, and_self, Nat.reduceEqDiff, ↓reduceIte, reduceCtorEq]) rfl rfl rfl ⟨rfl, rfl⟩ ?_
          rcases hcs with ⟨h1, h3⟩ | h1 <;> rw [h1]
          all_goals
            simp (maxSteps := 2000000) only [go_sem, ↓reduceIte]
            first
            | exact fb
            | (rw [h3] at fb; exact fb)
        · rw [if_neg c62] at hF
          have hb : (decide (c = 62) && decide (s[q + 1]? = some 62)) = false := by
            by_cases e62 : c = 62
            · have : ¬ s[q + 1]? = some 62 := fun h => c62 ⟨by rw [e62]; rfl, h⟩
              simp [this]
            · simp [e62]
          rw [hb, if_neg (by decide), robj_0] at het
          refine PrimG.mcall ([.x 0]) ([]) rfl (het) rfl rfl (by simp only [objsAt, St.obj, aget, AObj.ren, AV.ren, AV.ren1, renL, ren1L, renR, renQ, List.getD_cons_zero, List.getD_cons_succ, and_true, and_self, Nat.reduceEqDiff, ↓reduceIte, reduceCtorEq]) rfl rfl rfl ⟨rfl, rfl⟩ ?_
          simp (maxSteps := 2000000) only [go_sem, ↓reduceIte]
          refine ⟨fun h47 => ?_, fun h47 => ?_⟩
          · rw [if_pos (by omega)] at hF
            have hf := fail_0 s (q : Int) 4
            rw [robj_0, robj_4, robj_lit.2.2.1] at hf
            have fb := rdPost_bad (s := s) (R := R) (dicV acc) (q : Int) hF.symm
            rw [dd, robj_4] at fb
            refine PrimG.mcall ([.x 0]) ([]) rfl (hf) rfl rfl (by simp only [objsAt, St.obj, aget, AObj.ren, AV.ren, AV.ren1, renL, ren1L, renR, renQ, List.getD_cons_zero, List.getD_cons_succ, and_true, and_self, Nat.reduceEqDiff, ↓reduceIte, reduceCtorEq]) rfl rfl rfl ⟨rfl, rfl⟩ ?_
            rcases hcs with ⟨h1, h3⟩ | h1 <;> rw [h1]
            all_goals
              simp (maxSteps := 2000000) only [go_sem, ↓reduceIte]
              first
              | exact fb
              | (rw [h3] at fb; exact fb)
          · rw [if_neg (by omega)] at hF
            have hnm := name_call s q hs hlt
            rw [robj_0] at hnm
            refine PrimG.mpost ([.x 0]) ([]) rfl (hnm) rfl rfl (by simp only [objsAt, St.obj, aget, AObj.ren, AV.ren, AV.ren1, renL, ren1L, renR, renQ, List.getD_cons_zero, List.getD_cons_succ, and_true, and_self, Nat.reduceEqDiff, ↓reduceIte, reduceCtorEq]) rfl rfl rfl (fun r hs' hr => ?_)
            cases hn : nameAt s q with
            | none =>
              rw [hn] at hF hr
              simp only at hF
              obtain ⟨b, k2, rfl, rfl⟩ := hr
              refine ⟨⟨rfl, rfl⟩, ?_⟩
              have hv := value_ne s k2 (deep + 1) (n := 4) (by decide) hs
              have hgt := hget b
              have eg : getR (getV b (dicV acc).f) = .tup [((getV b acc).getD zeroV).d, .bool (getV b acc).isSome] := rfl
              rw [eg] at hgt
              generalize (getV b acc).getD zeroV = gv at hgt
              generalize (getV b acc).isSome = gs at hgt
              rw [Val.d_eq gv] at hgt
              generalize (skipP s (clampP s k2) : Int) = q2 at hv
              have hf3 := fail_ne s q2 (n := 4) (by decide) (.iface 76 (.int .i64 3))
              rw [robj_4] at hv hf3 ⊢
              rw [robj_4] at hv
              simp (maxSteps := 2000000) (disch := omega) only [go_sem, ↓reduceIte]
              refine PrimG.mcall ([.x 0]) ([]) rfl (hv) rfl rfl (by simp only [objsAt, St.obj, aget, AObj.ren, AV.ren, AV.ren1, renL, ren1L, renR, renQ, List.getD_cons_zero, List.getD_cons_succ, and_true, and_self, Nat.reduceEqDiff, ↓reduceIte, reduceCtorEq]) rfl rfl rfl ⟨rfl, rfl⟩ ?_
              have inv4 := inv q2 4 (by decide) hF.symm
              rcases hcs with ⟨h1, h3⟩ | h1 <;> rw [h1]
              all_goals
                try rw [h3] at hgt
                simp (maxSteps := 2000000) only [go_sem, ↓reduceIte, zD]
                refine CallG.of hgt ?_
                cases gs with
                | false =>
                  simp (maxSteps := 2000000) only [go_sem, ↓reduceIte, hal, hlen]
                  refine ⟨(i, acc, some (q2, 4)), ?_, inv4, by simp⟩
                  refine Weak.mk ?_ ?_ ?_ <;> simp (maxSteps := 2000000) only [go_sem, ↓reduceIte, Sub, Int.natCast_add, Int.natCast_mul, h1, ro, robj_4]
                | true =>
                  simp (maxSteps := 2000000) only [go_sem, ↓reduceIte]
                  refine PrimG.mcall ([.x 0]) ([]) rfl (hf3) rfl rfl (by simp only [objsAt, St.obj, aget, AObj.ren, AV.ren, AV.ren1, renL, ren1L, renR, renQ, List.getD_cons_zero, List.getD_cons_succ, and_true, and_self, Nat.reduceEqDiff, ↓reduceIte, reduceCtorEq]) rfl rfl rfl ⟨rfl, rfl⟩ ?_
                  simp (maxSteps := 2000000) only [go_sem, ↓reduceIte, hal, hlen]
                  refine ⟨(i, acc, some (q2, 4)), ?_, inv4, by simp⟩
                  refine Weak.mk ?_ ?_ ?_ <;> simp (maxSteps := 2000000) only [go_sem, ↓reduceIte, Sub, Int.natCast_add, Int.natCast_mul, h1, ro, robj_4]
            | some p =>
              obtain ⟨nm, kn⟩ := p
              rw [hn] at hF hr
              obtain ⟨rfl, rfl⟩ := hr
              refine ⟨⟨rfl, rfl⟩, ?_⟩
              simp only at hF
              obtain ⟨n1, n2, n3, n4⟩ := nameAt_good hlt hn
              have hv := ih kn n2
              have hgq := hg kn n2
              have hgt := hget nm
              have eg : getR (getV nm (dicV acc).f) = .tup [((getV nm acc).getD zeroV).d, .bool (getV nm acc).isSome] := rfl
              rw [eg] at hgt
              have hnone := getV_none (nm := nm) (l := acc)
              generalize (getV nm acc).getD zeroV = gv at hgt
              generalize (getV nm acc).isSome = gs at hgt hF hnone
              rw [Val.d_eq gv] at hgt
              rw [robj_0] at hv ⊢
              simp (maxSteps := 2000000) (disch := omega) only [go_sem, ↓reduceIte]
              refine PrimG.mpost ([.x 0]) ([]) rfl (hv) rfl rfl (by simp only [objsAt, St.obj, aget, AObj.ren, AV.ren, AV.ren1, renL, ren1L, renR, renQ, List.getD_cons_zero, List.getD_cons_succ, and_true, and_self, Nat.reduceEqDiff, ↓reduceIte, reduceCtorEq]) rfl rfl rfl (fun r hs' hr => ?_)
              cases hx : rd kn with
              | bad e =>
                rw [hx] at hF hr hgq
                obtain ⟨x, k', rfl, rfl⟩ := hr
                obtain ⟨g1, _⟩ := hgq
                have e0 : e ≠ 0 := by omega
                refine ⟨⟨rfl, rfl⟩, ?_⟩
                have hf3 := fail_ne s k' e0 (.iface 76 (.int .i64 3))
                rw [Val.d_eq x]
                rw [robj_ne s k' e0] at hf3 ⊢
                have inv4 := inv k' e e0 hF.symm
                rcases hcs with ⟨h1, h3⟩ | h1 <;> rw [h1]
                all_goals
                  try rw [h3] at hgt
                  simp (maxSteps := 2000000) only [go_sem, ↓reduceIte]
                  refine CallG.of hgt ?_
                  cases gs with
                  | false =>
                    simp (maxSteps := 2000000) only [go_sem, ↓reduceIte, hal, hlen]
                    refine ⟨(i, acc, some (k', e)), ?_, inv4, by simp⟩
                    refine Weak.mk ?_ ?_ ?_ <;> simp (maxSteps := 2000000) only [go_sem, ↓reduceIte, Sub, Int.natCast_add, Int.natCast_mul, h1, ro, robj_ne s k' e0]
                  | true =>
                    simp (maxSteps := 2000000) only [go_sem, ↓reduceIte]
                    refine PrimG.mcall ([.x 0]) ([]) rfl (hf3) rfl rfl (by simp only [objsAt, St.obj, aget, AObj.ren, AV.ren, AV.ren1, renL, ren1L, renR, renQ, List.getD_cons_zero, List.getD_cons_succ, and_true, and_self, Nat.reduceEqDiff, ↓reduceIte, reduceCtorEq]) rfl rfl rfl ⟨rfl, rfl⟩ ?_
                    simp (maxSteps := 2000000) only [go_sem, ↓reduceIte, hal, hlen]
                    refine ⟨(i, acc, some (k', e)), ?_, inv4, by simp⟩
                    refine Weak.mk ?_ ?_ ?_ <;> simp (maxSteps := 2000000) only [go_sem, ↓reduceIte, Sub, Int.natCast_add, Int.natCast_mul, h1, ro, robj_ne s k' e0]
              | ok x k' =>
                rw [hx] at hF hr hgq
                obtain ⟨rfl, rfl⟩ := hr
                obtain ⟨g1, g2, g3, g4⟩ := hgq
                refine ⟨⟨rfl, rfl⟩, ?_⟩
                simp only at hF
                have hf3 := fail_0 s (k' : Int) 3
                have hf2 := fail_0 s (k' : Int) 2
                rw [robj_0, robj_3, robj_lit.2.1] at hf3
                rw [robj_0, robj_2, robj_lit.1] at hf2
                have hst := hset nm x (Val.sm_mono (by omega) x g3)
                rw [setV_dic] at hst
                rw [show (dicV (setF nm x acc)).d = .agg [.int .i64 6, .int .i64 0, .str [], .list [], .list (fldsD (setF nm x acc))] by rw [Val.d_eq]; rfl, Val.d_eq x] at hst
                rw [Val.d_eq x, robj_0]
                cases gs with
                | true =>
                  rw [if_pos rfl] at hF
                  have inv4 := inv (k' : Int) 3 (by decide) hF.symm
                  rcases hcs with ⟨h1, h3⟩ | h1 <;> rw [h1]
                  all_goals
                    try rw [h3] at hgt
                    simp (maxSteps := 2000000) only [go_sem, ↓reduceIte]
                    refine CallG.of hgt ?_
                    simp (maxSteps := 2000000) only [go_sem, ↓reduceIte]
                    refine PrimG.mcall ([.x 0]) ([]) rfl (hf3) rfl rfl (by simp only [objsAt, St.obj, aget, AObj.ren, AV.ren, AV.ren1, renL, ren1L, renR, renQ, List.getD_cons_zero, List.getD_cons_succ, and_true, and_self, Nat.reduceEqDiff, ↓reduceIte, reduceCtorEq]) rfl rfl rfl ⟨rfl, rfl⟩ ?_
                    simp (maxSteps := 2000000) only [go_sem, ↓reduceIte, hal, hlen]
                    refine ⟨(i, acc, some ((k' : Int), 3)), ?_, inv4, by simp⟩
                    refine Weak.mk ?_ ?_ ?_ <;> simp (maxSteps := 2000000) only [go_sem, ↓reduceIte, Sub, Int.natCast_add, Int.natCast_mul, h1, ro, robj_3]
                | false =>
                  rw [if_neg (by decide)] at hF
                  have hno := hnone rfl
                  obtain ⟨p1, p2⟩ := setF_pt (x := x) hno
                  have hsl := fldsD_length (setF nm x acc)
                  have hob := dobj_ne (setF_ne nm x acc hno)
                  have hsm2 : ∀ z ∈ setF nm x acc, z.sm 300 = true := fun z hz => by
                    rcases setF_mem hz with rfl | hz
                    · exact Fld.sm_iff.2 ⟨by simp only [Fld.name]; omega, g3⟩
                    · exact hsm z hz
                  have hsr2 := srt_set (x := x) hsrt hno
                  generalize setF nm x acc = acc2 at *
                  have more : acc2.length ≤ 300 → k' ≤ s.length ∧ acc2.length ≤ 301 ∧ srt acc2 ∧ (∀ z ∈ acc2, z.sm 300 = true) ∧ ((none : Option (Int × Nat)) = none → acc2.length ≤ 300 ∧ dictF rd s (301 - acc2.length) acc2 k' = R) ∧ ∀ k e', (none : Option (Int × Nat)) = some (k, e') → e' ≠ 0 ∧ R = .bad e' := fun h =>
                    ⟨g2, by omega, hsr2, hsm2, fun _ => ⟨by omega, by rw [← hF]; congr 1; omega⟩, fun _ _ h => by cases h⟩
                  have stop : ¬ acc2.length ≤ 300 → k' ≤ s.length ∧ acc2.length ≤ 301 ∧ srt acc2 ∧ (∀ z ∈ acc2, z.sm 300 = true) ∧ (some ((k' : Int), 2) = none → acc2.length ≤ 300 ∧ dictF rd s (301 - acc2.length) acc2 k' = R) ∧ ∀ k e', some ((k' : Int), 2) = some (k, e') → e' ≠ 0 ∧ R = .bad e' := fun h =>
                    ⟨g2, by omega, hsr2, hsm2, fun h => (by cases h), fun k e' h' => by
                      cases h'
                      have hm0 : m = 0 := by omega
                      rw [hm0, dictF] at hF
                      exact ⟨by decide, hF.symm⟩⟩
                  rcases hcs with ⟨h1, h3⟩ | h1 <;> rw [h1]
                  all_goals
                    try rw [h3] at hgt hst
                    simp (maxSteps := 2000000) only [go_sem, ↓reduceIte]
                    refine CallG.of hgt ?_
                    simp (maxSteps := 2000000) only [go_sem, ↓reduceIte]
                    refine CallG.of hst ?_
                    simp (maxSteps := 2000000) only [go_sem, ↓reduceIte, hsl]
                    refine ⟨fun h5 => ?_, fun h5 => ?_⟩
                    · refine PrimG.mcall ([.x 0]) ([]) rfl (hf2) rfl rfl (by simp only [objsAt, St.obj, aget, AObj.ren, AV.ren, AV.ren1, renL, ren1L, renR, renQ, List.getD_cons_zero, List.getD_cons_succ, and_true, and_self, Nat.reduceEqDiff, ↓reduceIte, reduceCtorEq]) rfl rfl rfl ⟨rfl, rfl⟩ ?_
                      simp (maxSteps := 2000000) only [go_sem, ↓reduceIte]
                      refine ⟨(k', acc2, some ((k' : Int), 2)), ?_, stop (by omega), by simp; omega⟩
                      refine Weak.mk ?_ ?_ ?_ <;> simp (maxSteps := 2000000) only [go_sem, ↓reduceIte, Sub, Int.natCast_add, Int.natCast_mul, hob, ro, robj_2]
                    · refine ⟨(k', acc2, none), ?_, more (by omega), by simp; omega⟩
                      refine Weak.mk ?_ ?_ ?_ <;> simp (maxSteps := 2000000) only [go_sem, ↓reduceIte, Sub, Int.natCast_add, Int.natCast_mul, hob, ro]
end Go.Av.Try
