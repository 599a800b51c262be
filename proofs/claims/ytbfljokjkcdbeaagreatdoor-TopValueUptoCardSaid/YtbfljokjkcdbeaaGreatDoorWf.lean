import Derived.Test.YtbfljokjkcdbeaaGreatDoorWe
import Derived.Test.YtbfljokjkcdbeaaGreatDoorWd
import Derived.Test.YtbfljokjkcdbeaaGreatDoorWa
import Derived.Test.YtbfljokjkcdbeaaGreatDoorWc
import Derived.Test.YtbfljokjkcdbeaaGreatDoorAvG
set_option linter.unusedSimpArgs false
namespace Go.Av.Tryz
open Go.Proofs

def zD : D := .agg [.int .i64 0, .int .i64 0, .str [], .list [], .list []]
/-- (*parse.reader).value -/
def L___parse_reader__value : LCode :=
  .seq (.reg [⟨some 4, .allo [.int .i64 0, .int .i64 0, .str [], .list [], .list []], none⟩]) (.seq (.reg [⟨some 6, .val (.cp (.t 0)), none⟩, ⟨some 7, .prim .call [.k (.fn (.func 56) 
  [] []), .t 6] [], none⟩, ⟨some 5, .asg (.t 7), none⟩]) (.seq (.seq (.reg [⟨some 8, .val (.cp (.t 1)), none⟩, ⟨some 9, .val (.bin .gtr (.t 8) (.k (.d (.int .i64 8)))), none⟩]) 
  (.cond (.t 9) (.reg [⟨some 10, .val (.cp (.t 0)), none⟩, ⟨some 11, .val (.mkI 50 (.k (.d (.int .i64 2)))), none⟩, ⟨some 12, .prim .call [.k (.fn (.func 34) [] []), .t 10, .t 11] 
  [], none⟩]) .skip)) (.seq (.seq (.reg [⟨some 13, .val (.cp (.t 0)), none⟩, ⟨some 14, .val (.nck (.t 13)), none⟩, ⟨some 15, .val (.fa 2 (.t 14)), none⟩, ⟨some 16, .val (.ld false 
  1 (.t 15)), none⟩, ⟨some 17, .val (.eqN 0 true (.t 16)), none⟩]) (.cond (.t 17) (.seq (.reg [⟨some 18, .val (.bld [(0, 1), (1, 1), (2, 1), (3, 1), (4, 1)] [.int .i64 0, .int .i64 
  0, .str [], .list [], .list []] [] []), none⟩, ⟨none, .st 5 (.t 4) (.t 18), none⟩]) .ret) .skip)) (.seq (.block 0 (.seq (.reg [⟨some 20, .val (.cp (.t 5)), none⟩, ⟨some 21, .val 
  (.bin .eql (.t 20) (.k (.d (.int .u8 47)))), none⟩, ⟨some 19, .asg (.t 21), none⟩]) (.cond (.t 19) (.seq (.reg [⟨some 22, .val (.cp (.t 0)), none⟩, ⟨some 23, .prim .call [.k (.fn 
  (.func 57) [] []), .t 22] [], none⟩, ⟨some 24, .val (.bld [(0, 1), (1, 1), (2, 1), (3, 1), (4, 1)] [.int .i64 0, .int .i64 0, .str [], .list [], .list []] [false, false, false, 
  true, true] [(0, .k (.d (.int .i64 4))), (2, .t 23)]), none⟩, ⟨none, .st 5 (.t 4) (.t 24), none⟩]) .ret) (.seq (.reg [⟨some 26, .val (.cp (.t 5)), none⟩, ⟨some 27, .val (.bin 
  .eql (.t 26) (.k (.d (.int .u8 40)))), none⟩, ⟨some 25, .asg (.t 27), none⟩]) (.cond (.t 25) (.seq (.reg [⟨some 28, .val (.cp (.t 0)), none⟩, ⟨some 29, .val (.cp (.t 0)), none⟩, 
  ⟨some 30, .prim .call [.k (.fn (.func 59) [] []), .t 29] [], none⟩, ⟨some 31, .prim .call [.k (.fn (.func 58) [] []), .t 28, .t 30] [], none⟩, ⟨none, .st 5 (.t 4) (.t 31), 
  none⟩]) .ret) (.seq (.reg [⟨some 33, .val (.cp (.t 0)), none⟩, ⟨some 34, .prim .call [.k (.fn (.func 60) [] []), .t 33, .k (.d (.str [60, 60]))] [], none⟩, ⟨some 32, .asg (.t 
  34), none⟩]) (.cond (.t 32) (.seq (.reg [⟨some 35, .val (.cp (.t 0)), none⟩, ⟨some 36, .val (.cp (.t 1)), none⟩, ⟨some 37, .prim .call [.k (.fn (.func 61) [] []), .t 35, .t 36] 
  [], none⟩, ⟨none, .st 5 (.t 4) (.t 37), none⟩]) .ret) (.seq (.reg [⟨some 39, .val (.cp (.t 5)), none⟩, ⟨some 40, .val (.bin .eql (.t 39) (.k (.d (.int .u8 60)))), none⟩, ⟨some 
  38, .asg (.t 40), none⟩]) (.cond (.t 38) (.seq (.reg [⟨some 41, .val (.cp (.t 0)), none⟩, ⟨some 42, .val (.cp (.t 0)), none⟩, ⟨some 43, .prim .call [.k (.fn (.func 62) [] []), .t 
  42] [], none⟩, ⟨some 44, .prim .call [.k (.fn (.func 58) [] []), .t 41, .t 43] [], none⟩, ⟨none, .st 5 (.t 4) (.t 44), none⟩]) .ret) (.seq (.reg [⟨some 46, .val (.cp (.t 0)), 
  none⟩, ⟨some 47, .prim .call [.k (.fn (.func 60) [] []), .t 46, .k (.d (.str [91]))] [], none⟩, ⟨some 45, .asg (.t 47), none⟩]) (.cond (.t 45) (.seq (.reg [⟨some 48, .val (.cp 
  (.t 0)), none⟩, ⟨some 49, .val (.cp (.t 1)), none⟩, ⟨some 50, .prim .call [.k (.fn (.func 63) [] []), .t 48, .t 49] [], none⟩, ⟨none, .st 5 (.t 4) (.t 50), none⟩]) .ret) (.seq 
  (.reg [⟨some 52, .val (.cp (.t 5)), none⟩, ⟨some 53, .call 39 [.t 52], none⟩, ⟨some 51, .asg (.t 53), none⟩]) (.cond (.t 51) (.seq (.reg [⟨some 54, .val (.cp (.t 0)), none⟩, 
  ⟨some 55, .val (.mkI 50 (.k (.d (.int .i64 4)))), none⟩, ⟨some 56, .prim .call [.k (.fn (.func 34) [] []), .t 54, .t 55] [], none⟩]) (.seq (.reg [⟨some 57, .val (.bld [(0, 1), 
  (1, 1), (2, 1), (3, 1), (4, 1)] [.int .i64 0, .int .i64 0, .str [], .list [], .list []] [] []), none⟩, ⟨none, .st 5 (.t 4) (.t 57), none⟩]) .ret)) .skip))))))))))))) (.seq (.reg 
  [⟨some 58, .val (.cp (.t 0)), none⟩, ⟨some 59, .prim .call [.k (.fn (.func 64) [] []), .t 58] [], none⟩, ⟨none, .st 5 (.t 4) (.t 59), none⟩]) .ret)))))
def R___parse_reader__value : List LRes := [.cell 4 true 5]
theorem lift___parse_reader__value : Lifts Tryz.prog 33 60 L___parse_reader__value R___parse_reader__value := ⟨_, _, Tryz.func33, rfl, by kernel_rfl, by kernel_rfl, rfl⟩

theorem value_ne (s : List UInt8) (k : Int) (deep : Int) {n : Nat} (hn : n ≠ 0) (hs : s.length ≤ 60000) : MCallE Tryz.prog 33 [.ptr (.x 0) 0, .d (.int .i64 deep)] [robj s k n] (.d zD) [robj s (skipP s (clampP s k)) n] := by
  obtain ⟨c, hnx⟩ := next_ne s k hn hs
  have hf := fail_ne s (skipP s (clampP s k) : Int) hn (.iface 50 (.int .i64 2))
  generalize (skipP s (clampP s k) : Int) = q at *
  rw [robj_ne s k hn, robj_ne s q hn] at *
  refine lift___parse_reader__value.mcall (by kernel_rfl) rfl ?_
  simp (maxSteps := 2000000) only [go_sem, ↓reduceIte, L___parse_reader__value, R___parse_reader__value]
  refine PrimG.mcall ([.x 0]) ([]) rfl (hnx) rfl rfl (by simp only [objsAt, St.obj, aget, AObj.ren, AV.ren, AV.ren1, renL, ren1L, renR, renQ, List.getD_cons_zero, List.getD_cons_succ, and_true, and_self, Nat.reduceEqDiff, ↓reduceIte, reduceCtorEq]) rfl rfl rfl ⟨rfl, rfl⟩ ?_
  simp (maxSteps := 2000000) only [go_sem, ↓reduceIte]
  refine ⟨fun h => ?_, fun h => rfl⟩
  refine PrimG.mcall ([.x 0]) ([]) rfl (hf) rfl rfl (by simp only [objsAt, St.obj, aget, AObj.ren, AV.ren, AV.ren1, renL, ren1L, renR, renQ, List.getD_cons_zero, List.getD_cons_succ, and_true, and_self, Nat.reduceEqDiff, ↓reduceIte, reduceCtorEq]) rfl rfl rfl ⟨rfl, rfl⟩ ?_
  simp (maxSteps := 2000000) only [go_sem, ↓reduceIte]
  rfl

theorem hasPre_two {s : List UInt8} {k : Nat} {c : UInt8} {x y : UInt8} (h : s[k]? = some c) : hasPre (s.drop k) [x, y] = (decide (c = x) && decide (s[k + 1]? = some y)) := by
  rw [drop_at h]
  simp only [hasPre, List.length_cons, List.length_nil, List.take_succ_cons]
  cases hd : s[k + 1]? with
  | none =>
    rw [List.drop_eq_nil_of_le (List.getElem?_eq_none_iff.1 hd)]
    simp
  | some d =>
    rw [drop_at hd]
    simp
theorem setV_dic (nm : List UInt8) (x : Val) (acc : List Fld) : setV nm x (dicV acc) = dicV (setF nm x acc) := rfl
theorem dicV_sm {acc : List Fld} (h : acc.length ≤ 1048576) (hm : ∀ y ∈ acc, y.sm 300 = true) : (dicV acc).sm 1048576 = true :=
  Val.sm_iff.2 ⟨by simp [dicV, Val.s], by simp [dicV, Val.l], h, by simp [dicV, Val.l], fun y hy => by
    have := hm y hy
    obtain ⟨h1, h2⟩ := Fld.sm_iff.1 this
    exact Fld.sm_iff.2 ⟨by omega, Val.sm_mono (by omega) _ h2⟩⟩

/-- (*parse.reader).dict -/
def L___parse_reader__dict : LCode :=
  .seq (.reg [⟨some 4, .allo [.int .i64 0, .int .i64 0, .str [], .list [], .list []], none⟩]) (.seq (.reg [⟨some 11, .val (.bld [(0, 1), (1, 1), (2, 1), (3, 1), (4, 1)] [.int .i64 0, 
  .int .i64 0, .str [], .list [], .list []] [false, false, false, true, true] [(0, .k (.d (.int .i64 6)))]), none⟩, ⟨some 5, .allo [.int .i64 0, .int .i64 0, .str [], .list [], 
  .list []], none⟩, ⟨none, .st 5 (.t 5) (.t 11), none⟩]) (.seq (.block 0 (.loop (.seq (.seq (.reg [⟨some 12, .val (.cp (.t 0)), none⟩, ⟨some 13, .val (.nck (.t 12)), none⟩, ⟨some 
  14, .val (.fa 2 (.t 13)), none⟩, ⟨some 15, .val (.ld false 1 (.t 14)), none⟩, ⟨some 16, .val (.eqN 0 false (.t 15)), none⟩]) (.cond (.t 16) .skip (.exit 0))) (.block 1 (.seq 
  (.reg [⟨some 17, .val (.cp (.t 0)), none⟩, ⟨some 18, .prim .call [.k (.fn (.func 56) [] []), .t 17] [], none⟩, ⟨some 6, .asg (.t 18), none⟩]) (.seq (.seq (.reg [⟨some 19, .val 
  (.cp (.t 0)), none⟩, ⟨some 20, .prim .call [.k (.fn (.func 60) [] []), .t 19, .k (.d (.str [62, 62]))] [], none⟩]) (.cond (.t 20) (.exit 0) .skip)) (.seq (.seq (.reg [⟨some 21, 
  .val (.cp (.t 0)), none⟩, ⟨some 22, .val (.nck (.t 21)), none⟩, ⟨some 23, .val (.fa 2 (.t 22)), none⟩, ⟨some 24, .val (.ld false 1 (.t 23)), none⟩, ⟨some 25, .val (.eqN 0 false 
  (.t 24)), none⟩, ⟨some 26, .val (.cp (.t 25)), none⟩, ⟨some 27, .val (.cp (.t 6)), some (26, true)⟩, ⟨some 28, .val (.bin .neq (.t 27) (.k (.d (.int .u8 47)))), some (26, true)⟩, 
  ⟨some 29, .val (.pick (.t 26) (.t 28) (.k (.d (.bool false)))), none⟩]) (.cond (.t 29) (.reg [⟨some 30, .val (.cp (.t 0)), none⟩, ⟨some 31, .val (.mkI 50 (.k (.d (.int .i64 
  4)))), none⟩, ⟨some 32, .prim .call [.k (.fn (.func 34) [] []), .t 30, .t 31] [], none⟩]) .skip)) (.seq (.seq (.reg [⟨some 33, .val (.cp (.t 0)), none⟩, ⟨some 34, .val (.nck (.t 
  33)), none⟩, ⟨some 35, .val (.fa 2 (.t 34)), none⟩, ⟨some 36, .val (.ld false 1 (.t 35)), none⟩, ⟨some 37, .val (.eqN 0 true (.t 36)), none⟩]) (.cond (.t 37) (.exit 0) .skip)) 
  (.seq (.reg [⟨some 38, .val (.cp (.t 0)), none⟩, ⟨some 39, .prim .call [.k (.fn (.func 57) [] []), .t 38] [], none⟩, ⟨some 7, .asg (.t 39), none⟩]) (.seq (.reg [⟨some 40, .val 
  (.cp (.t 0)), none⟩, ⟨some 41, .val (.cp (.t 1)), none⟩, ⟨some 42, .val (.bin .add (.t 41) (.k (.d (.int .i64 1)))), none⟩, ⟨some 43, .prim .call [.k (.fn (.func 33) [] []), .t 
  40, .t 42] [], none⟩, ⟨some 8, .allo [.int .i64 0, .int .i64 0, .str [], .list [], .list []], none⟩, ⟨none, .st 5 (.t 8) (.t 43), none⟩]) (.seq (.reg [⟨some 45, .val (.ld true 5 
  (.t 5)), none⟩, ⟨some 46, .val (.cp (.t 7)), none⟩, ⟨some 47, .call 86 [.t 45, .t 46], none⟩, ⟨some 44, .val (.cp (.t 47)), none⟩, ⟨some 48, .val (.ext 0 (.t 44)), none⟩, ⟨some 
  49, .val (.ext 1 (.t 44)), none⟩, ⟨some 9, .allo [.int .i64 0, .int .i64 0, .str [], .list [], .list []], none⟩, ⟨none, .st 5 (.t 9) (.t 48), none⟩, ⟨some 10, .asg (.t 49), 
  none⟩]) (.seq (.seq (.reg [⟨some 50, .val (.cp (.t 10)), none⟩]) (.cond (.t 50) (.reg [⟨some 51, .val (.cp (.t 0)), none⟩, ⟨some 52, .val (.mkI 50 (.k (.d (.int .i64 3)))), 
  none⟩, ⟨some 53, .prim .call [.k (.fn (.func 34) [] []), .t 51, .t 52] [], none⟩]) .skip)) (.seq (.seq (.reg [⟨some 54, .val (.cp (.t 0)), none⟩, ⟨some 55, .val (.nck (.t 54)), 
  none⟩, ⟨some 56, .val (.fa 2 (.t 55)), none⟩, ⟨some 57, .val (.ld false 1 (.t 56)), none⟩, ⟨some 58, .val (.eqN 0 false (.t 57)), none⟩]) (.cond (.t 58) (.reg [⟨some 59, .val 
  (.ld true 5 (.t 5)), none⟩, ⟨some 60, .val (.cp (.t 7)), none⟩, ⟨some 61, .val (.ld true 5 (.t 8)), none⟩, ⟨some 62, .call 87 [.t 59, .t 60, .t 61], none⟩, ⟨none, .st 5 (.t 5) 
  (.t 62), none⟩]) .skip)) (.seq (.reg [⟨some 63, .val (.fa 4 (.t 5)), none⟩, ⟨some 64, .val (.ld false 1 (.t 63)), none⟩, ⟨some 65, .val (.len false (.t 64)), none⟩, ⟨some 66, 
  .val (.bin .gtr (.t 65) (.k (.d (.int .i64 300)))), none⟩]) (.cond (.t 66) (.reg [⟨some 67, .val (.cp (.t 0)), none⟩, ⟨some 68, .val (.mkI 50 (.k (.d (.int .i64 2)))), none⟩, 
  ⟨some 69, .prim .call [.k (.fn (.func 34) [] []), .t 67, .t 68] [], none⟩]) .skip))))))))))))))) (.seq (.reg [⟨some 70, .val (.ld true 5 (.t 5)), none⟩, ⟨none, .st 5 (.t 4) (.t 
  70), none⟩]) .ret)))
def R___parse_reader__dict : List LRes := [.cell 4 true 5]
theorem lift___parse_reader__dict : Lifts Tryz.prog 61 71 L___parse_reader__dict R___parse_reader__dict := ⟨_, _, Tryz.func61, rfl, by kernel_rfl, by kernel_rfl, rfl⟩

theorem dictP_of (s : List UInt8) (hs : s.length ≤ 60000) (rd : Nat → RV) (deep : Int) (hd : 0 ≤ deep ∧ deep ≤ 8) (hg : ∀ k, k ≤ s.length → goodR s k (rd k)) (ih : RdAt s rd (deep + 1)) (k : Nat) (hk : k ≤ s.length) :
    MCall Tryz.prog 61 [.ptr (.x 0) 0, .d (.int .i64 deep)] [robj s k 0] (rdPost s (dictF rd s 301 [] k)) := by
  generalize hR : dictF rd s 301 [] k = R
  rw [robj_0]
  refine lift___parse_reader__dict.mcall (by kernel_rfl) rfl ?_
  simp (maxSteps := 2000000) (disch := omega) only [go_sem, ↓reduceIte, L___parse_reader__dict, R___parse_reader__dict]
  refine run_loop (fun y : Nat × List Fld × Option (Int × Nat) => ⟨[(0, .ptr (.x 0) 0), (1, .d (.int .i64 deep)), (4, .ptr (.l 4) 0), (5, .ptr (.l 5) 0)],
      [(4, .cells [.d (.int .i64 0), .d (.int .i64 0), .d (.str []), .ns, .ns]), (5, dobj y.2.1)], [(0, ro s y.1 y.2.2)]⟩)
    (fun y => y.1 ≤ s.length ∧ y.2.1.length ≤ 301 ∧ srt y.2.1 ∧ (∀ z ∈ y.2.1, z.sm 300 = true) ∧ (y.2.2 = none → y.2.1.length ≤ 300 ∧ dictF rd s (301 - y.2.1.length) y.2.1 y.1 = R) ∧ ∀ k e, y.2.2 = some (k, e) → e ≠ 0 ∧ R = .bad e) (fun y => 2 * (s.length - y.1) + (if y.2.2.isNone = true then 1 else 0)) (k, [], none) ?_ ?_ ?_
  · refine Weak.mk ?_ ?_ ?_ <;> simp (maxSteps := 2000000) only [go_sem, ↓reduceIte, Sub, Int.natCast_add, Int.natCast_mul, dobj, ro]
  · exact ⟨hk, by simp, srt_nil, by simp, fun _ => ⟨by simp, hR⟩, fun _ _ h => by cases h⟩
  · rintro ⟨i, acc, o⟩ ⟨hi, ha, hsrt, hsm, hF, hE⟩
    simp only at hi ha hsrt hsm hF hE
    have hal := fldsD_length acc
    have dd : (dicV acc).d = D.agg [.int .i64 6, .int .i64 0, .str [], .list [], .list (fldsD acc)] := by rw [Val.d_eq]; rfl
    have hcs : (dobj acc = .cells [.d (.int .i64 6), .d (.int .i64 0), .d (.str []), .ns, .ns] ∧ fldsD acc = []) ∨ dobj acc = .cells [.d (.int .i64 6), .d (.int .i64 0), .d (.str []), .d (.list []), .d (.list (fldsD acc))] := by
      rcases dobj_cases acc with ⟨h, rfl⟩ | h
      · exact .inl ⟨h, rfl⟩
      · exact .inr h
    have hget := fun nm => getP_call (dicV acc) nm (by show acc.length ≤ _; omega)
    have hset := fun nm x hx => setP_call (dicV acc) x nm hsrt (dicV_sm (by omega) hsm) hx
    simp only [dd] at hget hset
    have inv : ∀ (k' : Int) (e : Nat), e ≠ 0 → R = .bad e → i ≤ s.length ∧ acc.length ≤ 301 ∧ srt acc ∧ (∀ z ∈ acc, z.sm 300 = true) ∧ (some (k', e) = none → acc.length ≤ 300 ∧ dictF rd s (301 - acc.length) acc i = R) ∧ ∀ k e', some (k', e) = some (k, e') → e' ≠ 0 ∧ R = .bad e' := fun k' e e0 he =>
      ⟨hi, ha, hsrt, hsm, fun h => (by cases h), fun k e' h => by cases h; exact ⟨e0, he⟩⟩
    cases o with
    | some p =>
      obtain ⟨k', e⟩ := p
      obtain ⟨e0, rfl⟩ := hE k' e rfl
      have fb := rdPost_bad (s := s) (R := .bad e) (dicV acc) k' rfl
      rw [dd, robj_ne s k' e0] at fb
      simp only [ro]
      rw [robj_ne s k' e0]
      rcases hcs with ⟨h1, h2⟩ | h1 <;> rw [h1]
      all_goals
        simp (maxSteps := 2000000) only [go_sem, ↓reduceIte]
        first
        | exact fb
        | (rw [h2] at fb; exact fb)
    | none =>
      obtain ⟨ha', hF⟩ := hF rfl
      have hlen : (300 < (acc.length : Int)) = False := by simp only [eq_iff_iff, iff_false]; omega
      obtain ⟨m, hm⟩ : ∃ m, 301 - acc.length = m + 1 := ⟨300 - acc.length, by omega⟩
      rw [hm, dictF] at hF
      have hsk := skipP_le hi
      have hnx := next_0 s i hs hi
      generalize skipP s i = q at *
      simp only [ro]
      rw [robj_0] at hnx
      simp (maxSteps := 2000000) only [go_sem, ↓reduceIte]
      refine PrimG.mcall ([.x 0]) ([]) rfl (hnx) rfl rfl (by simp only [objsAt, St.obj, aget, AObj.ren, AV.ren, AV.ren1, renL, ren1L, renR, renQ, List.getD_cons_zero, List.getD_cons_succ, and_true, and_self, Nat.reduceEqDiff, ↓reduceIte, reduceCtorEq]) rfl rfl rfl ⟨rfl, rfl⟩ ?_
      cases hc : s[q]? with
      | none =>
        rw [hc] at hF
        simp only at hF
        have het := eat_ne s (q : Int) [62, 62] (n := 5) (by decide)
        have fb := rdPost_bad (s := s) (R := R) (dicV acc) (q : Int) hF.symm
        rw [dd, robj_5] at fb
        rw [robj_5] at het
        simp only
        rw [robj_5]
        simp (maxSteps := 2000000) only [go_sem, ↓reduceIte]
        refine PrimG.mcall ([.x 0]) ([]) rfl (het) rfl rfl (by simp only [objsAt, St.obj, aget, AObj.ren, AV.ren, AV.ren1, renL, ren1L, renR, renQ, List.getD_cons_zero, List.getD_cons_succ, and_true, and_self, Nat.reduceEqDiff, ↓reduceIte, reduceCtorEq]) rfl rfl rfl ⟨rfl, rfl⟩ ?_
        rcases hcs with ⟨h1, h2⟩ | h1 <;> rw [h1]
        all_goals
          simp (maxSteps := 2000000) only [go_sem, ↓reduceIte]
          first
          | exact fb
          | (rw [h2] at fb; exact fb)
      | some c =>
        have hc8 := u8_lt c
        have hlt : q < s.length := (List.getElem?_eq_some_iff.1 hc).1
        rw [hc] at hF
        simp only at hF
        simp only
        rw [robj_0]
        simp (maxSteps := 2000000) only [go_sem, ↓reduceIte]
        have het := eat_0 s q [62, 62] hs (by omega) (by simp)
        rw [hasPre_two hc] at het
        by_cases c62 : c.toNat = 62 ∧ s[q + 1]? = some 62
        · have e62 : c = 62 := UInt8.toNat_inj.1 (by have : (62 : UInt8).toNat = 62 := rfl; omega)
          rw [if_pos c62] at hF
          have hb : (decide (c = 62) && decide (s[q + 1]? = some 62)) = true := by simp [e62, c62.2]
          rw [hb, if_pos rfl, robj_0, robj_0] at het
          have fb := rdPost_ok (s := s) hF.symm
          rw [dd, robj_0] at fb
          refine PrimG.mcall ([.x 0]) ([]) rfl (het) rfl rfl (by simp only [objsAt, St.obj, aget, AObj.ren, AV.ren, AV.ren1, renL, ren1L, renR, renQ, List.getD_cons_zero, List.getD_cons_succ, and_true, and_self, Nat.reduceEqDiff, ↓reduceIte, reduceCtorEq]) rfl rfl rfl ⟨rfl, rfl⟩ ?_
          rcases hcs with ⟨h1, h3⟩ | h1 <;> rw [h1]
          all_goals
            simp (maxSteps := 2000000) only [go_sem, ↓reduceIte]
            first
            | exact fb
            | (rw [h3] at fb; exact fb)
        · rw [if_neg c62] at hF
          have hb : (decide (c = 62) && decide (s[q + 1]? = some 62)) = false := by
            by_cases e62 : c = 62
            · have : ¬ s[q + 1]? = some 62 := fun h => c62 ⟨by rw [e62]; rfl, h⟩
              simp [this]
            · simp [e62]
          rw [hb, if_neg (by decide), robj_0] at het
          refine PrimG.mcall ([.x 0]) ([]) rfl (het) rfl rfl (by simp only [objsAt, St.obj, aget, AObj.ren, AV.ren, AV.ren1, renL, ren1L, renR, renQ, List.getD_cons_zero, List.getD_cons_succ, and_true, and_self, Nat.reduceEqDiff, ↓reduceIte, reduceCtorEq]) rfl rfl rfl ⟨rfl, rfl⟩ ?_
          simp (maxSteps := 2000000) only [go_sem, ↓reduceIte]
          refine ⟨fun h47 => ?_, fun h47 => ?_⟩
          · rw [if_pos (by omega)] at hF
            have hf := fail_0 s (q : Int) 4
            rw [robj_0, robj_4, robj_lit.2.2.1] at hf
            have fb := rdPost_bad (s := s) (R := R) (dicV acc) (q : Int) hF.symm
            rw [dd, robj_4] at fb
            refine PrimG.mcall ([.x 0]) ([]) rfl (hf) rfl rfl (by simp only [objsAt, St.obj, aget, AObj.ren, AV.ren, AV.ren1, renL, ren1L, renR, renQ, List.getD_cons_zero, List.getD_cons_succ, and_true, and_self, Nat.reduceEqDiff, ↓reduceIte, reduceCtorEq]) rfl rfl rfl ⟨rfl, rfl⟩ ?_
            rcases hcs with ⟨h1, h3⟩ | h1 <;> rw [h1]
            all_goals
              simp (maxSteps := 2000000) only [go_sem, ↓reduceIte]
              first
              | exact fb
              | (rw [h3] at fb; exact fb)
          · rw [if_neg (by omega)] at hF
            have hnm := name_call s q hs hlt
            rw [robj_0] at hnm
            refine PrimG.mpost ([.x 0]) ([]) rfl (hnm) rfl rfl (by simp only [objsAt, St.obj, aget, AObj.ren, AV.ren, AV.ren1, renL, ren1L, renR, renQ, List.getD_cons_zero, List.getD_cons_succ, and_true, and_self, Nat.reduceEqDiff, ↓reduceIte, reduceCtorEq]) rfl rfl rfl (fun r hs' hr => ?_)
            cases hn : nameAt s q with
            | none =>
              rw [hn] at hF hr
              simp only at hF
              obtain ⟨b, k2, rfl, rfl⟩ := hr
              refine ⟨⟨rfl, rfl⟩, ?_⟩
              have hv := value_ne s k2 (deep + 1) (n := 4) (by decide) hs
              have hgt := hget b
              have eg : getR (getV b (dicV acc).f) = .tup [((getV b acc).getD zeroV).d, .bool (getV b acc).isSome] := rfl
              rw [eg] at hgt
              generalize (getV b acc).getD zeroV = gv at hgt
              generalize (getV b acc).isSome = gs at hgt
              rw [Val.d_eq gv] at hgt
              generalize (skipP s (clampP s k2) : Int) = q2 at hv
              have hf3 := fail_ne s q2 (n := 4) (by decide) (.iface 50 (.int .i64 3))
              rw [robj_4] at hv hf3 ⊢
              rw [robj_4] at hv
              simp (maxSteps := 2000000) (disch := omega) only [go_sem, ↓reduceIte]
              refine PrimG.mcall ([.x 0]) ([]) rfl (hv) rfl rfl (by simp only [objsAt, St.obj, aget, AObj.ren, AV.ren, AV.ren1, renL, ren1L, renR, renQ, List.getD_cons_zero, List.getD_cons_succ, and_true, and_self, Nat.reduceEqDiff, ↓reduceIte, reduceCtorEq]) rfl rfl rfl ⟨rfl, rfl⟩ ?_
              have inv4 := inv q2 4 (by decide) hF.symm
              rcases hcs with ⟨h1, h3⟩ | h1 <;> rw [h1]
              all_goals
                try rw [h3] at hgt
                simp (maxSteps := 2000000) only [go_sem, ↓reduceIte, zD]
                refine CallG.of hgt ?_
                cases gs with
                | false =>
                  simp (maxSteps := 2000000) only [go_sem, ↓reduceIte, hal, hlen]
                  refine ⟨(i, acc, some (q2, 4)), ?_, inv4, by simp⟩
                  refine Weak.mk ?_ ?_ ?_ <;> simp (maxSteps := 2000000) only [go_sem, ↓reduceIte, Sub, Int.natCast_add, Int.natCast_mul, h1, ro, robj_4]
                | true =>
                  simp (maxSteps := 2000000) only [go_sem, ↓reduceIte]
                  refine PrimG.mcall ([.x 0]) ([]) rfl (hf3) rfl rfl (by simp only [objsAt, St.obj, aget, AObj.ren, AV.ren, AV.ren1, renL, ren1L, renR, renQ, List.getD_cons_zero, List.getD_cons_succ, and_true, and_self, Nat.reduceEqDiff, ↓reduceIte, reduceCtorEq]) rfl rfl rfl ⟨rfl, rfl⟩ ?_
                  simp (maxSteps := 2000000) only [go_sem, ↓reduceIte, hal, hlen]
                  refine ⟨(i, acc, some (q2, 4)), ?_, inv4, by simp⟩
                  refine Weak.mk ?_ ?_ ?_ <;> simp (maxSteps := 2000000) only [go_sem, ↓reduceIte, Sub, Int.natCast_add, Int.natCast_mul, h1, ro, robj_4]
            | some p =>
              obtain ⟨nm, kn⟩ := p
              rw [hn] at hF hr
              obtain ⟨rfl, rfl⟩ := hr
              refine ⟨⟨rfl, rfl⟩, ?_⟩
              simp only at hF
              obtain ⟨n1, n2, n3, n4⟩ := nameAt_good hlt hn
              have hv := ih kn n2
              have hgq := hg kn n2
              have hgt := hget nm
              have eg : getR (getV nm (dicV acc).f) = .tup [((getV nm acc).getD zeroV).d, .bool (getV nm acc).isSome] := rfl
              rw [eg] at hgt
              have hnone := getV_none (nm := nm) (l := acc)
              generalize (getV nm acc).getD zeroV = gv at hgt
              generalize (getV nm acc).isSome = gs at hgt hF hnone
              rw [Val.d_eq gv] at hgt
              rw [robj_0] at hv ⊢
              simp (maxSteps := 2000000) (disch := omega) only [go_sem, ↓reduceIte]
              refine PrimG.mpost ([.x 0]) ([]) rfl (hv) rfl rfl (by simp only [objsAt, St.obj, aget, AObj.ren, AV.ren, AV.ren1, renL, ren1L, renR, renQ, List.getD_cons_zero, List.getD_cons_succ, and_true, and_self, Nat.reduceEqDiff, ↓reduceIte, reduceCtorEq]) rfl rfl rfl (fun r hs' hr => ?_)
              cases hx : rd kn with
              | bad e =>
                rw [hx] at hF hr hgq
                obtain ⟨x, k', rfl, rfl⟩ := hr
                obtain ⟨g1, _⟩ := hgq
                have e0 : e ≠ 0 := by omega
                refine ⟨⟨rfl, rfl⟩, ?_⟩
                have hf3 := fail_ne s k' e0 (.iface 50 (.int .i64 3))
                rw [Val.d_eq x]
                rw [robj_ne s k' e0] at hf3 ⊢
                have inv4 := inv k' e e0 hF.symm
                rcases hcs with ⟨h1, h3⟩ | h1 <;> rw [h1]
                all_goals
                  try rw [h3] at hgt
                  simp (maxSteps := 2000000) only [go_sem, ↓reduceIte]
                  refine CallG.of hgt ?_
                  cases gs with
                  | false =>
                    simp (maxSteps := 2000000) only [go_sem, ↓reduceIte, hal, hlen]
                    refine ⟨(i, acc, some (k', e)), ?_, inv4, by simp⟩
                    refine Weak.mk ?_ ?_ ?_ <;> simp (maxSteps := 2000000) only [go_sem, ↓reduceIte, Sub, Int.natCast_add, Int.natCast_mul, h1, ro, robj_ne s k' e0]
                  | true =>
                    simp (maxSteps := 2000000) only [go_sem, ↓reduceIte]
                    refine PrimG.mcall ([.x 0]) ([]) rfl (hf3) rfl rfl (by simp only [objsAt, St.obj, aget, AObj.ren, AV.ren, AV.ren1, renL, ren1L, renR, renQ, List.getD_cons_zero, List.getD_cons_succ, and_true, and_self, Nat.reduceEqDiff, ↓reduceIte, reduceCtorEq]) rfl rfl rfl ⟨rfl, rfl⟩ ?_
                    simp (maxSteps := 2000000) only [go_sem, ↓reduceIte, hal, hlen]
                    refine ⟨(i, acc, some (k', e)), ?_, inv4, by simp⟩
                    refine Weak.mk ?_ ?_ ?_ <;> simp (maxSteps := 2000000) only [go_sem, ↓reduceIte, Sub, Int.natCast_add, Int.natCast_mul, h1, ro, robj_ne s k' e0]
              | ok x k' =>
                rw [hx] at hF hr hgq
                obtain ⟨rfl, rfl⟩ := hr
                obtain ⟨g1, g2, g3, g4⟩ := hgq
                refine ⟨⟨rfl, rfl⟩, ?_⟩
                simp only at hF
                have hf3 := fail_0 s (k' : Int) 3
                have hf2 := fail_0 s (k' : Int) 2
                rw [robj_0, robj_3, robj_lit.2.1] at hf3
                rw [robj_0, robj_2, robj_lit.1] at hf2
                have hst := hset nm x (Val.sm_mono (by omega) x g3)
                rw [setV_dic] at hst
                rw [show (dicV (setF nm x acc)).d = .agg [.int .i64 6, .int .i64 0, .str [], .list [], .list (fldsD (setF nm x acc))] by rw [Val.d_eq]; rfl, Val.d_eq x] at hst
                rw [Val.d_eq x, robj_0]
                cases gs with
                | true =>
                  rw [if_pos rfl] at hF
                  have inv4 := inv (k' : Int) 3 (by decide) hF.symm
                  rcases hcs with ⟨h1, h3⟩ | h1 <;> rw [h1]
                  all_goals
                    try rw [h3] at hgt
                    simp (maxSteps := 2000000) only [go_sem, ↓reduceIte]
                    refine CallG.of hgt ?_
                    simp (maxSteps := 2000000) only [go_sem, ↓reduceIte]
                    refine PrimG.mcall ([.x 0]) ([]) rfl (hf3) rfl rfl (by simp only [objsAt, St.obj, aget, AObj.ren, AV.ren, AV.ren1, renL, ren1L, renR, renQ, List.getD_cons_zero, List.getD_cons_succ, and_true, and_self, Nat.reduceEqDiff, ↓reduceIte, reduceCtorEq]) rfl rfl rfl ⟨rfl, rfl⟩ ?_
                    simp (maxSteps := 2000000) only [go_sem, ↓reduceIte, hal, hlen]
                    refine ⟨(i, acc, some ((k' : Int), 3)), ?_, inv4, by simp⟩
                    refine Weak.mk ?_ ?_ ?_ <;> simp (maxSteps := 2000000) only [go_sem, ↓reduceIte, Sub, Int.natCast_add, Int.natCast_mul, h1, ro, robj_3]
                | false =>
                  rw [if_neg (by decide)] at hF
                  have hno := hnone rfl
                  obtain ⟨p1, p2⟩ := setF_pt (x := x) hno
                  have hsl := fldsD_length (setF nm x acc)
                  have hob := dobj_ne (setF_ne nm x acc hno)
                  have hsm2 : ∀ z ∈ setF nm x acc, z.sm 300 = true := fun z hz => by
                    rcases setF_mem hz with rfl | hz
                    · exact Fld.sm_iff.2 ⟨by simp only [Fld.name]; omega, g3⟩
                    · exact hsm z hz
                  have hsr2 := srt_set (x := x) hsrt hno
                  generalize setF nm x acc = acc2 at *
                  have more : acc2.length ≤ 300 → k' ≤ s.length ∧ acc2.length ≤ 301 ∧ srt acc2 ∧ (∀ z ∈ acc2, z.sm 300 = true) ∧ ((none : Option (Int × Nat)) = none → acc2.length ≤ 300 ∧ dictF rd s (301 - acc2.length) acc2 k' = R) ∧ ∀ k e', (none : Option (Int × Nat)) = some (k, e') → e' ≠ 0 ∧ R = .bad e' := fun h =>
                    ⟨g2, by omega, hsr2, hsm2, fun _ => ⟨by omega, by rw [← hF]; congr 1; omega⟩, fun _ _ h => by cases h⟩
                  have stop : ¬ acc2.length ≤ 300 → k' ≤ s.length ∧ acc2.length ≤ 301 ∧ srt acc2 ∧ (∀ z ∈ acc2, z.sm 300 = true) ∧ (some ((k' : Int), 2) = none → acc2.length ≤ 300 ∧ dictF rd s (301 - acc2.length) acc2 k' = R) ∧ ∀ k e', some ((k' : Int), 2) = some (k, e') → e' ≠ 0 ∧ R = .bad e' := fun h =>
                    ⟨g2, by omega, hsr2, hsm2, fun h => (by cases h), fun k e' h' => by
                      cases h'
                      have hm0 : m = 0 := by omega
                      rw [hm0, dictF] at hF
                      exact ⟨by decide, hF.symm⟩⟩
                  rcases hcs with ⟨h1, h3⟩ | h1 <;> rw [h1]
                  all_goals
                    try rw [h3] at hgt hst
                    simp (maxSteps := 2000000) only [go_sem, ↓reduceIte]
                    refine CallG.of hgt ?_
                    simp (maxSteps := 2000000) only [go_sem, ↓reduceIte]
                    refine CallG.of hst ?_
                    simp (maxSteps := 2000000) only [go_sem, ↓reduceIte, hsl]
                    refine ⟨fun h5 => ?_, fun h5 => ?_⟩
                    · refine PrimG.mcall ([.x 0]) ([]) rfl (hf2) rfl rfl (by simp only [objsAt, St.obj, aget, AObj.ren, AV.ren, AV.ren1, renL, ren1L, renR, renQ, List.getD_cons_zero, List.getD_cons_succ, and_true, and_self, Nat.reduceEqDiff, ↓reduceIte, reduceCtorEq]) rfl rfl rfl ⟨rfl, rfl⟩ ?_
                      simp (maxSteps := 2000000) only [go_sem, ↓reduceIte]
                      refine ⟨(k', acc2, some ((k' : Int), 2)), ?_, stop (by omega), by simp; omega⟩
                      refine Weak.mk ?_ ?_ ?_ <;> simp (maxSteps := 2000000) only [go_sem, ↓reduceIte, Sub, Int.natCast_add, Int.natCast_mul, hob, ro, robj_2]
                    · refine ⟨(k', acc2, none), ?_, more (by omega), by simp; omega⟩
                      refine Weak.mk ?_ ?_ ?_ <;> simp (maxSteps := 2000000) only [go_sem, ↓reduceIte, Sub, Int.natCast_add, Int.natCast_mul, hob, ro]
end Go.Av.Tryz
set_option linter.unusedSimpArgs false
namespace Go.Av.Tryz
open Go.Proofs

theorem zeroV_d : zeroV.d = .agg [.int .i64 0, .int .i64 0, .str [], .list [], .list []] := by rw [Val.d_eq]; rfl

theorem rdPost_any {s : List UInt8} {R : RV} {r : AV} {hs : List AObj} (h : rdPost s R r hs) : ∃ (v : Val) (k : Int) (e : Nat), r = .d (.agg [.int .i64 v.kind, .int .i64 v.n, .str v.s, .list (valsD v.l), .list (fldsD v.f)]) ∧ hs = [.cells [.d (.str s), .d (.int .i64 k), .d (errD e)]] := by
  cases R with
  | ok v k => obtain ⟨rfl, rfl⟩ := h; exact ⟨v, k, 0, by rw [Val.d_eq], rfl⟩
  | bad e => obtain ⟨v, k, rfl, rfl⟩ := h; exact ⟨v, k, e, by rw [Val.d_eq], rfl⟩

theorem valueP_call (s : List UInt8) (hs : s.length ≤ 60000) : ∀ (d : Nat), d ≤ 8 → RdAt s (readF d s) (9 - (d : Int)) := by
  intro d
  induction d with
  | zero =>
    intro _ k hk
    generalize hR : readF 0 s k = R
    rw [readF] at hR
    have hnx := next_0 s k hs hk
    generalize skipP s k = q at *
    rw [robj_0] at hnx ⊢
    refine lift___parse_reader__value.mcall (by kernel_rfl) rfl ?_
    simp (maxSteps := 2000000) only [go_sem, ↓reduceIte, L___parse_reader__value, R___parse_reader__value]
    refine PrimG.mcall ([.x 0]) ([]) rfl (hnx) rfl rfl (by simp only [objsAt, St.obj, aget, AObj.ren, AV.ren, AV.ren1, renL, ren1L, renR, renQ, List.getD_cons_zero, List.getD_cons_succ, and_true, and_self, Nat.reduceEqDiff, ↓reduceIte, reduceCtorEq]) rfl rfl rfl ⟨rfl, rfl⟩ ?_
    cases hc : s[q]? with
    | none =>
      rw [hc] at hR
      have hf := fail_ne s (q : Int) (n := 5) (by decide) (.iface 50 (.int .i64 2))
      have fb := rdPost_bad (s := s) zeroV (q : Int) hR.symm
      rw [zeroV_d, robj_5] at fb
      rw [robj_5] at hf
      simp only
      rw [robj_5]
      simp (maxSteps := 2000000) only [go_sem, ↓reduceIte]
      refine PrimG.mcall ([.x 0]) ([]) rfl (hf) rfl rfl (by simp only [objsAt, St.obj, aget, AObj.ren, AV.ren, AV.ren1, renL, ren1L, renR, renQ, List.getD_cons_zero, List.getD_cons_succ, and_true, and_self, Nat.reduceEqDiff, ↓reduceIte, reduceCtorEq]) rfl rfl rfl ⟨rfl, rfl⟩ ?_
      simp (maxSteps := 2000000) only [go_sem, ↓reduceIte]
      exact fb
    | some c =>
      rw [hc] at hR
      have hf := fail_0 s (q : Int) 2
      have fb := rdPost_bad (s := s) zeroV (q : Int) hR.symm
      rw [zeroV_d, robj_2] at fb
      rw [robj_0, robj_2, robj_lit.1] at hf
      simp only
      rw [robj_0]
      simp (maxSteps := 2000000) only [go_sem, ↓reduceIte]
      refine PrimG.mcall ([.x 0]) ([]) rfl (hf) rfl rfl (by simp only [objsAt, St.obj, aget, AObj.ren, AV.ren, AV.ren1, renL, ren1L, renR, renQ, List.getD_cons_zero, List.getD_cons_succ, and_true, and_self, Nat.reduceEqDiff, ↓reduceIte, reduceCtorEq]) rfl rfl rfl ⟨rfl, rfl⟩ ?_
      simp (maxSteps := 2000000) only [go_sem, ↓reduceIte]
      exact fb
  | succ d ihd =>
    intro hd k hk
    generalize hR : readF (d + 1) s k = R
    rw [readF] at hR
    have hsk := skipP_le hk
    have hnx := next_0 s k hs hk
    generalize skipP s k = q at *
    have ih := ihd (by omega)
    obtain ⟨deep, hde⟩ : ∃ deep : Int, 9 - ((d + 1 : Nat) : Int) = deep := ⟨_, rfl⟩
    have e1 : 9 - (d : Int) = deep + 1 := by omega
    have hdeep : 0 ≤ deep ∧ deep ≤ 8 := by omega
    rw [e1] at ih
    rw [hde]
    clear hde e1
    have hg := fun k hk => readF_good s d k hk
    rw [robj_0] at hnx ⊢
    refine lift___parse_reader__value.mcall (by kernel_rfl) rfl ?_
    simp (maxSteps := 2000000) only [go_sem, ↓reduceIte, L___parse_reader__value, R___parse_reader__value]
    refine PrimG.mcall ([.x 0]) ([]) rfl (hnx) rfl rfl (by simp only [objsAt, St.obj, aget, AObj.ren, AV.ren, AV.ren1, renL, ren1L, renR, renQ, List.getD_cons_zero, List.getD_cons_succ, and_true, and_self, Nat.reduceEqDiff, ↓reduceIte, reduceCtorEq]) rfl rfl rfl ⟨rfl, rfl⟩ ?_
    have hd8 : (8 < deep) = False := by simp only [eq_iff_iff, iff_false]; omega
    cases hc : s[q]? with
    | none =>
      rw [hc] at hR
      have fb := rdPost_bad (s := s) zeroV (q : Int) hR.symm
      rw [zeroV_d, robj_5] at fb
      simp only
      rw [robj_5]
      simp (maxSteps := 2000000) only [go_sem, ↓reduceIte, hd8]
      exact fb
    | some c =>
      have hc8 := u8_lt c
      have hlt : q < s.length := (List.getElem?_eq_some_iff.1 hc).1
      rw [hc] at hR
      simp only at hR
      simp only
      rw [robj_0]
      simp (maxSteps := 2000000) only [go_sem, ↓reduceIte, hd8]
      refine ⟨fun h47 => ?_, fun h47 => ⟨fun h40 => ?_, fun h40 => ?_⟩⟩
      · rw [if_pos (by omega)] at hR
        have hnm := name_call s q hs hlt
        rw [robj_0] at hnm
        refine PrimG.mpost ([.x 0]) ([]) rfl (hnm) rfl rfl (by simp only [objsAt, St.obj, aget, AObj.ren, AV.ren, AV.ren1, renL, ren1L, renR, renQ, List.getD_cons_zero, List.getD_cons_succ, and_true, and_self, Nat.reduceEqDiff, ↓reduceIte, reduceCtorEq]) rfl rfl rfl (fun r hs' hr => ?_)
        cases hn : nameAt s q with
        | none =>
          rw [hn] at hR hr
          obtain ⟨b, k2, rfl, rfl⟩ := hr
          refine ⟨⟨rfl, rfl⟩, ?_⟩
          have fb := rdPost_bad (s := s) (namV b) k2 hR.symm
          rw [namV, kmk, robj_4] at fb
          rw [robj_4]
          simp (maxSteps := 2000000) only [go_sem, ↓reduceIte]
          exact fb
        | some p =>
          obtain ⟨b, kn⟩ := p
          rw [hn] at hR hr
          obtain ⟨rfl, rfl⟩ := hr
          refine ⟨⟨rfl, rfl⟩, ?_⟩
          have fb := rdPost_ok (s := s) hR.symm
          rw [namV, kmk, robj_0] at fb
          rw [robj_0]
          simp (maxSteps := 2000000) only [go_sem, ↓reduceIte]
          exact fb
      · rw [if_neg (by omega), if_pos (by omega)] at hR
        have hl := litP_call s q hs hlt
        rw [robj_0] at hl
        unfold litAt at hR
        refine PrimG.mpost ([.x 0]) ([]) rfl (hl) rfl rfl (by simp only [objsAt, St.obj, aget, AObj.ren, AV.ren, AV.ren1, renL, ren1L, renR, renQ, List.getD_cons_zero, List.getD_cons_succ, and_true, and_self, Nat.reduceEqDiff, ↓reduceIte, reduceCtorEq]) rfl rfl rfl (fun r hs' hr => ?_)
        cases hx : litF 0 1 (s.drop (q + 1)) [] (q + 1) with
        | none =>
          rw [hx] at hR hr
          obtain ⟨k2, rfl, rfl⟩ := hr
          refine ⟨⟨rfl, rfl⟩, ?_⟩
          have fb := rdPost_bad (s := s) (strV []) k2 hR.symm
          have hst := str_ne s k2 [] (n := 5) (by decide)
          rw [strV, kmk, robj_5] at fb hst
          rw [robj_5]
          simp (maxSteps := 2000000) only [go_sem, ↓reduceIte]
          refine PrimG.mcall ([.x 0]) ([]) rfl (hst) rfl rfl (by simp only [objsAt, St.obj, aget, AObj.ren, AV.ren, AV.ren1, renL, ren1L, renR, renQ, List.getD_cons_zero, List.getD_cons_succ, and_true, and_self, Nat.reduceEqDiff, ↓reduceIte, reduceCtorEq]) rfl rfl rfl ⟨rfl, rfl⟩ ?_
          simp (maxSteps := 2000000) only [go_sem, ↓reduceIte]
          exact fb
        | some p =>
          obtain ⟨b, kn⟩ := p
          rw [hx] at hR hr
          obtain ⟨rfl, rfl⟩ := hr
          refine ⟨⟨rfl, rfl⟩, ?_⟩
          simp only at hR
          have hst := str_0 s (kn : Int) b
          rw [strV, kmk, robj_0] at hst
          rw [robj_0]
          simp (maxSteps := 2000000) only [go_sem, ↓reduceIte]
          refine PrimG.mcall ([.x 0]) ([]) rfl (hst) rfl rfl (by simp only [objsAt, St.obj, aget, AObj.ren, AV.ren, AV.ren1, renL, ren1L, renR, renQ, List.getD_cons_zero, List.getD_cons_succ, and_true, and_self, Nat.reduceEqDiff, ↓reduceIte, reduceCtorEq]) rfl rfl rfl ⟨rfl, rfl⟩ ?_
          by_cases hb : b.length ≤ 200
          · rw [if_pos hb] at hR ⊢
            have fb := rdPost_ok (s := s) hR.symm
            rw [strV, kmk, robj_0] at fb
            rw [robj_0]
            simp (maxSteps := 2000000) only [go_sem, ↓reduceIte]
            exact fb
          · rw [if_neg hb] at hR ⊢
            have fb := rdPost_bad (s := s) (strV b) (kn : Int) hR.symm
            rw [strV, kmk, robj_2] at fb
            rw [robj_2]
            simp (maxSteps := 2000000) only [go_sem, ↓reduceIte]
            exact fb
      · rw [if_neg (by omega), if_neg (by omega)] at hR
        have het := eat_0 s q [60, 60] hs (by omega) (by simp)
        rw [hasPre_two hc] at het
        by_cases cd : c.toNat = 60 ∧ s[q + 1]? = some 60
        · have e60 : c = 60 := UInt8.toNat_inj.1 (by have : (60 : UInt8).toNat = 60 := rfl; omega)
          have hq2 := (List.getElem?_eq_some_iff.1 cd.2).1
          rw [if_pos cd] at hR
          have hb : (decide (c = 60) && decide (s[q + 1]? = some 60)) = true := by simp [e60, cd.2]
          have e2 : (q : Int) + (([60, 60] : List UInt8).length : Int) = ((q + 2 : Nat) : Int) := by simp
          rw [hb, if_pos rfl, e2, robj_0, robj_0] at het
          refine PrimG.mcall ([.x 0]) ([]) rfl (het) rfl rfl (by simp only [objsAt, St.obj, aget, AObj.ren, AV.ren, AV.ren1, renL, ren1L, renR, renQ, List.getD_cons_zero, List.getD_cons_succ, and_true, and_self, Nat.reduceEqDiff, ↓reduceIte, reduceCtorEq]) rfl rfl rfl ⟨rfl, rfl⟩ ?_
          have hdc := dictP_of s hs (readF d s) deep hdeep hg ih (q + 2) (by omega)
          rw [hR, robj_0] at hdc
          simp (maxSteps := 2000000) only [go_sem, ↓reduceIte]
          refine PrimG.mpost ([.x 0]) ([]) rfl (hdc) rfl rfl (by simp only [objsAt, St.obj, aget, AObj.ren, AV.ren, AV.ren1, renL, ren1L, renR, renQ, List.getD_cons_zero, List.getD_cons_succ, and_true, and_self, Nat.reduceEqDiff, ↓reduceIte, reduceCtorEq]) rfl rfl rfl (fun r hs' hr => ?_)
          obtain ⟨v, k2, e, rfl, rfl⟩ := rdPost_any hr
          refine ⟨⟨rfl, rfl⟩, ?_⟩
          simp (maxSteps := 2000000) only [go_sem, ↓reduceIte]
          exact hr
        · have hb : (decide (c = 60) && decide (s[q + 1]? = some 60)) = false := by
            by_cases e60 : c = 60
            · have : ¬ s[q + 1]? = some 60 := fun h => cd ⟨by rw [e60]; rfl, h⟩
              simp [this]
            · simp [e60]
          rw [if_neg cd] at hR
          rw [hb, if_neg (by decide), robj_0] at het
          refine PrimG.mcall ([.x 0]) ([]) rfl (het) rfl rfl (by simp only [objsAt, St.obj, aget, AObj.ren, AV.ren, AV.ren1, renL, ren1L, renR, renQ, List.getD_cons_zero, List.getD_cons_succ, and_true, and_self, Nat.reduceEqDiff, ↓reduceIte, reduceCtorEq]) rfl rfl rfl ⟨rfl, rfl⟩ ?_
          simp (maxSteps := 2000000) only [go_sem, ↓reduceIte]
          refine ⟨fun h60 => ?_, fun h60 => ?_⟩
          · rw [if_pos (by omega)] at hR
            have hx := hexed_call s q hs hlt
            rw [robj_0] at hx
            unfold hexAt at hR
            have hcode := unhexF_code (s.drop (q + 1)) (-1) []
            refine PrimG.mpost ([.x 0]) ([]) rfl (hx) rfl rfl (by simp only [objsAt, St.obj, aget, AObj.ren, AV.ren, AV.ren1, renL, ren1L, renR, renQ, List.getD_cons_zero, List.getD_cons_succ, and_true, and_self, Nat.reduceEqDiff, ↓reduceIte, reduceCtorEq]) rfl rfl rfl (fun r hs' hr => ?_)
            generalize unhexF (s.drop (q + 1)) (-1) [] = U at hR hcode hr
            obtain ⟨ub, uc⟩ := U
            simp only at hR hcode hr
            obtain ⟨rfl, k2, rfl, hk2⟩ := hr
            refine ⟨⟨rfl, rfl⟩, ?_⟩
            by_cases u0 : uc = 0
            · subst u0
              rw [if_pos rfl] at hR
              rw [hk2 rfl]
              have hst := str_0 s ((q + 1 + gtEnd (s.drop (q + 1)) : Nat) : Int) ub
              rw [strV, kmk, robj_0] at hst
              rw [robj_0]
              simp (maxSteps := 2000000) only [go_sem, ↓reduceIte]
              refine PrimG.mcall ([.x 0]) ([]) rfl (hst) rfl rfl (by simp only [objsAt, St.obj, aget, AObj.ren, AV.ren, AV.ren1, renL, ren1L, renR, renQ, List.getD_cons_zero, List.getD_cons_succ, and_true, and_self, Nat.reduceEqDiff, ↓reduceIte, reduceCtorEq]) rfl rfl rfl ⟨rfl, rfl⟩ ?_
              by_cases hb2 : ub.length ≤ 200
              · rw [if_pos hb2] at hR ⊢
                have fb := rdPost_ok (s := s) hR.symm
                rw [strV, kmk, robj_0] at fb
                rw [robj_0]
                simp (maxSteps := 2000000) only [go_sem, ↓reduceIte]
                exact fb
              · rw [if_neg hb2] at hR ⊢
                have fb := rdPost_bad (s := s) (strV ub) ((q + 1 + gtEnd (s.drop (q + 1)) : Nat) : Int) hR.symm
                rw [strV, kmk, robj_2] at fb
                rw [robj_2]
                simp (maxSteps := 2000000) only [go_sem, ↓reduceIte]
                exact fb
            · rw [if_neg u0] at hR
              have fb := rdPost_bad (s := s) (strV ub) k2 hR.symm
              have hst := str_ne s k2 ub u0
              rw [strV, kmk, robj_ne s k2 u0] at fb hst
              rw [robj_ne s k2 u0]
              simp (maxSteps := 2000000) only [go_sem, ↓reduceIte]
              refine PrimG.mcall ([.x 0]) ([]) rfl (hst) rfl rfl (by simp only [objsAt, St.obj, aget, AObj.ren, AV.ren, AV.ren1, renL, ren1L, renR, renQ, List.getD_cons_zero, List.getD_cons_succ, and_true, and_self, Nat.reduceEqDiff, ↓reduceIte, reduceCtorEq]) rfl rfl rfl ⟨rfl, rfl⟩ ?_
              simp (maxSteps := 2000000) only [go_sem, ↓reduceIte]
              exact fb
          · rw [if_neg (by omega)] at hR
            have het2 := eat_0 s q [91] hs (by omega) (by simp)
            rw [hasPre_one hc] at het2
            by_cases h91 : c.toNat = 91
            · rw [if_pos h91] at hR
              have e91 : c = 91 := UInt8.toNat_inj.1 (by have : (91 : UInt8).toNat = 91 := rfl; omega)
              have e2 : (q : Int) + (([91] : List UInt8).length : Int) = ((q + 1 : Nat) : Int) := by simp
              rw [decide_eq_true e91, if_pos rfl, e2, robj_0, robj_0] at het2
              refine PrimG.mcall ([.x 0]) ([]) rfl (het2) rfl rfl (by simp only [objsAt, St.obj, aget, AObj.ren, AV.ren, AV.ren1, renL, ren1L, renR, renQ, List.getD_cons_zero, List.getD_cons_succ, and_true, and_self, Nat.reduceEqDiff, ↓reduceIte, reduceCtorEq]) rfl rfl rfl ⟨rfl, rfl⟩ ?_
              have hls := listP_of s hs (readF d s) deep hdeep hg ih (q + 1) (by omega)
              rw [hR, robj_0] at hls
              simp (maxSteps := 2000000) only [go_sem, ↓reduceIte]
              refine PrimG.mpost ([.x 0]) ([]) rfl (hls) rfl rfl (by simp only [objsAt, St.obj, aget, AObj.ren, AV.ren, AV.ren1, renL, ren1L, renR, renQ, List.getD_cons_zero, List.getD_cons_succ, and_true, and_self, Nat.reduceEqDiff, ↓reduceIte, reduceCtorEq]) rfl rfl rfl (fun r hs' hr => ?_)
              obtain ⟨v, k2, e, rfl, rfl⟩ := rdPost_any hr
              refine ⟨⟨rfl, rfl⟩, ?_⟩
              simp (maxSteps := 2000000) only [go_sem, ↓reduceIte]
              exact hr
            · rw [if_neg h91] at hR
              have e91 : ¬ c = 91 := fun e => h91 (by rw [e]; rfl)
              rw [decide_eq_false e91, if_neg (by decide), robj_0] at het2
              refine PrimG.mcall ([.x 0]) ([]) rfl (het2) rfl rfl (by simp only [objsAt, St.obj, aget, AObj.ren, AV.ren, AV.ren1, renL, ren1L, renR, renQ, List.getD_cons_zero, List.getD_cons_succ, and_true, and_self, Nat.reduceEqDiff, ↓reduceIte, reduceCtorEq]) rfl rfl rfl ⟨rfl, rfl⟩ ?_
              simp (maxSteps := 2000000) only [go_sem, ↓reduceIte]
              refine CallG.of (sign_call c) ?_
              simp (maxSteps := 2000000) only [go_sem, ↓reduceIte]
              refine ⟨fun hs1 => ?_, fun hs1 => ?_⟩
              · rw [if_pos hs1] at hR
                have hf := fail_0 s (q : Int) 4
                have fb := rdPost_bad (s := s) zeroV (q : Int) hR.symm
                rw [zeroV_d, robj_4] at fb
                rw [robj_0, robj_4, robj_lit.2.2.1] at hf
                refine PrimG.mcall ([.x 0]) ([]) rfl (hf) rfl rfl (by simp only [objsAt, St.obj, aget, AObj.ren, AV.ren, AV.ren1, renL, ren1L, renR, renQ, List.getD_cons_zero, List.getD_cons_succ, and_true, and_self, Nat.reduceEqDiff, ↓reduceIte, reduceCtorEq]) rfl rfl rfl ⟨rfl, rfl⟩ ?_
                simp (maxSteps := 2000000) only [go_sem, ↓reduceIte]
                exact fb
              · rw [if_neg (by simp [hs1])] at hR
                have hwv := wordV_call s q hs (by omega)
                rw [hR, robj_0] at hwv
                refine PrimG.mpost ([.x 0]) ([]) rfl (hwv) rfl rfl (by simp only [objsAt, St.obj, aget, AObj.ren, AV.ren, AV.ren1, renL, ren1L, renR, renQ, List.getD_cons_zero, List.getD_cons_succ, and_true, and_self, Nat.reduceEqDiff, ↓reduceIte, reduceCtorEq]) rfl rfl rfl (fun r hs' hr => ?_)
                obtain ⟨v, k2, e, rfl, rfl⟩ := rdPost_any hr
                refine ⟨⟨rfl, rfl⟩, ?_⟩
                simp (maxSteps := 2000000) only [go_sem, ↓reduceIte]
                exact hr
end Go.Av.Tryz
set_option linter.unusedSimpArgs false
namespace Go.Av.Tryz
open Go.Proofs

/-- What the program's Value hands back. -/
def topP : RV → Res
  | .ok v k => .tup [v.d, .int .i64 k, .nil]
  | .bad e => .tup [zeroV.d, .int .i64 0, errD e]

/-- parse.Value -/
def L_parse_Value : LCode :=
  .seq (.reg [⟨some 4, .allo [.int .i64 0, .int .i64 0, .str [], .list [], .list []], none⟩, ⟨some 5, .asg (.k (.d (.int .i64 0))), none⟩, ⟨some 6, .asg (.k (.d .nil)), none⟩]) (.seq 
  (.seq (.reg [⟨some 9, .val (.cp (.t 0)), none⟩, ⟨some 10, .val (.len true (.t 9)), none⟩, ⟨some 11, .val (.bin .gtr (.t 10) (.k (.d (.int .i64 60000)))), none⟩, ⟨some 12, .val 
  (.cp (.t 11)), none⟩, ⟨some 13, .val (.cp (.t 1)), some (12, false)⟩, ⟨some 14, .val (.bin .lss (.t 13) (.k (.d (.int .i64 0)))), some (12, false)⟩, ⟨some 15, .val (.pick (.t 12) 
  (.k (.d (.bool true))) (.t 14)), none⟩, ⟨some 16, .val (.cp (.t 15)), none⟩, ⟨some 17, .val (.cp (.t 1)), some (16, false)⟩, ⟨some 18, .val (.cp (.t 0)), some (16, false)⟩, ⟨some 
  19, .val (.len true (.t 18)), some (16, false)⟩, ⟨some 20, .val (.bin .gtr (.t 17) (.t 19)), some (16, false)⟩, ⟨some 21, .val (.pick (.t 16) (.k (.d (.bool true))) (.t 20)), 
  none⟩]) (.cond (.t 21) (.seq (.reg [⟨some 22, .val (.bld [(0, 1), (1, 1), (2, 1), (3, 1), (4, 1)] [.int .i64 0, .int .i64 0, .str [], .list [], .list []] [] []), none⟩, ⟨some 23, 
  .val (.mkI 50 (.k (.d (.int .i64 1)))), none⟩, ⟨none, .st 5 (.t 4) (.t 22), none⟩, ⟨some 5, .asg (.k (.d (.int .i64 0))), none⟩, ⟨some 6, .asg (.t 23), none⟩]) .ret) .skip)) 
  (.seq (.reg [⟨some 24, .val (.cp (.t 0)), none⟩, ⟨some 25, .val (.cp (.t 1)), none⟩, ⟨some 26, .val (.bld [(0, 1), (1, 1), (2, 1)] [.str [], .int .i64 0, .nil] [] [(0, .t 24), 
  (1, .t 25)]), none⟩, ⟨some 27, .box (.t 26), none⟩, ⟨some 7, .asg (.t 27), none⟩]) (.seq (.reg [⟨some 28, .val (.cp (.t 7)), none⟩, ⟨some 29, .prim .call [.k (.fn (.func 33) [] 
  []), .t 28, .k (.d (.int .i64 1))] [], none⟩, ⟨some 8, .allo [.int .i64 0, .int .i64 0, .str [], .list [], .list []], none⟩, ⟨none, .st 5 (.t 8) (.t 29), none⟩]) (.seq (.seq 
  (.reg [⟨some 30, .val (.cp (.t 7)), none⟩, ⟨some 31, .val (.nck (.t 30)), none⟩, ⟨some 32, .val (.fa 2 (.t 31)), none⟩, ⟨some 33, .val (.ld false 1 (.t 32)), none⟩, ⟨some 34, 
  .val (.eqN 0 false (.t 33)), none⟩]) (.cond (.t 34) (.reg [⟨some 35, .val (.cp (.t 7)), none⟩, ⟨some 36, .val (.ld true 5 (.t 8)), none⟩, ⟨some 37, .call 31 [.t 36], none⟩, ⟨some 
  38, .prim .call [.k (.fn (.func 34) [] []), .t 35, .t 37] [], none⟩]) .skip)) (.seq (.seq (.reg [⟨some 39, .val (.cp (.t 7)), none⟩, ⟨some 40, .val (.nck (.t 39)), none⟩, ⟨some 
  41, .val (.fa 2 (.t 40)), none⟩, ⟨some 42, .val (.ld false 1 (.t 41)), none⟩, ⟨some 43, .val (.eqN 0 true (.t 42)), none⟩]) (.cond (.t 43) (.seq (.dreg [⟨some 44, .val (.bld [(0, 
  1), (1, 1), (2, 1), (3, 1), (4, 1)] [.int .i64 0, .int .i64 0, .str [], .list [], .list []] [] []), none⟩, ⟨some 45, .val (.cp (.t 7)), none⟩, ⟨some 46, .val (.nck (.t 45)), 
  none⟩, ⟨some 47, .val (.fa 2 (.t 46)), none⟩, ⟨some 48, .val (.ld false 1 (.t 47)), none⟩, ⟨none, .stC 5 (.t 4) (.t 44) [(45, .cp (.t 7)), (46, .nck (.t 45)), (47, .fa 2 (.t 
  46)), (48, .ld false 1 (.t 47))], none⟩, ⟨some 5, .val (.cp (.k (.d (.int .i64 0)))), none⟩, ⟨some 6, .val (.cp (.t 48)), none⟩]) .ret) .skip)) (.seq (.dreg [⟨some 49, .val (.ld 
  true 5 (.t 8)), none⟩, ⟨some 50, .val (.cp (.t 7)), none⟩, ⟨some 51, .val (.nck (.t 50)), none⟩, ⟨some 52, .val (.fa 1 (.t 51)), none⟩, ⟨some 53, .val (.ld false 1 (.t 52)), 
  none⟩, ⟨none, .stC 5 (.t 4) (.t 49) [(50, .cp (.t 7)), (51, .nck (.t 50)), (52, .fa 1 (.t 51)), (53, .ld false 1 (.t 52))], none⟩, ⟨some 5, .val (.cp (.t 53)), none⟩, ⟨some 6, 
  .val (.cp (.k (.d .nil))), none⟩]) .ret))))))
def R_parse_Value : List LRes := [.cell 4 true 5, .tmp 5, .tmp 6]
theorem lift_parse_Value : Lifts Tryz.prog 15 54 L_parse_Value R_parse_Value := ⟨_, _, Tryz.func15, rfl, by kernel_rfl, by kernel_rfl, rfl⟩

theorem valueTop_call (s : List UInt8) (k : Int) (hs : s.length ≤ 1000000000) : PCall Tryz.prog 15 [.str s, .int .i64 k] (fun r => r = topP (valueP s k)) := by
  refine lift_parse_Value.call rfl ?_
  generalize hR : valueP s k = R
  unfold valueP at hR
  simp (maxSteps := 2000000) only [go_sem, ↓reduceIte, L_parse_Value, R_parse_Value]
  have bad : ∀ (e : Nat), R = .bad e → Res.tup [.agg [.int .i64 0, .int .i64 0, .str [], .list [], .list []], .int .i64 0, errD e] = topP R := fun e he => by
    rw [he, topP, zeroV_d]
  have b1 := bad 1
  rw [errD_ne (by decide)] at b1
  refine ⟨fun h1 => ⟨fun h2 => ⟨fun h3 => ?_, fun h3 => ?_⟩, fun h2 => ?_⟩, fun h1 => ?_⟩
  · rw [if_pos (by omega)] at hR; exact b1 hR.symm
  · rw [if_neg (by omega)] at hR
    obtain ⟨q, rfl⟩ : ∃ q : Nat, k = q := ⟨k.toNat, by omega⟩
    rw [Int.toNat_natCast] at hR
    have hc := valueP_call s (by omega) 8 (by omega) q (by omega)
    have hg := readF_good s 8 q (by omega)
    rw [robj_0] at hc
    refine PrimG.mpost ([.l 27]) ([]) rfl (hc) rfl rfl (by simp only [objsAt, St.obj, aget, AObj.ren, AV.ren, AV.ren1, renL, ren1L, renR, renQ, List.getD_cons_zero, List.getD_cons_succ, and_true, and_self, Nat.reduceEqDiff, ↓reduceIte, reduceCtorEq]) rfl rfl rfl (fun r hs' hr => ?_)
    cases hx : readF 8 s q with
    | bad e =>
      rw [hx] at hR hr hg
      obtain ⟨v, k2, rfl, rfl⟩ := hr
      refine ⟨⟨rfl, rfl⟩, ?_⟩
      have he : e ≠ 0 := by obtain ⟨g1, _⟩ := hg; omega
      rw [robj_ne s k2 he, Val.d_eq v]
      have b2 := bad e hR.symm
      rw [errD_ne he] at b2
      simp (maxSteps := 2000000) only [go_sem, ↓reduceIte]
      exact b2
    | ok v n =>
      rw [hx] at hR hr hg
      obtain ⟨rfl, rfl⟩ := hr
      refine ⟨⟨rfl, rfl⟩, ?_⟩
      simp only at hR
      obtain ⟨g1, g2, g3, g4⟩ := hg
      have hf := checkV_call v (Val.sm_mono (by omega) v g3)
      have hfl := fail_0 s (n : Int) (faultV v)
      rw [robj_0] at hfl ⊢
      rw [Val.d_eq v] at hf ⊢
      simp (maxSteps := 2000000) only [go_sem, ↓reduceIte]
      refine CallG.of hf ?_
      simp (maxSteps := 2000000) only [go_sem, ↓reduceIte]
      refine PrimG.mcall ([.l 27]) ([]) rfl (hfl) rfl rfl (by simp only [objsAt, St.obj, aget, AObj.ren, AV.ren, AV.ren1, renL, ren1L, renR, renQ, List.getD_cons_zero, List.getD_cons_succ, and_true, and_self, Nat.reduceEqDiff, ↓reduceIte, reduceCtorEq]) rfl rfl rfl ⟨rfl, rfl⟩ ?_
      by_cases f0 : faultV v = 0
      · rw [if_pos f0] at hR
        rw [f0, robj_0]
        simp (maxSteps := 2000000) only [go_sem, ↓reduceIte]
        rw [← hR, topP, Val.d_eq]
      · rw [if_neg f0] at hR
        have b2 := bad _ hR.symm
        rw [errD_ne f0] at b2
        rw [robj_ne s n f0]
        simp (maxSteps := 2000000) only [go_sem, ↓reduceIte]
        exact b2
  · rw [if_pos (by omega)] at hR; exact b1 hR.symm
  · rw [if_pos (by omega)] at hR; exact b1 hR.symm
end Go.Av.Tryz
set_option linter.unusedSimpArgs false
namespace Go.Av.Tryz
open Go.Proofs

mutual
/-- Letters and values. -/
def awV : Val → Nat
  | .mk _ _ s l f => 1 + s.length + awL l + awF f
def awL : List Val → Nat
  | [] => 0
  | v :: r => awV v + awL r
def awF : List Fld → Nat
  | [] => 0
  | .mk nm v :: r => nm.length + awV v + awF r
end
mutual
theorem wt_aw (most : Int) : ∀ v : Val, awV v ≤ 1000000000 → 0 ≤ wtV most v ∧ wtV most v ≤ awV v ∧ (wtV most v ≤ most → wtV most v = awV v)
  | .mk k n s l f, h => by
    simp only [awV] at h ⊢
    simp only [wtV]
    have e : IntKind.i64.wrap (1 + (s.length : Int)) = 1 + (s.length : Int) := IntWalk.i64_in _ (by omega)
    rw [e]
    have h1 := wtL_aw most l (1 + (s.length : Int)) (by omega) (by omega)
    have h2 := wtF_aw most f (wtL most l (1 + (s.length : Int))) (by omega) (by omega)
    refine ⟨by omega, by omega, fun h3 => ?_⟩
    have := h2.2.2 h3
    have := h1.2.2 (by omega)
    omega
theorem wtL_aw (most : Int) : ∀ (l : List Val) (n : Int), 0 ≤ n → n + awL l ≤ 1000000000 → n ≤ wtL most l n ∧ wtL most l n ≤ n + awL l ∧ (wtL most l n ≤ most → wtL most l n = n + awL l)
  | [], n, h0, h => by simp only [wtL, awL]; omega
  | v :: r, n, h0, h => by
    simp only [awL] at h ⊢
    simp only [wtL]
    by_cases hm : n ≤ most
    · rw [if_pos hm]
      have hv := wt_aw most v (by omega)
      have e : IntKind.i64.wrap (n + wtV most v) = n + wtV most v := IntWalk.i64_in _ (by omega)
      rw [e]
      have hr := wtL_aw most r (n + wtV most v) (by omega) (by omega)
      refine ⟨by omega, by omega, fun h3 => ?_⟩
      have := hr.2.2 h3
      have := hv.2.2 (by omega)
      omega
    · rw [if_neg hm]
      exact ⟨by omega, by omega, fun h3 => absurd h3 hm⟩
theorem wtF_aw (most : Int) : ∀ (l : List Fld) (n : Int), 0 ≤ n → n + awF l ≤ 1000000000 → n ≤ wtF most l n ∧ wtF most l n ≤ n + awF l ∧ (wtF most l n ≤ most → wtF most l n = n + awF l)
  | [], n, h0, h => by simp only [wtF, awF]; omega
  | .mk nm v :: r, n, h0, h => by
    simp only [awF] at h ⊢
    simp only [wtF]
    by_cases hm : n ≤ most
    · rw [if_pos hm]
      have hv := wt_aw most v (by omega)
      have e0 : IntKind.i64.wrap (n + (nm.length : Int)) = n + (nm.length : Int) := IntWalk.i64_in _ (by omega)
      rw [e0]
      have e : IntKind.i64.wrap (n + (nm.length : Int) + wtV most v) = n + (nm.length : Int) + wtV most v := IntWalk.i64_in _ (by omega)
      rw [e]
      have hr := wtF_aw most r (n + (nm.length : Int) + wtV most v) (by omega) (by omega)
      refine ⟨by omega, by omega, fun h3 => ?_⟩
      have := hr.2.2 h3
      have := hv.2.2 (by omega)
      omega
    · rw [if_neg hm]
      exact ⟨by omega, by omega, fun h3 => absurd h3 hm⟩
end

mutual
theorem aw_le : ∀ (v : Val), wellV v = true → awV v + 200 ≤ 401 * (ptV v).1 ∧ (textV v).length + 5 ≤ 4 * awV v + 104 * (ptV v).1
  | .mk k n s l f, hw => by
    have hk := wellV_k hw
    have hte := textV_eq (.mk k n s l f)
    simp only [Val.kind, Val.n, Val.s, Val.l, Val.f] at hte hk
    have hwe := hw
    unfold wellV at hwe
    simp only [awV, ptV]
    rcases hk with h | h | h | h | h | h | h | h <;> subst h
    · simp at hwe hte
      obtain ⟨h1, rfl, rfl, rfl⟩ := hwe
      rw [hte]; simp [awL, awF, ptL, ptF]
    · simp at hwe hte
      obtain ⟨h1, rfl, rfl, rfl⟩ := hwe
      have : (textV (Val.mk 1 n [] [] [])).length ≤ 5 := by rcases h1 with rfl | rfl <;> simp [textV]
      simp [awL, awF, ptL, ptF]; omega
    · simp at hwe hte
      obtain ⟨h1, rfl, rfl, rfl⟩ := hwe
      have := textF_len h1
      rw [hte]; simp [awL, awF, ptL, ptF]; omega
    · simp at hwe hte
      obtain ⟨h1, h2, rfl, rfl⟩ := hwe
      have := strP_length s
      rw [hte]; simp [awL, awF, ptL, ptF]; omega
    · simp at hwe hte
      obtain ⟨h1, h2, rfl, rfl⟩ := hwe
      have := nameP_length s
      have := nameMay_len h2
      rw [hte]; simp [awL, awF, ptL, ptF]; omega
    · simp at hwe hte
      obtain ⟨h1, rfl, h3, rfl⟩ := hwe
      have := aw_leL l false h3
      rw [hte]; simp [awF, ptF]; omega
    · simp at hwe hte
      obtain ⟨h1, rfl, rfl, h4⟩ := hwe
      have := aw_leF f none h4
      rw [hte]; simp [awL, ptL]; omega
    · simp at hwe hte
      obtain ⟨h1, rfl, rfl, rfl⟩ := hwe
      have := nDigits_le n.toNat 1 (by omega)
      rw [hte]; simp [awL, awF, ptL, ptF]; omega
theorem aw_leL : ∀ (l : List Val) (sep : Bool), wellL l = true → awL l ≤ 401 * (ptL l).1 ∧ (textL sep l).length ≤ 4 * awL l + 104 * (ptL l).1
  | [], _, _ => by simp [textL, awL, ptL]
  | v :: r, sep, h => by
    simp only [wellL, Bool.and_eq_true] at h
    have h1 := aw_le v h.1
    have h2 := aw_leL r true h.2
    simp only [textL, awL, ptL, List.length_append]
    refine ⟨by omega, ?_⟩
    split <;> simp <;> omega
theorem aw_leF : ∀ (l : List Fld) (p : Option (List UInt8)), wellF p l = true → awF l ≤ 401 * (ptF l).1 ∧ (textX l).length ≤ 4 * awF l + 104 * (ptF l).1
  | [], _, _ => by simp [textX, awF, ptF]
  | .mk nm v :: r, p, h => by
    simp only [wellF, Bool.and_eq_true] at h
    have h1 := aw_le v h.1.2.1
    have h2 := aw_leF r (some nm) h.2
    have h3 := nameMay_len h.1.1
    have h4 := nameP_length nm
    simp only [textX, awF, ptF, List.length_append, List.length_cons, List.length_nil]
    omega
end
theorem light_text {v : Val} (h : faultV v = 0) (hl : wtV 6000 v ≤ 6000) : (textV v).length ≤ 60000 := by
  have hf := h
  rw [faultV_0] at hf
  have h1 := aw_le v hf.2
  have h2 := wt_aw 6000 v (by omega)
  have := h2.2.2 hl
  omega

def trueV : Val := .mk 1 1 [] [] []
/-- foliowrighttop.TopValue -/
def L_foliowrighttop_TopValue : LCode :=
  .seq (.reg [⟨some 2, .box (.t 0), none⟩, ⟨some 3, .box (.t 1), none⟩, ⟨some 4, .asg (.k (.d (.bool false))), none⟩]) (.seq (.reg [⟨some 12, .val (.bld [(0, 1), (1, 1), (2, 1), (3, 
  1), (4, 1)] [.int .i64 0, .int .i64 0, .str [], .list [], .list []] [false, false, false, true, true] [(0, .k (.d (.int .i64 1))), (1, .k (.d (.int .i64 1)))]), none⟩, ⟨some 13, 
  .call 13 [.t 12], none⟩, ⟨some 11, .val (.cp (.t 13)), none⟩, ⟨some 14, .val (.ext 0 (.t 11)), none⟩, ⟨some 15, .val (.ext 1 (.t 11)), none⟩, ⟨some 5, .asg (.t 14), none⟩, ⟨some 
  6, .asg (.t 15), none⟩]) (.seq (.seq (.reg [⟨some 16, .val (.cp (.t 6)), none⟩, ⟨some 17, .val (.eqN 0 true (.t 16)), none⟩, ⟨some 18, .val (.cp (.t 17)), none⟩, ⟨some 19, .val 
  (.cp (.t 5)), some (18, false)⟩, ⟨some 20, .val (.bin .neq (.t 19) (.k (.d (.str [116, 114, 117, 101])))), some (18, false)⟩, ⟨some 21, .val (.pick (.t 18) (.k (.d (.bool true))) 
  (.t 20)), none⟩]) (.cond (.t 21) (.seq (.reg [⟨some 4, .asg (.k (.d (.bool false))), none⟩]) .ret) .skip)) (.seq (.seq (.reg [⟨some 22, .val (.ld true 5 (.t 2)), none⟩, ⟨some 23, 
  .call 14 [.t 22], none⟩, ⟨some 24, .val (.not (.t 23)), none⟩, ⟨some 25, .val (.cp (.t 24)), none⟩, ⟨some 26, .val (.ld true 5 (.t 3)), some (25, false)⟩, ⟨some 27, .call 14 [.t 
  26], some (25, false)⟩, ⟨some 28, .val (.not (.t 27)), some (25, false)⟩, ⟨some 29, .val (.pick (.t 25) (.k (.d (.bool true))) (.t 28)), none⟩]) (.cond (.t 29) (.seq (.reg [⟨some 
  4, .asg (.k (.d (.bool true))), none⟩]) .ret) .skip)) (.seq (.reg [⟨some 31, .val (.ld true 5 (.t 2)), none⟩, ⟨some 32, .call 13 [.t 31], none⟩, ⟨some 30, .val (.cp (.t 32)), 
  none⟩, ⟨some 33, .val (.ext 0 (.t 30)), none⟩, ⟨some 34, .val (.ext 1 (.t 30)), none⟩, ⟨some 5, .asg (.t 33), none⟩, ⟨some 6, .asg (.t 34), none⟩]) (.seq (.seq (.reg [⟨some 35, 
  .val (.cp (.t 6)), none⟩, ⟨some 36, .val (.eqN 0 true (.t 35)), none⟩]) (.cond (.t 36) (.seq (.reg [⟨some 37, .val (.cp (.t 5)), none⟩, ⟨some 38, .val (.bin .eql (.t 37) (.k (.d 
  (.str [])))), none⟩, ⟨some 4, .asg (.t 38), none⟩]) .ret) .skip)) (.seq (.reg [⟨some 40, .val (.cp (.t 5)), none⟩, ⟨some 41, .call 15 [.t 40, .k (.d (.int .i64 0))], none⟩, ⟨some 
  39, .val (.cp (.t 41)), none⟩, ⟨some 42, .val (.ext 0 (.t 39)), none⟩, ⟨some 43, .val (.ext 1 (.t 39)), none⟩, ⟨some 44, .val (.ext 2 (.t 39)), none⟩, ⟨some 7, .allo [.int .i64 
  0, .int .i64 0, .str [], .list [], .list []], none⟩, ⟨none, .st 5 (.t 7) (.t 42), none⟩, ⟨some 8, .asg (.t 43), none⟩, ⟨some 9, .asg (.t 44), none⟩]) (.seq (.seq (.reg [⟨some 45, 
  .val (.cp (.t 9)), none⟩, ⟨some 46, .val (.eqN 0 true (.t 45)), none⟩, ⟨some 47, .val (.cp (.t 46)), none⟩, ⟨some 48, .val (.cp (.t 8)), some (47, false)⟩, ⟨some 49, .val (.cp 
  (.t 5)), some (47, false)⟩, ⟨some 50, .val (.len true (.t 49)), some (47, false)⟩, ⟨some 51, .val (.bin .neq (.t 48) (.t 50)), some (47, false)⟩, ⟨some 52, .val (.pick (.t 47) 
  (.k (.d (.bool true))) (.t 51)), none⟩, ⟨some 53, .val (.cp (.t 52)), none⟩, ⟨some 54, .val (.ld true 5 (.t 7)), some (53, false)⟩, ⟨some 55, .val (.ld true 5 (.t 2)), some (53, 
  false)⟩, ⟨some 56, .call 16 [.t 54, .t 55], some (53, false)⟩, ⟨some 57, .val (.not (.t 56)), some (53, false)⟩, ⟨some 58, .val (.pick (.t 53) (.k (.d (.bool true))) (.t 57)), 
  none⟩]) (.cond (.t 58) (.seq (.reg [⟨some 4, .asg (.k (.d (.bool false))), none⟩]) .ret) .skip)) (.seq (.reg [⟨some 60, .val (.ld true 5 (.t 3)), none⟩, ⟨some 61, .call 13 [.t 
  60], none⟩, ⟨some 59, .val (.cp (.t 61)), none⟩, ⟨some 62, .val (.ext 0 (.t 59)), none⟩, ⟨some 63, .val (.ext 1 (.t 59)), none⟩, ⟨some 10, .asg (.t 62), none⟩, ⟨some 6, .asg (.t 
  63), none⟩]) (.seq (.reg [⟨some 64, .val (.cp (.t 6)), none⟩, ⟨some 65, .val (.eqN 0 true (.t 64)), none⟩, ⟨some 66, .val (.cp (.t 65)), none⟩, ⟨some 67, .val (.cp (.t 5)), some 
  (66, false)⟩, ⟨some 68, .val (.cp (.t 10)), some (66, false)⟩, ⟨some 69, .val (.bin .eql (.t 67) (.t 68)), some (66, false)⟩, ⟨some 70, .val (.ld true 5 (.t 2)), some (66, 
  false)⟩, ⟨some 71, .val (.ld true 5 (.t 3)), some (66, false)⟩, ⟨some 72, .call 16 [.t 70, .t 71], some (66, false)⟩, ⟨some 73, .val (.eqB false (.t 69) (.t 72)), some (66, 
  false)⟩, ⟨some 74, .val (.pick (.t 66) (.k (.d (.bool true))) (.t 73)), none⟩, ⟨some 4, .asg (.t 74), none⟩]) .ret)))))))))
def R_foliowrighttop_TopValue : List LRes := [.tmp 4]
theorem lift_foliowrighttop_TopValue : Lifts Tryz.prog 4 75 L_foliowrighttop_TopValue R_foliowrighttop_TopValue := ⟨_, _, Tryz.func4, rfl, by kernel_rfl, by kernel_rfl, rfl⟩

theorem topValue_call (v o : Val) (hv : v.sm 1048576 = true) (ho : o.sm 1048576 = true) : PCall Tryz.prog 4 [v.d, o.d] (fun r => r = .one (.bool true)) := by
  have c0 := textV_call trueV (by kernel_rfl)
  have d0 : trueV.d = .agg [.int .i64 1, .int .i64 1, .str [], .list [], .list []] := rfl
  have r0 : textR trueV = .tup [.str [116, 114, 117, 101], .nil] := by kernel_rfl
  rw [d0, r0] at c0
  have c1 := light_call v hv
  have c2 := light_call o ho
  have c3 := textV_call v hv
  have c4 := textV_call o ho
  have c5 := alikeP_call _ v v (Nat.le_refl _) hv
  have c6 := alikeP_call _ v o (Nat.le_refl _) hv
  rw [alikeV_refl] at c5
  rw [Val.d_eq v, Val.d_eq o] at *
  refine lift_foliowrighttop_TopValue.call rfl ?_
  simp (maxSteps := 2000000) only [go_sem, ↓reduceIte, L_foliowrighttop_TopValue, R_foliowrighttop_TopValue]
  refine CallG.of c0 ?_
  simp (maxSteps := 2000000) only [go_sem, ↓reduceIte]
  refine CallG.of c1 ?_
  simp (maxSteps := 2000000) only [go_sem, ↓reduceIte]
  refine fun l1 => ?_
  refine CallG.of c2 ?_
  simp (maxSteps := 2000000) only [go_sem, ↓reduceIte]
  refine fun l2 => ?_
  refine CallG.of c3 ?_
  by_cases fv : faultV v = 0
  · rw [textR, if_pos fv]
    have hl := light_text fv l1
    have ht := value_text fv hl
    have c7 := valueTop_call (textV v) 0 (by omega)
    rw [ht, topP, Val.d_eq v] at c7
    simp (maxSteps := 2000000) only [go_sem, ↓reduceIte]
    refine CallG.of c7 ?_
    simp (maxSteps := 2000000) only [go_sem, ↓reduceIte]
    refine CallG.of c5 ?_
    simp (maxSteps := 2000000) only [go_sem, ↓reduceIte]
    refine CallG.of c4 ?_
    by_cases fo : faultV o = 0
    · rw [textR, if_pos fo]
      have hlo := light_text fo l2
      have hto := value_text fo hlo
      simp (maxSteps := 2000000) only [go_sem, ↓reduceIte]
      refine CallG.of c6 ?_
      simp (maxSteps := 2000000) only [go_sem, ↓reduceIte]
      congr 2
      rw [decide_eq_true_eq]
      by_cases e : v = o
      · subst e; rw [alikeV_refl]; simp
      · have h1 : alikeV v o = false := by
          cases h : alikeV v o with
          | false => rfl
          | true => exact absurd ((alikeV_iff v o).1 h) e
        have h2 : ¬ textV v = textV o := fun h => by
          rw [h, hto] at ht
          cases ht
          exact e rfl
        rw [h1]; simp [h2]
    · rw [textR, if_neg fo, errD_ne fo]
      simp (maxSteps := 2000000) only [go_sem, ↓reduceIte]
  · rw [textR, if_neg fv, errD_ne fv]
    simp (maxSteps := 2000000) only [go_sem, ↓reduceIte]
end Go.Av.Tryz
set_option linter.constructorNameAsVariable false
set_option linter.unusedSimpArgs false
namespace Go.Av.Tryz
open Go.Proofs

theorem cells3 : Tryz.prog.cellsOf 3 = 1 := by kernel_rfl
theorem cells9 : Tryz.prog.cellsOf 9 = 1 := by kernel_rfl
theorem cellsL : Tryz.prog.cellsOf 38 = 1 := by kernel_rfl
theorem cellsF : Tryz.prog.cellsOf 39 = 1 := by kernel_rfl
theorem cellsV : Tryz.prog.cellsOf 41 = 5 := by kernel_rfl
theorem cellsX : Tryz.prog.cellsOf 77 = 6 := by kernel_rfl

theorem mkD_val (v : Val) : mkD v.d.cells = v.d := by rw [Val.d_eq]; rfl
theorem mkD_fld (x : Fld) : mkD x.d.cells = x.d := by rw [Fld.d_eq]; rfl

set_option maxRecDepth 100000 in
theorem val_of : ∀ k : Nat, (∀ ds, OfT Tryz.prog k 41 ds → ∃ v : Val, ds = v.d.cells) ∧ (∀ ds, OfT Tryz.prog k 77 ds → ∃ x : Fld, ds = x.d.cells) := by
  intro k
  induction k using Nat.strongRecOn with
  | _ k ih =>
    cases k with
    | zero => exact ⟨fun _ h => h.elim, fun _ h => h.elim⟩
    | succ k =>
      refine ⟨fun ds h => ?_, fun ds h => ?_⟩
      · unfold OfT at h
        rw [Tryz.underlying41] at h
        obtain ⟨h1, h2⟩ := h
        rw [cellsV] at h1
        match ds, h1 with
        | [a, b, c, d, e], _ =>
          have f0 : OfT Tryz.prog k 3 (([a, b, c, d, e].drop 0).take (Tryz.prog.cellsOf 3)) := h2 0 _ rfl
          have f1 : OfT Tryz.prog k 3 (([a, b, c, d, e].drop 1).take (Tryz.prog.cellsOf 3)) := h2 1 _ rfl
          have f2 : OfT Tryz.prog k 9 (([a, b, c, d, e].drop 2).take (Tryz.prog.cellsOf 9)) := h2 2 _ rfl
          have f3 : OfT Tryz.prog k 38 (([a, b, c, d, e].drop 3).take (Tryz.prog.cellsOf 38)) := h2 3 _ rfl
          have f4 : OfT Tryz.prog k 39 (([a, b, c, d, e].drop 4).take (Tryz.prog.cellsOf 39)) := h2 4 _ rfl
          simp only [cells3, cells9, cellsL, cellsF, List.drop_zero, List.drop_succ_cons, List.take_succ_cons, List.take_zero] at f0 f1 f2 f3 f4
          obtain ⟨n0, e0, _⟩ := f0.int Tryz.underlying3
          obtain ⟨n1, e1, _⟩ := f1.int Tryz.underlying3
          obtain ⟨s, e2, _⟩ := f2.string Tryz.underlying9
          obtain ⟨l, m, hm, e3, _, hl⟩ := f3.slice Tryz.underlying38
          obtain ⟨f, m', hm', e4, _, hf⟩ := f4.slice Tryz.underlying39
          obtain ⟨ls, rfl⟩ := all_mapped (g := Val.d) (l := l) fun x hx => by
            obtain ⟨cs, q1, q2⟩ := hl x hx
            obtain ⟨v, rfl⟩ := (ih m (by omega)).1 cs q2
            exact ⟨v, by rw [q1, mkD_val]⟩
          obtain ⟨fs, rfl⟩ := all_mapped (g := Fld.d) (l := f) fun x hx => by
            obtain ⟨cs, q1, q2⟩ := hf x hx
            obtain ⟨y, rfl⟩ := (ih m' (by omega)).2 cs q2
            exact ⟨y, by rw [q1, mkD_fld]⟩
          simp only [List.cons.injEq, and_true] at e0 e1 e2 e3 e4
          refine ⟨.mk n0 n1 s ls fs, ?_⟩
          rw [mk_d, e0, e1, e2, e3, e4, valsD_eq, fldsD_eq]
          rfl
      · unfold OfT at h
        rw [Tryz.underlying77] at h
        obtain ⟨h1, h2⟩ := h
        rw [cellsX] at h1
        match ds, h1 with
        | [a, b, c, d, e, f], _ =>
          have f0 : OfT Tryz.prog k 9 (([a, b, c, d, e, f].drop 0).take (Tryz.prog.cellsOf 9)) := h2 0 _ rfl
          have f1 : OfT Tryz.prog k 41 (([a, b, c, d, e, f].drop 1).take (Tryz.prog.cellsOf 41)) := h2 1 _ rfl
          simp only [cells9, cellsV, List.drop_zero, List.drop_succ_cons, List.take_succ_cons, List.take_zero] at f0 f1
          obtain ⟨s, e0, _⟩ := f0.string Tryz.underlying9
          obtain ⟨v, e1⟩ := (ih k (by omega)).1 _ f1
          simp only [List.cons.injEq, and_true] at e0
          refine ⟨.mk s v, ?_⟩
          rw [e0, e1]
          rfl

mutual
theorem bkV : ∀ (v : Val) (N : Nat), bkD v.d ≤ N → v.sm N = true ∧ (ptV v).1 ≤ bkD v.d
  | .mk k n s l f, N, h => by
    rw [mk_d] at h ⊢
    simp only [bkD, bkL] at h ⊢
    obtain ⟨a1, a2, a3⟩ := bkVL l N (by omega)
    obtain ⟨b1, b2, b3⟩ := bkVF f N (by omega)
    simp only [Val.sm, ptV, Bool.and_eq_true, decide_eq_true_eq]
    exact ⟨⟨by omega, by omega, by omega, a1, b1⟩, by omega⟩
theorem bkVL : ∀ (l : List Val) (N : Nat), bkL (valsD l) ≤ N → smL N l = true ∧ l.length ≤ bkL (valsD l) ∧ (ptL l).1 ≤ bkL (valsD l)
  | [], N, h => by simp [smL, ptL, valsD, bkL]
  | v :: r, N, h => by
    simp only [valsD, bkL] at h ⊢
    obtain ⟨a1, a2⟩ := bkV v N (by omega)
    obtain ⟨b1, b2, b3⟩ := bkVL r N (by omega)
    have := (ptV_pos v).1
    simp only [smL, ptL, Bool.and_eq_true, List.length_cons]
    exact ⟨⟨a1, b1⟩, by omega, by omega⟩
theorem bkVF : ∀ (l : List Fld) (N : Nat), bkL (fldsD l) ≤ N → smF N l = true ∧ l.length ≤ bkL (fldsD l) ∧ (ptF l).1 ≤ bkL (fldsD l)
  | [], N, h => by simp [smF, ptF, fldsD, bkL]
  | .mk nm v :: r, N, h => by
    have hd : bkD (Fld.mk nm v).d = nm.length + 1 + bkD v.d := by
      rw [fld_mk, Val.d_eq v]; simp only [bkD, bkL]
    simp only [fldsD, bkL, hd] at h ⊢
    obtain ⟨a1, a2⟩ := bkV v N (by omega)
    obtain ⟨b1, b2, b3⟩ := bkVF r N (by omega)
    have := (ptV_pos v).1
    simp only [smF, Fld.sm, ptF, Bool.and_eq_true, List.length_cons, decide_eq_true_eq]
    exact ⟨⟨⟨by omega, a1⟩, b1⟩, by omega, by omega⟩
end
end Go.Av.Tryz
