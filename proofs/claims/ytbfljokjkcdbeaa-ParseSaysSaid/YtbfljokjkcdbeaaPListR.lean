import Derived.Test.YtbfljokjkcdbeaaPRefR
import Derived.Test.YtbfljokjkcdbeaaPGood
/- The document's lists and dictionaries, read. -/
set_option linter.unusedSimpArgs false
namespace Go.Av.Try
open Go.Proofs

/-- What the document's reader hands back. -/
def resRV : RV → Res → Prop
  | .ok v k, r => r = .tup [v.d, .int .i64 k, .int .i64 0]
  | .bad e, r => ∃ (v : Val) (n : Int), r = .tup [v.d, .int .i64 n, .int .i64 e]
theorem resRV_bad {e : Nat} (v : Val) (n : Int) {R : RV} (h : R = .bad e) : resRV R (.tup [v.d, .int .i64 n, .int .i64 e]) := by subst h; exact ⟨v, n, rfl⟩
theorem resRV_ok {v : Val} {k : Nat} {R : RV} (h : R = .ok v k) : resRV R (.tup [v.d, .int .i64 k, .int .i64 0]) := by subst h; rfl

/-- A row of values that grows in a cell: nothing at first. -/
def lrow (r : Ref) (off : Nat) : List Val → AV
  | [] => .ns
  | x :: l => .own (.c r off) 48 5 (valsD (x :: l))
theorem lrow_cases (r : Ref) (off : Nat) (l : List Val) : (lrow r off l = .ns ∧ l = []) ∨ lrow r off l = .own (.c r off) 48 5 (valsD l) := by
  cases l with
  | nil => exact .inl ⟨rfl, rfl⟩
  | cons x l => exact .inr rfl
theorem lrow_snoc (r : Ref) (off : Nat) (l : List Val) (x : Val) : lrow r off (l ++ [x]) = .own (.c r off) 48 5 (valsD l ++ [x.d]) := by
  cases l with
  | nil => rfl
  | cons y l => simp [lrow, valsD, valsD_append]

/-- foliowrightref.readList -/
def L_foliowrightref_readList : LCode :=
  .seq (.reg [⟨some 6, .allo [.int .i64 0, .int .i64 0, .str [], .list [], .list []], none⟩, ⟨some 7, .asg (.k (.d (.int .i64 0))), none⟩, ⟨some 8, .asg (.k (.d (.int .i64 0))), 
  none⟩]) (.seq (.reg [⟨some 13, .val (.bld [(0, 1), (1, 1), (2, 1), (3, 1), (4, 1)] [.int .i64 0, .int .i64 0, .str [], .list [], .list []] [false, false, false, true, true] [(0, 
  .k (.d (.int .i64 5)))]), none⟩, ⟨some 9, .allo [.int .i64 0, .int .i64 0, .str [], .list [], .list []], none⟩, ⟨none, .st 5 (.t 9) (.t 13), none⟩]) (.block 0 (.loop (.block 1 
  (.seq (.reg [⟨some 14, .val (.cp (.t 0)), none⟩, ⟨some 15, .val (.cp (.t 1)), none⟩, ⟨some 16, .call 24 [.t 14, .t 15], none⟩, ⟨some 1, .asg (.t 16), none⟩]) (.seq (.seq (.reg 
  [⟨some 17, .val (.cp (.t 1)), none⟩, ⟨some 18, .val (.cp (.t 0)), none⟩, ⟨some 19, .val (.len true (.t 18)), none⟩, ⟨some 20, .val (.bin .eql (.t 17) (.t 19)), none⟩]) (.cond (.t 
  20) (.seq (.reg [⟨some 21, .val (.ld true 5 (.t 9)), none⟩, ⟨none, .st 5 (.t 6) (.t 21), none⟩, ⟨some 7, .asg (.k (.d (.int .i64 0))), none⟩, ⟨some 8, .asg (.k (.d (.int .i64 
  5))), none⟩]) .ret) .skip)) (.seq (.seq (.reg [⟨some 22, .val (.cp (.t 0)), none⟩, ⟨some 23, .val (.cp (.t 1)), none⟩, ⟨some 24, .val (.idxS (.t 22) (.t 23)), none⟩, ⟨some 25, 
  .val (.bin .eql (.t 24) (.k (.d (.int .u8 93)))), none⟩]) (.cond (.t 25) (.seq (.reg [⟨some 26, .val (.ld true 5 (.t 9)), none⟩, ⟨some 27, .val (.cp (.t 1)), none⟩, ⟨some 28, 
  .val (.bin .add (.t 27) (.k (.d (.int .i64 1)))), none⟩, ⟨none, .st 5 (.t 6) (.t 26), none⟩, ⟨some 7, .asg (.t 28), none⟩, ⟨some 8, .asg (.k (.d (.int .i64 0))), none⟩]) .ret) 
  .skip)) (.seq (.reg [⟨some 30, .val (.cp (.t 0)), none⟩, ⟨some 31, .val (.cp (.t 1)), none⟩, ⟨some 32, .val (.cp (.t 2)), none⟩, ⟨some 33, .val (.bin .add (.t 32) (.k (.d (.int 
  .i64 1)))), none⟩, ⟨some 34, .call 42 [.t 30, .t 31, .t 33], none⟩, ⟨some 29, .val (.cp (.t 34)), none⟩, ⟨some 35, .val (.ext 0 (.t 29)), none⟩, ⟨some 36, .val (.ext 1 (.t 29)), 
  none⟩, ⟨some 37, .val (.ext 2 (.t 29)), none⟩, ⟨some 10, .allo [.int .i64 0, .int .i64 0, .str [], .list [], .list []], none⟩, ⟨none, .st 5 (.t 10) (.t 35), none⟩, ⟨some 11, .asg 
  (.t 36), none⟩, ⟨some 12, .asg (.t 37), none⟩]) (.seq (.seq (.reg [⟨some 38, .val (.cp (.t 12)), none⟩, ⟨some 39, .val (.bin .gtr (.t 38) (.k (.d (.int .i64 0)))), none⟩]) (.cond 
  (.t 39) (.seq (.reg [⟨some 40, .val (.ld true 5 (.t 9)), none⟩, ⟨some 41, .val (.cp (.t 12)), none⟩, ⟨none, .st 5 (.t 6) (.t 40), none⟩, ⟨some 7, .asg (.k (.d (.int .i64 0))), 
  none⟩, ⟨some 8, .asg (.t 41), none⟩]) .ret) .skip)) (.seq (.reg [⟨some 42, .val (.fa 3 (.t 9)), none⟩, ⟨some 43, .val (.ld false 1 (.t 42)), none⟩, ⟨some 44, .val (.ld true 5 (.t 
  10)), none⟩, ⟨some 45, .bsl 48 5 [.t 44], none⟩, ⟨some 46, .app 48 5 80 false (.t 43) (.t 45), none⟩, ⟨some 47, .val (.fa 3 (.t 9)), none⟩, ⟨none, .st 1 (.t 47) (.t 46), none⟩]) 
  (.seq (.seq (.reg [⟨some 48, .val (.fa 3 (.t 9)), none⟩, ⟨some 49, .val (.ld false 1 (.t 48)), none⟩, ⟨some 50, .val (.len false (.t 49)), none⟩, ⟨some 51, .val (.bin .gtr (.t 
  50) (.k (.d (.int .i64 300)))), none⟩]) (.cond (.t 51) (.seq (.reg [⟨some 52, .val (.ld true 5 (.t 9)), none⟩, ⟨none, .st 5 (.t 6) (.t 52), none⟩, ⟨some 7, .asg (.k (.d (.int 
  .i64 0))), none⟩, ⟨some 8, .asg (.k (.d (.int .i64 2))), none⟩]) .ret) .skip)) (.reg [⟨some 53, .val (.cp (.t 11)), none⟩, ⟨some 1, .asg (.t 53), none⟩]))))))))))))
def R_foliowrightref_readList : List LRes := [.cell 6 true 5, .tmp 7, .tmp 8]
theorem lift_foliowrightref_readList : Lifts Try.prog 70 54 L_foliowrightref_readList R_foliowrightref_readList := ⟨_, _, Try.func70, rfl, by kernel_rfl, by kernel_rfl, rfl⟩

theorem readList_of (s : List UInt8) (hs : s.length ≤ 60000) (rd : Nat → RV) (deep : Int) (hd : 0 ≤ deep ∧ deep ≤ 8) (hg : ∀ k, k ≤ s.length → goodR s k (rd k))
    (ih : ∀ k, k ≤ s.length → PCall Try.prog 42 [.str s, .int .i64 k, .int .i64 (deep + 1)] (resRV (rd k))) (k : Nat) (hk : k ≤ s.length) :
    PCall Try.prog 70 [.str s, .int .i64 k, .int .i64 deep] (resRV (listF rd s 301 [] k)) := by
  refine lift_foliowrightref_readList.call rfl ?_
  generalize hR : listF rd s 301 [] k = R
  simp (maxSteps := 2000000) (disch := omega) only [go_sem, ↓reduceIte, L_foliowrightref_readList, R_foliowrightref_readList]
  refine run_loop (fun y : Nat × List Val => ⟨[(0, .d (.str s)), (1, .d (.int .i64 y.1)), (2, .d (.int .i64 deep)), (6, .ptr (.l 6) 0), (9, .ptr (.l 9) 0)],
      [(6, .cells [.d (.int .i64 0), .d (.int .i64 0), .d (.str []), .ns, .ns]), (9, .cells [.d (.int .i64 5), .d (.int .i64 0), .d (.str []), lrow (.l 9) 3 y.2, .ns])], []⟩)
    (fun y => y.1 ≤ s.length ∧ y.2.length ≤ 300 ∧ listF rd s (301 - y.2.length) y.2 y.1 = R) (fun y => s.length - y.1) (k, []) ?_ ?_ ?_
  · refine Weak.mk ?_ ?_ ?_ <;> simp (maxSteps := 2000000) only [go_sem, ↓reduceIte, Sub, Int.natCast_add, Int.natCast_mul, lrow]
  · exact ⟨hk, by simp, hR⟩
  · rintro ⟨i, acc⟩ ⟨hi, ha, hF⟩
    simp only at hi ha hF
    obtain ⟨m, hm⟩ : ∃ m, 301 - acc.length = m + 1 := ⟨300 - acc.length, by omega⟩
    rw [hm, listF] at hF
    have hsk := skipP_le hi
    have hw := skipR_call s ((i : Nat) : Int) (by omega)
    rw [clamp_in hi] at hw
    generalize skipP s i = q at *
    have hal := valsD_length acc
    simp (maxSteps := 2000000) only [go_sem, ↓reduceIte]
    refine CallG.of hw ?_
    have lis : resRV R (.tup [D.agg [.int .i64 5, .int .i64 0, .str [], .list (valsD acc), .list []], .int .i64 (q + 1 : Nat), .int .i64 0]) ↔ resRV R (.tup [(lisV acc).d, .int .i64 (q + 1 : Nat), .int .i64 0]) := by
      rw [Val.d_eq]; rfl
    have bad : ∀ (e : Nat), R = .bad e → resRV R (.tup [D.agg [.int .i64 5, .int .i64 0, .str [], .list (valsD acc), .list []], .int .i64 0, .int .i64 e]) := fun e he => by
      have := resRV_bad (lisV acc) 0 he
      rwa [Val.d_eq] at this
    rcases lrow_cases (.l 9) 3 acc with ⟨hl, hnil⟩ | hl
    · rw [hl]
      have hvn : valsD acc = [] := by rw [hnil]; rfl
      rw [hvn] at bad lis
      simp (maxSteps := 2000000) only [go_sem, ↓reduceIte]
      refine ⟨fun h1 => ?_, fun h1 => ?_⟩
      · rw [List.getElem?_eq_none (by omega)] at hF
        exact bad 5 hF.symm
      · obtain ⟨c, hc⟩ := get_some (l := s) (i := q) (by omega)
        have hc8 := u8_lt c
        rw [hc] at hF
        simp only at hF
        simp (maxSteps := 2000000) only [go_sem, ↓reduceIte, getI_nat, hc]
        refine ⟨fun h2 => ?_, fun h2 => ?_⟩
        · rw [if_pos (by omega)] at hF
          simp (maxSteps := 2000000) (disch := omega) only [go_sem, ↓reduceIte]
          have := lis.2 (resRV_ok hF.symm)
          simpa using this
        · rw [if_neg (by omega)] at hF
          have hgq := hg q hsk.2
          simp (disch := omega) only [IntWalk.i64_in, IntWalk.u8_in]
          refine CallG.post (ih q hsk.2) (fun r hr => ?_)
          cases hx : rd q with
          | bad e =>
            rw [hx] at hF hr hgq
            obtain ⟨v, n, rfl⟩ := hr
            rw [Val.d_eq v]
            simp (maxSteps := 2000000) only [go_sem, ↓reduceIte]
            refine ⟨fun h3 => bad e hF.symm, fun h3 => ?_⟩
            obtain ⟨g1, _⟩ := hgq
            omega
          | ok x k' =>
            rw [hx] at hF hr hgq
            simp only [resRV] at hr
            subst hr
            obtain ⟨g1, g2, g3, g4⟩ := hgq
            rw [Val.d_eq x]
            simp (maxSteps := 2000000) only [go_sem, ↓reduceIte]
            simp only at hF
            have hm0 : m = 301 - (acc ++ [x]).length := by simp; omega
            rw [hm0] at hF
            refine ⟨(k', acc ++ [x]), ?_, ⟨g2, by rw [hnil]; simp, hF⟩, by simp only; omega⟩
            have hrow : lrow (.l 9) 3 (acc ++ [x]) = .own (.c (.l 9) 3) 48 5 [D.agg [.int .i64 x.kind, .int .i64 x.n, .str x.s, .list (valsD x.l), .list (fldsD x.f)]] := by rw [lrow_snoc, hvn, Val.d_eq]; rfl
            refine Weak.mk ?_ ?_ ?_ <;> simp (maxSteps := 2000000) only [go_sem, ↓reduceIte, Sub, Int.natCast_add, Int.natCast_mul, hrow]
    · rw [hl]
      simp (maxSteps := 2000000) only [go_sem, ↓reduceIte]
      refine ⟨fun h1 => ?_, fun h1 => ?_⟩
      · rw [List.getElem?_eq_none (by omega)] at hF
        exact bad 5 hF.symm
      · obtain ⟨c, hc⟩ := get_some (l := s) (i := q) (by omega)
        have hc8 := u8_lt c
        rw [hc] at hF
        simp only at hF
        simp (maxSteps := 2000000) only [go_sem, ↓reduceIte, getI_nat, hc]
        refine ⟨fun h2 => ?_, fun h2 => ?_⟩
        · rw [if_pos (by omega)] at hF
          simp (maxSteps := 2000000) (disch := omega) only [go_sem, ↓reduceIte]
          have := lis.2 (resRV_ok hF.symm)
          simpa using this
        · rw [if_neg (by omega)] at hF
          have hgq := hg q hsk.2
          simp (disch := omega) only [IntWalk.i64_in, IntWalk.u8_in]
          refine CallG.post (ih q hsk.2) (fun r hr => ?_)
          cases hx : rd q with
          | bad e =>
            rw [hx] at hF hr hgq
            obtain ⟨v, n, rfl⟩ := hr
            rw [Val.d_eq v]
            simp (maxSteps := 2000000) only [go_sem, ↓reduceIte]
            refine ⟨fun h3 => bad e hF.symm, fun h3 => ?_⟩
            obtain ⟨g1, _⟩ := hgq
            omega
          | ok x k' =>
            rw [hx] at hF hr hgq
            simp only [resRV] at hr
            subst hr
            obtain ⟨g1, g2, g3, g4⟩ := hgq
            rw [Val.d_eq x]
            simp (maxSteps := 2000000) only [go_sem, ↓reduceIte]
            simp only at hF
            have hrow : lrow (.l 9) 3 (acc ++ [x]) = .own (.c (.l 9) 3) 48 5 (valsD acc ++ [D.agg [.int .i64 x.kind, .int .i64 x.n, .str x.s, .list (valsD x.l), .list (fldsD x.f)]]) := by rw [lrow_snoc, Val.d_eq]
            have hsn : valsD acc ++ [D.agg [.int .i64 x.kind, .int .i64 x.n, .str x.s, .list (valsD x.l), .list (fldsD x.f)]] = valsD (acc ++ [x]) := by rw [valsD_append]; simp [valsD, Val.d_eq]
            have hsl := valsD_length (acc ++ [x])
            simp only [List.length_append, List.length_cons, List.length_nil] at hsl
            rw [hsn]
            refine ⟨by omega, fun h3 => ?_, fun h3 => ?_⟩
            · have hm0 : m = 0 := by omega
              rw [hm0, listF] at hF
              have := resRV_bad (lisV (acc ++ [x])) 0 hF.symm
              rwa [Val.d_eq] at this
            · have hm0 : m = 301 - (acc ++ [x]).length := by simp; omega
              rw [hm0] at hF
              refine ⟨(k', acc ++ [x]), ?_, ⟨g2, by simp; omega, hF⟩, by simp only; omega⟩
              rw [hsn] at hrow
              refine Weak.mk ?_ ?_ ?_ <;> simp (maxSteps := 2000000) only [go_sem, ↓reduceIte, Sub, Int.natCast_add, Int.natCast_mul, hrow]
end Go.Av.Try
