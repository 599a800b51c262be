import Derived.Test.YtbfljokjkcdbeaaPRd4
/- The program's reader: lists. -/
set_option linter.unusedSimpArgs false
namespace Go.Av.Try
open Go.Proofs

/-- An iteration of a reader: what the steps below it tell. -/
def RdAt (s : List UInt8) (rd : Nat → RV) (deep : Int) : Prop := ∀ k : Nat, k ≤ s.length → MCall Try.prog 39 [.ptr (.x 0) 0, .d (.int .i64 deep)] [robj s k 0] (rdPost s (rd k))

theorem hasPre_one {s : List UInt8} {k : Nat} {c : UInt8} {x : UInt8} (h : s[k]? = some c) : hasPre (s.drop k) [x] = decide (c = x) := by
  rw [drop_at h]; simp [hasPre]

/-- The reader in a loop: well at a place, or with what is wrong. -/
def ro (s : List UInt8) (i : Nat) : Option (Int × Nat) → AObj
  | none => .cells [.d (.str s), .d (.int .i64 i), .d .nil]
  | some (k, e) => robj s k e

/-- (*parse.reader).list -/
def L___parse_reader__list : LCode :=
  .seq (.reg [⟨some 4, .allo [.int .i64 0, .int .i64 0, .str [], .list [], .list []], none⟩]) (.seq (.reg [⟨some 7, .val (.bld [(0, 1), (1, 1), (2, 1), (3, 1), (4, 1)] [.int .i64 0, 
  .int .i64 0, .str [], .list [], .list []] [false, false, false, true, true] [(0, .k (.d (.int .i64 5)))]), none⟩, ⟨some 5, .allo [.int .i64 0, .int .i64 0, .str [], .list [], 
  .list []], none⟩, ⟨none, .st 5 (.t 5) (.t 7), none⟩]) (.seq (.block 0 (.loop (.seq (.seq (.reg [⟨some 8, .val (.cp (.t 0)), none⟩, ⟨some 9, .val (.nck (.t 8)), none⟩, ⟨some 10, 
  .val (.fa 2 (.t 9)), none⟩, ⟨some 11, .val (.ld false 1 (.t 10)), none⟩, ⟨some 12, .val (.eqN 0 false (.t 11)), none⟩, ⟨some 13, .val (.cp (.t 12)), none⟩, ⟨some 14, .val (.cp 
  (.t 0)), some (13, true)⟩, ⟨some 15, .prim .call [.k (.fn (.func 55) [] []), .t 14] [], some (13, true)⟩, ⟨some 16, .val (.bin .neq (.t 15) (.k (.d (.int .u8 93)))), some (13, 
  true)⟩, ⟨some 17, .val (.pick (.t 13) (.t 16) (.k (.d (.bool false)))), none⟩, ⟨some 18, .val (.cp (.t 17)), none⟩, ⟨some 19, .val (.cp (.t 0)), some (18, true)⟩, ⟨some 20, .val 
  (.nck (.t 19)), some (18, true)⟩, ⟨some 21, .val (.fa 2 (.t 20)), some (18, true)⟩, ⟨some 22, .val (.ld false 1 (.t 21)), some (18, true)⟩, ⟨some 23, .val (.eqN 0 false (.t 22)), 
  some (18, true)⟩, ⟨some 24, .val (.pick (.t 18) (.t 23) (.k (.d (.bool false)))), none⟩]) (.cond (.t 24) .skip (.exit 0))) (.block 1 (.seq (.reg [⟨some 25, .val (.cp (.t 0)), 
  none⟩, ⟨some 26, .val (.cp (.t 1)), none⟩, ⟨some 27, .val (.bin .add (.t 26) (.k (.d (.int .i64 1)))), none⟩, ⟨some 28, .prim .call [.k (.fn (.func 39) [] []), .t 25, .t 27] [], 
  none⟩, ⟨some 6, .allo [.int .i64 0, .int .i64 0, .str [], .list [], .list []], none⟩, ⟨none, .st 5 (.t 6) (.t 28), none⟩]) (.seq (.reg [⟨some 29, .val (.fa 3 (.t 5)), none⟩, 
  ⟨some 30, .val (.ld false 1 (.t 29)), none⟩, ⟨some 31, .val (.ld true 5 (.t 6)), none⟩, ⟨some 32, .bsl 48 5 [.t 31], none⟩, ⟨some 33, .app 48 5 80 false (.t 30) (.t 32), none⟩, 
  ⟨some 34, .val (.fa 3 (.t 5)), none⟩, ⟨none, .st 1 (.t 34) (.t 33), none⟩]) (.seq (.reg [⟨some 35, .val (.fa 3 (.t 5)), none⟩, ⟨some 36, .val (.ld false 1 (.t 35)), none⟩, ⟨some 
  37, .val (.len false (.t 36)), none⟩, ⟨some 38, .val (.bin .gtr (.t 37) (.k (.d (.int .i64 300)))), none⟩]) (.cond (.t 38) (.reg [⟨some 39, .val (.cp (.t 0)), none⟩, ⟨some 40, 
  .val (.mkI 76 (.k (.d (.int .i64 2)))), none⟩, ⟨some 41, .prim .call [.k (.fn (.func 40) [] []), .t 39, .t 40] [], none⟩]) .skip)))))))) (.seq (.reg [⟨some 42, .val (.cp (.t 0)), 
  none⟩, ⟨some 43, .prim .call [.k (.fn (.func 59) [] []), .t 42, .k (.d (.str [93]))] [], none⟩]) (.seq (.reg [⟨some 44, .val (.ld true 5 (.t 5)), none⟩, ⟨none, .st 5 (.t 4) (.t 
  44), none⟩]) .ret))))
def R___parse_reader__list : List LRes := [.cell 4 true 5]
theorem lift___parse_reader__list : Lifts Try.prog 62 45 L___parse_reader__list R___parse_reader__list := ⟨_, _, Try.func62, rfl, by kernel_rfl, by kernel_rfl, rfl⟩

theorem listP_of (s : List UInt8) (hs : s.length ≤ 60000) (rd : Nat → RV) (deep : Int) (hd : 0 ≤ deep ∧ deep ≤ 8) (hg : ∀ k, k ≤ s.length → goodR s k (rd k)) (ih : RdAt s rd (deep + 1)) (k : Nat) (hk : k ≤ s.length) :
    MCall Try.prog 62 [.ptr (.x 0) 0, .d (.int .i64 deep)] [robj s k 0] (rdPost s (listF rd s 301 [] k)) := by
  generalize hR : listF rd s 301 [] k = R
  rw [robj_0]
  refine lift___parse_reader__list.mcall (by kernel_rfl) rfl ?_
  simp (maxSteps := 2000000) (disch := omega) only [go_sem, ↓reduceIte, L___parse_reader__list, R___parse_reader__list]
  refine run_loop (fun y : Nat × List Val × Option (Int × Nat) => ⟨[(0, .ptr (.x 0) 0), (1, .d (.int .i64 deep)), (4, .ptr (.l 4) 0), (5, .ptr (.l 5) 0)],
      [(4, .cells [.d (.int .i64 0), .d (.int .i64 0), .d (.str []), .ns, .ns]), (5, .cells [.d (.int .i64 5), .d (.int .i64 0), .d (.str []), lrow (.l 5) 3 y.2.1, .ns])], [(0, ro s y.1 y.2.2)]⟩)
    (fun y => y.1 ≤ s.length ∧ y.2.1.length ≤ 301 ∧ (y.2.2 = none → y.2.1.length ≤ 300 ∧ listF rd s (301 - y.2.1.length) y.2.1 y.1 = R) ∧ ∀ k e, y.2.2 = some (k, e) → e ≠ 0 ∧ R = .bad e) (fun y => 2 * (s.length - y.1) + (if y.2.2.isNone = true then 1 else 0)) (k, [], none) ?_ ?_ ?_
  · refine Weak.mk ?_ ?_ ?_ <;> simp (maxSteps := 2000000) only [go_sem, ↓reduceIte, Sub, Int.natCast_add, Int.natCast_mul, lrow, ro]
  · exact ⟨hk, by simp, fun _ => ⟨by simp, hR⟩, fun _ _ h => by cases h⟩
  · rintro ⟨i, acc, o⟩ ⟨hi, ha, hF, hE⟩
    simp only at hi ha hF hE
    have hal := valsD_length acc
    have fin : (lrow (.l 5) 3 acc = .ns ∧ valsD acc = []) ∨ lrow (.l 5) 3 acc = .own (.c (.l 5) 3) 48 5 (valsD acc) := by
      rcases lrow_cases (.l 5) 3 acc with ⟨h, rfl⟩ | h
      · exact .inl ⟨h, rfl⟩
      · exact .inr h
    have dd : (lisV acc).d = D.agg [.int .i64 5, .int .i64 0, .str [], .list (valsD acc), .list []] := by rw [Val.d_eq]; rfl
    cases o with
    | some p =>
      obtain ⟨k', e⟩ := p
      obtain ⟨e0, rfl⟩ := hE k' e rfl
      have het := eat_ne s k' [93] e0
      have fb := rdPost_bad (s := s) (R := .bad e) (lisV acc) k' rfl
      rw [dd, robj_ne s k' e0] at fb
      simp only [ro]
      rw [robj_ne s k' e0] at het ⊢
      simp (maxSteps := 2000000) only [go_sem, ↓reduceIte]
      refine PrimG.mcall ([.x 0]) ([]) rfl (het) rfl rfl (by simp only [objsAt, St.obj, aget, AObj.ren, AV.ren, AV.ren1, renL, ren1L, renR, renQ, List.getD_cons_zero, List.getD_cons_succ, and_true, and_self, Nat.reduceEqDiff, ↓reduceIte, reduceCtorEq]) rfl rfl rfl ⟨rfl, rfl⟩ ?_
      rcases fin with ⟨h1, h2⟩ | h1 <;> rw [h1]
      all_goals
        simp (maxSteps := 2000000) only [go_sem, ↓reduceIte]
        first
        | exact fb
        | (rw [h2] at fb; exact fb)
    | none =>
      obtain ⟨ha', hF⟩ := hF rfl
      obtain ⟨m, hm⟩ : ∃ m, 301 - acc.length = m + 1 := ⟨300 - acc.length, by omega⟩
      rw [hm, listF] at hF
      have hsk := skipP_le hi
      have hnx := next_0 s i hs hi
      generalize skipP s i = q at *
      simp only [ro]
      rw [robj_0] at hnx
      simp (maxSteps := 2000000) only [go_sem, ↓reduceIte]
      refine PrimG.mcall ([.x 0]) ([]) rfl (hnx) rfl rfl (by simp only [objsAt, St.obj, aget, AObj.ren, AV.ren, AV.ren1, renL, ren1L, renR, renQ, List.getD_cons_zero, List.getD_cons_succ, and_true, and_self, Nat.reduceEqDiff, ↓reduceIte, reduceCtorEq]) rfl rfl rfl ⟨rfl, rfl⟩ ?_
      cases hc : s[q]? with
      | none =>
        rw [hc] at hF
        simp only at hF
        have het := eat_ne s (q : Int) [93] (n := 5) (by decide)
        have fb := rdPost_bad (s := s) (R := R) (lisV acc) (q : Int) hF.symm
        rw [dd, robj_5] at fb
        rw [robj_5] at het
        simp only
        rw [robj_5]
        simp (maxSteps := 2000000) only [go_sem, ↓reduceIte]
        refine PrimG.mcall ([.x 0]) ([]) rfl (het) rfl rfl (by simp only [objsAt, St.obj, aget, AObj.ren, AV.ren, AV.ren1, renL, ren1L, renR, renQ, List.getD_cons_zero, List.getD_cons_succ, and_true, and_self, Nat.reduceEqDiff, ↓reduceIte, reduceCtorEq]) rfl rfl rfl ⟨rfl, rfl⟩ ?_
        rcases fin with ⟨h1, h2⟩ | h1 <;> rw [h1]
        all_goals
          simp (maxSteps := 2000000) only [go_sem, ↓reduceIte]
          first
          | exact fb
          | (rw [h2] at fb; exact fb)
      | some c =>
        have hc8 := u8_lt c
        have hlt : q < s.length := (List.getElem?_eq_some_iff.1 hc).1
        rw [hc] at hF
        simp only at hF
        simp only
        rw [robj_0]
        simp (maxSteps := 2000000) only [go_sem, ↓reduceIte]
        refine ⟨fun h2 => ?_, fun h2 => ?_⟩
        · rw [if_neg (by omega)] at hF
          have hv := ih q (by omega)
          have hgq := hg q (by omega)
          rw [robj_0] at hv
          simp (disch := omega) only [IntWalk.i64_in, IntWalk.u8_in]
          refine PrimG.mpost ([.x 0]) ([]) rfl (hv) rfl rfl (by simp only [objsAt, St.obj, aget, AObj.ren, AV.ren, AV.ren1, renL, ren1L, renR, renQ, List.getD_cons_zero, List.getD_cons_succ, and_true, and_self, Nat.reduceEqDiff, ↓reduceIte, reduceCtorEq]) rfl rfl rfl (fun r hs' hr => ?_)
          cases hx : rd q with
          | bad e =>
            rw [hx] at hF hr hgq
            obtain ⟨x, k', rfl, rfl⟩ := hr
            obtain ⟨g1, _⟩ := hgq
            have e0 : e ≠ 0 := by omega
            refine ⟨⟨rfl, rfl⟩, ?_⟩
            rw [Val.d_eq x, robj_ne s k' e0]
            have hrow : lrow (.l 5) 3 (acc ++ [x]) = .own (.c (.l 5) 3) 48 5 (valsD acc ++ [D.agg [.int .i64 x.kind, .int .i64 x.n, .str x.s, .list (valsD x.l), .list (fldsD x.f)]]) := by rw [lrow_snoc, Val.d_eq]
            have hfn := fail_ne s k' e0 (.iface 76 (.int .i64 2))
            rw [robj_ne s k' e0] at hfn
            have hnext : ∀ τ : St, τ = τ := fun _ => rfl
            have inv : i ≤ s.length ∧ (acc ++ [x]).length ≤ 301 ∧ (some (k', e) = none → (acc ++ [x]).length ≤ 300 ∧ listF rd s (301 - (acc ++ [x]).length) (acc ++ [x]) i = R) ∧ ∀ k e', some (k', e) = some (k, e') → e' ≠ 0 ∧ R = .bad e' :=
              ⟨hi, by simp; omega, fun h => (by cases h), fun k e' h => by cases h; exact ⟨e0, hF.symm⟩⟩
            have hsl := valsD_length (acc ++ [x])
            simp only [List.length_append, List.length_cons, List.length_nil] at hsl
            have hsn : valsD acc ++ [D.agg [.int .i64 x.kind, .int .i64 x.n, .str x.s, .list (valsD x.l), .list (fldsD x.f)]] = valsD (acc ++ [x]) := by rw [valsD_append]; simp [valsD, Val.d_eq]
            rw [hsn] at hrow
            rcases fin with ⟨h3, h4⟩ | h3 <;> rw [h3]
            · rw [h4, List.nil_append] at hsn
              simp (maxSteps := 2000000) only [go_sem, ↓reduceIte]
              rw [hsn]
              refine ⟨(i, acc ++ [x], some (k', e)), ?_, inv, by simp⟩
              refine Weak.mk ?_ ?_ ?_ <;> simp (maxSteps := 2000000) only [go_sem, ↓reduceIte, Sub, Int.natCast_add, Int.natCast_mul, hrow, ro, robj_ne s k' e0]
            · simp (maxSteps := 2000000) only [go_sem, ↓reduceIte]
              rw [hsn]
              refine ⟨by omega, fun h5 => ?_, fun h5 => ?_⟩
              · refine PrimG.mcall ([.x 0]) ([]) rfl (hfn) rfl rfl (by simp only [objsAt, St.obj, aget, AObj.ren, AV.ren, AV.ren1, renL, ren1L, renR, renQ, List.getD_cons_zero, List.getD_cons_succ, and_true, and_self, Nat.reduceEqDiff, ↓reduceIte, reduceCtorEq]) rfl rfl rfl ⟨rfl, rfl⟩ ?_
                simp (maxSteps := 2000000) only [go_sem, ↓reduceIte]
                refine ⟨(i, acc ++ [x], some (k', e)), ?_, inv, by simp⟩
                refine Weak.mk ?_ ?_ ?_ <;> simp (maxSteps := 2000000) only [go_sem, ↓reduceIte, Sub, Int.natCast_add, Int.natCast_mul, hrow, ro, robj_ne s k' e0]
              · refine ⟨(i, acc ++ [x], some (k', e)), ?_, inv, by simp⟩
                refine Weak.mk ?_ ?_ ?_ <;> simp (maxSteps := 2000000) only [go_sem, ↓reduceIte, Sub, Int.natCast_add, Int.natCast_mul, hrow, ro, robj_ne s k' e0]
          | ok x k' =>
            rw [hx] at hF hr hgq
            obtain ⟨rfl, rfl⟩ := hr
            obtain ⟨g1, g2, g3, g4⟩ := hgq
            refine ⟨⟨rfl, rfl⟩, ?_⟩
            simp only at hF
            rw [Val.d_eq x, robj_0]
            have hrow : lrow (.l 5) 3 (acc ++ [x]) = .own (.c (.l 5) 3) 48 5 (valsD acc ++ [D.agg [.int .i64 x.kind, .int .i64 x.n, .str x.s, .list (valsD x.l), .list (fldsD x.f)]]) := by rw [lrow_snoc, Val.d_eq]
            have hf0 := fail_0 s (k' : Int) 2
            rw [robj_0, robj_2, robj_lit.1] at hf0
            have hsl := valsD_length (acc ++ [x])
            have hlen : (acc ++ [x]).length = acc.length + 1 := by simp
            have hsn : valsD acc ++ [D.agg [.int .i64 x.kind, .int .i64 x.n, .str x.s, .list (valsD x.l), .list (fldsD x.f)]] = valsD (acc ++ [x]) := by rw [valsD_append]; simp [valsD, Val.d_eq]
            rw [hsn] at hrow
            have more : ¬ 300 < (valsD (acc ++ [x])).length → k' ≤ s.length ∧ (acc ++ [x]).length ≤ 301 ∧ ((none : Option (Int × Nat)) = none → (acc ++ [x]).length ≤ 300 ∧ listF rd s (301 - (acc ++ [x]).length) (acc ++ [x]) k' = R) ∧ ∀ k e', (none : Option (Int × Nat)) = some (k, e') → e' ≠ 0 ∧ R = .bad e' := fun h =>
              ⟨g2, by omega, fun _ => ⟨by omega, by rw [← hF]; congr 1; omega⟩, fun _ _ h => by cases h⟩
            have stop : 300 < (valsD (acc ++ [x])).length → k' ≤ s.length ∧ (acc ++ [x]).length ≤ 301 ∧ (some ((k' : Int), 2) = none → (acc ++ [x]).length ≤ 300 ∧ listF rd s (301 - (acc ++ [x]).length) (acc ++ [x]) k' = R) ∧ ∀ k e', some ((k' : Int), 2) = some (k, e') → e' ≠ 0 ∧ R = .bad e' := fun h =>
              ⟨g2, by omega, fun h => (by cases h), fun k e' h' => by
                cases h'
                have hm0 : m = 0 := by omega
                rw [hm0, listF] at hF
                exact ⟨by decide, hF.symm⟩⟩
            rcases fin with ⟨h3, h4⟩ | h3 <;> rw [h3]
            · rw [h4, List.nil_append] at hsn
              simp (maxSteps := 2000000) only [go_sem, ↓reduceIte]
              rw [hsn]
              have h5 : ¬ 300 < (valsD (acc ++ [x])).length := by rw [← hsn]; simp
              refine ⟨(k', acc ++ [x], none), ?_, more h5, by simp; omega⟩
              refine Weak.mk ?_ ?_ ?_ <;> simp (maxSteps := 2000000) only [go_sem, ↓reduceIte, Sub, Int.natCast_add, Int.natCast_mul, hrow, ro]
            · simp (maxSteps := 2000000) only [go_sem, ↓reduceIte]
              rw [hsn]
              refine ⟨by omega, fun h5 => ?_, fun h5 => ?_⟩
              · refine PrimG.mcall ([.x 0]) ([]) rfl (hf0) rfl rfl (by simp only [objsAt, St.obj, aget, AObj.ren, AV.ren, AV.ren1, renL, ren1L, renR, renQ, List.getD_cons_zero, List.getD_cons_succ, and_true, and_self, Nat.reduceEqDiff, ↓reduceIte, reduceCtorEq]) rfl rfl rfl ⟨rfl, rfl⟩ ?_
                simp (maxSteps := 2000000) only [go_sem, ↓reduceIte]
                refine ⟨(k', acc ++ [x], some ((k' : Int), 2)), ?_, stop (by omega), by simp; omega⟩
                refine Weak.mk ?_ ?_ ?_ <;> simp (maxSteps := 2000000) only [go_sem, ↓reduceIte, Sub, Int.natCast_add, Int.natCast_mul, hrow, ro, robj_2]
              · refine ⟨(k', acc ++ [x], none), ?_, more (by omega), by simp; omega⟩
                refine Weak.mk ?_ ?_ ?_ <;> simp (maxSteps := 2000000) only [go_sem, ↓reduceIte, Sub, Int.natCast_add, Int.natCast_mul, hrow, ro]
        · rw [if_pos (by omega)] at hF
          have het := eat_0 s q [93] hs (by omega) (by simp)
          have hp : hasPre (s.drop q) [93] = true := by
            rw [hasPre_one hc]
            have : c = 93 := UInt8.toNat_inj.1 (by have : (93 : UInt8).toNat = 93 := rfl; omega)
            simp [this]
          rw [hp, if_pos rfl, robj_0, robj_0] at het
          have fb := rdPost_ok (s := s) hF.symm
          rw [dd, robj_0] at fb
          refine PrimG.mcall ([.x 0]) ([]) rfl (het) rfl rfl (by simp only [objsAt, St.obj, aget, AObj.ren, AV.ren, AV.ren1, renL, ren1L, renR, renQ, List.getD_cons_zero, List.getD_cons_succ, and_true, and_self, Nat.reduceEqDiff, ↓reduceIte, reduceCtorEq]) rfl rfl rfl ⟨rfl, rfl⟩ ?_
          rcases fin with ⟨h1, h3⟩ | h1 <;> rw [h1]
          all_goals
            simp (maxSteps := 2000000) only [go_sem, ↓reduceIte]
            first
            | exact fb
            | (rw [h3] at fb; exact fb)
end Go.Av.Try
