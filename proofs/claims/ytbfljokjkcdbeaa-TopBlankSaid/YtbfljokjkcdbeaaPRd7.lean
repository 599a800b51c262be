import Derived.Test.YtbfljokjkcdbeaaPRd6
/- The program's reader: values. -/
set_option linter.unusedSimpArgs false
namespace Go.Av.Try
open Go.Proofs

theorem zeroV_d : zeroV.d = .agg [.int .i64 0, .int .i64 0, .str [], .list [], .list []] := by rw [Val.d_eq]; rfl

theorem rdPost_any {s : List UInt8} {R : RV} {r : AV} {hs : List AObj} (h : rdPost s R r hs) : ∃ (v : Val) (k : Int) (e : Nat), r = .d (.agg [.int .i64 v.kind, .int .i64 v.n, .str v.s, .list (valsD v.l), .list (fldsD v.f)]) ∧ hs = [.cells [.d (.str s), .d (.int .i64 k), .d (errD e)]] := by
  cases R with
  | ok v k => obtain ⟨rfl, rfl⟩ := h; exact ⟨v, k, 0, by rw [Val.d_eq], rfl⟩
  | bad e => obtain ⟨v, k, rfl, rfl⟩ := h; exact ⟨v, k, e, by rw [Val.d_eq], rfl⟩

theorem valueP_call (s : List UInt8) (hs : s.length ≤ 60000) : ∀ (d : Nat), d ≤ 8 → RdAt s (readF d s) (9 - (d : Int)) := by
  intro d
  induction d with
  | zero =>
    intro _ k hk
    generalize hR : readF 0 s k = R
    rw [readF] at hR
    have hnx := next_0 s k hs hk
    generalize skipP s k = q at *
    rw [robj_0] at hnx ⊢
    refine lift___parse_reader__value.mcall (by kernel_rfl) rfl ?_
    simp (maxSteps := 2000000) only [go_sem, ↓reduceIte, L___parse_reader__value, R___parse_reader__value]
    refine PrimG.mcall ([.x 0]) ([]) rfl (hnx) rfl rfl (by simp only [objsAt, St.obj, aget, AObj.ren, AV.ren, AV.ren1, renL, ren1L, renR, renQ, List.getD_cons_zero, List.getD_cons_succ, and_true, and_self, Nat.reduceEqDiff, ↓reduceIte, reduceCtorEq]) rfl rfl rfl ⟨rfl, rfl⟩ ?_
    cases hc : s[q]? with
    | none =>
      rw [hc] at hR
      have hf := fail_ne s (q : Int) (n := 5) (by decide) (.iface 76 (.int .i64 2))
      have fb := rdPost_bad (s := s) zeroV (q : Int) hR.symm
      rw [zeroV_d, robj_5] at fb
      rw [robj_5] at hf
      simp only
      rw [robj_5]
      simp (maxSteps := 2000000) only [go_sem, ↓reduceIte]
      refine PrimG.mcall ([.x 0]) ([]) rfl (hf) rfl rfl (by simp only [objsAt, St.obj, aget, AObj.ren, AV.ren, AV.ren1, renL, ren1L, renR, renQ, List.getD_cons_zero, List.getD_cons_succ, and_true, and_self, Nat.reduceEqDiff, ↓reduceIte, reduceCtorEq]) rfl rfl rfl ⟨rfl, rfl⟩ ?_
      simp (maxSteps := 2000000) only [go_sem, ↓reduceIte]
      exact fb
    | some c =>
      rw [hc] at hR
      have hf := fail_0 s (q : Int) 2
      have fb := rdPost_bad (s := s) zeroV (q : Int) hR.symm
      rw [zeroV_d, robj_2] at fb
      rw [robj_0, robj_2, robj_lit.1] at hf
      simp only
      rw [robj_0]
      simp (maxSteps := 2000000) only [go_sem, ↓reduceIte]
      refine PrimG.mcall ([.x 0]) ([]) rfl (hf) rfl rfl (by simp only [objsAt, St.obj, aget, AObj.ren, AV.ren, AV.ren1, renL, ren1L, renR, renQ, List.getD_cons_zero, List.getD_cons_succ, and_true, and_self, Nat.reduceEqDiff, ↓reduceIte, reduceCtorEq]) rfl rfl rfl ⟨rfl, rfl⟩ ?_
      simp (maxSteps := 2000000) only [go_sem, ↓reduceIte]
      exact fb
  | succ d ihd =>
    intro hd k hk
    generalize hR : readF (d + 1) s k = R
    rw [readF] at hR
    have hsk := skipP_le hk
    have hnx := next_0 s k hs hk
    generalize skipP s k = q at *
    have ih := ihd (by omega)
    obtain ⟨deep, hde⟩ : ∃ deep : Int, 9 - ((d + 1 : Nat) : Int) = deep := ⟨_, rfl⟩
    have e1 : 9 - (d : Int) = deep + 1 := by omega
    have hdeep : 0 ≤ deep ∧ deep ≤ 8 := by omega
    rw [e1] at ih
    rw [hde]
    clear hde e1
    have hg := fun k hk => readF_good s d k hk
    rw [robj_0] at hnx ⊢
    refine lift___parse_reader__value.mcall (by kernel_rfl) rfl ?_
    simp (maxSteps := 2000000) only [go_sem, ↓reduceIte, L___parse_reader__value, R___parse_reader__value]
    refine PrimG.mcall ([.x 0]) ([]) rfl (hnx) rfl rfl (by simp only [objsAt, St.obj, aget, AObj.ren, AV.ren, AV.ren1, renL, ren1L, renR, renQ, List.getD_cons_zero, List.getD_cons_succ, and_true, and_self, Nat.reduceEqDiff, ↓reduceIte, reduceCtorEq]) rfl rfl rfl ⟨rfl, rfl⟩ ?_
    have hd8 : (8 < deep) = False := by simp only [eq_iff_iff, iff_false]; omega
    cases hc : s[q]? with
    | none =>
      rw [hc] at hR
      have fb := rdPost_bad (s := s) zeroV (q : Int) hR.symm
      rw [zeroV_d, robj_5] at fb
      simp only
      rw [robj_5]
      simp (maxSteps := 2000000) only [go_sem, ↓reduceIte, hd8]
      exact fb
    | some c =>
      have hc8 := u8_lt c
      have hlt : q < s.length := (List.getElem?_eq_some_iff.1 hc).1
      rw [hc] at hR
      simp only at hR
      simp only
      rw [robj_0]
      simp (maxSteps := 2000000) only [go_sem, ↓reduceIte, hd8]
      refine ⟨fun h47 => ?_, fun h47 => ⟨fun h40 => ?_, fun h40 => ?_⟩⟩
      · rw [if_pos (by omega)] at hR
        have hnm := name_call s q hs hlt
        rw [robj_0] at hnm
        refine PrimG.mpost ([.x 0]) ([]) rfl (hnm) rfl rfl (by simp only [objsAt, St.obj, aget, AObj.ren, AV.ren, AV.ren1, renL, ren1L, renR, renQ, List.getD_cons_zero, List.getD_cons_succ, and_true, and_self, Nat.reduceEqDiff, ↓reduceIte, reduceCtorEq]) rfl rfl rfl (fun r hs' hr => ?_)
        cases hn : nameAt s q with
        | none =>
          rw [hn] at hR hr
          obtain ⟨b, k2, rfl, rfl⟩ := hr
          refine ⟨⟨rfl, rfl⟩, ?_⟩
          have fb := rdPost_bad (s := s) (namV b) k2 hR.symm
          rw [namV, kmk, robj_4] at fb
          rw [robj_4]
          simp (maxSteps := 2000000) only [go_sem, ↓reduceIte]
          exact fb
        | some p =>
          obtain ⟨b, kn⟩ := p
          rw [hn] at hR hr
          obtain ⟨rfl, rfl⟩ := hr
          refine ⟨⟨rfl, rfl⟩, ?_⟩
          have fb := rdPost_ok (s := s) hR.symm
          rw [namV, kmk, robj_0] at fb
          rw [robj_0]
          simp (maxSteps := 2000000) only [go_sem, ↓reduceIte]
          exact fb
      · rw [if_neg (by omega), if_pos (by omega)] at hR
        have hl := litP_call s q hs hlt
        rw [robj_0] at hl
        unfold litAt at hR
        refine PrimG.mpost ([.x 0]) ([]) rfl (hl) rfl rfl (by simp only [objsAt, St.obj, aget, AObj.ren, AV.ren, AV.ren1, renL, ren1L, renR, renQ, List.getD_cons_zero, List.getD_cons_succ, and_true, and_self, Nat.reduceEqDiff, ↓reduceIte, reduceCtorEq]) rfl rfl rfl (fun r hs' hr => ?_)
        cases hx : litF 0 1 (s.drop (q + 1)) [] (q + 1) with
        | none =>
          rw [hx] at hR hr
          obtain ⟨k2, rfl, rfl⟩ := hr
          refine ⟨⟨rfl, rfl⟩, ?_⟩
          have fb := rdPost_bad (s := s) (strV []) k2 hR.symm
          have hst := str_ne s k2 [] (n := 5) (by decide)
          rw [strV, kmk, robj_5] at fb hst
          rw [robj_5]
          simp (maxSteps := 2000000) only [go_sem, ↓reduceIte]
          refine PrimG.mcall ([.x 0]) ([]) rfl (hst) rfl rfl (by simp only [objsAt, St.obj, aget, AObj.ren, AV.ren, AV.ren1, renL, ren1L, renR, renQ, List.getD_cons_zero, List.getD_cons_succ, and_true, and_self, Nat.reduceEqDiff, ↓reduceIte, reduceCtorEq]) rfl rfl rfl ⟨rfl, rfl⟩ ?_
          simp (maxSteps := 2000000) only [go_sem, ↓reduceIte]
          exact fb
        | some p =>
          obtain ⟨b, kn⟩ := p
          rw [hx] at hR hr
          obtain ⟨rfl, rfl⟩ := hr
          refine ⟨⟨rfl, rfl⟩, ?_⟩
          simp only at hR
          have hst := str_0 s (kn : Int) b
          rw [strV, kmk, robj_0] at hst
          rw [robj_0]
          simp (maxSteps := 2000000) only [go_sem, ↓reduceIte]
          refine PrimG.mcall ([.x 0]) ([]) rfl (hst) rfl rfl (by simp only [objsAt, St.obj, aget, AObj.ren, AV.ren, AV.ren1, renL, ren1L, renR, renQ, List.getD_cons_zero, List.getD_cons_succ, and_true, and_self, Nat.reduceEqDiff, ↓reduceIte, reduceCtorEq]) rfl rfl rfl ⟨rfl, rfl⟩ ?_
          by_cases hb : b.length ≤ 200
          · rw [if_pos hb] at hR ⊢
            have fb := rdPost_ok (s := s) hR.symm
            rw [strV, kmk, robj_0] at fb
            rw [robj_0]
            simp (maxSteps := 2000000) only [go_sem, ↓reduceIte]
            exact fb
          · rw [if_neg hb] at hR ⊢
            have fb := rdPost_bad (s := s) (strV b) (kn : Int) hR.symm
            rw [strV, kmk, robj_2] at fb
            rw [robj_2]
            simp (maxSteps := 2000000) only [go_sem, ↓reduceIte]
            exact fb
      · rw [if_neg (by omega), if_neg (by omega)] at hR
        have het := eat_0 s q [60, 60] hs (by omega) (by simp)
        rw [hasPre_two hc] at het
        by_cases cd : c.toNat = 60 ∧ s[q + 1]? = some 60
        · have e60 : c = 60 := UInt8.toNat_inj.1 (by have : (60 : UInt8).toNat = 60 := rfl; omega)
          have hq2 := (List.getElem?_eq_some_iff.1 cd.2).1
          rw [if_pos cd] at hR
          have hb : (decide (c = 60) && decide (s[q + 1]? = some 60)) = true := by simp [e60, cd.2]
          have e2 : (q : Int) + (([60, 60] : List UInt8).length : Int) = ((q + 2 : Nat) : Int) := by simp
          rw [hb, if_pos rfl, e2, robj_0, robj_0] at het
          refine PrimG.mcall ([.x 0]) ([]) rfl (het) rfl rfl (by simp only [objsAt, St.obj, aget, AObj.ren, AV.ren, AV.ren1, renL, ren1L, renR, renQ, List.getD_cons_zero, List.getD_cons_succ, and_true, and_self, Nat.reduceEqDiff, ↓reduceIte, reduceCtorEq]) rfl rfl rfl ⟨rfl, rfl⟩ ?_
          have hdc := dictP_of s hs (readF d s) deep hdeep hg ih (q + 2) (by omega)
          rw [hR, robj_0] at hdc
          simp (maxSteps := 2000000) only [go_sem, ↓reduceIte]
          refine PrimG.mpost ([.x 0]) ([]) rfl (hdc) rfl rfl (by simp only [objsAt, St.obj, aget, AObj.ren, AV.ren, AV.ren1, renL, ren1L, renR, renQ, List.getD_cons_zero, List.getD_cons_succ, and_true, and_self, Nat.reduceEqDiff, ↓reduceIte, reduceCtorEq]) rfl rfl rfl (fun r hs' hr => ?_)
          obtain ⟨v, k2, e, rfl, rfl⟩ := rdPost_any hr
          refine ⟨⟨rfl, rfl⟩, ?_⟩
          simp (maxSteps := 2000000) only [go_sem, ↓reduceIte]
          exact hr
        · have hb : (decide (c = 60) && decide (s[q + 1]? = some 60)) = false := by
            by_cases e60 : c = 60
            · have : ¬ s[q + 1]? = some 60 := fun h => cd ⟨by rw [e60]; rfl, h⟩
              simp [this]
            · simp [e60]
          rw [if_neg cd] at hR
          rw [hb, if_neg (by decide), robj_0] at het
          refine PrimG.mcall ([.x 0]) ([]) rfl (het) rfl rfl (by simp only [objsAt, St.obj, aget, AObj.ren, AV.ren, AV.ren1, renL, ren1L, renR, renQ, List.getD_cons_zero, List.getD_cons_succ, and_true, and_self, Nat.reduceEqDiff, ↓reduceIte, reduceCtorEq]) rfl rfl rfl ⟨rfl, rfl⟩ ?_
          simp (maxSteps := 2000000) only [go_sem, ↓reduceIte]
          refine ⟨fun h60 => ?_, fun h60 => ?_⟩
          · rw [if_pos (by omega)] at hR
            have hx := hexed_call s q hs hlt
            rw [robj_0] at hx
            unfold hexAt at hR
            have hcode := unhexF_code (s.drop (q + 1)) (-1) []
            refine PrimG.mpost ([.x 0]) ([]) rfl (hx) rfl rfl (by simp only [objsAt, St.obj, aget, AObj.ren, AV.ren, AV.ren1, renL, ren1L, renR, renQ, List.getD_cons_zero, List.getD_cons_succ, and_true, and_self, Nat.reduceEqDiff, ↓reduceIte, reduceCtorEq]) rfl rfl rfl (fun r hs' hr => ?_)
            generalize unhexF (s.drop (q + 1)) (-1) [] = U at hR hcode hr
            obtain ⟨ub, uc⟩ := U
            simp only at hR hcode hr
            obtain ⟨rfl, k2, rfl, hk2⟩ := hr
            refine ⟨⟨rfl, rfl⟩, ?_⟩
            by_cases u0 : uc = 0
            · subst u0
              rw [if_pos rfl] at hR
              rw [hk2 rfl]
              have hst := str_0 s ((q + 1 + gtEnd (s.drop (q + 1)) : Nat) : Int) ub
              rw [strV, kmk, robj_0] at hst
              rw [robj_0]
              simp (maxSteps := 2000000) only [go_sem, ↓reduceIte]
              refine PrimG.mcall ([.x 0]) ([]) rfl (hst) rfl rfl (by simp only [objsAt, St.obj, aget, AObj.ren, AV.ren, AV.ren1, renL, ren1L, renR, renQ, List.getD_cons_zero, List.getD_cons_succ, and_true, and_self, Nat.reduceEqDiff, ↓reduceIte, reduceCtorEq]) rfl rfl rfl ⟨rfl, rfl⟩ ?_
              by_cases hb2 : ub.length ≤ 200
              · rw [if_pos hb2] at hR ⊢
                have fb := rdPost_ok (s := s) hR.symm
                rw [strV, kmk, robj_0] at fb
                rw [robj_0]
                simp (maxSteps := 2000000) only [go_sem, ↓reduceIte]
                exact fb
              · rw [if_neg hb2] at hR ⊢
                have fb := rdPost_bad (s := s) (strV ub) ((q + 1 + gtEnd (s.drop (q + 1)) : Nat) : Int) hR.symm
                rw [strV, kmk, robj_2] at fb
                rw [robj_2]
                simp (maxSteps := 2000000) only [go_sem, ↓reduceIte]
                exact fb
            · rw [if_neg u0] at hR
              have fb := rdPost_bad (s := s) (strV ub) k2 hR.symm
              have hst := str_ne s k2 ub u0
              rw [strV, kmk, robj_ne s k2 u0] at fb hst
              rw [robj_ne s k2 u0]
              simp (maxSteps := 2000000) only [go_sem, ↓reduceIte]
              refine PrimG.mcall ([.x 0]) ([]) rfl (hst) rfl rfl (by simp only [objsAt, St.obj, aget, AObj.ren, AV.ren, AV.ren1, renL, ren1L, renR, renQ, List.getD_cons_zero, List.getD_cons_succ, and_true, and_self, Nat.reduceEqDiff, ↓reduceIte, reduceCtorEq]) rfl rfl rfl ⟨rfl, rfl⟩ ?_
              simp (maxSteps := 2000000) only [go_sem, ↓reduceIte]
              exact fb
          · rw [if_neg (by omega)] at hR
            have het2 := eat_0 s q [91] hs (by omega) (by simp)
            rw [hasPre_one hc] at het2
            by_cases h91 : c.toNat = 91
            · rw [if_pos h91] at hR
              have e91 : c = 91 := UInt8.toNat_inj.1 (by have : (91 : UInt8).toNat = 91 := rfl; omega)
              have e2 : (q : Int) + (([91] : List UInt8).length : Int) = ((q + 1 : Nat) : Int) := by simp
              rw [decide_eq_true e91, if_pos rfl, e2, robj_0, robj_0] at het2
              refine PrimG.mcall ([.x 0]) ([]) rfl (het2) rfl rfl (by simp only [objsAt, St.obj, aget, AObj.ren, AV.ren, AV.ren1, renL, ren1L, renR, renQ, List.getD_cons_zero, List.getD_cons_succ, and_true, and_self, Nat.reduceEqDiff, ↓reduceIte, reduceCtorEq]) rfl rfl rfl ⟨rfl, rfl⟩ ?_
              have hls := listP_of s hs (readF d s) deep hdeep hg ih (q + 1) (by omega)
              rw [hR, robj_0] at hls
              simp (maxSteps := 2000000) only [go_sem, ↓reduceIte]
              refine PrimG.mpost ([.x 0]) ([]) rfl (hls) rfl rfl (by simp only [objsAt, St.obj, aget, AObj.ren, AV.ren, AV.ren1, renL, ren1L, renR, renQ, List.getD_cons_zero, List.getD_cons_succ, and_true, and_self, Nat.reduceEqDiff, ↓reduceIte, reduceCtorEq]) rfl rfl rfl (fun r hs' hr => ?_)
              obtain ⟨v, k2, e, rfl, rfl⟩ := rdPost_any hr
              refine ⟨⟨rfl, rfl⟩, ?_⟩
              simp (maxSteps := 2000000) only [go_sem, ↓reduceIte]
              exact hr
            · rw [if_neg h91] at hR
              have e91 : ¬ c = 91 := fun e => h91 (by rw [e]; rfl)
              rw [decide_eq_false e91, if_neg (by decide), robj_0] at het2
              refine PrimG.mcall ([.x 0]) ([]) rfl (het2) rfl rfl (by simp only [objsAt, St.obj, aget, AObj.ren, AV.ren, AV.ren1, renL, ren1L, renR, renQ, List.getD_cons_zero, List.getD_cons_succ, and_true, and_self, Nat.reduceEqDiff, ↓reduceIte, reduceCtorEq]) rfl rfl rfl ⟨rfl, rfl⟩ ?_
              simp (maxSteps := 2000000) only [go_sem, ↓reduceIte]
              refine CallG.of (sign_call c) ?_
              simp (maxSteps := 2000000) only [go_sem, ↓reduceIte]
              refine ⟨fun hs1 => ?_, fun hs1 => ?_⟩
              · rw [if_pos hs1] at hR
                have hf := fail_0 s (q : Int) 4
                have fb := rdPost_bad (s := s) zeroV (q : Int) hR.symm
                rw [zeroV_d, robj_4] at fb
                rw [robj_0, robj_4, robj_lit.2.2.1] at hf
                refine PrimG.mcall ([.x 0]) ([]) rfl (hf) rfl rfl (by simp only [objsAt, St.obj, aget, AObj.ren, AV.ren, AV.ren1, renL, ren1L, renR, renQ, List.getD_cons_zero, List.getD_cons_succ, and_true, and_self, Nat.reduceEqDiff, ↓reduceIte, reduceCtorEq]) rfl rfl rfl ⟨rfl, rfl⟩ ?_
                simp (maxSteps := 2000000) only [go_sem, ↓reduceIte]
                exact fb
              · rw [if_neg (by simp [hs1])] at hR
                have hwv := wordV_call s q hs (by omega)
                rw [hR, robj_0] at hwv
                refine PrimG.mpost ([.x 0]) ([]) rfl (hwv) rfl rfl (by simp only [objsAt, St.obj, aget, AObj.ren, AV.ren, AV.ren1, renL, ren1L, renR, renQ, List.getD_cons_zero, List.getD_cons_succ, and_true, and_self, Nat.reduceEqDiff, ↓reduceIte, reduceCtorEq]) rfl rfl rfl (fun r hs' hr => ?_)
                obtain ⟨v, k2, e, rfl, rfl⟩ := rdPost_any hr
                refine ⟨⟨rfl, rfl⟩, ?_⟩
                simp (maxSteps := 2000000) only [go_sem, ↓reduceIte]
                exact hr
end Go.Av.Try
