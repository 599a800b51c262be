import Derived.Test.YtbfljokjkcdbeaaEVal13
import Derived.Test.YtbfljokjkcdbeaaEIns
/- A dictionary's entry is set. -/
set_option linter.unusedSimpArgs false
namespace Go.Av.Try
open Go.Proofs

theorem copyP (v : Val) (hsm : v.sm 1048576 = true) : PCall Try.prog 100 [v.d] (fun r => r = .one v.d) :=
  (copyN _ v (Nat.le_refl _) hsm).pcall fun r hr => by rw [hr.data]

def setF (nm : List UInt8) (x : Val) (f : List Fld) : List Fld := if hasV nm f then f.set (posV nm f) (.mk nm x) else f.take (posV nm f) ++ .mk nm x :: f.drop (posV nm f)
def setV (nm : List UInt8) (x v : Val) : Val := .mk v.kind v.n v.s v.l (setF nm x v.f)

theorem has_get {nm : List UInt8} {f : List Fld} (h : hasV nm f = true) : ∃ y : Fld, f[posV nm f]? = some y ∧ y.name = nm := by
  unfold hasV at h
  split at h
  · rename_i y hy; exact ⟨y, hy, by simpa using h⟩
  · cases h
theorem posV_nil (nm : List UInt8) : posV nm [] = 0 := rfl
theorem hasV_nil (nm : List UInt8) : hasV nm [] = false := rfl
theorem srt_nil : srt [] := fun i j x y _ h => by simp at h

theorem fld_mk (nm : List UInt8) (x : Val) : (Fld.mk nm x).d = .agg [.str nm, .int .i64 x.kind, .int .i64 x.n, .str x.s, .list (valsD x.l), .list (fldsD x.f)] := by rw [Fld.d_eq]; rfl
theorem fldsD_take (l : List Fld) (i : Nat) : fldsD (l.take i) = (fldsD l).take i := by simp [fldsD_eq, List.map_take]
theorem fldsD_drop (l : List Fld) (i : Nat) : fldsD (l.drop i) = (fldsD l).drop i := by simp [fldsD_eq, List.map_drop]
theorem setF_ins {nm : List UInt8} {x : Val} {f : List Fld} (h : hasV nm f = false) : fldsD (setF nm x f) = (fldsD f).take (posV nm f) ++ .agg [.str nm, .int .i64 x.kind, .int .i64 x.n, .str x.s, .list (valsD x.l), .list (fldsD x.f)] :: (fldsD f).drop (posV nm f) := by
  rw [setF, h, if_neg (by simp), fldsD_append, fldsD, fld_mk, fldsD_take, fldsD_drop]
theorem setF_set {nm : List UInt8} {x : Val} {f : List Fld} (h : hasV nm f = true) : fldsD (setF nm x f) = (fldsD f).set (posV nm f) (.agg [.str nm, .int .i64 x.kind, .int .i64 x.n, .str x.s, .list (valsD x.l), .list (fldsD x.f)]) := by
  rw [setF, h, if_pos rfl, fldsD_eq, List.map_set, ← fldsD_eq, fld_mk]
theorem setV_d (nm : List UInt8) (x v : Val) : (setV nm x v).d = .agg [.int .i64 v.kind, .int .i64 v.n, .str v.s, .list (valsD v.l), .list (fldsD (setF nm x v.f))] := by rw [Val.d_eq]; rfl

/-- value.Set -/
def L_value_Set : LCode :=
  .seq (.reg [⟨some 3, .box (.t 0), none⟩, ⟨some 5, .box (.t 2), none⟩, ⟨some 6, .allo [.int .i64 0, .int .i64 0, .str [], .list [], .list []], none⟩]) (.seq (.reg [⟨some 9, .val 
  (.ld true 5 (.t 3)), none⟩, ⟨some 10, .call 100 [.t 9], none⟩, ⟨none, .st 5 (.t 3) (.t 10), none⟩]) (.seq (.reg [⟨some 12, .val (.fa 4 (.t 3)), none⟩, ⟨some 13, .val (.ld false 1 
  (.t 12)), none⟩, ⟨some 14, .val (.cp (.t 1)), none⟩, ⟨some 15, .prim .call [.k (.fn (.func 101) [] []), .t 13, .t 14, .k (.fn (.func 102) [] [])] [], none⟩, ⟨some 11, .val (.cp 
  (.t 15)), none⟩, ⟨some 16, .val (.ext 0 (.t 11)), none⟩, ⟨some 17, .val (.ext 1 (.t 11)), none⟩, ⟨some 7, .asg (.t 16), none⟩, ⟨some 8, .asg (.t 17), none⟩]) (.seq (.seq (.reg 
  [⟨some 18, .val (.cp (.t 8)), none⟩]) (.cond (.t 18) (.dreg [⟨some 19, .val (.fa 4 (.t 3)), none⟩, ⟨some 20, .val (.ld false 1 (.t 19)), none⟩, ⟨some 21, .val (.cp (.t 7)), 
  none⟩, ⟨some 22, .val (.ld true 5 (.t 5)), none⟩, ⟨some 23, .call 100 [.t 22], none⟩, ⟨some 24, .val (.ia 6 (.t 20) (.t 21)), none⟩, ⟨some 25, .val (.fa 1 (.t 24)), none⟩, ⟨none, 
  .st 5 (.t 25) (.t 23), none⟩]) (.dreg [⟨some 26, .val (.fa 4 (.t 3)), none⟩, ⟨some 27, .val (.ld false 1 (.t 26)), none⟩, ⟨some 28, .val (.cp (.t 7)), none⟩, ⟨some 29, .val (.cp 
  (.t 1)), none⟩, ⟨some 30, .val (.ld true 5 (.t 5)), none⟩, ⟨some 31, .call 100 [.t 30], none⟩, ⟨some 32, .val (.bld [(0, 1), (1, 5)] [.str [], .int .i64 0, .int .i64 0, .str [], 
  .list [], .list []] [] [(0, .t 29), (1, .t 31)]), none⟩, ⟨some 33, .bsl 87 6 [.t 32], none⟩, ⟨some 34, .prim .call [.k (.fn (.func 104) [] []), .t 27, .t 28, .t 33] [], none⟩, 
  ⟨some 35, .val (.fa 4 (.t 3)), none⟩, ⟨none, .st 1 (.t 35) (.t 34), none⟩]))) (.seq (.reg [⟨some 36, .val (.ld true 5 (.t 3)), none⟩, ⟨none, .st 5 (.t 6) (.t 36), none⟩]) 
  .ret))))
def R_value_Set : List LRes := [.cell 6 true 5]
theorem lift_value_Set : Lifts Try.prog 85 37 L_value_Set R_value_Set := ⟨_, _, Try.func85, rfl, by kernel_rfl, by kernel_rfl, rfl⟩

theorem setP_call (v x : Val) (nm : List UInt8) (hs : srt v.f) (hv : v.sm 1048576 = true) (hx : x.sm 1048576 = true) : PCall Try.prog 85 [v.d, .str nm, x.d] (fun r => r = .one (setV nm x v).d) := by
  obtain ⟨_, hll, hfl, hsl, hsf⟩ := Val.sm_iff.1 hv
  have hvl := valsD_length v.l
  have hfl' := fldsD_length v.f
  have hcx := copyP x hx
  rw [Val.d_eq x] at hcx
  refine NCall.pcall (Post := fun r => r.data = (setV nm x v).d) ?_ (fun r hr => by rw [hr])
  refine lift_value_Set.ncall rfl ?_
  rw [Val.d_eq v, Val.d_eq x]
  simp (maxSteps := 2000000) only [go_sem, ↓reduceIte, L_value_Set]
  refine CallG.cstep (CStep.ncall (copyN _ v (Nat.le_refl _) hv) (by rw [Val.d_eq]; rfl) (fun r hok hr => ?_))
  obtain ⟨X, hX, hr⟩ := hr
  rcases hr with ⟨hf0, rfl⟩ | ⟨hf0, c, rfl⟩
  · rcases hX with ⟨rfl, hl0⟩ | rfl
    · simp (maxSteps := 2000000) only [go_sem, ↓reduceIte, XR.adopt]
      refine PrimG.mcall ([]) ([]) rfl ((search_call [] nm srt_nil (by simp)).nsArg) rfl rfl (by simp only [objsAt, St.obj, aget, AObj.ren, AV.ren, AV.ren1, renL, ren1L, renR, renQ, List.getD_cons_zero, List.getD_cons_succ, and_true, and_self, Nat.reduceEqDiff, ↓reduceIte, reduceCtorEq]) rfl rfl rfl ⟨rfl, rfl⟩ ?_
      simp (maxSteps := 2000000) only [go_sem, ↓reduceIte, posV_nil, hasV_nil]
      refine CallD.of hcx ?_
      simp (maxSteps := 2000000) (disch := omega) only [go_sem, ↓reduceIte]
      refine PrimG.insert (k := 10) (c := 0) (i := 0) (fs := []) insSpec rfl (.inl ⟨rfl, rfl⟩) rfl rfl rfl (by decide) (by simp) (by simp) (by simp) (fun c' h1 h2 => ?_)
      simp (maxSteps := 2000000) (disch := omega) only [go_sem, ↓reduceIte, rowC_drop]
      refine ⟨.row [.d (.int .i64 v.kind), .d (.int .i64 v.n), .d (.str v.s), .ns] 6 [.agg [.str nm, .int .i64 x.kind, .int .i64 x.n, .str x.s, .list (valsD x.l), .list (fldsD x.f)]] c', 10, rfl, (fun _ _ _ _ h => by cases h; rfl), ⟨by simp [AV.dns], by simp [D.cells], by simpa using h1, h2⟩, ?_⟩
      rw [setV_d, hf0, hl0, setF_ins (hasV_nil nm)]
      rfl
    · simp (maxSteps := 2000000) only [go_sem, ↓reduceIte, XR.adopt]
      refine PrimG.mcall ([]) ([]) rfl ((search_call [] nm srt_nil (by simp)).nsArg) rfl rfl (by simp only [objsAt, St.obj, aget, AObj.ren, AV.ren, AV.ren1, renL, ren1L, renR, renQ, List.getD_cons_zero, List.getD_cons_succ, and_true, and_self, Nat.reduceEqDiff, ↓reduceIte, reduceCtorEq]) rfl rfl rfl ⟨rfl, rfl⟩ ?_
      simp (maxSteps := 2000000) only [go_sem, ↓reduceIte, posV_nil, hasV_nil]
      refine CallD.of hcx ?_
      simp (maxSteps := 2000000) (disch := omega) only [go_sem, ↓reduceIte]
      refine PrimG.insert (k := 10) (c := 0) (i := 0) (fs := []) insSpec rfl (.inl ⟨rfl, rfl⟩) rfl rfl rfl (by decide) (by simp) (by simp) (by simp) (fun c' h1 h2 => ?_)
      simp (maxSteps := 2000000) (disch := omega) only [go_sem, ↓reduceIte, rowC_drop]
      refine ⟨.row [.d (.int .i64 v.kind), .d (.int .i64 v.n), .d (.str v.s), .d (.list (valsD v.l))] 6 [.agg [.str nm, .int .i64 x.kind, .int .i64 x.n, .str x.s, .list (valsD x.l), .list (fldsD x.f)]] c', 10, rfl, (fun _ _ _ _ h => by cases h; rfl), ⟨by simp [AV.dns], by simp [D.cells], by simpa using h1, h2⟩, ?_⟩
      rw [setV_d, hf0, setF_ins (hasV_nil nm)]
      rfl
  · rcases hX with ⟨rfl, hl0⟩ | rfl
    · simp (maxSteps := 2000000) only [go_sem, ↓reduceIte, XR.adopt]
      refine PrimG.callRow (k := 10) (sz := 6) (c := c) (fs := fldsD v.f) rfl rfl rfl (fldsD_cells _) hok.2.2.1 rfl (search_call v.f nm hs hfl) rfl ?_
      simp (maxSteps := 2000000) only [go_sem, ↓reduceIte]
      refine ⟨fun hh => ?_, fun hh => ?_⟩
      · refine CallD.of hcx ?_
        simp (maxSteps := 2000000) (disch := omega) only [go_sem, ↓reduceIte]
        obtain ⟨y, hy, hyn⟩ := has_get hh
        have hlt := (List.getElem?_eq_some_iff.1 hy).1
        have hrow := rowC_len (fldsD_cells v.f) hok.2.2.1
        have hset := rowC_set (sz := 6) (c := c) (i := posV nm v.f) (a := .str nm) (xs := [.int .i64 y.v.kind, .int .i64 y.v.n, .str y.v.s, .list (valsD y.v.l), .list (fldsD y.v.f)]) (fldsD_cells v.f) (by rw [fldsD_get, hy]; simp only [Option.map_some]; rw [Fld.d_eq, hyn]) (ys := [.int .i64 x.kind, .int .i64 x.n, .str x.s, .list (valsD x.l), .list (fldsD x.f)]) rfl
        refine ⟨⟨by omega, by omega⟩, ?_, ?_⟩
        · rw [hrow, Int.toNat_natCast]; have := hok.2.2.1; omega
        · refine ⟨.row [.d (.int .i64 v.kind), .d (.int .i64 v.n), .d (.str v.s), .ns] 6 ((fldsD v.f).set (posV nm v.f) (.agg [.str nm, .int .i64 x.kind, .int .i64 x.n, .str x.s, .list (valsD x.l), .list (fldsD x.f)])) c, 10, ?_, (fun _ _ _ _ h => by cases h; rw [← hset]; rfl), ⟨by simp [AV.dns], ?_, by rw [List.length_set]; exact hok.2.2.1, hok.2.2.2⟩, ?_⟩
          · show _ = some (AV.sx _)
            rw [List.length_set]; rfl
          · rw [← setF_set hh]; exact fldsD_cells _
          · rw [setV_d, hl0, setF_set hh]
            rfl
      · refine CallD.of hcx ?_
        simp (maxSteps := 2000000) (disch := omega) only [go_sem, ↓reduceIte]
        refine PrimG.insert (k := 10) (c := c) (i := posV nm v.f) (fs := fldsD v.f) insSpec rfl (.inr ⟨rfl, rfl, hok.2.2.1, hok.2.2.2⟩) rfl rfl rfl (by decide) (fldsD_cells _) (by rw [hfl']; exact posV_le _ _) (by omega) (fun c' h1 h2 => ?_)
        simp (maxSteps := 2000000) (disch := omega) only [go_sem, ↓reduceIte, rowC_drop]
        have hins := setF_ins (x := x) hh
        refine ⟨.row [.d (.int .i64 v.kind), .d (.int .i64 v.n), .d (.str v.s), .ns] 6 (fldsD (setF nm x v.f)) c', 10, ?_, (fun _ _ _ _ h => by cases h; rw [hins]; rfl), ⟨by simp [AV.dns], fldsD_cells _, ?_, h2⟩, ?_⟩
        · have hl : (fldsD (setF nm x v.f)).length = (fldsD v.f).length + 1 := by
            rw [hins, List.length_append, List.length_cons, List.length_take, List.length_drop]; have := posV_le nm v.f; omega
          show _ = some (AV.sx _)
          rw [hl]; rfl
        · rw [hins, List.length_append, List.length_cons, List.length_take, List.length_drop]; have := posV_le nm v.f; omega
        · rw [setV_d, hl0]
          rfl
    · simp (maxSteps := 2000000) only [go_sem, ↓reduceIte, XR.adopt]
      refine PrimG.callRow (k := 10) (sz := 6) (c := c) (fs := fldsD v.f) rfl rfl rfl (fldsD_cells _) hok.2.2.1 rfl (search_call v.f nm hs hfl) rfl ?_
      simp (maxSteps := 2000000) only [go_sem, ↓reduceIte]
      refine ⟨fun hh => ?_, fun hh => ?_⟩
      · refine CallD.of hcx ?_
        simp (maxSteps := 2000000) (disch := omega) only [go_sem, ↓reduceIte]
        obtain ⟨y, hy, hyn⟩ := has_get hh
        have hlt := (List.getElem?_eq_some_iff.1 hy).1
        have hrow := rowC_len (fldsD_cells v.f) hok.2.2.1
        have hset := rowC_set (sz := 6) (c := c) (i := posV nm v.f) (a := .str nm) (xs := [.int .i64 y.v.kind, .int .i64 y.v.n, .str y.v.s, .list (valsD y.v.l), .list (fldsD y.v.f)]) (fldsD_cells v.f) (by rw [fldsD_get, hy]; simp only [Option.map_some]; rw [Fld.d_eq, hyn]) (ys := [.int .i64 x.kind, .int .i64 x.n, .str x.s, .list (valsD x.l), .list (fldsD x.f)]) rfl
        refine ⟨⟨by omega, by omega⟩, ?_, ?_⟩
        · rw [hrow, Int.toNat_natCast]; have := hok.2.2.1; omega
        · refine ⟨.row [.d (.int .i64 v.kind), .d (.int .i64 v.n), .d (.str v.s), .d (.list (valsD v.l))] 6 ((fldsD v.f).set (posV nm v.f) (.agg [.str nm, .int .i64 x.kind, .int .i64 x.n, .str x.s, .list (valsD x.l), .list (fldsD x.f)])) c, 10, ?_, (fun _ _ _ _ h => by cases h; rw [← hset]; rfl), ⟨by simp [AV.dns], ?_, by rw [List.length_set]; exact hok.2.2.1, hok.2.2.2⟩, ?_⟩
          · show _ = some (AV.sx _)
            rw [List.length_set]; rfl
          · rw [← setF_set hh]; exact fldsD_cells _
          · rw [setV_d, setF_set hh]
            rfl
      · refine CallD.of hcx ?_
        simp (maxSteps := 2000000) (disch := omega) only [go_sem, ↓reduceIte]
        refine PrimG.insert (k := 10) (c := c) (i := posV nm v.f) (fs := fldsD v.f) insSpec rfl (.inr ⟨rfl, rfl, hok.2.2.1, hok.2.2.2⟩) rfl rfl rfl (by decide) (fldsD_cells _) (by rw [hfl']; exact posV_le _ _) (by omega) (fun c' h1 h2 => ?_)
        simp (maxSteps := 2000000) (disch := omega) only [go_sem, ↓reduceIte, rowC_drop]
        have hins := setF_ins (x := x) hh
        refine ⟨.row [.d (.int .i64 v.kind), .d (.int .i64 v.n), .d (.str v.s), .d (.list (valsD v.l))] 6 (fldsD (setF nm x v.f)) c', 10, ?_, (fun _ _ _ _ h => by cases h; rw [hins]; rfl), ⟨by simp [AV.dns], fldsD_cells _, ?_, h2⟩, ?_⟩
        · have hl : (fldsD (setF nm x v.f)).length = (fldsD v.f).length + 1 := by
            rw [hins, List.length_append, List.length_cons, List.length_take, List.length_drop]; have := posV_le nm v.f; omega
          show _ = some (AV.sx _)
          rw [hl]; rfl
        · rw [hins, List.length_append, List.length_cons, List.length_take, List.length_drop]; have := posV_le nm v.f; omega
        · rw [setV_d]
          rfl
end Go.Av.Try
