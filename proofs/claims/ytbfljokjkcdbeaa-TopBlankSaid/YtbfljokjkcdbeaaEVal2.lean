import Derived.Test.YtbfljokjkcdbeaaEVal1
/- Values of a file: as data, how great they are. -/
set_option linter.unusedSimpArgs false
namespace Go.Av.Try
open Go.Proofs

theorem drop_at {α : Type} {l : List α} {i : Nat} {x : α} (h : l[i]? = some x) : l.drop i = x :: l.drop (i + 1) := by
  obtain ⟨hl, rfl⟩ := List.getElem?_eq_some_iff.1 h
  exact List.drop_eq_getElem_cons hl

mutual
inductive Val where
  | mk (kind n : Int) (s : List UInt8) (l : List Val) (f : List Fld)
inductive Fld where
  | mk (name : List UInt8) (v : Val)
end
def Val.kind : Val → Int
  | .mk k _ _ _ _ => k
def Val.n : Val → Int
  | .mk _ n _ _ _ => n
def Val.s : Val → List UInt8
  | .mk _ _ s _ _ => s
def Val.l : Val → List Val
  | .mk _ _ _ l _ => l
def Val.f : Val → List Fld
  | .mk _ _ _ _ f => f
def Fld.name : Fld → List UInt8
  | .mk n _ => n
def Fld.v : Fld → Val
  | .mk _ v => v

mutual
def Val.d : Val → D
  | .mk k n s l f => .agg [.int .i64 k, .int .i64 n, .str s, .list (valsD l), .list (fldsD f)]
def valsD : List Val → List D
  | [] => []
  | v :: r => v.d :: valsD r
def Fld.d : Fld → D
  | .mk nm v => .agg (.str nm :: v.d.cells)
def fldsD : List Fld → List D
  | [] => []
  | x :: r => x.d :: fldsD r
end
theorem valsD_eq (l : List Val) : valsD l = l.map Val.d := by induction l with | nil => rfl | cons v r ih => simp [valsD, ih]
theorem fldsD_eq (l : List Fld) : fldsD l = l.map Fld.d := by induction l with | nil => rfl | cons v r ih => simp [fldsD, ih]
theorem valsD_length (l : List Val) : (valsD l).length = l.length := by simp [valsD_eq]
theorem fldsD_length (l : List Fld) : (fldsD l).length = l.length := by simp [fldsD_eq]
theorem valsD_get (l : List Val) (i : Nat) : (valsD l)[i]? = (l[i]?).map Val.d := by simp [valsD_eq]
theorem fldsD_get (l : List Fld) (i : Nat) : (fldsD l)[i]? = (l[i]?).map Fld.d := by simp [fldsD_eq]
theorem Val.d_eq (v : Val) : v.d = .agg [.int .i64 v.kind, .int .i64 v.n, .str v.s, .list (valsD v.l), .list (fldsD v.f)] := by cases v; simp [Val.d, Val.kind, Val.n, Val.s, Val.l, Val.f]
theorem Fld.d_eq (x : Fld) : x.d = .agg [.str x.name, .int .i64 x.v.kind, .int .i64 x.v.n, .str x.v.s, .list (valsD x.v.l), .list (fldsD x.v.f)] := by cases x; simp [Fld.d, Fld.name, Fld.v, Val.d_eq, D.cells]

theorem size_l {v x : Val} (h : x ∈ v.l) : SizeOf.sizeOf x < SizeOf.sizeOf v := by
  cases v with
  | mk k n s l f =>
    have := List.sizeOf_lt_of_mem h
    simp only [Val.l] at this
    simp only [Val.mk.sizeOf_spec]
    omega
theorem size_f {v : Val} {x : Fld} (h : x ∈ v.f) : SizeOf.sizeOf x.v < SizeOf.sizeOf v := by
  cases v with
  | mk k n s l f =>
    have := List.sizeOf_lt_of_mem h
    simp only [Val.f] at this
    have h2 : SizeOf.sizeOf x.v < SizeOf.sizeOf x := by cases x; simp only [Fld.v, Fld.mk.sizeOf_spec]; omega
    simp only [Val.mk.sizeOf_spec]
    omega

mutual
/-- Its lists are no longer than that. -/
def Val.sm (m : Nat) : Val → Bool
  | .mk _ _ s l f => decide (s.length ≤ m) && (decide (l.length ≤ m) && (decide (f.length ≤ m) && (smL m l && smF m f)))
def smL (m : Nat) : List Val → Bool
  | [] => true
  | v :: r => v.sm m && smL m r
def Fld.sm (m : Nat) : Fld → Bool
  | .mk nm v => decide (nm.length ≤ m) && v.sm m
def smF (m : Nat) : List Fld → Bool
  | [] => true
  | x :: r => x.sm m && smF m r
end
theorem smL_iff {m : Nat} {l : List Val} : smL m l = true ↔ ∀ x ∈ l, x.sm m = true := by induction l with | nil => simp [smL] | cons v r ih => simp [smL, ih]
theorem smF_iff {m : Nat} {l : List Fld} : smF m l = true ↔ ∀ x ∈ l, x.sm m = true := by induction l with | nil => simp [smF] | cons v r ih => simp [smF, ih]
theorem Val.sm_iff {m : Nat} {v : Val} : v.sm m = true ↔ v.s.length ≤ m ∧ v.l.length ≤ m ∧ v.f.length ≤ m ∧ (∀ x ∈ v.l, x.sm m = true) ∧ ∀ x ∈ v.f, x.sm m = true := by
  cases v; simp [Val.sm, smL_iff, smF_iff, Val.s, Val.l, Val.f]
theorem Fld.sm_iff {m : Nat} {x : Fld} : x.sm m = true ↔ x.name.length ≤ m ∧ x.v.sm m = true := by
  cases x; simp [Fld.sm, Fld.name, Fld.v]

/-! ### How great -/
mutual
/-- Parts counted off; deep: how deep it stands. -/
def szV (deep : Nat) : Val → Int → Bool × Int
  | .mk _ _ _ l f, left =>
    if 8 < deep then (false, left - 1)
    else if left - 1 < 0 then (false, left - 1)
    else match szL (deep + 1) l (left - 1) with
      | (false, r) => (false, r)
      | (true, r) => szF (deep + 1) f r
def szL (deep : Nat) : List Val → Int → Bool × Int
  | [], left => (true, left)
  | v :: r, left => match szV deep v left with
    | (false, q) => (false, q)
    | (true, q) => szL deep r q
def szF (deep : Nat) : List Fld → Int → Bool × Int
  | [], left => (true, left)
  | .mk _ v :: r, left => match szV deep v left with
    | (false, q) => (false, q)
    | (true, q) => szF deep r q
end

mutual
theorem szV_bd (deep : Nat) : ∀ (v : Val) (left : Int), 0 ≤ left → -1 ≤ (szV deep v left).2 ∧ (szV deep v left).2 ≤ left ∧ ((szV deep v left).1 = true → 0 ≤ (szV deep v left).2)
  | .mk k n s l f, left, h => by
    unfold szV
    split
    · simp; omega
    · split
      · simp; omega
      · have h1 := szL_bd (deep + 1) l (left - 1) (by omega)
        split
        · rename_i r hr; rw [hr] at h1; simp at h1 ⊢; omega
        · rename_i r hr
          rw [hr] at h1
          simp at h1
          have h2 := szF_bd (deep + 1) f r h1.2.2
          refine ⟨h2.1, by omega, h2.2.2⟩
theorem szL_bd (deep : Nat) : ∀ (l : List Val) (left : Int), 0 ≤ left → -1 ≤ (szL deep l left).2 ∧ (szL deep l left).2 ≤ left ∧ ((szL deep l left).1 = true → 0 ≤ (szL deep l left).2)
  | [], left, h => by simp [szL]; omega
  | v :: r, left, h => by
    have h1 := szV_bd deep v left h
    unfold szL
    split
    · rename_i q hq; rw [hq] at h1; simp at h1 ⊢; omega
    · rename_i q hq
      rw [hq] at h1
      simp at h1
      have h2 := szL_bd deep r q h1.2.2
      exact ⟨h2.1, by omega, h2.2.2⟩
theorem szF_bd (deep : Nat) : ∀ (l : List Fld) (left : Int), 0 ≤ left → -1 ≤ (szF deep l left).2 ∧ (szF deep l left).2 ≤ left ∧ ((szF deep l left).1 = true → 0 ≤ (szF deep l left).2)
  | [], left, h => by simp [szF]; omega
  | .mk nm v :: r, left, h => by
    have h1 := szV_bd deep v left h
    unfold szF
    split
    · rename_i q hq; rw [hq] at h1; simp at h1 ⊢; omega
    · rename_i q hq
      rw [hq] at h1
      simp at h1
      have h2 := szF_bd deep r q h1.2.2
      exact ⟨h2.1, by omega, h2.2.2⟩
end

theorem szV_eq (deep : Nat) (v : Val) (left : Int) : szV deep v left = if 8 < deep then (false, left - 1) else if left - 1 < 0 then (false, left - 1) else
    match szL (deep + 1) v.l (left - 1) with
      | (false, r) => (false, r)
      | (true, r) => szF (deep + 1) v.f r := by
  cases v; simp only [szV, Val.l, Val.f]

/-- value.size -/
def L_value_size : LCode :=
  .seq (.reg [⟨some 3, .box (.t 0), none⟩, ⟨some 6, .asg (.k (.d (.bool false))), none⟩]) (.seq (.reg [⟨some 11, .val (.cp (.t 2)), none⟩, ⟨some 12, .val (.nck (.t 11)), none⟩, ⟨some 
  13, .val (.ld false 1 (.t 12)), none⟩, ⟨some 14, .val (.bin .sub (.t 13) (.k (.d (.int .i64 1)))), none⟩, ⟨some 15, .val (.nck (.t 11)), none⟩, ⟨none, .st 1 (.t 15) (.t 14), 
  none⟩]) (.seq (.seq (.reg [⟨some 16, .val (.cp (.t 1)), none⟩, ⟨some 17, .val (.bin .gtr (.t 16) (.k (.d (.int .i64 8)))), none⟩, ⟨some 18, .val (.cp (.t 17)), none⟩, ⟨some 19, 
  .val (.cp (.t 2)), some (18, false)⟩, ⟨some 20, .val (.nck (.t 19)), some (18, false)⟩, ⟨some 21, .val (.ld false 1 (.t 20)), some (18, false)⟩, ⟨some 22, .val (.bin .lss (.t 21) 
  (.k (.d (.int .i64 0)))), some (18, false)⟩, ⟨some 23, .val (.pick (.t 18) (.k (.d (.bool true))) (.t 22)), none⟩]) (.cond (.t 23) (.seq (.reg [⟨some 6, .asg (.k (.d (.bool 
  false))), none⟩]) .ret) .skip)) (.seq (.seq (.reg [⟨some 24, .val (.fa 3 (.t 3)), none⟩, ⟨some 25, .val (.ld false 1 (.t 24)), none⟩, ⟨some 26, .val (.len false (.t 25)), none⟩, 
  ⟨some 27, .val (.cp (.k (.d (.int .i64 0)))), none⟩]) (.block 0 (.loop (.seq (.reg [⟨some 28, .val (.bin .lss (.t 27) (.t 26)), none⟩]) (.seq (.cond (.t 28) .skip (.exit 0)) 
  (.seq (.block 1 (.seq (.reg [⟨some 29, .val (.ia 5 (.t 25) (.t 27)), none⟩, ⟨some 30, .val (.ld true 5 (.t 29)), none⟩, ⟨some 8, .allo [.int .i64 0, .int .i64 0, .str [], .list 
  [], .list []], none⟩, ⟨none, .st 5 (.t 8) (.t 30), none⟩]) (.seq (.reg [⟨some 31, .val (.ld true 5 (.t 8)), none⟩, ⟨some 32, .val (.cp (.t 1)), none⟩, ⟨some 33, .val (.bin .add 
  (.t 32) (.k (.d (.int .i64 1)))), none⟩, ⟨some 34, .val (.cp (.t 2)), none⟩, ⟨some 35, .prim .call [.k (.fn (.func 64) [] []), .t 31, .t 33, .t 34] [], none⟩, ⟨some 36, .val 
  (.not (.t 35)), none⟩]) (.cond (.t 36) (.seq (.reg [⟨some 6, .asg (.k (.d (.bool false))), none⟩]) .ret) .skip)))) (.reg [⟨some 37, .val (.bin .add (.t 27) (.k (.d (.int .i64 
  1)))), none⟩, ⟨some 27, .val (.cp (.t 37)), none⟩]))))))) (.seq (.seq (.reg [⟨some 38, .val (.fa 4 (.t 3)), none⟩, ⟨some 39, .val (.ld false 1 (.t 38)), none⟩, ⟨some 40, .val 
  (.len false (.t 39)), none⟩, ⟨some 41, .val (.cp (.k (.d (.int .i64 0)))), none⟩]) (.block 2 (.loop (.seq (.reg [⟨some 42, .val (.bin .lss (.t 41) (.t 40)), none⟩]) (.seq (.cond 
  (.t 42) .skip (.exit 2)) (.seq (.block 3 (.seq (.reg [⟨some 43, .val (.ia 6 (.t 39) (.t 41)), none⟩, ⟨some 44, .val (.ld true 6 (.t 43)), none⟩, ⟨some 10, .allo [.str [], .int 
  .i64 0, .int .i64 0, .str [], .list [], .list []], none⟩, ⟨none, .st 6 (.t 10) (.t 44), none⟩]) (.seq (.reg [⟨some 45, .val (.fa 1 (.t 10)), none⟩, ⟨some 46, .val (.ld true 5 (.t 
  45)), none⟩, ⟨some 47, .val (.cp (.t 1)), none⟩, ⟨some 48, .val (.bin .add (.t 47) (.k (.d (.int .i64 1)))), none⟩, ⟨some 49, .val (.cp (.t 2)), none⟩, ⟨some 50, .prim .call [.k 
  (.fn (.func 64) [] []), .t 46, .t 48, .t 49] [], none⟩, ⟨some 51, .val (.not (.t 50)), none⟩]) (.cond (.t 51) (.seq (.reg [⟨some 6, .asg (.k (.d (.bool false))), none⟩]) .ret) 
  .skip)))) (.reg [⟨some 52, .val (.bin .add (.t 41) (.k (.d (.int .i64 1)))), none⟩, ⟨some 41, .val (.cp (.t 52)), none⟩]))))))) (.seq (.reg [⟨some 6, .asg (.k (.d (.bool true))), 
  none⟩]) .ret)))))
def R_value_size : List LRes := [.tmp 6]
theorem lift_value_size : Lifts Try.prog 64 53 L_value_size R_value_size := ⟨_, _, Try.func64, rfl, by kernel_rfl, by kernel_rfl, rfl⟩

theorem size_call : ∀ (m : Nat) (v : Val), SizeOf.sizeOf v ≤ m → ∀ (deep : Nat) (left : Int), 1 ≤ deep → deep ≤ 9 → 0 ≤ left → left ≤ 300 → v.sm 1048576 = true →
    MCallE Try.prog 64 [.d v.d, .d (.int .i64 deep), .ptr (.x 0) 0] [.cells [.d (.int .i64 left)]] (.d (.bool (szV deep v left).1)) [.cells [.d (.int .i64 (szV deep v left).2)]] := by
  intro m
  induction m with
  | zero => intro v h; cases v; simp at h
  | succ m ih =>
    intro v hv deep left hd1 hd2 hl1 hl2 hsm
    obtain ⟨_, hll, hfl, hsl, hsf⟩ := Val.sm_iff.1 hsm
    have hvl := valsD_length v.l
    have hfl' := fldsD_length v.f
    generalize hR : szV deep v left = R
    rw [szV_eq] at hR
    rw [Val.d_eq]
    refine lift_value_size.mcall (by kernel_rfl) rfl ?_
    simp (maxSteps := 2000000) (disch := omega) only [go_sem, ↓reduceIte, L_value_size, R_value_size]
    refine ⟨fun h8 => ⟨fun h0 => ?_, fun h0 => ?_⟩, fun h8 => ?_⟩
    · rw [if_neg (by omega), if_pos (by omega)] at hR
      subst hR
      exact ⟨rfl, rfl⟩
    · rw [if_neg (by omega), if_neg (by omega)] at hR
      refine run_loop (fun y : Nat × Int => ⟨[(1, .d (.int .i64 deep)), (2, .ptr (.x 0) 0), (3, .ptr (.l 3) 0), (25, .d (.list (valsD v.l))), (26, .d (.int .i64 (valsD v.l).length)), (27, .d (.int .i64 y.1))],
          [(3, .cells [.d (.int .i64 v.kind), .d (.int .i64 v.n), .d (.str v.s), .d (.list (valsD v.l)), .d (.list (fldsD v.f))])], [(0, .cells [.d (.int .i64 y.2)])]⟩)
        (fun y => y.1 ≤ v.l.length ∧ 0 ≤ y.2 ∧ y.2 ≤ 300 ∧ (match szL (deep + 1) (v.l.drop y.1) y.2 with
          | (false, r) => (false, r)
          | (true, r) => szF (deep + 1) v.f r) = R) (fun y => v.l.length - y.1) (0, left - 1) ?_ ?_ ?_
      · refine Weak.mk ?_ ?_ ?_ <;> simp (maxSteps := 2000000) only [go_sem, ↓reduceIte, Sub, Int.natCast_add, Int.natCast_mul]
      · exact ⟨by simp, by simp only; omega, by simp only; omega, by simpa using hR⟩
      · rintro ⟨i, q⟩ ⟨hi, hq1, hq2, hF⟩
        simp only at hi hq1 hq2 hF
        simp (maxSteps := 2000000) only [go_sem, ↓reduceIte, hvl]
        refine ⟨fun hlt => ?_, fun hge => ?_⟩
        · obtain ⟨x, hx⟩ := get_some (l := v.l) (i := i) (by omega)
          rw [drop_at hx] at hF
          have hc := ih x (by have := size_l (List.mem_of_getElem? hx); omega) (deep + 1) q (by omega) (by omega) hq1 hq2 (hsl x (List.mem_of_getElem? hx))
          have hbd := szV_bd (deep + 1) x q hq1
          unfold szL at hF
          rw [Val.d_eq] at hc
          generalize hS : szV (deep + 1) x q = S at hc hbd hF
          obtain ⟨sb, sq⟩ := S
          simp only [Int.natCast_add, Int.natCast_one] at hc
          simp (maxSteps := 2000000) (disch := omega) only [go_sem, ↓reduceIte, getI_nat, valsD_get, hx, Val.d_eq]
          refine PrimG.mcall ([.x 0]) ([]) rfl (hc) rfl rfl (by simp only [objsAt, St.obj, aget, AObj.ren, AV.ren, AV.ren1, renL, ren1L, renR, renQ, List.getD_cons_zero, List.getD_cons_succ, and_true, and_self, Nat.reduceEqDiff, ↓reduceIte, reduceCtorEq]) rfl rfl rfl ⟨rfl, rfl⟩ ?_
          cases sb
          · simp only at hF
            subst hF
            simp (maxSteps := 2000000) only [go_sem, ↓reduceIte]
          · simp only at hF hbd
            simp (maxSteps := 2000000) (disch := omega) only [go_sem, ↓reduceIte]
            refine ⟨(i + 1, sq), ?_, ⟨by simp only; omega, by simp only; exact hbd.2.2 trivial, by simp only; omega, hF⟩, by simp only; omega⟩
            refine Weak.mk ?_ ?_ ?_ <;> simp (maxSteps := 2000000) only [go_sem, ↓reduceIte, Sub, Int.natCast_add, Int.natCast_mul, hvl]
        · have h0' : v.l.drop i = [] := List.drop_eq_nil_of_le (by omega)
          rw [h0'] at hF
          simp only [szL] at hF
          refine run_loop (fun y : Nat × Int => ⟨[(1, .d (.int .i64 deep)), (2, .ptr (.x 0) 0), (3, .ptr (.l 3) 0), (39, .d (.list (fldsD v.f))), (40, .d (.int .i64 (fldsD v.f).length)), (41, .d (.int .i64 y.1))],
              [(3, .cells [.d (.int .i64 v.kind), .d (.int .i64 v.n), .d (.str v.s), .d (.list (valsD v.l)), .d (.list (fldsD v.f))])], [(0, .cells [.d (.int .i64 y.2)])]⟩)
            (fun y => y.1 ≤ v.f.length ∧ 0 ≤ y.2 ∧ y.2 ≤ 300 ∧ szF (deep + 1) (v.f.drop y.1) y.2 = R) (fun y => v.f.length - y.1) (0, q) ?_ ?_ ?_
          · refine Weak.mk ?_ ?_ ?_ <;> simp (maxSteps := 2000000) only [go_sem, ↓reduceIte, Sub, Int.natCast_add, Int.natCast_mul]
          · exact ⟨by simp, hq1, hq2, by simpa using hF⟩
          · rintro ⟨j, q'⟩ ⟨hj, hr1, hr2, hG⟩
            simp only at hj hr1 hr2 hG
            simp (maxSteps := 2000000) only [go_sem, ↓reduceIte, hfl']
            refine ⟨fun hlt => ?_, fun hge => ?_⟩
            · obtain ⟨x, hx⟩ := get_some (l := v.f) (i := j) (by omega)
              rw [drop_at hx] at hG
              have hc := ih x.v (by have := size_f (List.mem_of_getElem? hx); omega) (deep + 1) q' (by omega) (by omega) hr1 hr2 (Fld.sm_iff.1 (hsf x (List.mem_of_getElem? hx))).2
              have hbd := szV_bd (deep + 1) x.v q' hr1
              have hG' : (match szV (deep + 1) x.v q' with
                  | (false, q) => (false, q)
                  | (true, q) => szF (deep + 1) (v.f.drop (j + 1)) q) = R := by
                rw [← hG]; cases x; simp only [szF, Fld.v]
              rw [Val.d_eq] at hc
              generalize hS : szV (deep + 1) x.v q' = S at hc hbd hG'
              obtain ⟨sb, sq⟩ := S
              simp only [Int.natCast_add, Int.natCast_one] at hc
              simp (maxSteps := 2000000) (disch := omega) only [go_sem, ↓reduceIte, getI_nat, fldsD_get, hx, Fld.d_eq]
              refine PrimG.mcall ([.x 0]) ([]) rfl (hc) rfl rfl (by simp only [objsAt, St.obj, aget, AObj.ren, AV.ren, AV.ren1, renL, ren1L, renR, renQ, List.getD_cons_zero, List.getD_cons_succ, and_true, and_self, Nat.reduceEqDiff, ↓reduceIte, reduceCtorEq]) rfl rfl rfl ⟨rfl, rfl⟩ ?_
              cases sb
              · simp only at hG'
                subst hG'
                simp (maxSteps := 2000000) only [go_sem, ↓reduceIte]
              · simp only at hG' hbd
                simp (maxSteps := 2000000) (disch := omega) only [go_sem, ↓reduceIte]
                refine ⟨(j + 1, sq), ?_, ⟨by simp only; omega, by simp only; exact hbd.2.2 trivial, by simp only; omega, hG'⟩, by simp only; omega⟩
                refine Weak.mk ?_ ?_ ?_ <;> simp (maxSteps := 2000000) only [go_sem, ↓reduceIte, Sub, Int.natCast_add, Int.natCast_mul, hfl']
            · have h0' : v.f.drop j = [] := List.drop_eq_nil_of_le (by omega)
              rw [h0'] at hG
              simp only [szF] at hG
              subst hG
              simp (maxSteps := 2000000) only [go_sem, ↓reduceIte]
    · rw [if_pos (by omega)] at hR
      subst hR
      exact ⟨rfl, rfl⟩
end Go.Av.Try
