import Derived.Test.YtbfljokjkcdbeaaEVal3
/- Values of a file: which ones are well, walked. -/
set_option linter.unusedSimpArgs false
namespace Go.Av.Try
open Go.Proofs

mutual
/-- Is it a value? -/
def wellV : Val → Bool
  | .mk k n s l f =>
    let n0 := decide (n = 0)
    let s0 := decide (s = [])
    let l0 := decide (l.length = 0)
    let f0 := decide (f.length = 0)
    if k = 0 then n0 && (s0 && (l0 && f0))
    else if k = 1 then (decide (n = 0) || decide (n = 1)) && (s0 && (l0 && f0))
    else if k = 2 then decide (Lim n) && (s0 && (l0 && f0))
    else if k = 3 then n0 && (decide (s.length ≤ 200) && (l0 && f0))
    else if k = 4 then n0 && (nameMay s && (l0 && f0))
    else if k = 5 then n0 && (s0 && (wellL l && f0))
    else if k = 6 then n0 && (s0 && (l0 && wellF none f))
    else if k = 7 then decide (1 ≤ n ∧ n ≤ 60) && (s0 && (l0 && f0))
    else false
def wellL : List Val → Bool
  | [] => true
  | v :: r => wellV v && wellL r
/-- Fields by rising names; the name ahead. -/
def wellF (p : Option (List UInt8)) : List Fld → Bool
  | [] => true
  | .mk nm v :: r => (nameMay nm && (wellV v && (match p with | some q => Op.bytesLess q nm | none => true))) && wellF (some nm) r
end
theorem wellL_eq (l : List Val) : wellL l = !l.any (fun v => !wellV v) := by
  induction l with
  | nil => rfl
  | cons v r ih => simp [wellL, ih]
theorem wellV_eq (v : Val) : wellV v = (
    let n0 := decide (v.n = 0)
    let s0 := decide (v.s = [])
    let l0 := decide (v.l.length = 0)
    let f0 := decide (v.f.length = 0)
    if v.kind = 0 then n0 && (s0 && (l0 && f0))
    else if v.kind = 1 then (decide (v.n = 0) || decide (v.n = 1)) && (s0 && (l0 && f0))
    else if v.kind = 2 then decide (Lim v.n) && (s0 && (l0 && f0))
    else if v.kind = 3 then n0 && (decide (v.s.length ≤ 200) && (l0 && f0))
    else if v.kind = 4 then n0 && (nameMay v.s && (l0 && f0))
    else if v.kind = 5 then n0 && (s0 && (wellL v.l && f0))
    else if v.kind = 6 then n0 && (s0 && (l0 && wellF none v.f))
    else if v.kind = 7 then decide (1 ≤ v.n ∧ v.n ≤ 60) && (s0 && (l0 && f0))
    else false) := by cases v; unfold wellV; rfl

theorem wellF_snoc {p : Option (List UInt8)} {l : List Fld} {x : Fld} : wellF p (l ++ [x]) = (wellF p l && (nameMay x.name && (wellV x.v && (match (l.getLast?.map Fld.name).or p with | some q => Op.bytesLess q x.name | none => true)))) := by
  induction l generalizing p with
  | nil => cases x; simp [wellF, Fld.name, Fld.v]
  | cons y r ih =>
    cases y with
    | mk nm v =>
      simp only [List.cons_append, wellF, ih, Bool.and_assoc]
      cases r with
      | nil => simp [Fld.name]
      | cons z r =>
        have h1 : ∀ q : Option (List UInt8), ((z :: r).getLast?.map Fld.name).or q = (z :: r).getLast?.map Fld.name := fun q => by
          rw [List.getLast?_eq_some_getLast (by simp)]; rfl
        have h2 : (Fld.mk nm v :: z :: r).getLast? = (z :: r).getLast? := List.getLast?_cons_cons
        rw [h2, h1, h1]

theorem wellF_take {l : List Fld} {i : Nat} {x : Fld} (hx : l[i]? = some x) : wellF none (l.take (i + 1)) = (wellF none (l.take i) && (nameMay x.name && (wellV x.v && (match l[i - 1]? with | some y => if i = 0 then true else Op.bytesLess y.name x.name | none => true)))) := by
  have hl : i < l.length := (List.getElem?_eq_some_iff.1 hx).1
  rw [List.take_add_one, hx]
  simp only [Option.toList_some]
  rw [wellF_snoc]
  congr 3
  by_cases h0 : i = 0
  · subst h0; simp; cases l[0]? <;> rfl
  · have : (l.take i).getLast? = l[i - 1]? := by
      rw [List.getLast?_eq_getElem?, List.length_take, List.getElem?_take]
      have : min i l.length = i := by omega
      rw [this, if_pos (by omega)]
    rw [this]
    cases hy : l[i - 1]? with
    | none => rfl
    | some y => simp [h0]

theorem kinds (k : Int) : k = 0 ∨ k = 1 ∨ k = 2 ∨ k = 3 ∨ k = 4 ∨ k = 5 ∨ k = 6 ∨ k = 7 ∨ (k ≠ 0 ∧ k ≠ 1 ∧ k ≠ 2 ∧ k ≠ 3 ∧ k ≠ 4 ∧ k ≠ 5 ∧ k ≠ 6 ∧ k ≠ 7) := by omega

/-- value.well -/
def L_value_well : LCode :=
  .seq (.reg [⟨some 1, .box (.t 0), none⟩, ⟨some 2, .asg (.k (.d (.bool false))), none⟩]) (.seq (.dreg [⟨some 9, .val (.fa 1 (.t 1)), none⟩, ⟨some 10, .val (.ld false 1 (.t 9)), 
  none⟩, ⟨some 11, .val (.bin .eql (.t 10) (.k (.d (.int .i64 0)))), none⟩, ⟨some 12, .val (.fa 2 (.t 1)), none⟩, ⟨some 13, .val (.ld false 1 (.t 12)), none⟩, ⟨some 14, .val (.bin 
  .eql (.t 13) (.k (.d (.str [])))), none⟩, ⟨some 15, .val (.fa 3 (.t 1)), none⟩, ⟨some 16, .val (.ld false 1 (.t 15)), none⟩, ⟨some 17, .val (.len false (.t 16)), none⟩, ⟨some 18, 
  .val (.bin .eql (.t 17) (.k (.d (.int .i64 0)))), none⟩, ⟨some 19, .val (.fa 4 (.t 1)), none⟩, ⟨some 20, .val (.ld false 1 (.t 19)), none⟩, ⟨some 21, .val (.len false (.t 20)), 
  none⟩, ⟨some 22, .val (.bin .eql (.t 21) (.k (.d (.int .i64 0)))), none⟩, ⟨some 3, .val (.cp (.t 11)), none⟩, ⟨some 4, .val (.cp (.t 14)), none⟩, ⟨some 5, .val (.cp (.t 18)), 
  none⟩, ⟨some 6, .val (.cp (.t 22)), none⟩]) (.seq (.seq (.reg [⟨some 23, .val (.fa 0 (.t 1)), none⟩, ⟨some 24, .val (.ld false 1 (.t 23)), none⟩]) (.block 0 (.seq (.reg [⟨some 
  26, .val (.bin .eql (.t 24) (.k (.d (.int .i64 0)))), none⟩, ⟨some 25, .asg (.t 26), none⟩]) (.cond (.t 25) .skip (.seq (.reg [⟨some 28, .val (.bin .eql (.t 24) (.k (.d (.int 
  .i64 1)))), none⟩, ⟨some 27, .asg (.t 28), none⟩]) (.cond (.t 27) (.reg [⟨some 29, .val (.fa 1 (.t 1)), none⟩, ⟨some 30, .val (.ld false 1 (.t 29)), none⟩, ⟨some 31, .val (.bin 
  .eql (.t 30) (.k (.d (.int .i64 0)))), none⟩, ⟨some 32, .val (.cp (.t 31)), none⟩, ⟨some 33, .val (.fa 1 (.t 1)), some (32, false)⟩, ⟨some 34, .val (.ld false 1 (.t 33)), some 
  (32, false)⟩, ⟨some 35, .val (.bin .eql (.t 34) (.k (.d (.int .i64 1)))), some (32, false)⟩, ⟨some 36, .val (.pick (.t 32) (.k (.d (.bool true))) (.t 35)), none⟩, ⟨some 3, .asg 
  (.t 36), none⟩]) (.seq (.reg [⟨some 38, .val (.bin .eql (.t 24) (.k (.d (.int .i64 2)))), none⟩, ⟨some 37, .asg (.t 38), none⟩]) (.cond (.t 37) (.reg [⟨some 39, .val (.fa 1 (.t 
  1)), none⟩, ⟨some 40, .val (.ld false 1 (.t 39)), none⟩, ⟨some 41, .call 88 [.t 40], none⟩, ⟨some 42, .val (.eqN 0 false (.t 41)), none⟩, ⟨some 3, .asg (.t 42), none⟩]) (.seq 
  (.reg [⟨some 44, .val (.bin .eql (.t 24) (.k (.d (.int .i64 3)))), none⟩, ⟨some 43, .asg (.t 44), none⟩]) (.cond (.t 43) (.reg [⟨some 45, .val (.fa 2 (.t 1)), none⟩, ⟨some 46, 
  .val (.ld false 1 (.t 45)), none⟩, ⟨some 47, .val (.len true (.t 46)), none⟩, ⟨some 48, .val (.bin .leq (.t 47) (.k (.d (.int .i64 200)))), none⟩, ⟨some 4, .asg (.t 48), none⟩]) 
  (.seq (.reg [⟨some 50, .val (.bin .eql (.t 24) (.k (.d (.int .i64 4)))), none⟩, ⟨some 49, .asg (.t 50), none⟩]) (.cond (.t 49) (.reg [⟨some 51, .val (.fa 2 (.t 1)), none⟩, ⟨some 
  52, .val (.ld false 1 (.t 51)), none⟩, ⟨some 53, .call 81 [.t 52], none⟩, ⟨some 4, .asg (.t 53), none⟩]) (.seq (.reg [⟨some 55, .val (.bin .eql (.t 24) (.k (.d (.int .i64 5)))), 
  none⟩, ⟨some 54, .asg (.t 55), none⟩]) (.cond (.t 54) (.reg [⟨some 56, .val (.fa 3 (.t 1)), none⟩, ⟨some 57, .val (.ld false 1 (.t 56)), none⟩, ⟨some 58, .prim .call [.k (.fn 
  (.func 89) [] []), .t 57, .k (.fn (.func 90) [] [])] [], none⟩, ⟨some 59, .val (.not (.t 58)), none⟩, ⟨some 5, .asg (.t 59), none⟩]) (.seq (.reg [⟨some 61, .val (.bin .eql (.t 
  24) (.k (.d (.int .i64 6)))), none⟩, ⟨some 60, .asg (.t 61), none⟩]) (.cond (.t 60) (.seq (.reg [⟨some 62, .val (.fa 4 (.t 1)), none⟩, ⟨some 63, .val (.ld false 1 (.t 62)), 
  none⟩, ⟨some 64, .val (.len false (.t 63)), none⟩, ⟨some 65, .val (.cp (.k (.d (.int .i64 0)))), none⟩]) (.block 1 (.loop (.seq (.reg [⟨some 66, .val (.bin .lss (.t 65) (.t 64)), 
  none⟩]) (.seq (.cond (.t 66) .skip (.exit 1)) (.seq (.block 2 (.seq (.reg [⟨some 67, .val (.cp (.t 65)), none⟩, ⟨some 68, .val (.ia 6 (.t 63) (.t 65)), none⟩, ⟨some 69, .val (.ld 
  true 6 (.t 68)), none⟩, ⟨some 8, .allo [.str [], .int .i64 0, .int .i64 0, .str [], .list [], .list []], none⟩, ⟨some 7, .asg (.t 67), none⟩, ⟨none, .st 6 (.t 8) (.t 69), none⟩]) 
  (.dreg [⟨some 70, .val (.cp (.t 7)), none⟩, ⟨some 71, .val (.bin .eql (.t 70) (.k (.d (.int .i64 0)))), none⟩, ⟨some 72, .val (.cp (.t 71)), none⟩, ⟨some 73, .val (.cp (.t 6)), 
  some (72, false)⟩, ⟨some 74, .val (.pick (.t 72) (.k (.d (.bool true))) (.t 73)), none⟩, ⟨some 75, .val (.cp (.t 74)), none⟩, ⟨some 76, .val (.fa 0 (.t 8)), some (75, true)⟩, 
  ⟨some 77, .val (.ld false 1 (.t 76)), some (75, true)⟩, ⟨some 78, .call 81 [.t 77], some (75, true)⟩, ⟨some 79, .val (.pick (.t 75) (.t 78) (.k (.d (.bool false)))), none⟩, ⟨some 
  80, .val (.cp (.t 79)), none⟩, ⟨some 81, .val (.fa 1 (.t 8)), some (80, true)⟩, ⟨some 82, .val (.ld true 5 (.t 81)), some (80, true)⟩, ⟨some 83, .call 65 [.t 82], some (80, 
  true)⟩, ⟨some 84, .val (.pick (.t 80) (.t 83) (.k (.d (.bool false)))), none⟩, ⟨some 85, .val (.cp (.t 84)), none⟩, ⟨some 86, .val (.cp (.t 7)), some (85, true)⟩, ⟨some 87, .val 
  (.bin .eql (.t 86) (.k (.d (.int .i64 0)))), some (85, true)⟩, ⟨some 88, .val (.cp (.t 87)), some (85, true)⟩, ⟨some 89, .val (.fa 4 (.t 1)), some (88, false)⟩, ⟨some 90, .val 
  (.ld false 1 (.t 89)), some (88, false)⟩, ⟨some 91, .val (.cp (.t 7)), some (88, false)⟩, ⟨some 92, .val (.bin .sub (.t 91) (.k (.d (.int .i64 1)))), some (88, false)⟩, ⟨some 93, 
  .val (.ia 6 (.t 90) (.t 92)), some (88, false)⟩, ⟨some 94, .val (.fa 0 (.t 93)), some (88, false)⟩, ⟨some 95, .val (.ld false 1 (.t 94)), some (88, false)⟩, ⟨some 96, .val (.fa 0 
  (.t 8)), some (88, false)⟩, ⟨some 97, .val (.ld false 1 (.t 96)), some (88, false)⟩, ⟨some 98, .val (.bin .lss (.t 95) (.t 97)), some (88, false)⟩, ⟨some 99, .val (.pick (.t 88) 
  (.k (.d (.bool true))) (.t 98)), some (85, true)⟩, ⟨some 100, .val (.pick (.t 85) (.t 99) (.k (.d (.bool false)))), none⟩, ⟨some 6, .asg (.t 100), none⟩]))) (.reg [⟨some 101, 
  .val (.bin .add (.t 65) (.k (.d (.int .i64 1)))), none⟩, ⟨some 65, .val (.cp (.t 101)), none⟩]))))))) (.seq (.reg [⟨some 103, .val (.bin .eql (.t 24) (.k (.d (.int .i64 7)))), 
  none⟩, ⟨some 102, .asg (.t 103), none⟩]) (.cond (.t 102) (.reg [⟨some 104, .val (.fa 1 (.t 1)), none⟩, ⟨some 105, .val (.ld false 1 (.t 104)), none⟩, ⟨some 106, .val (.bin .geq 
  (.t 105) (.k (.d (.int .i64 1)))), none⟩, ⟨some 107, .val (.cp (.t 106)), none⟩, ⟨some 108, .val (.fa 1 (.t 1)), some (107, true)⟩, ⟨some 109, .val (.ld false 1 (.t 108)), some 
  (107, true)⟩, ⟨some 110, .val (.bin .leq (.t 109) (.k (.d (.int .i64 60)))), some (107, true)⟩, ⟨some 111, .val (.pick (.t 107) (.t 110) (.k (.d (.bool false)))), none⟩, ⟨some 3, 
  .asg (.t 111), none⟩]) (.seq (.reg [⟨some 2, .asg (.k (.d (.bool false))), none⟩]) .ret))))))))))))))))))) (.seq (.reg [⟨some 112, .val (.cp (.t 3)), none⟩, ⟨some 113, .val (.cp 
  (.t 112)), none⟩, ⟨some 114, .val (.cp (.t 4)), some (113, true)⟩, ⟨some 115, .val (.pick (.t 113) (.t 114) (.k (.d (.bool false)))), none⟩, ⟨some 116, .val (.cp (.t 115)), 
  none⟩, ⟨some 117, .val (.cp (.t 5)), some (116, true)⟩, ⟨some 118, .val (.pick (.t 116) (.t 117) (.k (.d (.bool false)))), none⟩, ⟨some 119, .val (.cp (.t 118)), none⟩, ⟨some 
  120, .val (.cp (.t 6)), some (119, true)⟩, ⟨some 121, .val (.pick (.t 119) (.t 120) (.k (.d (.bool false)))), none⟩, ⟨some 2, .asg (.t 121), none⟩]) .ret)))
def R_value_well : List LRes := [.tmp 2]
theorem lift_value_well : Lifts Try.prog 65 122 L_value_well R_value_well := ⟨_, _, Try.func65, rfl, by kernel_rfl, by kernel_rfl, rfl⟩

/-- value.well$1 -/
def L_value_well_1 : LCode :=
  .seq (.reg [⟨some 1, .box (.t 0), none⟩, ⟨some 2, .asg (.k (.d (.bool false))), none⟩]) (.seq (.reg [⟨some 3, .val (.ld true 5 (.t 1)), none⟩, ⟨some 4, .call 65 [.t 3], none⟩, 
  ⟨some 5, .val (.not (.t 4)), none⟩, ⟨some 2, .asg (.t 5), none⟩]) .ret)
def R_value_well_1 : List LRes := [.tmp 2]
theorem lift_value_well_1 : Lifts Try.prog 90 6 L_value_well_1 R_value_well_1 := ⟨_, _, Try.func90, rfl, by kernel_rfl, by kernel_rfl, rfl⟩

theorem well_call : ∀ (m : Nat) (v : Val), SizeOf.sizeOf v ≤ m → v.sm 1048576 = true → PCall Try.prog 65 [v.d] (fun r => r = .one (.bool (wellV v))) := by
  intro m
  induction m with
  | zero => intro v h; cases v; simp at h
  | succ m ih =>
    intro v hv hsm
    obtain ⟨_, hll, hfl, hsl, hsf⟩ := Val.sm_iff.1 hsm
    have hvl := valsD_length v.l
    have hfl' := fldsD_length v.f
    have hcl : ∀ x ∈ v.l, PCall Try.prog 90 [x.d] (fun r => r = .one (.bool (!wellV x))) := fun x hx => by
      have hc := ih x (by have := size_l hx; omega) (hsl x hx)
      rw [Val.d_eq] at hc ⊢
      refine lift_value_well_1.call rfl ?_
      simp (maxSteps := 2000000) only [go_sem, ↓reduceIte, L_value_well_1, R_value_well_1]
      refine CallG.of hc ?_
      simp (maxSteps := 2000000) only [go_sem, ↓reduceIte]
    generalize hR : wellV v = R
    rw [wellV_eq] at hR
    have cast0 : ∀ a : Nat, ((a : Int) = 0) = (a = 0) := fun a => by apply propext; omega
    rw [Val.d_eq]
    rcases kinds v.kind with hk | hk | hk | hk | hk | hk | hk | hk | hk
    · refine lift_value_well.call rfl ?_
      rw [hk] at hR
      simp only [Int.reduceEq, ↓reduceIte] at hR
      simp (maxSteps := 2000000) only [go_sem, ↓reduceIte, L_value_well, R_value_well, hk, hvl, hfl']
      subst hR
      simp only [cast0]
      by_cases c1 : v.n = 0 <;> by_cases c2 : v.s = [] <;> by_cases c3 : v.l.length = 0 <;> by_cases c4 : v.f.length = 0 <;> simp [c1, c2, c3, c4]
    · refine lift_value_well.call rfl ?_
      rw [hk] at hR
      simp only [Int.reduceEq, ↓reduceIte] at hR
      simp (maxSteps := 2000000) only [go_sem, ↓reduceIte, L_value_well, R_value_well, hk, hvl, hfl']
      subst hR
      simp only [cast0]
      by_cases c1 : v.n = 0 <;> by_cases c2 : v.s = [] <;> by_cases c3 : v.l.length = 0 <;> by_cases c4 : v.f.length = 0 <;> simp [c1, c2, c3, c4]
    · refine lift_value_well.call rfl ?_
      rw [hk] at hR
      simp only [Int.reduceEq, ↓reduceIte] at hR
      simp (maxSteps := 2000000) only [go_sem, ↓reduceIte, L_value_well, R_value_well, hk, hvl, hfl']
      by_cases hL : Lim v.n
      · refine CallG.of (check_ok hL) ?_
        simp (maxSteps := 2000000) only [go_sem, ↓reduceIte]
        subst hR
        simp only [cast0]
        by_cases c2 : v.s = [] <;> by_cases c3 : v.l.length = 0 <;> by_cases c4 : v.f.length = 0 <;> simp [hL, c2, c3, c4]
      · refine CallG.of (check_bad hL) ?_
        simp (maxSteps := 2000000) only [go_sem, ↓reduceIte, err]
        subst hR
        simp [hL]
    · refine lift_value_well.call rfl ?_
      rw [hk] at hR
      simp only [Int.reduceEq, ↓reduceIte] at hR
      simp (maxSteps := 2000000) only [go_sem, ↓reduceIte, L_value_well, R_value_well, hk, hvl, hfl']
      subst hR
      simp only [cast0]
      have c5 : ((v.s.length : Int) ≤ 200) = (v.s.length ≤ 200) := by apply propext; omega
      simp only [c5]
      by_cases c1 : v.n = 0 <;> by_cases c2 : v.s.length ≤ 200 <;> by_cases c3 : v.l.length = 0 <;> by_cases c4 : v.f.length = 0 <;> simp [c1, c2, c3, c4]
    · refine lift_value_well.call rfl ?_
      rw [hk] at hR
      simp only [Int.reduceEq, ↓reduceIte] at hR
      simp (maxSteps := 2000000) only [go_sem, ↓reduceIte, L_value_well, R_value_well, hk, hvl, hfl']
      refine CallG.of (nameMay_call v.s) ?_
      simp (maxSteps := 2000000) only [go_sem, ↓reduceIte]
      subst hR
      simp only [cast0]
      by_cases c1 : v.n = 0 <;> cases c2 : nameMay v.s <;> by_cases c3 : v.l.length = 0 <;> by_cases c4 : v.f.length = 0 <;> simp [c1, c3, c4]
    · refine lift_value_well.call rfl ?_
      rw [hk] at hR
      simp only [Int.reduceEq, ↓reduceIte] at hR
      simp (maxSteps := 2000000) only [go_sem, ↓reduceIte, L_value_well, R_value_well, hk, hvl, hfl']
      refine PrimG.mcall ([]) ([]) rfl (containsFunc_call 90 (by kernel_rfl) v.l (by omega) _ hcl) rfl rfl (by simp only [objsAt, St.obj, aget, AObj.ren, AV.ren, AV.ren1, renL, ren1L, renR, renQ, List.getD_cons_zero, List.getD_cons_succ, and_true, and_self, Nat.reduceEqDiff, ↓reduceIte, reduceCtorEq]) rfl rfl rfl ⟨rfl, rfl⟩ ?_
      simp (maxSteps := 2000000) only [go_sem, ↓reduceIte]
      subst hR
      rw [wellL_eq]
      simp only [cast0]
      by_cases c1 : v.n = 0 <;> by_cases c2 : v.s = [] <;> cases c3 : v.l.any (fun v => !wellV v) <;> by_cases c4 : v.f.length = 0 <;> simp [c1, c2, c4]
    · refine lift_value_well.call rfl ?_
      rw [hk] at hR
      simp only [Int.reduceEq, ↓reduceIte] at hR
      simp (maxSteps := 2000000) only [go_sem, ↓reduceIte, L_value_well, R_value_well, hk, hvl, hfl']
      refine run_loop (fun y : Nat × Bool => ⟨[(1, .ptr (.l 1) 0), (3, .d (.bool (decide (v.n = 0)))), (4, .d (.bool (decide (v.s = [])))), (5, .d (.bool (decide ((v.l.length : Int) = 0)))), (6, .d (.bool y.2)), (63, .d (.list (fldsD v.f))), (64, .d (.int .i64 v.f.length)), (65, .d (.int .i64 y.1))],
          [(1, .cells [.d (.int .i64 6), .d (.int .i64 v.n), .d (.str v.s), .d (.list (valsD v.l)), .d (.list (fldsD v.f))])], []⟩)
        (fun y => y.1 ≤ v.f.length ∧ (y.1 = 0 → y.2 = decide (v.f.length = 0)) ∧ (y.1 ≠ 0 → y.2 = wellF none (v.f.take y.1))) (fun y => v.f.length - y.1) (0, decide (v.f.length = 0)) ?_ ?_ ?_
      · refine Weak.mk ?_ ?_ ?_ <;> simp (maxSteps := 2000000) only [go_sem, ↓reduceIte, Sub, Int.natCast_add, Int.natCast_mul, cast0]
      · exact ⟨by simp, fun _ => rfl, fun h => absurd rfl h⟩
      · rintro ⟨i, fb⟩ ⟨hi, hz, hnz⟩
        simp only at hi hz hnz
        simp (maxSteps := 2000000) only [go_sem, ↓reduceIte]
        refine ⟨fun hlt => ?_, fun hge => ?_⟩
        · obtain ⟨x, hx⟩ := get_some (l := v.f) (i := i) (by omega)
          have hsx := Fld.sm_iff.1 (hsf x (List.mem_of_getElem? hx))
          have hc := ih x.v (by have := size_f (List.mem_of_getElem? hx); omega) hsx.2
          have hn := nameMay_call x.name
          rw [Val.d_eq] at hc
          have hstep : wellF none (v.f.take (i + 1)) = (wellF none (v.f.take i) && (nameMay x.name && (wellV x.v && (match v.f[i - 1]? with | some y => if i = 0 then true else Op.bytesLess y.name x.name | none => true)))) := wellF_take hx
          simp (maxSteps := 2000000) (disch := omega) only [go_sem, ↓reduceIte, getI_nat, fldsD_get, hx, Fld.d_eq]
          refine ⟨fun g1 => ?_, fun g1 => ?_⟩
          · have i0 : i ≠ 0 := by omega
            have hfb := hnz i0
            obtain ⟨y, hy⟩ := get_some (l := v.f) (i := i - 1) (by omega)
            have hgy : getI (fldsD v.f) ((i : Int) - 1) = some y.d := by
              have : (i : Int) - 1 = ((i - 1 : Nat) : Int) := by omega
              rw [this, getI_nat, fldsD_get, hy]; rfl
            rw [hy] at hstep
            simp only [i0, if_false, ← hfb] at hstep
            refine ⟨fun f1 => ?_, fun f1 => ?_⟩
            · refine CallD.of hn ?_
              simp (maxSteps := 2000000) (disch := omega) only [go_sem, ↓reduceIte]
              refine ⟨fun n1 => ?_, fun n1 => ?_⟩
              · refine CallD.of hc ?_
                simp (maxSteps := 2000000) (disch := omega) only [go_sem, ↓reduceIte]
                refine ⟨fun w1 => ?_, fun w1 => ?_⟩
                · simp (maxSteps := 2000000) (disch := omega) only [go_sem, ↓reduceIte, g1, hgy, Fld.d_eq]
                  refine ⟨(i + 1, Op.bytesLess y.name x.name), ?_, ⟨by simp only; omega, fun h => absurd h (by simp), fun _ => ?_⟩, by simp only; omega⟩
                  · refine Weak.mk ?_ ?_ ?_ <;> simp (maxSteps := 2000000) only [go_sem, ↓reduceIte, Sub, Int.natCast_add, Int.natCast_mul]
                  · rw [hstep]; simp [f1, n1, w1]
                · refine ⟨(i + 1, false), ?_, ⟨by simp only; omega, fun h => absurd h (by simp), fun _ => ?_⟩, by simp only; omega⟩
                  · refine Weak.mk ?_ ?_ ?_ <;> simp (maxSteps := 2000000) only [go_sem, ↓reduceIte, Sub, Int.natCast_add, Int.natCast_mul]
                  · rw [hstep]; simp [w1]
              · refine ⟨(i + 1, false), ?_, ⟨by simp only; omega, fun h => absurd h (by simp), fun _ => ?_⟩, by simp only; omega⟩
                · refine Weak.mk ?_ ?_ ?_ <;> simp (maxSteps := 2000000) only [go_sem, ↓reduceIte, Sub, Int.natCast_add, Int.natCast_mul]
                · rw [hstep]; simp [n1]
            · refine ⟨(i + 1, false), ?_, ⟨by simp only; omega, fun h => absurd h (by simp), fun _ => ?_⟩, by simp only; omega⟩
              · refine Weak.mk ?_ ?_ ?_ <;> simp (maxSteps := 2000000) only [go_sem, ↓reduceIte, Sub, Int.natCast_add, Int.natCast_mul]
              · rw [hstep]; simp [f1]
          · have i0 : i = 0 := by omega
            subst i0
            refine CallD.of hn ?_
            simp (maxSteps := 2000000) (disch := omega) only [go_sem, ↓reduceIte]
            refine ⟨fun n1 => ?_, fun n1 => ?_⟩
            · refine CallD.of hc ?_
              simp (maxSteps := 2000000) (disch := omega) only [go_sem, ↓reduceIte]
              refine ⟨fun w1 => ?_, fun w1 => ?_⟩
              · skip
                refine ⟨(1, true), ?_, ⟨by simp only; omega, fun h => absurd h (by simp), fun _ => ?_⟩, by simp only; omega⟩
                · refine Weak.mk ?_ ?_ ?_ <;> simp (maxSteps := 2000000) only [go_sem, ↓reduceIte, Sub, Int.natCast_add, Int.natCast_mul]
                · rw [hstep]; simp [n1, w1, wellF]; cases v.f[0]? <;> rfl
              · skip
                refine ⟨(1, false), ?_, ⟨by simp only; omega, fun h => absurd h (by simp), fun _ => ?_⟩, by simp only; omega⟩
                · refine Weak.mk ?_ ?_ ?_ <;> simp (maxSteps := 2000000) only [go_sem, ↓reduceIte, Sub, Int.natCast_add, Int.natCast_mul]
                · rw [hstep]; simp [w1]
            · skip
              refine ⟨(1, false), ?_, ⟨by simp only; omega, fun h => absurd h (by simp), fun _ => ?_⟩, by simp only; omega⟩
              · refine Weak.mk ?_ ?_ ?_ <;> simp (maxSteps := 2000000) only [go_sem, ↓reduceIte, Sub, Int.natCast_add, Int.natCast_mul]
              · rw [hstep]; simp [n1]
        · subst hR
          have hfb : fb = wellF none v.f := by
            by_cases i0 : i = 0
            · have h0 : v.f = [] := by
                have : v.f.length = 0 := by omega
                exact List.length_eq_zero_iff.1 this
              rw [hz i0, h0]; rfl
            · rw [hnz i0, List.take_of_length_le (by omega)]
          rw [hfb]
          simp only [cast0]
          by_cases c1 : v.n = 0 <;> by_cases c2 : v.s = [] <;> by_cases c3 : v.l.length = 0 <;> simp [c1, c2, c3]
    · refine lift_value_well.call rfl ?_
      rw [hk] at hR
      simp only [Int.reduceEq, ↓reduceIte] at hR
      simp (maxSteps := 2000000) only [go_sem, ↓reduceIte, L_value_well, R_value_well, hk, hvl, hfl']
      subst hR
      simp only [cast0]
      by_cases c1 : 1 ≤ v.n <;> by_cases c5 : v.n ≤ 60 <;> by_cases c2 : v.s = [] <;> by_cases c3 : v.l.length = 0 <;> by_cases c4 : v.f.length = 0 <;> simp [c1, c2, c3, c4, c5]
    · refine lift_value_well.call rfl ?_
      obtain ⟨k0, k1, k2, k3, k4, k5, k6, k7⟩ := hk
      rw [if_neg k0, if_neg k1, if_neg k2, if_neg k3, if_neg k4, if_neg k5, if_neg k6, if_neg k7] at hR
      subst hR
      simp (maxSteps := 2000000) only [go_sem, ↓reduceIte, L_value_well, R_value_well, hvl, hfl', k0, k1, k2, k3, k4, k5, k6, k7]
end Go.Av.Try
