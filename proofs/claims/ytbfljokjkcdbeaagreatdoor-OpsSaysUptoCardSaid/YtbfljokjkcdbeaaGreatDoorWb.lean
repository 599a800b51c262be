import Derived.Test.YtbfljokjkcdbeaaGreatDoorWa
set_option linter.unusedSimpArgs false
namespace Go.Av.Tryz
open Go.Proofs
mutual
def wellV : Val → Bool
 | .mk k n s l f =>
  let n0 := decide (n = 0)
  let s0 := decide (s = [])
  let l0 := decide (l.length = 0)
  let f0 := decide (f.length = 0)
  if k = 0 then n0 && (s0 && (l0 && f0))
  else if k = 1 then (decide (n = 0) || decide (n = 1)) && (s0 && (l0 && f0))
  else if k = 2 then decide (Lim n) && (s0 && (l0 && f0))
  else if k = 3 then n0 && (decide (s.length ≤ 200) && (l0 && f0))
  else if k = 4 then n0 && (nameMay s && (l0 && f0))
  else if k = 5 then n0 && (s0 && (wellL l && f0))
  else if k = 6 then n0 && (s0 && (l0 && wellF none f))
  else if k = 7 then decide (1 ≤ n ∧ n ≤ 60) && (s0 && (l0 && f0))
  else false
def wellL : List Val → Bool
 | [] => true
 | v :: r => wellV v && wellL r
def wellF (p : Option (List UInt8)) : List Fld → Bool
 | [] => true
 | .mk nm v :: r => (nameMay nm && (wellV v && (match p with | some q => Op.bytesLess q nm | none => true))) && wellF (some nm) r
end
theorem wellL_eq (l : List Val) : wellL l = !l.any (fun v => !wellV v) := by
 induction l with
 | nil => rfl
 | cons v r ih => simp [wellL, ih]
theorem wellV_eq (v : Val) : wellV v = (
  let n0 := decide (v.n = 0)
  let s0 := decide (v.s = [])
  let l0 := decide (v.l.length = 0)
  let f0 := decide (v.f.length = 0)
  if v.kind = 0 then n0 && (s0 && (l0 && f0))
  else if v.kind = 1 then (decide (v.n = 0) || decide (v.n = 1)) && (s0 && (l0 && f0))
  else if v.kind = 2 then decide (Lim v.n) && (s0 && (l0 && f0))
  else if v.kind = 3 then n0 && (decide (v.s.length ≤ 200) && (l0 && f0))
  else if v.kind = 4 then n0 && (nameMay v.s && (l0 && f0))
  else if v.kind = 5 then n0 && (s0 && (wellL v.l && f0))
  else if v.kind = 6 then n0 && (s0 && (l0 && wellF none v.f))
  else if v.kind = 7 then decide (1 ≤ v.n ∧ v.n ≤ 60) && (s0 && (l0 && f0))
  else false) := by cases v; unfold wellV; rfl
theorem wellF_snoc {p : Option (List UInt8)} {l : List Fld} {x : Fld} : wellF p (l ++ [x]) = (wellF p l && (nameMay x.name && (wellV x.v && (match (l.getLast?.map Fld.name).or p with | some q => Op.bytesLess q x.name | none => true)))) := by
 induction l generalizing p with
 | nil => cases x; simp [wellF, Fld.name, Fld.v]
 | cons y r ih =>
  cases y with
  | mk nm v =>
   simp only [List.cons_append, wellF, ih, Bool.and_assoc]
   cases r with
   | nil => simp [Fld.name]
   | cons z r =>
    have h1 : ∀ q : Option (List UInt8), ((z :: r).getLast?.map Fld.name).or q = (z :: r).getLast?.map Fld.name := fun q => by
     rw [List.getLast?_eq_some_getLast (by simp)]; rfl
    have h2 : (Fld.mk nm v :: z :: r).getLast? = (z :: r).getLast? := List.getLast?_cons_cons
    rw [h2, h1, h1]
theorem wellF_take {l : List Fld} {i : Nat} {x : Fld} (hx : l[i]? = some x) : wellF none (l.take (i + 1)) = (wellF none (l.take i) && (nameMay x.name && (wellV x.v && (match l[i - 1]? with | some y => if i = 0 then true else Op.bytesLess y.name x.name | none => true)))) := by
 have hl : i < l.length := (List.getElem?_eq_some_iff.1 hx).1
 rw [List.take_add_one, hx]
 simp only [Option.toList_some]
 rw [wellF_snoc]
 congr 3
 by_cases h0 : i = 0
 ·subst h0; simp; cases l[0]? <;> rfl
 ·have : (l.take i).getLast? = l[i - 1]? := by
   rw [List.getLast?_eq_getElem?, List.length_take, List.getElem?_take]
   have : min i l.length = i := by omega
   rw [this, if_pos (by omega)]
  rw [this]
  cases hy : l[i - 1]? with
  | none => rfl
  | some y => simp [h0]
theorem kinds (k : Int) : k = 0 ∨ k = 1 ∨ k = 2 ∨ k = 3 ∨ k = 4 ∨ k = 5 ∨ k = 6 ∨ k = 7 ∨ (k ≠ 0 ∧ k ≠ 1 ∧ k ≠ 2 ∧ k ≠ 3 ∧ k ≠ 4 ∧ k ≠ 5 ∧ k ≠ 6 ∧ k ≠ 7) := by omega
def L_value_well : LCode :=
 .seq (.reg [⟨some 1, .box (.t 0), none⟩, Qx 2 KF]) (.seq (.dreg [Q 9 (.fa 1 (.t 1)), Q 10 (.ld false 1 (.t 9)), Q 11 (.bin .eql (.t 10) (Ki 0)), Q 12 (.fa 2 (.t 1)), Q 13 (.ld 
 false 1 (.t 12)), Q 14 (.bin .eql (.t 13) (.k (.d (.str [])))), Q 15 (.fa 3 (.t 1)), Q 16 (.ld false 1 (.t 15)), Q 17 (.len false (.t 16)), Q 18 (.bin .eql (.t 17) (Ki 0)), Q 19 
 (.fa 4 (.t 1)), Q 20 (.ld false 1 (.t 19)), Q 21 (.len false (.t 20)), Q 22 (.bin .eql (.t 21) (Ki 0)), Qc 3 11, Qc 4 14, Qc 5 18, Qc 6 22]) (.seq (.seq (.reg [Q 23 (.fa 0 (.t 
 1)), Q 24 (.ld false 1 (.t 23))]) (.block 0 (.seq (.reg [Q 26 (.bin .eql (.t 24) (Ki 0)), Qa 25 26]) (.cond (.t 25) .skip (.seq (.reg [Q 28 (.bin .eql (.t 24) (Ki 1)), Qa 27 28]) 
 (.cond (.t 27) (.reg [Q 29 (.fa 1 (.t 1)), Q 30 (.ld false 1 (.t 29)), Q 31 (.bin .eql (.t 30) (Ki 0)), Qc 32 31, Qg 33 (.fa 1 (.t 1)) 32 false, Qg 34 (.ld false 1 (.t 33)) 32 
 false, Qg 35 (.bin .eql (.t 34) (Ki 1)) 32 false, Q 36 (.pick (.t 32) KT (.t 35)), Qa 3 36]) (.seq (.reg [Q 38 (.bin .eql (.t 24) (Ki 2)), Qa 37 38]) (.cond (.t 37) (.reg [Q 39 
 (.fa 1 (.t 1)), Q 40 (.ld false 1 (.t 39)), ⟨some 41, .call 76 [.t 40], none⟩, Q 42 (.eqN 0 false (.t 41)), Qa 3 42]) (.seq (.reg [Q 44 (.bin .eql (.t 24) (Ki 3)), Qa 43 44]) 
 (.cond (.t 43) (.reg [Q 45 (.fa 2 (.t 1)), Q 46 (.ld false 1 (.t 45)), Q 47 (.len true (.t 46)), Q 48 (.bin .leq (.t 47) (Ki 200)), Qa 4 48]) (.seq (.reg [Q 50 (.bin .eql (.t 24) 
 (Ki 4)), Qa 49 50]) (.cond (.t 49) (.reg [Q 51 (.fa 2 (.t 1)), Q 52 (.ld false 1 (.t 51)), ⟨some 53, .call 77 [.t 52], none⟩, Qa 4 53]) (.seq (.reg [Q 55 (.bin .eql (.t 24) (Ki 
 5)), Qa 54 55]) (.cond (.t 54) (.reg [Q 56 (.fa 3 (.t 1)), Q 57 (.ld false 1 (.t 56)), ⟨some 58, .prim .call [.k (.fn (.func 78) [] []), .t 57, .k (.fn (.func 79) [] [])] [], 
 none⟩, Q 59 (.not (.t 58)), Qa 5 59]) (.seq (.reg [Q 61 (.bin .eql (.t 24) (Ki 6)), Qa 60 61]) (.cond (.t 60) (.seq (.reg [Q 62 (.fa 4 (.t 1)), Q 63 (.ld false 1 (.t 62)), Q 64 
 (.len false (.t 63)), Q 65 (.cp (Ki 0))]) (.block 1 (.loop (.seq (.reg [Q 66 (.bin .lss (.t 65) (.t 64))]) (.seq (.cond (.t 66) .skip (.exit 1)) (.seq (.block 2 (.seq (.reg [Qc 
 67 65, Q 68 (.ia 6 (.t 63) (.t 65)), Q 69 (.ld true 6 (.t 68)), ⟨some 8, .allo [.str [], .int .i64 0, .int .i64 0, .str [], .list [], .list []], none⟩, Qa 7 67, ⟨none, .st 6 (.t 
 8) (.t 69), none⟩]) (.dreg [Qc 70 7, Q 71 (.bin .eql (.t 70) (Ki 0)), Qc 72 71, Qd 73 6 72 false, Q 74 (.pick (.t 72) KT (.t 73)), Qc 75 74, Qg 76 (.fa 0 (.t 8)) 75 true, Qg 77 
 (.ld false 1 (.t 76)) 75 true, ⟨some 78, .call 77 [.t 77], some (75, true)⟩, Q 79 (.pick (.t 75) (.t 78) KF), Qc 80 79, Qg 81 (.fa 1 (.t 8)) 80 true, Qg 82 (.ld true 5 (.t 81)) 
 80 true, ⟨some 83, .call 51 [.t 82], some (80, true)⟩, Q 84 (.pick (.t 80) (.t 83) KF), Qc 85 84, Qd 86 7 85 true, Qg 87 (.bin .eql (.t 86) (Ki 0)) 85 true, Qd 88 87 85 true, Qg 
 89 (.fa 4 (.t 1)) 88 false, Qg 90 (.ld false 1 (.t 89)) 88 false, Qd 91 7 88 false, Qg 92 (.bin .sub (.t 91) (Ki 1)) 88 false, Qg 93 (.ia 6 (.t 90) (.t 92)) 88 false, Qg 94 (.fa 
 0 (.t 93)) 88 false, Qg 95 (.ld false 1 (.t 94)) 88 false, Qg 96 (.fa 0 (.t 8)) 88 false, Qg 97 (.ld false 1 (.t 96)) 88 false, Qg 98 (.bin .lss (.t 95) (.t 97)) 88 false, Qg 99 
 (.pick (.t 88) KT (.t 98)) 85 true, Q 100 (.pick (.t 85) (.t 99) KF), Qa 6 100]))) (.reg [Q 101 (.bin .add (.t 65) (Ki 1)), Qc 65 101]))))))) (.seq (.reg [Q 103 (.bin .eql (.t 
 24) (Ki 7)), Qa 102 103]) (.cond (.t 102) (.reg [Q 104 (.fa 1 (.t 1)), Q 105 (.ld false 1 (.t 104)), Q 106 (.bin .geq (.t 105) (Ki 1)), Qc 107 106, Qg 108 (.fa 1 (.t 1)) 107 
 true, Qg 109 (.ld false 1 (.t 108)) 107 true, Qg 110 (.bin .leq (.t 109) (Ki 60)) 107 true, Q 111 (.pick (.t 107) (.t 110) KF), Qa 3 111]) (.seq (.reg [Qx 2 KF]) 
 .ret))))))))))))))))))) (.seq (.reg [Qc 112 3, Qc 113 112, Qd 114 4 113 true, Q 115 (.pick (.t 113) (.t 114) KF), Qc 116 115, Qd 117 5 116 true, Q 118 (.pick (.t 116) (.t 117) 
 KF), Qc 119 118, Qd 120 6 119 true, Q 121 (.pick (.t 119) (.t 120) KF), Qa 2 121]) .ret)))
def R_value_well : List LRes := [.tmp 2]
theorem lift_value_well : Lifts Tryz.prog 51 122 L_value_well R_value_well := ⟨_, _, Tryz.func51, rfl, by kernel_rfl, by kernel_rfl, rfl⟩
def L_value_well_1 : LCode :=
 .seq (.reg [⟨some 1, .box (.t 0), none⟩, Qx 2 KF]) (.seq (.reg [Q 3 (.ld true 5 (.t 1)), ⟨some 4, .call 51 [.t 3], none⟩, Q 5 (.not (.t 4)), Qa 2 5]) .ret)
def R_value_well_1 : List LRes := [.tmp 2]
theorem lift_value_well_1 : Lifts Tryz.prog 79 6 L_value_well_1 R_value_well_1 := ⟨_, _, Tryz.func79, rfl, by kernel_rfl, by kernel_rfl, rfl⟩
theorem well_call : ∀ (m : Nat) (v : Val), SizeOf.sizeOf v ≤ m → v.sm 1048576 = true → PCall Tryz.prog 51 [v.d] (fun r => r = .one (.bool (wellV v))) := by
 intro m
 induction m with
 | zero => intro v h; cases v; simp at h
 | succ m ih =>
  intro v hv hsm
  obtain ⟨_, hll, hfl, hsl, hsf⟩ := Val.sm_iff.1 hsm
  have hvl := valsD_length v.l
  have hfl' := fldsD_length v.f
  have hcl : ∀ x ∈ v.l, PCall Tryz.prog 79 [x.d] (fun r => r = .one (.bool (!wellV x))) := fun x hx => by
   have hc := ih x (by have := size_l hx; omega) (hsl x hx)
   rw [Val.d_eq] at hc ⊢
   refine lift_value_well_1.call rfl ?_
   simp (maxSteps := 2000000) only [go_sem, ↓reduceIte, L_value_well_1, R_value_well_1]
   refine CallG.of hc ?_
   simp (maxSteps := 2000000) only [go_sem, ↓reduceIte]
  generalize hR : wellV v = R
  rw [wellV_eq] at hR
  have cast0 : ∀ a : Nat, ((a : Int) = 0) = (a = 0) := fun a => by apply propext; omega
  rw [Val.d_eq]
  rcases kinds v.kind with hk | hk | hk | hk | hk | hk | hk | hk | hk
  ·refine lift_value_well.call rfl ?_
   rw [hk] at hR
   simp only [Int.reduceEq, ↓reduceIte] at hR
   simp (maxSteps := 2000000) only [go_sem, ↓reduceIte, L_value_well, R_value_well, hk, hvl, hfl']
   subst hR
   simp only [cast0]
   by_cases c1 : v.n = 0 <;> by_cases c2 : v.s = [] <;> by_cases c3 : v.l.length = 0 <;> by_cases c4 : v.f.length = 0 <;> simp [c1, c2, c3, c4]
  ·refine lift_value_well.call rfl ?_
   rw [hk] at hR
   simp only [Int.reduceEq, ↓reduceIte] at hR
   simp (maxSteps := 2000000) only [go_sem, ↓reduceIte, L_value_well, R_value_well, hk, hvl, hfl']
   subst hR
   simp only [cast0]
   by_cases c1 : v.n = 0 <;> by_cases c2 : v.s = [] <;> by_cases c3 : v.l.length = 0 <;> by_cases c4 : v.f.length = 0 <;> simp [c1, c2, c3, c4]
  ·refine lift_value_well.call rfl ?_
   rw [hk] at hR
   simp only [Int.reduceEq, ↓reduceIte] at hR
   simp (maxSteps := 2000000) only [go_sem, ↓reduceIte, L_value_well, R_value_well, hk, hvl, hfl']
   by_cases hL : Lim v.n
   ·refine CallG.of (check_ok hL) ?_
    simp (maxSteps := 2000000) only [go_sem, ↓reduceIte]
    subst hR
    simp only [cast0]
    by_cases c2 : v.s = [] <;> by_cases c3 : v.l.length = 0 <;> by_cases c4 : v.f.length = 0 <;> simp [hL, c2, c3, c4]
   ·refine CallG.of (check_bad hL) ?_
    simp (maxSteps := 2000000) only [go_sem, ↓reduceIte, err]
    subst hR
    simp [hL]
  ·refine lift_value_well.call rfl ?_
   rw [hk] at hR
   simp only [Int.reduceEq, ↓reduceIte] at hR
   simp (maxSteps := 2000000) only [go_sem, ↓reduceIte, L_value_well, R_value_well, hk, hvl, hfl']
   subst hR
   simp only [cast0]
   have c5 : ((v.s.length : Int) ≤ 200) = (v.s.length ≤ 200) := by apply propext; omega
   simp only [c5]
   by_cases c1 : v.n = 0 <;> by_cases c2 : v.s.length ≤ 200 <;> by_cases c3 : v.l.length = 0 <;> by_cases c4 : v.f.length = 0 <;> simp [c1, c2, c3, c4]
  ·refine lift_value_well.call rfl ?_
   rw [hk] at hR
   simp only [Int.reduceEq, ↓reduceIte] at hR
   simp (maxSteps := 2000000) only [go_sem, ↓reduceIte, L_value_well, R_value_well, hk, hvl, hfl']
   refine CallG.of (nameMay_call v.s) ?_
   simp (maxSteps := 2000000) only [go_sem, ↓reduceIte]
   subst hR
   simp only [cast0]
   by_cases c1 : v.n = 0 <;> cases c2 : nameMay v.s <;> by_cases c3 : v.l.length = 0 <;> by_cases c4 : v.f.length = 0 <;> simp [c1, c3, c4]
  ·refine lift_value_well.call rfl ?_
   rw [hk] at hR
   simp only [Int.reduceEq, ↓reduceIte] at hR
   simp (maxSteps := 2000000) only [go_sem, ↓reduceIte, L_value_well, R_value_well, hk, hvl, hfl']
   refine PrimG.mcall ([]) ([]) rfl (containsFunc_call 79 (by kernel_rfl) v.l (by omega) _ hcl) rfl rfl (by simp only [objsAt, St.obj, aget, AObj.ren, AV.ren, AV.ren1, renL, ren1L, renR, renQ, List.getD_cons_zero, List.getD_cons_succ, and_true, and_self, Nat.reduceEqDiff, ↓reduceIte, reduceCtorEq]) rfl rfl rfl ⟨rfl, rfl⟩ ?_
   simp (maxSteps := 2000000) only [go_sem, ↓reduceIte]
   subst hR
   rw [wellL_eq]
   simp only [cast0]
   by_cases c1 : v.n = 0 <;> by_cases c2 : v.s = [] <;> cases c3 : v.l.any (fun v => !wellV v) <;> by_cases c4 : v.f.length = 0 <;> simp [c1, c2, c4]
  ·refine lift_value_well.call rfl ?_
   rw [hk] at hR
   simp only [Int.reduceEq, ↓reduceIte] at hR
   simp (maxSteps := 2000000) only [go_sem, ↓reduceIte, L_value_well, R_value_well, hk, hvl, hfl']
   refine run_loop (fun y : Nat × Bool => ⟨[(1, .ptr (.l 1) 0), (3, .d (.bool (decide (v.n = 0)))), (4, .d (.bool (decide (v.s = [])))), (5, .d (.bool (decide ((v.l.length : Int) = 0)))), (6, .d (.bool y.2)), (63, .d (.list (fldsD v.f))), (64, .d (.int .i64 v.f.length)), (65, .d (.int .i64 y.1))],
     [(1, .cells [.d (.int .i64 6), .d (.int .i64 v.n), .d (.str v.s), .d (.list (valsD v.l)), .d (.list (fldsD v.f))])], []⟩)
    (fun y => y.1 ≤ v.f.length ∧ (y.1 = 0 → y.2 = decide (v.f.length = 0)) ∧ (y.1 ≠ 0 → y.2 = wellF none (v.f.take y.1))) (fun y => v.f.length - y.1) (0, decide (v.f.length = 0)) ?_ ?_ ?_
   ·refine Weak.mk ?_ ?_ ?_ <;> simp (maxSteps := 2000000) only [go_sem, ↓reduceIte, Sub, Int.natCast_add, Int.natCast_mul, cast0]
   ·exact ⟨by simp, fun _ => rfl, fun h => absurd rfl h⟩
   ·rintro ⟨i, fb⟩ ⟨hi, hz, hnz⟩
    simp only at hi hz hnz
    simp (maxSteps := 2000000) only [go_sem, ↓reduceIte]
    refine ⟨fun hlt => ?_, fun hge => ?_⟩
    ·obtain ⟨x, hx⟩ := get_some (l := v.f) (i := i) (by omega)
     have hsx := Fld.sm_iff.1 (hsf x (List.mem_of_getElem? hx))
     have hc := ih x.v (by have := size_f (List.mem_of_getElem? hx); omega) hsx.2
     have hn := nameMay_call x.name
     rw [Val.d_eq] at hc
     have hstep : wellF none (v.f.take (i + 1)) = (wellF none (v.f.take i) && (nameMay x.name && (wellV x.v && (match v.f[i - 1]? with | some y => if i = 0 then true else Op.bytesLess y.name x.name | none => true)))) := wellF_take hx
     simp (maxSteps := 2000000) (disch := omega) only [go_sem, ↓reduceIte, getI_nat, fldsD_get, hx, Fld.d_eq]
     refine ⟨fun g1 => ?_, fun g1 => ?_⟩
     ·have i0 : i ≠ 0 := by omega
      have hfb := hnz i0
      obtain ⟨y, hy⟩ := get_some (l := v.f) (i := i - 1) (by omega)
      have hgy : getI (fldsD v.f) ((i : Int) - 1) = some y.d := by
       have : (i : Int) - 1 = ((i - 1 : Nat) : Int) := by omega
       rw [this, getI_nat, fldsD_get, hy]; rfl
      rw [hy] at hstep
      simp only [i0, if_false, ← hfb] at hstep
      refine ⟨fun f1 => ?_, fun f1 => ?_⟩
      ·refine CallD.of hn ?_
       simp (maxSteps := 2000000) (disch := omega) only [go_sem, ↓reduceIte]
       refine ⟨fun n1 => ?_, fun n1 => ?_⟩
       ·refine CallD.of hc ?_
        simp (maxSteps := 2000000) (disch := omega) only [go_sem, ↓reduceIte]
        refine ⟨fun w1 => ?_, fun w1 => ?_⟩
        ·simp (maxSteps := 2000000) (disch := omega) only [go_sem, ↓reduceIte, g1, hgy, Fld.d_eq]
         refine ⟨(i + 1, Op.bytesLess y.name x.name), ?_, ⟨by simp only; omega, fun h => absurd h (by simp), fun _ => ?_⟩, by simp only; omega⟩
         ·refine Weak.mk ?_ ?_ ?_ <;> simp (maxSteps := 2000000) only [go_sem, ↓reduceIte, Sub, Int.natCast_add, Int.natCast_mul]
         ·rw [hstep]; simp [f1, n1, w1]
        ·refine ⟨(i + 1, false), ?_, ⟨by simp only; omega, fun h => absurd h (by simp), fun _ => ?_⟩, by simp only; omega⟩
         ·refine Weak.mk ?_ ?_ ?_ <;> simp (maxSteps := 2000000) only [go_sem, ↓reduceIte, Sub, Int.natCast_add, Int.natCast_mul]
         ·rw [hstep]; simp [w1]
       ·refine ⟨(i + 1, false), ?_, ⟨by simp only; omega, fun h => absurd h (by simp), fun _ => ?_⟩, by simp only; omega⟩
        ·refine Weak.mk ?_ ?_ ?_ <;> simp (maxSteps := 2000000) only [go_sem, ↓reduceIte, Sub, Int.natCast_add, Int.natCast_mul]
        ·rw [hstep]; simp [n1]
      ·refine ⟨(i + 1, false), ?_, ⟨by simp only; omega, fun h => absurd h (by simp), fun _ => ?_⟩, by simp only; omega⟩
       ·refine Weak.mk ?_ ?_ ?_ <;> simp (maxSteps := 2000000) only [go_sem, ↓reduceIte, Sub, Int.natCast_add, Int.natCast_mul]
       ·rw [hstep]; simp [f1]
     ·have i0 : i = 0 := by omega
      subst i0
      refine CallD.of hn ?_
      simp (maxSteps := 2000000) (disch := omega) only [go_sem, ↓reduceIte]
      refine ⟨fun n1 => ?_, fun n1 => ?_⟩
      ·refine CallD.of hc ?_
       simp (maxSteps := 2000000) (disch := omega) only [go_sem, ↓reduceIte]
       refine ⟨fun w1 => ?_, fun w1 => ?_⟩
       ·skip
        refine ⟨(1, true), ?_, ⟨by simp only; omega, fun h => absurd h (by simp), fun _ => ?_⟩, by simp only; omega⟩
        ·refine Weak.mk ?_ ?_ ?_ <;> simp (maxSteps := 2000000) only [go_sem, ↓reduceIte, Sub, Int.natCast_add, Int.natCast_mul]
        ·rw [hstep]; simp [n1, w1, wellF]; cases v.f[0]? <;> rfl
       ·skip
        refine ⟨(1, false), ?_, ⟨by simp only; omega, fun h => absurd h (by simp), fun _ => ?_⟩, by simp only; omega⟩
        ·refine Weak.mk ?_ ?_ ?_ <;> simp (maxSteps := 2000000) only [go_sem, ↓reduceIte, Sub, Int.natCast_add, Int.natCast_mul]
        ·rw [hstep]; simp [w1]
      ·skip
       refine ⟨(1, false), ?_, ⟨by simp only; omega, fun h => absurd h (by simp), fun _ => ?_⟩, by simp only; omega⟩
       ·refine Weak.mk ?_ ?_ ?_ <;> simp (maxSteps := 2000000) only [go_sem, ↓reduceIte, Sub, Int.natCast_add, Int.natCast_mul]
       ·rw [hstep]; simp [n1]
    ·subst hR
     have hfb : fb = wellF none v.f := by
      by_cases i0 : i = 0
      ·have h0 : v.f = [] := by
        have : v.f.length = 0 := by omega
        exact List.length_eq_zero_iff.1 this
       rw [hz i0, h0]; rfl
      ·rw [hnz i0, List.take_of_length_le (by omega)]
     rw [hfb]
     simp only [cast0]
     by_cases c1 : v.n = 0 <;> by_cases c2 : v.s = [] <;> by_cases c3 : v.l.length = 0 <;> simp [c1, c2, c3]
  ·refine lift_value_well.call rfl ?_
   rw [hk] at hR
   simp only [Int.reduceEq, ↓reduceIte] at hR
   simp (maxSteps := 2000000) only [go_sem, ↓reduceIte, L_value_well, R_value_well, hk, hvl, hfl']
   subst hR
   simp only [cast0]
   by_cases c1 : 1 ≤ v.n <;> by_cases c5 : v.n ≤ 60 <;> by_cases c2 : v.s = [] <;> by_cases c3 : v.l.length = 0 <;> by_cases c4 : v.f.length = 0 <;> simp [c1, c2, c3, c4, c5]
  ·refine lift_value_well.call rfl ?_
   obtain ⟨k0, k1, k2, k3, k4, k5, k6, k7⟩ := hk
   rw [if_neg k0, if_neg k1, if_neg k2, if_neg k3, if_neg k4, if_neg k5, if_neg k6, if_neg k7] at hR
   subst hR
   simp (maxSteps := 2000000) only [go_sem, ↓reduceIte, L_value_well, R_value_well, hvl, hfl', k0, k1, k2, k3, k4, k5, k6, k7]
mutual
def ptV : Val → Nat × Nat
 | .mk _ _ _ l f => (1 + (ptL l).1 + (ptF f).1, max (ptL l).2 (ptF f).2 + 1)
def ptL : List Val → Nat × Nat
 | [] => (0, 0)
 | v :: r => ((ptV v).1 + (ptL r).1, max (ptV v).2 (ptL r).2)
def ptF : List Fld → Nat × Nat
 | [] => (0, 0)
 | .mk _ v :: r => ((ptV v).1 + (ptF r).1, max (ptV v).2 (ptF r).2)
end
theorem ptV_eq (v : Val) : ptV v = (1 + (ptL v.l).1 + (ptF v.f).1, max (ptL v.l).2 (ptF v.f).2 + 1) := by cases v; simp only [ptV, Val.l, Val.f]
theorem ptF_cons (x : Fld) (r : List Fld) : ptF (x :: r) = ((ptV x.v).1 + (ptF r).1, max (ptV x.v).2 (ptF r).2) := by cases x; simp only [ptF, Fld.v]
mutual
theorem ptV_pos : ∀ (v : Val), 1 ≤ (ptV v).1 ∧ 1 ≤ (ptV v).2
 | .mk k n s l f => by simp only [ptV]; omega
theorem ptL_z : ∀ (l : List Val), (ptL l).1 = 0 → (ptL l).2 = 0
 | [], _ => rfl
 | v :: r, h => by
  have := ptV_pos v
  simp only [ptL] at h; omega
theorem ptF_z : ∀ (l : List Fld), (ptF l).1 = 0 → (ptF l).2 = 0
 | [], _ => rfl
 | .mk _ v :: r, h => by
  have := ptV_pos v
  simp only [ptF] at h; omega
end
mutual
theorem szV_pt (deep : Nat) : ∀ (v : Val) (left : Int), 0 ≤ left → ((((ptV v).1 : Int) ≤ left ∧ deep + (ptV v).2 ≤ 9) → szV deep v left = (true, left - (ptV v).1)) ∧ (¬ (((ptV v).1 : Int) ≤ left ∧ deep + (ptV v).2 ≤ 9) → (szV deep v left).1 = false)
 | .mk k n s l f, left, h => by
  have hL := szL_pt (deep + 1) l
  have hF := szF_pt (deep + 1) f
  have e1 := ptL_z l
  have e2 := ptF_z f
  have e3 : ptV (.mk k n s l f) = (1 + (ptL l).1 + (ptF f).1, max (ptL l).2 (ptF f).2 + 1) := by simp only [ptV]
  rw [e3]
  generalize hA : ptL l = A at *
  generalize hB : ptF f = B at *
  obtain ⟨a1, a2⟩ := A
  obtain ⟨b1, b2⟩ := B
  simp only at *
  unfold szV
  by_cases h8 : 8 < deep
  ·rw [if_pos h8]
   exact ⟨fun c => by exfalso; omega, fun _ => rfl⟩
  ·rw [if_neg h8]
   by_cases h0 : left - 1 < 0
   ·rw [if_pos h0]
    exact ⟨fun c => by exfalso; omega, fun _ => rfl⟩
   ·rw [if_neg h0]
    obtain ⟨g1, g2⟩ := hL (left - 1) (by omega)
    by_cases c1 : ((a1 : Int) ≤ left - 1 ∧ (a1 = 0 ∨ deep + 1 + a2 ≤ 9))
    ·rw [g1 c1]
     simp only
     obtain ⟨g3, g4⟩ := hF (left - 1 - a1) (by omega)
     by_cases c2 : ((b1 : Int) ≤ left - 1 - a1 ∧ (b1 = 0 ∨ deep + 1 + b2 ≤ 9))
     ·refine ⟨fun _ => ?_, fun c => by exfalso; omega⟩
      rw [g3 c2]; congr 1; omega
     ·exact ⟨fun c => by exfalso; omega, fun _ => g4 c2⟩
    ·refine ⟨fun c => by exfalso; omega, fun _ => ?_⟩
     have := g2 c1
     generalize szL (deep + 1) l (left - 1) = Z at this
     obtain ⟨z1, z2⟩ := Z
     simp only at this
     subst this
     rfl
theorem szL_pt (deep : Nat) : ∀ (l : List Val) (left : Int), 0 ≤ left → ((((ptL l).1 : Int) ≤ left ∧ ((ptL l).1 = 0 ∨ deep + (ptL l).2 ≤ 9)) → szL deep l left = (true, left - (ptL l).1)) ∧ (¬ (((ptL l).1 : Int) ≤ left ∧ ((ptL l).1 = 0 ∨ deep + (ptL l).2 ≤ 9)) → (szL deep l left).1 = false)
 | [], left, h => by simp [szL, ptL]; omega
 | v :: r, left, h => by
  obtain ⟨g1, g2⟩ := szV_pt deep v left h
  have h2 := szL_pt deep r
  have hp := ptV_pos v
  have hz := ptL_z r
  have e3 : ptL (v :: r) = ((ptV v).1 + (ptL r).1, max (ptV v).2 (ptL r).2) := by simp only [ptL]
  rw [e3]
  generalize hA : ptV v = A at *
  generalize hB : ptL r = B at *
  obtain ⟨a1, a2⟩ := A
  obtain ⟨b1, b2⟩ := B
  simp only at *
  unfold szL
  by_cases c1 : ((a1 : Int) ≤ left ∧ deep + a2 ≤ 9)
  ·rw [g1 c1]
   simp only
   obtain ⟨g3, g4⟩ := h2 (left - a1) (by omega)
   by_cases c2 : ((b1 : Int) ≤ left - a1 ∧ (b1 = 0 ∨ deep + b2 ≤ 9))
   ·refine ⟨fun _ => ?_, fun c => by exfalso; omega⟩
    rw [g3 c2]; congr 1; omega
   ·exact ⟨fun c => by exfalso; omega, fun _ => g4 c2⟩
  ·refine ⟨fun c => by exfalso; omega, fun _ => ?_⟩
   have := g2 c1
   generalize szV deep v left = Z at this
   obtain ⟨z1, z2⟩ := Z
   simp only at this
   subst this
   rfl
theorem szF_pt (deep : Nat) : ∀ (l : List Fld) (left : Int), 0 ≤ left → ((((ptF l).1 : Int) ≤ left ∧ ((ptF l).1 = 0 ∨ deep + (ptF l).2 ≤ 9)) → szF deep l left = (true, left - (ptF l).1)) ∧ (¬ (((ptF l).1 : Int) ≤ left ∧ ((ptF l).1 = 0 ∨ deep + (ptF l).2 ≤ 9)) → (szF deep l left).1 = false)
 | [], left, h => by simp [szF, ptF]; omega
 | .mk nm v :: r, left, h => by
  obtain ⟨g1, g2⟩ := szV_pt deep v left h
  have h2 := szF_pt deep r
  have hp := ptV_pos v
  have hz := ptF_z r
  have e3 : ptF (.mk nm v :: r) = ((ptV v).1 + (ptF r).1, max (ptV v).2 (ptF r).2) := by simp only [ptF]
  rw [e3]
  generalize hA : ptV v = A at *
  generalize hB : ptF r = B at *
  obtain ⟨a1, a2⟩ := A
  obtain ⟨b1, b2⟩ := B
  simp only at *
  unfold szF
  by_cases c1 : ((a1 : Int) ≤ left ∧ deep + a2 ≤ 9)
  ·rw [g1 c1]
   simp only
   obtain ⟨g3, g4⟩ := h2 (left - a1) (by omega)
   by_cases c2 : ((b1 : Int) ≤ left - a1 ∧ (b1 = 0 ∨ deep + b2 ≤ 9))
   ·refine ⟨fun _ => ?_, fun c => by exfalso; omega⟩
    rw [g3 c2]; congr 1; omega
   ·exact ⟨fun c => by exfalso; omega, fun _ => g4 c2⟩
  ·refine ⟨fun c => by exfalso; omega, fun _ => ?_⟩
   have := g2 c1
   generalize szV deep v left = Z at this
   obtain ⟨z1, z2⟩ := Z
   simp only at this
   subst this
   rfl
end
def faultV (v : Val) : Nat := if 300 < (ptV v).1 ∨ 8 < (ptV v).2 then 2 else if wellV v then 0 else 3
theorem szV_top (v : Val) : (szV 1 v 300).1 = !decide (300 < (ptV v).1 ∨ 8 < (ptV v).2) := by
 have h := szV_pt 1 v 300 (by omega)
 by_cases c : (((ptV v).1 : Int) ≤ 300 ∧ 1 + (ptV v).2 ≤ 9)
 ·rw [h.1 c]
  have : ¬ (300 < (ptV v).1 ∨ 8 < (ptV v).2) := by omega
  simp [this]
 ·rw [h.2 c]
  have : (300 < (ptV v).1 ∨ 8 < (ptV v).2) := by omega
  simp [this]
def L_value_Check : LCode :=
 .seq (.reg [⟨some 1, .box (.t 0), none⟩, Qx 2 (.k (.d .nil))]) (.seq (.reg [⟨some 3, .allo [.int .i64 0], none⟩, ⟨none, .st 1 (.t 3) (Ki 300), none⟩]) (.seq (.seq (.reg [Q 4 (.ld 
 true 5 (.t 1)), ⟨some 5, .prim .call [.k (.fn (.func 50) [] []), .t 4, .k (.d (.int .i64 1)), .t 3] [], none⟩, Q 6 (.not (.t 5))]) (.cond (.t 6) (.seq (.reg [Q 7 (.mkI 50 (Ki 
 2)), Qa 2 7]) .ret) .skip)) (.seq (.seq (.reg [Q 8 (.ld true 5 (.t 1)), ⟨some 9, .call 51 [.t 8], none⟩, Q 10 (.not (.t 9))]) (.cond (.t 10) (.seq (.reg [Q 11 (.mkI 50 (Ki 3)), 
 Qa 2 11]) .ret) .skip)) (.seq (.reg [Qx 2 (.k (.d .nil))]) .ret))))
def R_value_Check : List LRes := [.tmp 2]
theorem lift_value_Check : Lifts Tryz.prog 31 12 L_value_Check R_value_Check := ⟨_, _, Tryz.func31, rfl, by kernel_rfl, by kernel_rfl, rfl⟩
theorem checkV_call (v : Val) (hsm : v.sm 1048576 = true) : PCall Tryz.prog 31 [v.d] (fun r => r = .one (errD (faultV v))) := by
 have h1 := size_call _ v (Nat.le_refl _) 1 300 (by omega) (by omega) (by omega) (by omega) hsm
 have h2 := well_call _ v (Nat.le_refl _) hsm
 rw [szV_top] at h1
 generalize (szV 1 v 300).2 = q at h1
 rw [Val.d_eq] at *
 refine lift_value_Check.call rfl ?_
 simp (maxSteps := 2000000) only [go_sem, ↓reduceIte, L_value_Check, R_value_Check]
 refine PrimG.mc1 (.l 3) rfl (h1) rfl rfl rfl rfl ⟨rfl, rfl⟩ ?_
 simp (maxSteps := 2000000) only [go_sem, ↓reduceIte]
 refine ⟨fun c => ?_, fun c => ?_⟩
 ·simp only [faultV, if_pos c]; rfl
 ·refine CallG.of h2 ?_
  simp (maxSteps := 2000000) only [go_sem, ↓reduceIte]
  simp only [faultV, if_neg c]
  cases wellV v <;> simp [errD]
theorem ptL_snoc {l : List Val} {x : Val} : ptL (l ++ [x]) = ((ptL l).1 + (ptV x).1, max (ptL l).2 (ptV x).2) := by
 induction l with
 | nil => simp [ptL]
 | cons y r ih => simp only [List.cons_append, ptL, ih]; congr 1 <;> omega
theorem ptF_snoc {l : List Fld} {x : Fld} : ptF (l ++ [x]) = ((ptF l).1 + (ptV x.v).1, max (ptF l).2 (ptV x.v).2) := by
 induction l with
 | nil => simp [ptF, ptF_cons]
 | cons y r ih => simp only [List.cons_append, ptF_cons, ih]; congr 1 <;> omega
theorem maxI (a b : Nat) : (if (a : Int) < b then (b : Int) else a) = ((max a b : Nat) : Int) := by split <;> omega
theorem take_snoc {α : Type} {l : List α} {i : Nat} {x : α} (hx : l[i]? = some x) : l.take (i + 1) = l.take i ++ [x] := by
 rw [List.take_add_one, hx]; rfl
theorem ptL_take_le {l : List Val} {i : Nat} : (ptL (l.take i)).1 ≤ (ptL l).1 := by
 induction l generalizing i with
 | nil => simp
 | cons y r ih =>
  cases i with
  | zero => simp [ptL]
  | succ i => simp only [List.take_succ_cons, ptL]; have := ih (i := i); omega
theorem ptF_take_le {l : List Fld} {i : Nat} : (ptF (l.take i)).1 ≤ (ptF l).1 := by
 induction l generalizing i with
 | nil => simp
 | cons y r ih =>
  cases i with
  | zero => simp [ptF]
  | succ i => simp only [List.take_succ_cons, ptF_cons]; have := ih (i := i); omega
theorem ptL_mem {l : List Val} {x : Val} (h : x ∈ l) : (ptV x).1 ≤ (ptL l).1 := by
 induction l with
 | nil => simp at h
 | cons y r ih =>
  simp only [ptL]
  rcases List.mem_cons.1 h with rfl | h
  ·omega
  ·have := ih h; omega
theorem ptF_mem {l : List Fld} {x : Fld} (h : x ∈ l) : (ptV x.v).1 ≤ (ptF l).1 := by
 induction l with
 | nil => simp at h
 | cons y r ih =>
  simp only [ptF_cons]
  rcases List.mem_cons.1 h with rfl | h
  ·omega
  ·have := ih h; omega
mutual
theorem ptV_le : ∀ (v : Val), (ptV v).2 ≤ (ptV v).1
 | .mk k n s l f => by
  have h1 := ptL_le l
  have h2 := ptF_le f
  simp only [ptV]; omega
theorem ptL_le : ∀ (l : List Val), (ptL l).2 ≤ (ptL l).1
 | [] => Nat.le_refl _
 | v :: r => by
  have h1 := ptV_le v
  have h2 := ptL_le r
  simp only [ptL]; omega
theorem ptF_le : ∀ (l : List Fld), (ptF l).2 ≤ (ptF l).1
 | [] => Nat.le_refl _
 | .mk _ v :: r => by
  have h1 := ptV_le v
  have h2 := ptF_le r
  simp only [ptF]; omega
end
def L_foliowrightref_parts : LCode :=
 .seq (.reg [⟨some 1, .box (.t 0), none⟩, Qx 2 (Ki 0), Qx 3 (Ki 0)]) (.seq (.reg [Qx 4 (Ki 1)]) (.seq (.reg [Qx 5 (Ki 0)]) (.seq (.seq (.reg [Qx 6 (Ki 0)]) (.block 0 (.loop (.seq 
 (.seq (.reg [Qc 12 6, Q 13 (.fa 3 (.t 1)), Q 14 (.ld false 1 (.t 13)), Q 15 (.len false (.t 14)), Q 16 (.bin .lss (.t 12) (.t 15))]) (.cond (.t 16) .skip (.exit 0))) (.seq 
 (.block 1 (.seq (.reg [Q 20 (.fa 3 (.t 1)), Q 21 (.ld false 1 (.t 20)), Qc 22 6, Q 23 (.ia 5 (.t 21) (.t 22)), Q 24 (.ld true 5 (.t 23)), ⟨some 25, .call 44 [.t 24], none⟩, Qc 19 
 25, Q 26 (.ext 0 (.t 19)), Q 27 (.ext 1 (.t 19)), Qa 7 26, Qa 8 27]) (.seq (.reg [Qc 28 4, Qc 29 7, Q 30 (.bin .add (.t 28) (.t 29)), Qa 4 30]) (.reg [Qc 31 5, Qc 32 8, Q 33 (.mm 
 true (.t 31) (.t 32)), Qa 5 33])))) (.reg [Qc 17 6, Q 18 (.bin .add (.t 17) (Ki 1)), Qa 6 18])))))) (.seq (.seq (.reg [Qx 9 (Ki 0)]) (.block 2 (.loop (.seq (.seq (.reg [Qc 34 9, 
 Q 35 (.fa 4 (.t 1)), Q 36 (.ld false 1 (.t 35)), Q 37 (.len false (.t 36)), Q 38 (.bin .lss (.t 34) (.t 37))]) (.cond (.t 38) .skip (.exit 2))) (.seq (.block 3 (.seq (.reg [Q 42 
 (.fa 4 (.t 1)), Q 43 (.ld false 1 (.t 42)), Qc 44 9, Q 45 (.ia 6 (.t 43) (.t 44)), Q 46 (.fa 1 (.t 45)), Q 47 (.ld true 5 (.t 46)), ⟨some 48, .call 44 [.t 47], none⟩, Qc 41 48, Q 
 49 (.ext 0 (.t 41)), Q 50 (.ext 1 (.t 41)), Qa 10 49, Qa 11 50]) (.seq (.reg [Qc 51 4, Qc 52 10, Q 53 (.bin .add (.t 51) (.t 52)), Qa 4 53]) (.reg [Qc 54 5, Qc 55 11, Q 56 (.mm 
 true (.t 54) (.t 55)), Qa 5 56])))) (.reg [Qc 39 9, Q 40 (.bin .add (.t 39) (Ki 1)), Qa 9 40])))))) (.seq (.reg [Qc 57 4, Qc 58 5, Q 59 (.bin .add (.t 58) (Ki 1)), Qa 2 57, Qa 3 
 59]) .ret)))))
def R_foliowrightref_parts : List LRes := [.tmp 2, .tmp 3]
theorem lift_foliowrightref_parts : Lifts Tryz.prog 44 60 L_foliowrightref_parts R_foliowrightref_parts := ⟨_, _, Tryz.func44, rfl, by kernel_rfl, by kernel_rfl, rfl⟩
theorem parts_call : ∀ (m : Nat) (v : Val), SizeOf.sizeOf v ≤ m → v.sm 1048576 = true → (ptV v).1 ≤ 1000000000 → PCall Tryz.prog 44 [v.d] (fun r => r = .tup [.int .i64 (ptV v).1, .int .i64 (ptV v).2]) := by
 intro m
 induction m with
 | zero => intro v h; cases v; simp at h
 | succ m ih =>
  intro v hv hsm hpt
  obtain ⟨_, hll, hfl, hsl, hsf⟩ := Val.sm_iff.1 hsm
  have hvl := valsD_length v.l
  have hfl' := fldsD_length v.f
  have hpe := ptV_eq v
  have hle := ptL_le v.l
  have hle2 := ptF_le v.f
  rw [hpe] at hpt
  simp only at hpt
  rw [hpe]
  rw [Val.d_eq]
  refine lift_foliowrightref_parts.call rfl ?_
  simp (maxSteps := 2000000) only [go_sem, ↓reduceIte, L_foliowrightref_parts, R_foliowrightref_parts]
  refine run_loop (fun i : Nat => ⟨[(1, .ptr (.l 1) 0), (4, .d (.int .i64 (1 + (ptL (v.l.take i)).1 : Nat))), (5, .d (.int .i64 (ptL (v.l.take i)).2)), (6, .d (.int .i64 i))],
    [(1, .cells [.d (.int .i64 v.kind), .d (.int .i64 v.n), .d (.str v.s), .d (.list (valsD v.l)), .d (.list (fldsD v.f))])], []⟩)
   (fun i => i ≤ v.l.length) (fun i => v.l.length - i) 0 ?_ ?_ ?_
  ·refine Weak.mk ?_ ?_ ?_ <;> simp (maxSteps := 2000000) only [go_sem, ↓reduceIte, Sub, Int.natCast_add, Int.natCast_mul, List.take_zero, ptL]
  ·omega
  ·intro i hi
   simp (maxSteps := 2000000) only [go_sem, ↓reduceIte, hvl]
   refine ⟨fun hlt => ?_, fun hge => ?_⟩
   ·obtain ⟨x, hx⟩ := get_some (l := v.l) (i := i) (by omega)
    have hm := List.mem_of_getElem? hx
    have hc := ih x (by have := size_l hm; omega) (hsl x hm) (by have := ptL_mem hm; omega)
    have ht := ptL_take_le (l := v.l) (i := i + 1)
    have hle3 := ptL_le (v.l.take (i + 1))
    rw [take_snoc hx, ptL_snoc] at ht hle3
    simp only at ht hle3
    rw [Val.d_eq] at hc
    simp (maxSteps := 2000000) (disch := omega) only [go_sem, ↓reduceIte, getI_nat, valsD_get, hx, Val.d_eq]
    refine CallG.of hc ?_
    simp (maxSteps := 2000000) (disch := omega) only [go_sem, ↓reduceIte]
    refine ⟨i + 1, ?_, by omega, by omega⟩
    rw [take_snoc hx, ptL_snoc]
    refine Weak.mk ?_ ?_ ?_ <;> simp (maxSteps := 2000000) only [go_sem, ↓reduceIte, Sub, Int.natCast_add, Int.natCast_mul, maxI, Int.add_assoc]
   ·have ht : v.l.take i = v.l := List.take_of_length_le (by omega)
    rw [ht]
    refine run_loop (fun j : Nat => ⟨[(1, .ptr (.l 1) 0), (4, .d (.int .i64 (1 + (ptL v.l).1 + (ptF (v.f.take j)).1 : Nat))), (5, .d (.int .i64 (max (ptL v.l).2 (ptF (v.f.take j)).2 : Nat))), (9, .d (.int .i64 j))],
      [(1, .cells [.d (.int .i64 v.kind), .d (.int .i64 v.n), .d (.str v.s), .d (.list (valsD v.l)), .d (.list (fldsD v.f))])], []⟩)
     (fun j => j ≤ v.f.length) (fun j => v.f.length - j) 0 ?_ ?_ ?_
    ·refine Weak.mk ?_ ?_ ?_ <;> simp (maxSteps := 2000000) only [go_sem, ↓reduceIte, Sub, Int.natCast_add, Int.natCast_mul, List.take_zero, ptF, Nat.add_zero, Nat.max_zero]
    ·omega
    ·intro j hj
     simp (maxSteps := 2000000) only [go_sem, ↓reduceIte, hfl']
     refine ⟨fun hlt => ?_, fun hge => ?_⟩
     ·obtain ⟨x, hx⟩ := get_some (l := v.f) (i := j) (by omega)
      have hm := List.mem_of_getElem? hx
      have hc := ih x.v (by have := size_f hm; omega) (Fld.sm_iff.1 (hsf x hm)).2 (by have := ptF_mem hm; omega)
      have ht := ptF_take_le (l := v.f) (i := j + 1)
      have hle3 := ptF_le (v.f.take (j + 1))
      rw [take_snoc hx, ptF_snoc] at ht hle3
      simp only at ht hle3
      rw [Val.d_eq] at hc
      simp (maxSteps := 2000000) (disch := omega) only [go_sem, ↓reduceIte, getI_nat, fldsD_get, hx, Fld.d_eq]
      refine CallG.of hc ?_
      simp (maxSteps := 2000000) (disch := omega) only [go_sem, ↓reduceIte]
      refine ⟨j + 1, ?_, by omega, by omega⟩
      rw [take_snoc hx, ptF_snoc]
      refine Weak.mk ?_ ?_ ?_ <;> simp (maxSteps := 2000000) only [go_sem, ↓reduceIte, Sub, Int.natCast_add, Int.natCast_mul, maxI, Int.add_assoc, Nat.max_assoc]
     ·have ht : v.f.take j = v.f := List.take_of_length_le (by omega)
      rw [ht]
      simp (maxSteps := 2000000) (disch := omega) only [go_sem, ↓reduceIte, Int.natCast_add, Int.natCast_one]
def L_foliowrightref_FixFault : LCode :=
 .seq (.reg [Qx 2 (Ki 0)]) (.seq (.seq (.reg [Qc 3 0, Q 4 (.bin .lss (.t 3) (Ki (-1000000000))), Qc 5 4, Qd 6 0 5 false, Qg 7 (.bin .gtr (.t 6) (Ki 1000000000)) 5 false, Q 8 (.pick 
 (.t 5) KT (.t 7))]) (.cond (.t 8) (.seq (.reg [Qx 2 (Ki 1)]) .ret) .skip)) (.seq (.reg [Qx 2 (Ki 0)]) .ret))
def R_foliowrightref_FixFault : List LRes := [.tmp 2]
theorem lift_foliowrightref_FixFault : Lifts Tryz.prog 75 9 L_foliowrightref_FixFault R_foliowrightref_FixFault := ⟨_, _, Tryz.func75, rfl, by kernel_rfl, by kernel_rfl, rfl⟩
def fltI (n : Int) : Int := if Lim n then 0 else 1
theorem fault_call (n : Int) : PCall Tryz.prog 75 [.int .i64 n] (fun r => r = .one (.int .i64 (fltI n))) := by
 refine lift_foliowrightref_FixFault.call rfl ?_
 simp (maxSteps := 2000000) only [go_sem, ↓reduceIte, L_foliowrightref_FixFault, R_foliowrightref_FixFault]
 unfold fltI
 by_cases h : Lim n
 ·rw [if_pos h]
  unfold Lim at h
  exact ⟨fun a => ⟨fun b => by omega, fun b => rfl⟩, fun a => by omega⟩
 ·rw [if_neg h]
  unfold Lim at h
  exact ⟨fun a => ⟨fun b => rfl, fun b => by omega⟩, fun a => rfl⟩
theorem wellV_badL {v x : Val} (hx : x ∈ v.l) (h : wellV x = false) : wellV v = false := by
 have h0 : ¬ v.l.length = 0 := fun e => by rw [List.length_eq_zero_iff.1 e] at hx; simp at hx
 have h1 : wellL v.l = false := by rw [wellL_eq]; simp only [Bool.not_eq_false']; exact List.any_eq_true.2 ⟨x, hx, by simp [h]⟩
 rw [wellV_eq]
 simp [h0, h1]
theorem wellV_badF {v : Val} (h : wellF none v.f = false) : wellV v = false := by
 have h0 : ¬ v.f.length = 0 := fun e => by rw [List.length_eq_zero_iff.1 e] at h; simp [wellF] at h
 rw [wellV_eq]
 simp [h0, h]
theorem wellL_all {l : List Val} (h : ∀ x ∈ l, wellV x = true) : wellL l = true := by
 rw [wellL_eq]
 simp only [Bool.not_eq_true']
 rw [List.any_eq_false]
 intro x hx
 simp [h x hx]
theorem wellF_app {p : Option (List UInt8)} {a b : List Fld} (h : wellF p a = false) : wellF p (a ++ b) = false := by
 induction a generalizing p with
 | nil => simp [wellF] at h
 | cons x r ih =>
  cases x
  simp only [List.cons_append, wellF, Bool.and_eq_false_iff] at h ⊢
  rcases h with h | h
  ·exact .inl h
  ·exact .inr (ih h)
theorem wellF_take_bad {l : List Fld} {i : Nat} (h : wellF none (l.take i) = false) : wellF none l = false := by
 rw [← List.take_append_drop i l]
 exact wellF_app h
theorem bytesLeq_not : ∀ (x y : List UInt8), (Op.bytesLess x y || decide (x = y)) = !Op.bytesLess y x
 | [], [] => by simp [Op.bytesLess]
 | [], _ :: _ => by simp [Op.bytesLess]
 | _ :: _, [] => by simp [Op.bytesLess]
 | a :: x, b :: y => by
  have ih := bytesLeq_not x y
  have hab : a = b ↔ a.toNat = b.toNat := ⟨fun h => by rw [h], UInt8.toNat_inj.1⟩
  simp only [Op.bytesLess, UInt8.lt_iff_toNat_lt, beq_iff_eq, bne_iff_ne] at ih ⊢
  rcases Nat.lt_trichotomy a.toNat b.toNat with h | h | h
  ·have h1 : ¬ b.toNat < a.toNat := by omega
   have h2 : ¬ a = b := fun e => by rw [hab] at e; omega
   have h3 : ¬ b = a := fun e => h2 e.symm
   simp [h, h1, h2, h3]
  ·have h2 := hab.2 h
   subst h2
   simp [ih]
  ·have h1 : ¬ a.toNat < b.toNat := by omega
   have h2 : ¬ a = b := fun e => by rw [hab] at e; omega
   have h3 : ¬ b = a := fun e => h2 e.symm
   simp [h, h1, h2, h3]
def L_foliowrightref_shaped : LCode :=
 .seq (.reg [⟨some 1, .box (.t 0), none⟩, Qx 2 KF]) (.seq (.seq (.reg [Qx 3 (Ki 0)]) (.block 0 (.loop (.seq (.seq (.reg [Qc 12 3, Q 13 (.fa 3 (.t 1)), Q 14 (.ld false 1 (.t 13)), Q 
 15 (.len false (.t 14)), Q 16 (.bin .lss (.t 12) (.t 15))]) (.cond (.t 16) .skip (.exit 0))) (.seq (.block 1 (.seq (.reg [Q 19 (.fa 3 (.t 1)), Q 20 (.ld false 1 (.t 19)), Qc 21 
 3, Q 22 (.ia 5 (.t 20) (.t 21)), Q 23 (.ld true 5 (.t 22)), ⟨some 24, .call 45 [.t 23], none⟩, Qa 4 24]) (.seq (.reg [Qc 25 4, Q 26 (.not (.t 25))]) (.cond (.t 26) (.seq (.reg 
 [Qx 2 KF]) .ret) .skip)))) (.reg [Qc 17 3, Q 18 (.bin .add (.t 17) (Ki 1)), Qa 3 18])))))) (.seq (.seq (.reg [Qx 5 (Ki 0)]) (.block 2 (.loop (.seq (.seq (.reg [Qc 27 5, Q 28 (.fa 
 4 (.t 1)), Q 29 (.ld false 1 (.t 28)), Q 30 (.len false (.t 29)), Q 31 (.bin .lss (.t 27) (.t 30))]) (.cond (.t 31) .skip (.exit 2))) (.seq (.block 3 (.seq (.reg [Q 34 (.fa 4 (.t 
 1)), Q 35 (.ld false 1 (.t 34)), Qc 36 5, Q 37 (.ia 6 (.t 35) (.t 36)), Q 38 (.fa 1 (.t 37)), Q 39 (.ld true 5 (.t 38)), ⟨some 40, .call 45 [.t 39], none⟩, Qa 6 40]) (.seq (.reg 
 [Q 41 (.fa 4 (.t 1)), Q 42 (.ld false 1 (.t 41)), Qc 43 5, Q 44 (.ia 6 (.t 42) (.t 43)), Q 45 (.fa 0 (.t 44)), Q 46 (.ld false 1 (.t 45)), ⟨some 47, .call 74 [.t 46], none⟩, Qa 7 
 47]) (.seq (.dreg [Qc 48 6, Q 49 (.not (.t 48)), Qc 50 49, Qd 51 7 50 false, Qg 52 (.not (.t 51)) 50 false, Q 53 (.pick (.t 50) KT (.t 52)), Qc 54 53, Qd 55 5 54 false, Qg 56 
 (.bin .gtr (.t 55) (Ki 0)) 54 false, Qd 57 56 54 false, Qg 58 (.fa 4 (.t 1)) 57 true, Qg 59 (.ld false 1 (.t 58)) 57 true, Qd 60 5 57 true, Qg 61 (.ia 6 (.t 59) (.t 60)) 57 true, 
 Qg 62 (.fa 0 (.t 61)) 57 true, Qg 63 (.ld false 1 (.t 62)) 57 true, Qg 64 (.fa 4 (.t 1)) 57 true, Qg 65 (.ld false 1 (.t 64)) 57 true, Qd 66 5 57 true, Qg 67 (.bin .sub (.t 66) 
 (Ki 1)) 57 true, Qg 68 (.ia 6 (.t 65) (.t 67)) 57 true, Qg 69 (.fa 0 (.t 68)) 57 true, Qg 70 (.ld false 1 (.t 69)) 57 true, Qg 71 (.bin .leq (.t 63) (.t 70)) 57 true, Qg 72 
 (.pick (.t 57) (.t 71) KF) 54 false, Q 73 (.pick (.t 54) KT (.t 72))]) (.cond (.t 73) (.seq (.reg [Qx 2 KF]) .ret) .skip))))) (.reg [Qc 32 5, Q 33 (.bin .add (.t 32) (Ki 1)), Qa 
 5 33])))))) (.seq (.reg [Q 74 (.fa 1 (.t 1)), Q 75 (.ld false 1 (.t 74)), Q 76 (.bin .eql (.t 75) (Ki 0)), Qa 8 76]) (.seq (.reg [Q 77 (.fa 2 (.t 1)), Q 78 (.ld false 1 (.t 77)), 
 Q 79 (.bin .eql (.t 78) (.k (.d (.str [])))), Qa 9 79]) (.seq (.reg [Q 80 (.fa 3 (.t 1)), Q 81 (.ld false 1 (.t 80)), Q 82 (.len false (.t 81)), Q 83 (.bin .eql (.t 82) (Ki 0)), 
 Qa 10 83]) (.seq (.reg [Q 84 (.fa 4 (.t 1)), Q 85 (.ld false 1 (.t 84)), Q 86 (.len false (.t 85)), Q 87 (.bin .eql (.t 86) (Ki 0)), Qa 11 87]) (.seq (.seq (.reg [Q 88 (.fa 0 (.t 
 1)), Q 89 (.ld false 1 (.t 88))]) (.block 4 (.seq (.reg [Q 91 (.bin .eql (.t 89) (Ki 0)), Qa 90 91]) (.cond (.t 90) (.seq (.reg [Qc 92 8, Qc 93 92, Qd 94 9 93 true, Q 95 (.pick 
 (.t 93) (.t 94) KF), Qc 96 95, Qd 97 10 96 true, Q 98 (.pick (.t 96) (.t 97) KF), Qc 99 98, Qd 100 11 99 true, Q 101 (.pick (.t 99) (.t 100) KF), Qa 2 101]) .ret) (.seq (.reg [Q 
 103 (.bin .eql (.t 89) (Ki 1)), Qa 102 103]) (.cond (.t 102) (.seq (.reg [Qc 104 8, Qc 105 104, Qg 106 (.fa 1 (.t 1)) 105 false, Qg 107 (.ld false 1 (.t 106)) 105 false, Qg 108 
 (.bin .eql (.t 107) (Ki 1)) 105 false, Q 109 (.pick (.t 105) KT (.t 108)), Qc 110 109, Qd 111 9 110 true, Q 112 (.pick (.t 110) (.t 111) KF), Qc 113 112, Qd 114 10 113 true, Q 
 115 (.pick (.t 113) (.t 114) KF), Qc 116 115, Qd 117 11 116 true, Q 118 (.pick (.t 116) (.t 117) KF), Qa 2 118]) .ret) (.seq (.reg [Q 120 (.bin .eql (.t 89) (Ki 2)), Qa 119 120]) 
 (.cond (.t 119) (.seq (.reg [Q 121 (.fa 1 (.t 1)), Q 122 (.ld false 1 (.t 121)), ⟨some 123, .call 75 [.t 122], none⟩, Q 124 (.bin .eql (.t 123) (Ki 0)), Qc 125 124, Qd 126 9 125 
 true, Q 127 (.pick (.t 125) (.t 126) KF), Qc 128 127, Qd 129 10 128 true, Q 130 (.pick (.t 128) (.t 129) KF), Qc 131 130, Qd 132 11 131 true, Q 133 (.pick (.t 131) (.t 132) KF), 
 Qa 2 133]) .ret) (.seq (.reg [Q 135 (.bin .eql (.t 89) (Ki 3)), Qa 134 135]) (.cond (.t 134) (.seq (.reg [Qc 136 8, Qc 137 136, Qg 138 (.fa 2 (.t 1)) 137 true, Qg 139 (.ld false 
 1 (.t 138)) 137 true, Qg 140 (.len true (.t 139)) 137 true, Qg 141 (.bin .leq (.t 140) (Ki 200)) 137 true, Q 142 (.pick (.t 137) (.t 141) KF), Qc 143 142, Qd 144 10 143 true, Q 
 145 (.pick (.t 143) (.t 144) KF), Qc 146 145, Qd 147 11 146 true, Q 148 (.pick (.t 146) (.t 147) KF), Qa 2 148]) .ret) (.seq (.reg [Q 150 (.bin .eql (.t 89) (Ki 4)), Qa 149 150]) 
 (.cond (.t 149) (.seq (.reg [Qc 151 8, Qc 152 151, Qg 153 (.fa 2 (.t 1)) 152 true, Qg 154 (.ld false 1 (.t 153)) 152 true, ⟨some 155, .call 74 [.t 154], some (152, true)⟩, Q 156 
 (.pick (.t 152) (.t 155) KF), Qc 157 156, Qd 158 10 157 true, Q 159 (.pick (.t 157) (.t 158) KF), Qc 160 159, Qd 161 11 160 true, Q 162 (.pick (.t 160) (.t 161) KF), Qa 2 162]) 
 .ret) (.seq (.reg [Q 164 (.bin .eql (.t 89) (Ki 5)), Qa 163 164]) (.cond (.t 163) (.seq (.reg [Qc 165 8, Qc 166 165, Qd 167 9 166 true, Q 168 (.pick (.t 166) (.t 167) KF), Qc 169 
 168, Qd 170 11 169 true, Q 171 (.pick (.t 169) (.t 170) KF), Qa 2 171]) .ret) (.seq (.reg [Q 173 (.bin .eql (.t 89) (Ki 6)), Qa 172 173]) (.cond (.t 172) (.seq (.reg [Qc 174 8, 
 Qc 175 174, Qd 176 9 175 true, Q 177 (.pick (.t 175) (.t 176) KF), Qc 178 177, Qd 179 10 178 true, Q 180 (.pick (.t 178) (.t 179) KF), Qa 2 180]) .ret) (.seq (.reg [Q 182 (.bin 
 .eql (.t 89) (Ki 7)), Qa 181 182]) (.cond (.t 181) (.seq (.reg [Q 183 (.fa 1 (.t 1)), Q 184 (.ld false 1 (.t 183)), Q 185 (.bin .geq (.t 184) (Ki 1)), Qc 186 185, Qg 187 (.fa 1 
 (.t 1)) 186 true, Qg 188 (.ld false 1 (.t 187)) 186 true, Qg 189 (.bin .leq (.t 188) (Ki 60)) 186 true, Q 190 (.pick (.t 186) (.t 189) KF), Qc 191 190, Qd 192 9 191 true, Q 193 
 (.pick (.t 191) (.t 192) KF), Qc 194 193, Qd 195 10 194 true, Q 196 (.pick (.t 194) (.t 195) KF), Qc 197 196, Qd 198 11 197 true, Q 199 (.pick (.t 197) (.t 198) KF), Qa 2 199]) 
 .ret) .skip)))))))))))))))))) (.seq (.reg [Qx 2 KF]) .ret))))))))
def R_foliowrightref_shaped : List LRes := [.tmp 2]
theorem lift_foliowrightref_shaped : Lifts Tryz.prog 45 200 L_foliowrightref_shaped R_foliowrightref_shaped := ⟨_, _, Tryz.func45, rfl, by kernel_rfl, by kernel_rfl, rfl⟩
theorem shaped_call : ∀ (m : Nat) (v : Val), SizeOf.sizeOf v ≤ m → v.sm 1048576 = true → PCall Tryz.prog 45 [v.d] (fun r => r = .one (.bool (wellV v))) := by
 intro m
 induction m with
 | zero => intro v h; cases v; simp at h
 | succ m ih =>
  intro v hv hsm
  obtain ⟨_, hll, hfl, hsl, hsf⟩ := Val.sm_iff.1 hsm
  have hvl := valsD_length v.l
  have hfl' := fldsD_length v.f
  generalize hR : wellV v = R
  have cast0 : ∀ a : Nat, ((a : Int) = 0) = (a = 0) := fun a => by apply propext; omega
  rw [Val.d_eq]
  refine lift_foliowrightref_shaped.call rfl ?_
  simp (maxSteps := 2000000) only [go_sem, ↓reduceIte, L_foliowrightref_shaped, R_foliowrightref_shaped, hvl, hfl']
  refine run_loop (fun i : Nat => ⟨[(1, .ptr (.l 1) 0), (3, .d (.int .i64 i))],
    [(1, .cells [.d (.int .i64 v.kind), .d (.int .i64 v.n), .d (.str v.s), .d (.list (valsD v.l)), .d (.list (fldsD v.f))])], []⟩)
   (fun i => i ≤ v.l.length ∧ ∀ j x, j < i → v.l[j]? = some x → wellV x = true) (fun i => v.l.length - i) 0 ?_ ?_ ?_
  ·refine Weak.mk ?_ ?_ ?_ <;> simp (maxSteps := 2000000) only [go_sem, ↓reduceIte, Sub, Int.natCast_add, Int.natCast_mul]
  ·exact ⟨by omega, fun j x h => by omega⟩
  ·rintro i ⟨hi, hn⟩
   simp (maxSteps := 2000000) only [go_sem, ↓reduceIte, hvl]
   refine ⟨fun hlt => ?_, fun hge => ?_⟩
   ·obtain ⟨x, hx⟩ := get_some (l := v.l) (i := i) (by omega)
    have hm := List.mem_of_getElem? hx
    have hc := ih x (by have := size_l hm; omega) (hsl x hm)
    rw [Val.d_eq] at hc
    simp (maxSteps := 2000000) (disch := omega) only [go_sem, ↓reduceIte, getI_nat, valsD_get, hx, Val.d_eq]
    refine CallG.of hc ?_
    simp (maxSteps := 2000000) (disch := omega) only [go_sem, ↓reduceIte]
    refine ⟨fun w1 => ?_, fun w1 => ⟨i + 1, ?_, ⟨by omega, fun j y hj hy => ?_⟩, by omega⟩⟩
    ·rw [← hR, wellV_badL hm w1]
    ·refine Weak.mk ?_ ?_ ?_ <;> simp (maxSteps := 2000000) only [go_sem, ↓reduceIte, Sub, Int.natCast_add, Int.natCast_mul]
    ·rcases Nat.lt_or_ge j i with h | h
     ·exact hn j y h hy
     ·have : j = i := by omega
      subst this
      rw [hx] at hy; cases hy; exact w1
   ·have hL : wellL v.l = true := wellL_all (fun x hx => by
     obtain ⟨j, hj⟩ := List.getElem?_of_mem hx
     exact hn j x (by have := (List.getElem?_eq_some_iff.1 hj).1; omega) hj)
    refine run_loop (fun i : Nat => ⟨[(1, .ptr (.l 1) 0), (5, .d (.int .i64 i))],
      [(1, .cells [.d (.int .i64 v.kind), .d (.int .i64 v.n), .d (.str v.s), .d (.list (valsD v.l)), .d (.list (fldsD v.f))])], []⟩)
     (fun i => i ≤ v.f.length ∧ wellF none (v.f.take i) = true) (fun i => v.f.length - i) 0 ?_ ?_ ?_
    ·refine Weak.mk ?_ ?_ ?_ <;> simp (maxSteps := 2000000) only [go_sem, ↓reduceIte, Sub, Int.natCast_add, Int.natCast_mul]
    ·exact ⟨by omega, by simp [wellF]⟩
    ·rintro i ⟨hi, hn⟩
     simp (maxSteps := 2000000) only [go_sem, ↓reduceIte, hfl']
     refine ⟨fun hlt => ?_, fun hge => ?_⟩
     ·obtain ⟨x, hx⟩ := get_some (l := v.f) (i := i) (by omega)
      have hm := List.mem_of_getElem? hx
      have hc := ih x.v (by have := size_f hm; omega) (Fld.sm_iff.1 (hsf x hm)).2
      have hstep : wellF none (v.f.take (i + 1)) = (wellF none (v.f.take i) && (nameMay x.name && (wellV x.v && (match v.f[i - 1]? with | some y => if i = 0 then true else Op.bytesLess y.name x.name | none => true)))) := wellF_take hx
      rw [hn] at hstep
      rw [Val.d_eq] at hc
      simp (maxSteps := 2000000) (disch := omega) only [go_sem, ↓reduceIte, getI_nat, fldsD_get, hx, Fld.d_eq]
      refine CallG.of hc ?_
      simp (maxSteps := 2000000) (disch := omega) only [go_sem, ↓reduceIte, getI_nat, fldsD_get, hx, Fld.d_eq]
      refine CallG.of (refNameMay_call _) ?_
      simp (maxSteps := 2000000) (disch := omega) only [go_sem, ↓reduceIte, getI_nat, fldsD_get, hx, Fld.d_eq]
      refine ⟨fun w1 => ⟨fun n1 => ⟨fun g1 => ?_, fun g1 => ?_⟩, fun n1 => ?_⟩, fun w1 => ?_⟩
      ·have i0 : i ≠ 0 := by omega
       obtain ⟨y, hy⟩ := get_some (l := v.f) (i := i - 1) (by omega)
       have hgy : getI (fldsD v.f) ((i : Int) - 1) = some y.d := by
        have : (i : Int) - 1 = ((i - 1 : Nat) : Int) := by omega
        rw [this, getI_nat, fldsD_get, hy]; rfl
       rw [hy] at hstep
       simp only [i0, if_false, w1, n1, Bool.true_and] at hstep
       simp (maxSteps := 2000000) (disch := omega) only [go_sem, ↓reduceIte, hgy, Fld.d_eq]
       refine ⟨fun b1 => ?_, fun b1 => ⟨i + 1, ?_, ⟨by omega, ?_⟩, by omega⟩⟩
       ·rw [bytesLeq_not] at b1
        simp only [Bool.not_eq_true'] at b1
        rw [b1] at hstep
        rw [← hR, wellV_badF (wellF_take_bad hstep)]
       ·refine Weak.mk ?_ ?_ ?_ <;> simp (maxSteps := 2000000) only [go_sem, ↓reduceIte, Sub, Int.natCast_add, Int.natCast_mul]
       ·rw [bytesLeq_not] at b1
        simp only [Bool.not_eq_false'] at b1
        rw [hstep, b1]
      ·have i0 : i = 0 := by omega
       subst i0
       simp only [if_true, w1, n1, Bool.true_and] at hstep
       simp (maxSteps := 2000000) (disch := omega) only [go_sem, ↓reduceIte]
       refine ⟨0 + 1, ?_, ⟨by omega, ?_⟩, by omega⟩
       ·refine Weak.mk ?_ ?_ ?_ <;> simp (maxSteps := 2000000) only [go_sem, ↓reduceIte, Sub, Int.natCast_add, Int.natCast_mul]
       ·rw [hstep]; cases v.f[0 - 1]? <;> rfl
      ·rw [n1] at hstep
       simp only [Bool.true_and, Bool.false_and] at hstep
       rw [← hR, wellV_badF (wellF_take_bad hstep)]
      ·rw [w1] at hstep
       simp only [Bool.true_and, Bool.false_and, Bool.and_false] at hstep
       rw [← hR, wellV_badF (wellF_take_bad hstep)]
     ·have hF : wellF none v.f = true := by rw [← List.take_of_length_le (l := v.f) (i := i) (by omega)]; exact hn
      rw [wellV_eq, hL, hF] at hR
      refine ⟨fun k0 => ?_, fun k0 => ⟨fun k1 => ?_, fun k1 => ⟨fun k2 => ?_, fun k2 => ⟨fun k3 => ?_, fun k3 => ⟨fun k4 => ?_, fun k4 => ⟨fun k5 => ?_, fun k5 => ⟨fun k6 => ?_, fun k6 => ⟨fun k7 => ?_, fun k7 => ?_⟩⟩⟩⟩⟩⟩⟩⟩
      ·rw [k0] at hR
       simp only [Int.reduceEq, ↓reduceIte] at hR
       subst hR
       simp only [cast0, hvl]
       by_cases c1 : v.n = 0 <;> by_cases c2 : v.s = [] <;> by_cases c3 : v.l.length = 0 <;> by_cases c4 : v.f.length = 0 <;> simp [c1, c2, c3, c4, Res.one.injEq]
      ·rw [k1] at hR
       simp only [Int.reduceEq, ↓reduceIte] at hR
       subst hR
       simp only [cast0, hvl]
       by_cases c1 : v.n = 0 <;> by_cases c2 : v.s = [] <;> by_cases c3 : v.l.length = 0 <;> by_cases c4 : v.f.length = 0 <;> simp [c1, c2, c3, c4, Res.one.injEq]
      ·rw [k2] at hR
       simp only [Int.reduceEq, ↓reduceIte] at hR
       subst hR
       refine CallG.of (fault_call _) ?_
       simp (maxSteps := 2000000) only [go_sem, ↓reduceIte]
       have hfl2 : (fltI v.n = 0) = Lim v.n := by unfold fltI; split <;> simp_all
       simp only [cast0, hvl, hfl2]
       by_cases c1 : Lim v.n <;> by_cases c2 : v.s = [] <;> by_cases c3 : v.l.length = 0 <;> by_cases c4 : v.f.length = 0 <;> simp [c1, c2, c3, c4]
      ·rw [k3] at hR
       simp only [Int.reduceEq, ↓reduceIte] at hR
       subst hR
       have c5 : ((v.s.length : Int) ≤ 200) = (v.s.length ≤ 200) := by apply propext; omega
       simp only [cast0, hvl, c5]
       by_cases c1 : v.n = 0 <;> by_cases c2 : v.s.length ≤ 200 <;> by_cases c3 : v.l.length = 0 <;> by_cases c4 : v.f.length = 0 <;> simp [c1, c2, c3, c4]
      ·rw [k4] at hR
       simp only [Int.reduceEq, ↓reduceIte] at hR
       subst hR
       refine ⟨fun c1 => ?_, fun c1 => ?_⟩
       ·refine CallG.of (refNameMay_call v.s) ?_
        simp (maxSteps := 2000000) only [go_sem, ↓reduceIte]
        simp only [cast0, hvl]
        cases c2 : nameMay v.s <;> by_cases c3 : v.l.length = 0 <;> by_cases c4 : v.f.length = 0 <;> simp [c1, c3, c4]
       ·simp [c1]
      ·rw [k5] at hR
       simp only [Int.reduceEq, ↓reduceIte] at hR
       subst hR
       simp only [cast0, hvl]
       by_cases c1 : v.n = 0 <;> by_cases c2 : v.s = [] <;> by_cases c3 : v.l.length = 0 <;> by_cases c4 : v.f.length = 0 <;> simp [c1, c2, c3, c4, Res.one.injEq]
      ·rw [k6] at hR
       simp only [Int.reduceEq, ↓reduceIte] at hR
       subst hR
       simp only [cast0, hvl]
       by_cases c1 : v.n = 0 <;> by_cases c2 : v.s = [] <;> by_cases c3 : v.l.length = 0 <;> by_cases c4 : v.f.length = 0 <;> simp [c1, c2, c3, c4, Res.one.injEq]
      ·rw [k7] at hR
       simp only [Int.reduceEq, ↓reduceIte] at hR
       subst hR
       simp only [cast0, hvl]
       by_cases c1 : 1 ≤ v.n <;> by_cases c5 : v.n ≤ 60 <;> by_cases c2 : v.s = [] <;> by_cases c3 : v.l.length = 0 <;> by_cases c4 : v.f.length = 0 <;> simp [c1, c2, c3, c4, c5]
      ·rw [if_neg k0, if_neg k1, if_neg k2, if_neg k3, if_neg k4, if_neg k5, if_neg k6, if_neg k7] at hR
       subst hR
       rfl
def L_foliowrightref_ValueFault : LCode :=
 .seq (.reg [⟨some 1, .box (.t 0), none⟩, Qx 2 (Ki 0)]) (.seq (.reg [Q 7 (.ld true 5 (.t 1)), ⟨some 8, .call 44 [.t 7], none⟩, Qc 6 8, Q 9 (.ext 0 (.t 6)), Q 10 (.ext 1 (.t 6)), Qa 
 3 9, Qa 4 10]) (.seq (.seq (.reg [Qc 11 3, Q 12 (.bin .gtr (.t 11) (Ki 300)), Qc 13 12, Qd 14 4 13 false, Qg 15 (.bin .gtr (.t 14) (Ki 8)) 13 false, Q 16 (.pick (.t 13) KT (.t 
 15))]) (.cond (.t 16) (.seq (.reg [Qx 2 (Ki 2)]) .ret) .skip)) (.seq (.reg [Q 17 (.ld true 5 (.t 1)), ⟨some 18, .call 45 [.t 17], none⟩, Qa 5 18]) (.seq (.seq (.reg [Qc 19 5, Q 
 20 (.not (.t 19))]) (.cond (.t 20) (.seq (.reg [Qx 2 (Ki 3)]) .ret) .skip)) (.seq (.reg [Qx 2 (Ki 0)]) .ret)))))
def R_foliowrightref_ValueFault : List LRes := [.tmp 2]
theorem lift_foliowrightref_ValueFault : Lifts Tryz.prog 28 21 L_foliowrightref_ValueFault R_foliowrightref_ValueFault := ⟨_, _, Tryz.func28, rfl, by kernel_rfl, by kernel_rfl, rfl⟩
theorem faultV_call (v : Val) (hsm : v.sm 1048576 = true) (hpt : (ptV v).1 ≤ 1000000000) : PCall Tryz.prog 28 [v.d] (fun r => r = .one (.int .i64 (faultV v))) := by
 have h1 := parts_call _ v (Nat.le_refl _) hsm hpt
 have h2 := shaped_call _ v (Nat.le_refl _) hsm
 have c1 : ((300 : Int) < (ptV v).1) = (300 < (ptV v).1) := by apply propext; omega
 have c2 : ((8 : Int) < (ptV v).2) = (8 < (ptV v).2) := by apply propext; omega
 rw [Val.d_eq] at *
 refine lift_foliowrightref_ValueFault.call rfl ?_
 simp (maxSteps := 2000000) only [go_sem, ↓reduceIte, L_foliowrightref_ValueFault, R_foliowrightref_ValueFault]
 refine CallG.of h1 ?_
 simp (maxSteps := 2000000) only [go_sem, ↓reduceIte, c1, c2]
 refine ⟨fun a1 => ⟨fun a2 => ?_, fun a2 => ?_⟩, fun a1 => ?_⟩
 ·simp [faultV, a2]
 ·refine CallG.of h2 ?_
  simp (maxSteps := 2000000) only [go_sem, ↓reduceIte]
  have a3 : ¬ (300 < (ptV v).1 ∨ 8 < (ptV v).2) := by omega
  simp only [faultV, if_neg a3]
  cases wellV v <;> simp
 ·have a3 : 300 < (ptV v).1 := by omega
  simp [faultV, a3]
def eqB {α : Type} (p : α → α → Bool) : List α → List α → Bool
 | [], [] => true
 | x :: r, y :: s => p x y && eqB p r s
 | _, _ => false
theorem eqB_len {α : Type} {p : α → α → Bool} : ∀ {a b : List α}, ¬ a.length = b.length → eqB p a b = false
 | [], [], h => absurd rfl h
 | [], _ :: _, _ => rfl
 | _ :: _, [], _ => rfl
 | x :: r, y :: s, h => by
  have : eqB p r s = false := eqB_len (by simpa using h)
  simp [eqB, this]
theorem eqB_nil {α : Type} {p : α → α → Bool} {a b : List α} (ha : a = []) (hb : b = []) : eqB p a b = true := by subst ha; subst hb; rfl
mutual
def alikeV : Val → Val → Bool
 | .mk k n s l f, .mk k' n' s' l' f' => decide (k = k') && (decide (n = n') && (decide (s = s') && (alikeL l l' && alikeF f f')))
def alikeL : List Val → List Val → Bool
 | [], [] => true
 | x :: r, y :: s => alikeV x y && alikeL r s
 | _, _ => false
def alikeF : List Fld → List Fld → Bool
 | [], [] => true
 | .mk nm x :: r, .mk nm' y :: s => (decide (nm = nm') && alikeV x y) && alikeF r s
 | _, _ => false
end
def alikeX (x y : Fld) : Bool := decide (x.name = y.name) && alikeV x.v y.v
theorem alikeL_eq : ∀ (a b : List Val), alikeL a b = eqB alikeV a b
 | [], [] => rfl
 | [], _ :: _ => rfl
 | _ :: _, [] => rfl
 | x :: r, y :: s => by simp only [alikeL, eqB, alikeL_eq r s]
theorem alikeF_eq : ∀ (a b : List Fld), alikeF a b = eqB alikeX a b
 | [], [] => rfl
 | [], _ :: _ => rfl
 | .mk _ _ :: _, [] => rfl
 | .mk _ x :: r, .mk _ y :: s => by simp only [alikeF, eqB, alikeF_eq r s]; rfl
theorem alikeV_eq (a b : Val) : alikeV a b = (decide (a.kind = b.kind) && (decide (a.n = b.n) && (decide (a.s = b.s) && (eqB alikeV a.l b.l && eqB alikeX a.f b.f)))) := by
 cases a; cases b; simp only [alikeV, alikeL_eq, alikeF_eq]; rfl
mutual
theorem alikeV_iff : ∀ (a b : Val), alikeV a b = true ↔ a = b
 | .mk k n s l f, .mk k' n' s' l' f' => by
  simp only [alikeV, Bool.and_eq_true, decide_eq_true_eq, alikeL_iff l l', alikeF_iff f f', Val.mk.injEq]
theorem alikeL_iff : ∀ (a b : List Val), alikeL a b = true ↔ a = b
 | [], [] => by simp [alikeL]
 | [], _ :: _ => by simp [alikeL]
 | _ :: _, [] => by simp [alikeL]
 | x :: r, y :: s => by simp only [alikeL, Bool.and_eq_true, alikeV_iff x y, alikeL_iff r s, List.cons.injEq]
theorem alikeF_iff : ∀ (a b : List Fld), alikeF a b = true ↔ a = b
 | [], [] => by simp [alikeF]
 | [], _ :: _ => by simp [alikeF]
 | .mk _ _ :: _, [] => by simp [alikeF]
 | .mk nm x :: r, .mk nm' y :: s => by simp only [alikeF, Bool.and_eq_true, decide_eq_true_eq, alikeV_iff x y, alikeF_iff r s, List.cons.injEq, Fld.mk.injEq]
end
def L_foliowrightref_Alike : LCode :=
 .seq (.reg [⟨some 2, .box (.t 0), none⟩, ⟨some 3, .box (.t 1), none⟩, Qx 4 KF]) (.seq (.seq (.reg [Q 9 (.fa 0 (.t 2)), Q 10 (.ld false 1 (.t 9)), Q 11 (.fa 0 (.t 3)), Q 12 (.ld 
 false 1 (.t 11)), Q 13 (.bin .neq (.t 10) (.t 12)), Qc 14 13, Qg 15 (.fa 1 (.t 2)) 14 false, Qg 16 (.ld false 1 (.t 15)) 14 false, Qg 17 (.fa 1 (.t 3)) 14 false, Qg 18 (.ld false 
 1 (.t 17)) 14 false, Qg 19 (.bin .neq (.t 16) (.t 18)) 14 false, Q 20 (.pick (.t 14) KT (.t 19)), Qc 21 20, Qg 22 (.fa 2 (.t 2)) 21 false, Qg 23 (.ld false 1 (.t 22)) 21 false, 
 Qg 24 (.fa 2 (.t 3)) 21 false, Qg 25 (.ld false 1 (.t 24)) 21 false, Qg 26 (.bin .neq (.t 23) (.t 25)) 21 false, Q 27 (.pick (.t 21) KT (.t 26)), Qc 28 27, Qg 29 (.fa 3 (.t 2)) 
 28 false, Qg 30 (.ld false 1 (.t 29)) 28 false, Qg 31 (.len false (.t 30)) 28 false, Qg 32 (.fa 3 (.t 3)) 28 false, Qg 33 (.ld false 1 (.t 32)) 28 false, Qg 34 (.len false (.t 
 33)) 28 false, Qg 35 (.bin .neq (.t 31) (.t 34)) 28 false, Q 36 (.pick (.t 28) KT (.t 35)), Qc 37 36, Qg 38 (.fa 4 (.t 2)) 37 false, Qg 39 (.ld false 1 (.t 38)) 37 false, Qg 40 
 (.len false (.t 39)) 37 false, Qg 41 (.fa 4 (.t 3)) 37 false, Qg 42 (.ld false 1 (.t 41)) 37 false, Qg 43 (.len false (.t 42)) 37 false, Qg 44 (.bin .neq (.t 40) (.t 43)) 37 
 false, Q 45 (.pick (.t 37) KT (.t 44))]) (.cond (.t 45) (.seq (.reg [Qx 4 KF]) .ret) .skip)) (.seq (.seq (.reg [Qx 5 (Ki 0)]) (.block 0 (.loop (.seq (.seq (.reg [Qc 46 5, Q 47 
 (.fa 3 (.t 2)), Q 48 (.ld false 1 (.t 47)), Q 49 (.len false (.t 48)), Q 50 (.bin .lss (.t 46) (.t 49))]) (.cond (.t 50) .skip (.exit 0))) (.seq (.block 1 (.seq (.dreg [Q 53 (.fa 
 3 (.t 2)), Q 54 (.ld false 1 (.t 53)), Qc 55 5, Q 56 (.ia 5 (.t 54) (.t 55)), Q 57 (.ld true 5 (.t 56)), Q 58 (.fa 3 (.t 3)), Q 59 (.ld false 1 (.t 58)), Qc 60 5, Q 61 (.ia 5 (.t 
 59) (.t 60)), Q 62 (.ld true 5 (.t 61)), ⟨some 63, .call 30 [.t 57, .t 62], none⟩, Qa 6 63]) (.seq (.reg [Qc 64 6, Q 65 (.not (.t 64))]) (.cond (.t 65) (.seq (.reg [Qx 4 KF]) 
 .ret) .skip)))) (.reg [Qc 51 5, Q 52 (.bin .add (.t 51) (Ki 1)), Qa 5 52])))))) (.seq (.seq (.reg [Qx 7 (Ki 0)]) (.block 2 (.loop (.seq (.seq (.reg [Qc 66 7, Q 67 (.fa 4 (.t 2)), 
 Q 68 (.ld false 1 (.t 67)), Q 69 (.len false (.t 68)), Q 70 (.bin .lss (.t 66) (.t 69))]) (.cond (.t 70) .skip (.exit 2))) (.seq (.block 3 (.seq (.dreg [Q 73 (.fa 4 (.t 2)), Q 74 
 (.ld false 1 (.t 73)), Qc 75 7, Q 76 (.ia 6 (.t 74) (.t 75)), Q 77 (.fa 1 (.t 76)), Q 78 (.ld true 5 (.t 77)), Q 79 (.fa 4 (.t 3)), Q 80 (.ld false 1 (.t 79)), Qc 81 7, Q 82 (.ia 
 6 (.t 80) (.t 81)), Q 83 (.fa 1 (.t 82)), Q 84 (.ld true 5 (.t 83)), ⟨some 85, .call 30 [.t 78, .t 84], none⟩, Qa 8 85]) (.seq (.dreg [Qc 86 8, Q 87 (.not (.t 86)), Qc 88 87, Qg 
 89 (.fa 4 (.t 2)) 88 false, Qg 90 (.ld false 1 (.t 89)) 88 false, Qd 91 7 88 false, Qg 92 (.ia 6 (.t 90) (.t 91)) 88 false, Qg 93 (.fa 0 (.t 92)) 88 false, Qg 94 (.ld false 1 (.t 
 93)) 88 false, Qg 95 (.fa 4 (.t 3)) 88 false, Qg 96 (.ld false 1 (.t 95)) 88 false, Qd 97 7 88 false, Qg 98 (.ia 6 (.t 96) (.t 97)) 88 false, Qg 99 (.fa 0 (.t 98)) 88 false, Qg 
 100 (.ld false 1 (.t 99)) 88 false, Qg 101 (.bin .neq (.t 94) (.t 100)) 88 false, Q 102 (.pick (.t 88) KT (.t 101))]) (.cond (.t 102) (.seq (.reg [Qx 4 KF]) .ret) .skip)))) (.reg 
 [Qc 71 7, Q 72 (.bin .add (.t 71) (Ki 1)), Qa 7 72])))))) (.seq (.reg [Qx 4 KT]) .ret))))
def R_foliowrightref_Alike : List LRes := [.tmp 4]
theorem lift_foliowrightref_Alike : Lifts Tryz.prog 30 103 L_foliowrightref_Alike R_foliowrightref_Alike := ⟨_, _, Tryz.func30, rfl, by kernel_rfl, by kernel_rfl, rfl⟩
theorem alikeR_call : ∀ (m : Nat) (a b : Val), SizeOf.sizeOf a ≤ m → a.sm 1048576 = true → PCall Tryz.prog 30 [a.d, b.d] (fun r => r = .one (.bool (alikeV a b))) := by
 intro m
 induction m with
 | zero => intro v b h; cases v; simp at h
 | succ m ih =>
  intro a b hv hsm
  obtain ⟨_, hll, hfl, hsl, hsf⟩ := Val.sm_iff.1 hsm
  have hvl := valsD_length a.l
  have hfl' := fldsD_length a.f
  have hvl2 := valsD_length b.l
  have hfl2 := fldsD_length b.f
  generalize hR : alikeV a b = R
  rw [alikeV_eq] at hR
  rw [Val.d_eq a, Val.d_eq b]
  have castE : ∀ x y : Nat, ((x : Int) = (y : Int)) = (x = y) := fun x y => by apply propext; omega
  refine lift_foliowrightref_Alike.call rfl ?_
  simp (maxSteps := 2000000) only [go_sem, ↓reduceIte, L_foliowrightref_Alike, R_foliowrightref_Alike, hvl, hfl', hvl2, hfl2, castE]
  refine ⟨fun c1 => ⟨fun c2 => ⟨fun c3 => ⟨fun c4 => ⟨fun c5 => ?_, fun c5 => ?_⟩, fun c4 => ?_⟩, fun c3 => ?_⟩, fun c2 => ?_⟩, fun c1 => ?_⟩
  ·rw [eqB_len c5] at hR; subst hR; simp
  ·simp only [c1, c2, c3, decide_true, Bool.true_and] at hR
   refine run_loop (fun i : Nat => ⟨[(2, .ptr (.l 2) 0), (3, .ptr (.l 3) 0), (5, .d (.int .i64 i))],
     [(2, .cells [.d (.int .i64 a.kind), .d (.int .i64 a.n), .d (.str a.s), .d (.list (valsD a.l)), .d (.list (fldsD a.f))]),
      (3, .cells [.d (.int .i64 b.kind), .d (.int .i64 b.n), .d (.str b.s), .d (.list (valsD b.l)), .d (.list (fldsD b.f))])], []⟩)
    (fun i => i ≤ a.l.length ∧ (eqB alikeV (a.l.drop i) (b.l.drop i) && eqB alikeX a.f b.f) = R) (fun i => a.l.length - i) 0 ?_ ?_ ?_
   ·refine Weak.mk ?_ ?_ ?_ <;> simp (maxSteps := 2000000) only [go_sem, ↓reduceIte, Sub, Int.natCast_add, Int.natCast_mul]
   ·exact ⟨by omega, hR⟩
   ·rintro i ⟨hi, hF⟩
    simp (maxSteps := 2000000) only [go_sem, ↓reduceIte, hvl]
    refine ⟨fun hlt => ?_, fun hge => ?_⟩
    ·obtain ⟨x, hx⟩ := get_some (l := a.l) (i := i) (by omega)
     obtain ⟨y, hy⟩ := get_some (l := b.l) (i := i) (by omega)
     rw [drop_at hx, drop_at hy, eqB] at hF
     have hm := List.mem_of_getElem? hx
     have hc := ih x y (by have := size_l hm; omega) (hsl x hm)
     rw [Val.d_eq x, Val.d_eq y] at hc
     simp (maxSteps := 2000000) (disch := omega) only [go_sem, ↓reduceIte, getI_nat, valsD_get, hx, hy, Val.d_eq]
     refine CallD.of hc ?_
     simp (maxSteps := 2000000) (disch := omega) only [go_sem, ↓reduceIte]
     refine ⟨fun w1 => ?_, fun w1 => ⟨i + 1, ?_, ⟨by omega, ?_⟩, by omega⟩⟩
     ·rw [← hF, w1]; rfl
     ·refine Weak.mk ?_ ?_ ?_ <;> simp (maxSteps := 2000000) only [go_sem, ↓reduceIte, Sub, Int.natCast_add, Int.natCast_mul]
     ·rw [← hF, w1]; rfl
    ·rw [eqB_nil (List.drop_eq_nil_of_le (by omega)) (List.drop_eq_nil_of_le (by omega)), Bool.true_and] at hF
     refine run_loop (fun i : Nat => ⟨[(2, .ptr (.l 2) 0), (3, .ptr (.l 3) 0), (7, .d (.int .i64 i))],
       [(2, .cells [.d (.int .i64 a.kind), .d (.int .i64 a.n), .d (.str a.s), .d (.list (valsD a.l)), .d (.list (fldsD a.f))]),
        (3, .cells [.d (.int .i64 b.kind), .d (.int .i64 b.n), .d (.str b.s), .d (.list (valsD b.l)), .d (.list (fldsD b.f))])], []⟩)
      (fun i => i ≤ a.f.length ∧ eqB alikeX (a.f.drop i) (b.f.drop i) = R) (fun i => a.f.length - i) 0 ?_ ?_ ?_
     ·refine Weak.mk ?_ ?_ ?_ <;> simp (maxSteps := 2000000) only [go_sem, ↓reduceIte, Sub, Int.natCast_add, Int.natCast_mul]
     ·exact ⟨by omega, hF⟩
     ·rintro i ⟨hi, hF⟩
      simp (maxSteps := 2000000) only [go_sem, ↓reduceIte, hfl']
      refine ⟨fun hlt => ?_, fun hge => ?_⟩
      ·obtain ⟨x, hx⟩ := get_some (l := a.f) (i := i) (by omega)
       obtain ⟨y, hy⟩ := get_some (l := b.f) (i := i) (by omega)
       rw [drop_at hx, drop_at hy, eqB, alikeX] at hF
       have hm := List.mem_of_getElem? hx
       have hc := ih x.v y.v (by have := size_f hm; omega) (Fld.sm_iff.1 (hsf x hm)).2
       rw [Val.d_eq x.v, Val.d_eq y.v] at hc
       simp (maxSteps := 2000000) (disch := omega) only [go_sem, ↓reduceIte, getI_nat, fldsD_get, hx, hy, Fld.d_eq]
       refine CallD.of hc ?_
       simp (maxSteps := 2000000) (disch := omega) only [go_sem, ↓reduceIte, getI_nat, fldsD_get, hx, hy, Fld.d_eq]
       refine ⟨fun w1 => ⟨fun n1 => ?_, fun n1 => ⟨i + 1, ?_, ⟨by omega, ?_⟩, by omega⟩⟩, fun w1 => ?_⟩
       ·rw [← hF]; simp [n1]
       ·refine Weak.mk ?_ ?_ ?_ <;> simp (maxSteps := 2000000) only [go_sem, ↓reduceIte, Sub, Int.natCast_add, Int.natCast_mul]
       ·rw [← hF, w1]; simp [n1]
       ·rw [← hF, w1]; simp
      ·rw [eqB_nil (List.drop_eq_nil_of_le (by omega)) (List.drop_eq_nil_of_le (by omega))] at hF
       subst hF
       rfl
  ·rw [eqB_len c4] at hR; subst hR; simp
  ·simp only [c3, decide_false, Bool.false_and, Bool.and_false] at hR; subst hR; rfl
  ·simp only [c2, decide_false, Bool.false_and, Bool.and_false] at hR; subst hR; rfl
  ·simp only [c1, decide_false, Bool.false_and, Bool.and_false] at hR; subst hR; rfl
def L_foliowrightref_Get : LCode :=
 .seq (.reg [⟨some 2, .box (.t 0), none⟩, ⟨some 4, .allo [.int .i64 0, .int .i64 0, .str [], .list [], .list []], none⟩, Qx 5 KF]) (.seq (.seq (.reg [Qx 6 (Ki 0)]) (.block 0 (.loop 
 (.seq (.seq (.reg [Qc 7 6, Q 8 (.fa 4 (.t 2)), Q 9 (.ld false 1 (.t 8)), Q 10 (.len false (.t 9)), Q 11 (.bin .lss (.t 7) (.t 10))]) (.cond (.t 11) .skip (.exit 0))) (.seq 
 (.block 1 (.seq (.reg [Q 14 (.fa 4 (.t 2)), Q 15 (.ld false 1 (.t 14)), Qc 16 6, Q 17 (.ia 6 (.t 15) (.t 16)), Q 18 (.fa 0 (.t 17)), Q 19 (.ld false 1 (.t 18)), Qc 20 1, Q 21 
 (.bin .eql (.t 19) (.t 20))]) (.cond (.t 21) (.seq (.reg [Q 22 (.fa 4 (.t 2)), Q 23 (.ld false 1 (.t 22)), Qc 24 6, Q 25 (.ia 6 (.t 23) (.t 24)), Q 26 (.fa 1 (.t 25)), Q 27 (.ld 
 true 5 (.t 26)), ⟨none, .st 5 (.t 4) (.t 27), none⟩, Qx 5 KT]) .ret) .skip))) (.reg [Qc 12 6, Q 13 (.bin .add (.t 12) (Ki 1)), Qa 6 13])))))) (.seq (.reg [Q 28 (.bld [(0, 1), (1, 
 1), (2, 1), (3, 1), (4, 1)] [.int .i64 0, .int .i64 0, .str [], .list [], .list []] [] []), ⟨none, .st 5 (.t 4) (.t 28), none⟩, Qx 5 KF]) .ret))
def R_foliowrightref_Get : List LRes := [.cell 4 true 5, .tmp 5]
theorem lift_foliowrightref_Get : Lifts Tryz.prog 92 29 L_foliowrightref_Get R_foliowrightref_Get := ⟨_, _, Tryz.func92, rfl, by kernel_rfl, by kernel_rfl, rfl⟩
def getV (nm : List UInt8) : List Fld → Option Val
 | [] => none
 | x :: r => if x.name = nm then some x.v else getV nm r
def zeroV : Val := .mk 0 0 [] [] []
def getR (o : Option Val) : Res := .tup [(o.getD zeroV).d, .bool o.isSome]
theorem getR_call (v : Val) (nm : List UInt8) (hf : v.f.length ≤ 1048576) : PCall Tryz.prog 92 [v.d, .str nm] (fun r => r = getR (getV nm v.f)) := by
 have hfl' := fldsD_length v.f
 generalize hR : getV nm v.f = R
 rw [Val.d_eq]
 refine lift_foliowrightref_Get.call rfl ?_
 simp (maxSteps := 2000000) only [go_sem, ↓reduceIte, L_foliowrightref_Get, R_foliowrightref_Get]
 refine run_loop (fun i : Nat => ⟨[(1, .d (.str nm)), (2, .ptr (.l 2) 0), (4, .ptr (.l 4) 0), (6, .d (.int .i64 i))],
   [(2, .cells [.d (.int .i64 v.kind), .d (.int .i64 v.n), .d (.str v.s), .d (.list (valsD v.l)), .d (.list (fldsD v.f))]),
    (4, .cells [.d (.int .i64 0), .d (.int .i64 0), .d (.str []), .ns, .ns])], []⟩)
  (fun i => i ≤ v.f.length ∧ getV nm (v.f.drop i) = R) (fun i => v.f.length - i) 0 ?_ ?_ ?_
 ·refine Weak.mk ?_ ?_ ?_ <;> simp (maxSteps := 2000000) only [go_sem, ↓reduceIte, Sub, Int.natCast_add, Int.natCast_mul]
 ·exact ⟨by omega, hR⟩
 ·rintro i ⟨hi, hF⟩
  simp (maxSteps := 2000000) only [go_sem, ↓reduceIte, hfl']
  refine ⟨fun hlt => ?_, fun hge => ?_⟩
  ·obtain ⟨x, hx⟩ := get_some (l := v.f) (i := i) (by omega)
   rw [drop_at hx, getV] at hF
   simp (maxSteps := 2000000) (disch := omega) only [go_sem, ↓reduceIte, getI_nat, fldsD_get, hx, Fld.d_eq]
   refine ⟨fun n1 => ?_, fun n1 => ⟨i + 1, ?_, ⟨by omega, ?_⟩, by omega⟩⟩
   ·rw [if_pos n1] at hF
    subst hF
    simp only [getR, Option.getD_some, Option.isSome_some]
    rw [Val.d_eq x.v]
   ·refine Weak.mk ?_ ?_ ?_ <;> simp (maxSteps := 2000000) only [go_sem, ↓reduceIte, Sub, Int.natCast_add, Int.natCast_mul]
   ·rw [if_neg n1] at hF; exact hF
  ·rw [List.drop_eq_nil_of_le (by omega), getV] at hF
   subst hF
   rfl
def L_value_Get : LCode :=
 .seq (.reg [⟨some 2, .box (.t 0), none⟩, ⟨some 4, .allo [.int .i64 0, .int .i64 0, .str [], .list [], .list []], none⟩, Qx 5 KF]) (.seq (.seq (.reg [Q 8 (.fa 4 (.t 2)), Q 9 (.ld 
 false 1 (.t 8)), Q 10 (.len false (.t 9)), Q 11 (.cp (Ki 0))]) (.block 0 (.loop (.seq (.reg [Q 12 (.bin .lss (.t 11) (.t 10))]) (.seq (.cond (.t 12) .skip (.exit 0)) (.seq 
 (.block 1 (.seq (.reg [Q 13 (.ia 6 (.t 9) (.t 11)), Q 14 (.ld true 6 (.t 13)), ⟨some 7, .allo [.str [], .int .i64 0, .int .i64 0, .str [], .list [], .list []], none⟩, ⟨none, .st 
 6 (.t 7) (.t 14), none⟩]) (.seq (.reg [Q 15 (.fa 0 (.t 7)), Q 16 (.ld false 1 (.t 15)), Qc 17 1, Q 18 (.bin .eql (.t 16) (.t 17))]) (.cond (.t 18) (.seq (.reg [Q 19 (.fa 1 (.t 
 7)), Q 20 (.ld true 5 (.t 19)), ⟨none, .st 5 (.t 4) (.t 20), none⟩, Qx 5 KT]) .ret) .skip)))) (.reg [Q 21 (.bin .add (.t 11) (Ki 1)), Qc 11 21]))))))) (.seq (.reg [Q 22 (.bld 
 [(0, 1), (1, 1), (2, 1), (3, 1), (4, 1)] [.int .i64 0, .int .i64 0, .str [], .list [], .list []] [] []), ⟨none, .st 5 (.t 4) (.t 22), none⟩, Qx 5 KF]) .ret))
def R_value_Get : List LRes := [.cell 4 true 5, .tmp 5]
theorem lift_value_Get : Lifts Tryz.prog 86 23 L_value_Get R_value_Get := ⟨_, _, Tryz.func86, rfl, by kernel_rfl, by kernel_rfl, rfl⟩
theorem getP_call (v : Val) (nm : List UInt8) (hf : v.f.length ≤ 1048576) : PCall Tryz.prog 86 [v.d, .str nm] (fun r => r = getR (getV nm v.f)) := by
 have hfl' := fldsD_length v.f
 generalize hR : getV nm v.f = R
 rw [Val.d_eq]
 refine lift_value_Get.call rfl ?_
 simp (maxSteps := 2000000) only [go_sem, ↓reduceIte, L_value_Get, R_value_Get]
 refine run_loop (fun i : Nat => ⟨[(1, .d (.str nm)), (2, .ptr (.l 2) 0), (4, .ptr (.l 4) 0), (9, .d (.list (fldsD v.f))), (10, .d (.int .i64 v.f.length)), (11, .d (.int .i64 i))],
   [(2, .cells [.d (.int .i64 v.kind), .d (.int .i64 v.n), .d (.str v.s), .d (.list (valsD v.l)), .d (.list (fldsD v.f))]),
    (4, .cells [.d (.int .i64 0), .d (.int .i64 0), .d (.str []), .ns, .ns])], []⟩)
  (fun i => i ≤ v.f.length ∧ getV nm (v.f.drop i) = R) (fun i => v.f.length - i) 0 ?_ ?_ ?_
 ·refine Weak.mk ?_ ?_ ?_ <;> simp (maxSteps := 2000000) only [go_sem, ↓reduceIte, Sub, Int.natCast_add, Int.natCast_mul, hfl']
 ·exact ⟨by omega, hR⟩
 ·rintro i ⟨hi, hF⟩
  simp (maxSteps := 2000000) only [go_sem, ↓reduceIte, hfl']
  refine ⟨fun hlt => ?_, fun hge => ?_⟩
  ·obtain ⟨x, hx⟩ := get_some (l := v.f) (i := i) (by omega)
   rw [drop_at hx, getV] at hF
   simp (maxSteps := 2000000) (disch := omega) only [go_sem, ↓reduceIte, getI_nat, fldsD_get, hx, Fld.d_eq]
   refine ⟨fun n1 => ?_, fun n1 => ⟨i + 1, ?_, ⟨by omega, ?_⟩, by omega⟩⟩
   ·rw [if_pos n1] at hF
    subst hF
    simp only [getR, Option.getD_some, Option.isSome_some]
    rw [Val.d_eq x.v]
   ·refine Weak.mk ?_ ?_ ?_ <;> simp (maxSteps := 2000000) only [go_sem, ↓reduceIte, Sub, Int.natCast_add, Int.natCast_mul]
   ·rw [if_neg n1] at hF; exact hF
  ·rw [List.drop_eq_nil_of_le (by omega), getV] at hF
   subst hF
   rfl
/-! ### Builders, wherever they lie -/
def Bld.at (r : Ref) : Bld → AObj
 | .new => .cells [.nt 59, .ns]
 | .nul => .cells [.ptr r 0, .ns]
 | .has s => .cells [.ptr r 0, .own (.c r 1) 5 1 (bytesD s)]
theorem Bld.obj_at (b : Bld) : b.obj = b.at (.x 0) := by cases b <;> rfl
theorem Bld.at_ren (b : Bld) (r : Ref) : (b.at (.x 0)).ren [r] = b.at r := by cases b <;> rfl
theorem Bld.at_wf (b : Bld) : (b.at (.x 0)).wf 1 = true := by cases b <;> rfl
theorem Bld.at_loc (b : Bld) (i : Nat) : (b.at (.x i)).noLoc = true := by cases b <;> rfl
theorem Bld.bytes_has (s : List UInt8) : Bld.bytes (.has s) = s := rfl
theorem bldCall {dst : Option Nat} {f : LX} {args : List LX} {K : St → Prop} {σ : St} {g : FuncId} {first cap : List AV} {xs : List AV} {ret : AV} (r : Ref) {b b' : Bld} (hf : σ.ev f = .fn (.func g) first cap) (hc : MCallE Tryz.prog g xs [b.at (.x 0)] ret [b'.at (.x 0)])
  (hx : passQ [] 0 (first ++ (evL σ args ++ cap)) = renL [r] xs) (hwx : wfAL [] 1 0 xs = true) (ho : σ.obj r = some (b.at r)) (hr : retOK 1 ret = true)
  (hK : K (retO (({ σ with ρ := amap (AV.unown [r]) σ.ρ } : St).setObj r (b'.at r)) dst [r] ret)) : PrimG Tryz.prog dst .call (f :: args) K σ := by
 refine PrimG.mcall [r] [] hf hc hx hwx ?_ ?_ ?_ ?_ ⟨hr, ?_⟩ ?_
 ·exact ⟨by rw [Bld.at_ren]; exact ho, trivial⟩
 ·show (Bld.at (.x 0) b).wf 1 && true = true
  rw [Bld.at_wf]; rfl
 ·rfl
 ·rfl
 ·show ((Bld.at (.x 0) b').wf 1 && (isLocal r || ((Bld.at (.x 0) b').ren [r]).noLoc)) && true = true
  rw [Bld.at_wf, Bld.at_ren]
  cases r with
  | l s => rfl
  | x i => rw [Bld.at_loc]; rfl
 ·show K (retO (setObjs [r] { (eraseL σ []) with ρ := amap (AV.unown [r]) (eraseL σ []).ρ } [r] [Bld.at (.x 0) b']) dst [r] ret)
  simp only [setObjs, Bld.at_ren, eraseL]
  exact hK
theorem writeString_at (b : Bld) (t : List UInt8) (hl : (b.bytes ++ t).length ≤ 1000000000) : MCallE Tryz.prog 25 [.ptr (.x 0) 0, .d (.str t)] [b.at (.x 0)] (.tuple [.d (.int .i64 t.length), .d .nil]) [Bld.at (.x 0) (.has (b.bytes ++ t))] := by
 rw [← Bld.obj_at, ← Bld.obj_at]; exact writeString_call b t hl
theorem writeByte_at (b : Bld) (c : UInt8) (hl : b.bytes.length + 1 ≤ 1000000000) : MCallE Tryz.prog 55 [.ptr (.x 0) 0, .d (.int .u8 c.toNat)] [b.at (.x 0)] (.d .nil) [Bld.at (.x 0) (.has (b.bytes ++ [c]))] := by
 rw [← Bld.obj_at, ← Bld.obj_at]; exact writeByte_call b c hl
/-! ### One byte in a string -/
def L_internal_stringslite_Index : LCode :=
 .seq (.reg [Qx 4 (Ki 0)]) (.seq (.reg [Qc 14 1, Q 15 (.len true (.t 14)), Qa 5 15]) (.seq (.block 0 (.seq (.reg [Qc 17 5, Q 18 (.bin .eql (.t 17) (Ki 0)), Qc 19 18, Qd 20 1 19 
 false, Qd 21 0 19 false, Qg 22 (.bin .eql (.t 20) (.t 21)) 19 false, Q 23 (.pick (.t 19) KT (.t 22)), Qa 16 23]) (.cond (.t 16) (.seq (.reg [Qx 4 (Ki 0)]) .ret) (.seq (.reg [Qc 
 25 5, Q 26 (.bin .eql (.t 25) (Ki 1)), Qa 24 26]) (.cond (.t 24) (.seq (.reg [Qc 27 0, Qc 28 1, Q 29 (.idxS (.t 28) (Ki 0)), ⟨some 30, .call 114 [.t 27, .t 29], none⟩, Qa 4 30]) 
 .ret) (.seq (.reg [Qc 32 5, Qc 33 0, Q 34 (.len true (.t 33)), Q 35 (.bin .geq (.t 32) (.t 34)), Qa 31 35]) (.cond (.t 31) (.seq (.reg [Qx 4 (Ki (-1))]) .ret) (.seq .bad (.cond 
 (.t 36) (.seq (.reg [Qc 45 0, Qc 46 1, ⟨some 47, .prim .call [.k (.fn (.func 118) [] []), .t 45, .t 46] [], none⟩, Qa 4 47]) .ret) .skip))))))))) (.seq (.reg [Qc 48 1, Q 49 
 (.idxS (.t 48) (Ki 0)), Qa 6 49]) (.seq (.reg [Qc 50 1, Q 51 (.idxS (.t 50) (Ki 1)), Qa 7 51]) (.seq (.reg [Qx 8 (Ki 0)]) (.seq (.reg [Qc 52 0, Q 53 (.len true (.t 52)), Qc 54 5, 
 Q 55 (.bin .sub (.t 53) (.t 54)), Q 56 (.bin .add (.t 55) (Ki 1)), Qa 9 56]) (.seq (.reg [Qx 10 (Ki 0)]) (.seq (.block 1 (.loop (.seq (.seq (.reg [Qc 57 8, Qc 58 9, Q 59 (.bin 
 .lss (.t 57) (.t 58))]) (.cond (.t 59) .skip (.exit 1))) (.block 2 (.seq (.seq (.reg [Qc 60 0, Qc 61 8, Q 62 (.idxS (.t 60) (.t 61)), Qc 63 6, Q 64 (.bin .neq (.t 62) (.t 63))]) 
 (.cond (.t 64) (.seq (.reg [Qc 65 0, Qc 66 8, Q 67 (.bin .add (.t 66) (Ki 1)), Qc 68 9, Q 69 (.subS (.t 65) (some (.t 67)) (some (.t 68))), Qc 70 6, ⟨some 71, .call 114 [.t 69, 
 .t 70], none⟩, Qa 11 71]) (.seq (.seq (.reg [Qc 72 11, Q 73 (.bin .lss (.t 72) (Ki 0))]) (.cond (.t 73) (.seq (.reg [Qx 4 (Ki (-1))]) .ret) .skip)) (.reg [Qc 74 8, Qc 75 11, Q 76 
 (.bin .add (.t 75) (Ki 1)), Q 77 (.bin .add (.t 74) (.t 76)), Qa 8 77]))) .skip)) (.seq (.seq (.reg [Qc 78 0, Qc 79 8, Q 80 (.bin .add (.t 79) (Ki 1)), Q 81 (.idxS (.t 78) (.t 
 80)), Qc 82 7, Q 83 (.bin .eql (.t 81) (.t 82)), Qc 84 83, Qd 85 0 84 true, Qd 86 8 84 true, Qd 87 8 84 true, Qd 88 5 84 true, Qg 89 (.bin .add (.t 87) (.t 88)) 84 true, Qg 90 
 (.subS (.t 85) (some (.t 86)) (some (.t 89))) 84 true, Qd 91 1 84 true, Qg 92 (.bin .eql (.t 90) (.t 91)) 84 true, Q 93 (.pick (.t 84) (.t 92) KF)]) (.cond (.t 93) (.seq (.reg 
 [Qc 94 8, Qa 4 94]) .ret) .skip)) (.seq (.reg [Qc 95 8, Q 96 (.bin .add (.t 95) (Ki 1)), Qa 8 96]) (.seq (.reg [Qc 97 10, Q 98 (.bin .add (.t 97) (Ki 1)), Qa 10 98]) (.seq .bad 
 (.cond (.t 107) (.seq (.reg [Qc 108 0, Qc 109 8, Q 110 (.subS (.t 108) (some (.t 109)) none), Qc 111 1, ⟨some 112, .prim .call [.k (.fn (.func 118) [] []), .t 110, .t 111] [], 
 none⟩, Qa 12 112]) (.seq (.seq (.reg [Qc 113 12, Q 114 (.bin .geq (.t 113) (Ki 0))]) (.cond (.t 114) (.seq (.reg [Qc 115 12, Qc 116 8, Q 117 (.bin .add (.t 115) (.t 116)), Qa 4 
 117]) .ret) .skip)) (.seq (.reg [Qx 4 (Ki (-1))]) .ret))) (.seq .bad (.cond (.t 132) (.seq (.reg [Qc 133 0, Qc 134 8, Q 135 (.subS (.t 133) (some (.t 134)) none), Qc 136 1, ⟨some 
 137, .call 120 [.t 135, .t 136], none⟩, Qa 13 137]) (.seq (.seq (.reg [Qc 138 13, Q 139 (.bin .lss (.t 138) (Ki 0))]) (.cond (.t 139) (.seq (.reg [Qx 4 (Ki (-1))]) .ret) .skip)) 
 (.seq (.reg [Qc 140 8, Qc 141 13, Q 142 (.bin .add (.t 140) (.t 141)), Qa 4 142]) .ret))) .skip)))))))))))) (.seq (.reg [Qx 4 (Ki (-1))]) .ret)))))))))
def R_internal_stringslite_Index : List LRes := [.tmp 4]
theorem lift_internal_stringslite_Index : Lifts Tryz.prog 109 143 L_internal_stringslite_Index R_internal_stringslite_Index := ⟨_, _, Tryz.func109, rfl, by kernel_rfl, by kernel_rfl, rfl⟩
theorem liteIndex1_call (s : List UInt8) (c : UInt8) : PCall Tryz.prog 109 [.str s, .str [c]] (fun r => r = .one (.int .i64 (Lib.indexByte s c))) := by
 refine lift_internal_stringslite_Index.call rfl ?_
 simp (maxSteps := 2000000) only [go_sem, ↓reduceIte, L_internal_stringslite_Index, R_internal_stringslite_Index]
 refine ⟨fun h => ?_, fun h => ?_⟩
 ·subst h
  simp [Lib.indexByte]
 ·have : getI [c] 0 = some c := rfl
  simp (maxSteps := 2000000) only [go_sem, ↓reduceIte, this]
  refine CallG.of (liteIndexByte_call s c) ?_
  simp (maxSteps := 2000000) only [go_sem, ↓reduceIte]
def L_strings_Index : LCode :=
 .seq (.reg [Qx 4 (Ki 0)]) (.seq (.reg [Qc 5 0, Qc 6 1, ⟨some 7, .call 109 [.t 5, .t 6], none⟩, Qa 4 7]) .ret)
def R_strings_Index : List LRes := [.tmp 4]
theorem lift_strings_Index : Lifts Tryz.prog 90 8 L_strings_Index R_strings_Index := ⟨_, _, Tryz.func90, rfl, by kernel_rfl, by kernel_rfl, rfl⟩
def L_strings_Contains : LCode :=
 .seq (.reg [Qx 4 KF]) (.seq (.reg [Qc 5 0, Qc 6 1, ⟨some 7, .call 90 [.t 5, .t 6], none⟩, Q 8 (.bin .geq (.t 7) (Ki 0)), Qa 4 8]) .ret)
def R_strings_Contains : List LRes := [.tmp 4]
theorem lift_strings_Contains : Lifts Tryz.prog 65 9 L_strings_Contains R_strings_Contains := ⟨_, _, Tryz.func65, rfl, by kernel_rfl, by kernel_rfl, rfl⟩
theorem contains1_call (s : List UInt8) (c : UInt8) : PCall Tryz.prog 65 [.str s, .str [c]] (fun r => r = .one (.bool (decide (c ∈ s)))) := by
 have h : PCall Tryz.prog 90 [.str s, .str [c]] (fun r => r = .one (.int .i64 (Lib.indexByte s c))) := by
  refine lift_strings_Index.call rfl ?_
  simp (maxSteps := 2000000) only [go_sem, ↓reduceIte, L_strings_Index, R_strings_Index]
  refine CallG.of (liteIndex1_call s c) ?_
  simp (maxSteps := 2000000) only [go_sem, ↓reduceIte]
 refine lift_strings_Contains.call rfl ?_
 simp (maxSteps := 2000000) only [go_sem, ↓reduceIte, L_strings_Contains, R_strings_Contains]
 refine CallG.of h ?_
 simp (maxSteps := 2000000) only [go_sem, ↓reduceIte]
 congr 2
 simp only [indexByte_mem]
theorem encode_ascii {c : UInt8} (h : c.toNat < 128) : (Utf8.encode (c.toNat : Int)).data.toList = [c] := by
 have : ∀ n : Fin 128, (Utf8.encode ((n.val : Nat) : Int)).data.toList = [UInt8.ofNat n.val] := by decide +kernel
 have := this ⟨c.toNat, h⟩
 simp only at this
 rw [this]
 simp
def plainB (c : UInt8) : Bool := decide (32 < c.toNat) && (decide (c.toNat ≤ 126) && !decide (c ∈ ([40, 41, 60, 62, 91, 93, 123, 125, 47, 37, 35] : List UInt8)))
def L_value_plain : LCode :=
 .seq (.reg [Qx 2 KF]) (.seq (.reg [Qc 3 0, Q 4 (.bin .gtr (.t 3) (Kb 32)), Qc 5 4, Qd 6 0 5 true, Qg 7 (.bin .leq (.t 6) (Kb 126)) 5 true, Q 8 (.pick (.t 5) (.t 7) KF), Qc 9 8, Qd 
 10 0 9 true, Qg 11 (.cvI .i32 (.t 10)) 9 true, Qg 12 (.i2s (.t 11)) 9 true, ⟨some 13, .call 65 [.k (.d (.str [40, 41, 60, 62, 91, 93, 123, 125, 47, 37, 35])), .t 12], some (9, 
 true)⟩, Qg 14 (.not (.t 13)) 9 true, Q 15 (.pick (.t 9) (.t 14) KF), Qa 2 15]) .ret)
def R_value_plain : List LRes := [.tmp 2]
theorem lift_value_plain : Lifts Tryz.prog 82 16 L_value_plain R_value_plain := ⟨_, _, Tryz.func82, rfl, by kernel_rfl, by kernel_rfl, rfl⟩
theorem plain_call (c : UInt8) : PCall Tryz.prog 82 [.int .u8 c.toNat] (fun r => r = .one (.bool (plainB c))) := by
 have hc8 := u8_lt c
 refine lift_value_plain.call rfl ?_
 simp (maxSteps := 2000000) only [go_sem, ↓reduceIte, L_value_plain, R_value_plain]
 refine ⟨fun h1 => ⟨fun h2 => ?_, fun h2 => ?_⟩, fun h1 => ?_⟩
 ·rw [IntWalk.i32_in _ (by omega), encode_ascii (by omega)]
  refine CallG.of (contains1_call _ c) ?_
  simp (maxSteps := 2000000) only [go_sem, ↓reduceIte]
  have h3 : 32 < c.toNat := by omega
  have h4 : c.toNat ≤ 126 := by omega
  simp [plainB, h3, h4]
 ·have h4 : ¬ c.toNat ≤ 126 := by omega
  simp [plainB, h4]
 ·have h4 : ¬ 32 < c.toNat := by omega
  simp [plainB, h4]
def hexTab : List UInt8 := [48, 49, 50, 51, 52, 53, 54, 55, 56, 57, 65, 66, 67, 68, 69, 70]
theorem tab_get {n : Nat} (h : n < 16) : getI hexTab (n : Int) = some (hexTab.getD n 0) := by
 rw [getI_nat]
 have : n < hexTab.length := h
 simp [this]
def nameB (c : UInt8) : List UInt8 := if plainB c then [c] else [35, hexTab.getD (c.toNat / 16) 0, hexTab.getD (c.toNat % 16) 0]
def nameP (s : List UInt8) : List UInt8 := s.flatMap nameB
theorem nameB_length (c : UInt8) : (nameB c).length ≤ 3 := by unfold nameB; split <;> simp
theorem nameP_length (s : List UInt8) : (nameP s).length ≤ 3 * s.length := by
 induction s with
 | nil => simp [nameP]
 | cons c s ih =>
  have : nameP (c :: s) = nameB c ++ nameP s := rfl
  rw [this, List.length_append]
  have := nameB_length c
  simp only [List.length_cons]
  omega
theorem nameP_next {s : List UInt8} {i : Nat} {c : UInt8} (h : s[i]? = some c) : nameP (s.take (i + 1)) = nameP (s.take i) ++ nameB c := by
 simp [nameP, take_next h]
theorem bytesOf2 (a b : UInt8) : bytesOf [.int .u8 a.toNat, .int .u8 b.toNat] = some [a, b] := bytesOf_bytesD [a, b]
theorem bytesOf3 (a b c : UInt8) : bytesOf [.int .u8 a.toNat, .int .u8 b.toNat, .int .u8 c.toNat] = some [a, b, c] := bytesOf_bytesD [a, b, c]
def L_value_name : LCode :=
 .seq (.reg [Qc 5 0, ⟨some 6, .prim .call [.k (.fn (.func 55) [] []), .t 5, .k (.d (.int .u8 47))] [], none⟩]) (.seq (.reg [Qc 7 1, Q 8 (.len true (.t 7)), Q 9 (.cp (Ki 0))]) 
 (.block 0 (.loop (.seq (.reg [Q 10 (.bin .lss (.t 9) (.t 8))]) (.seq (.cond (.t 10) .skip (.exit 0)) (.seq (.block 1 (.seq (.reg [Qc 11 9, Qa 4 11]) (.seq (.reg [Qc 12 1, Qc 13 
 4, Q 14 (.idxS (.t 12) (.t 13)), ⟨some 15, .call 82 [.t 14], none⟩]) (.cond (.t 15) (.reg [Qc 16 0, Qc 17 1, Qc 18 4, Q 19 (.idxS (.t 17) (.t 18)), ⟨some 20, .prim .call [.k (.fn 
 (.func 55) [] []), .t 16, .t 19] [], none⟩]) (.dreg [Qc 21 0, Qc 22 1, Qc 23 4, Q 24 (.idxS (.t 22) (.t 23)), Q 25 (.bin .shr (.t 24) (.k (.d (.int .u64 4)))), Q 26 (.idxS (.k 
 (.d (.str [48, 49, 50, 51, 52, 53, 54, 55, 56, 57, 65, 66, 67, 68, 69, 70]))) (.t 25)), Qc 27 1, Qc 28 4, Q 29 (.idxS (.t 27) (.t 28)), Q 30 (.bin .and (.t 29) (Kb 15)), Q 31 
 (.idxS (.k (.d (.str [48, 49, 50, 51, 52, 53, 54, 55, 56, 57, 65, 66, 67, 68, 69, 70]))) (.t 30)), ⟨some 32, .bsl 5 1 [.t 26, .t 31], none⟩, Q 33 (.b2s (.t 32)), Q 34 (.bin .add 
 (.k (.d (.str [35]))) (.t 33)), ⟨some 35, .prim .call [.k (.fn (.func 25) [] []), .t 21, .t 34] [], none⟩]))))) (.reg [Q 36 (.bin .add (.t 9) (Ki 1)), Qc 9 36])))))))
def R_value_name : List LRes := []
theorem lift_value_name : Lifts Tryz.prog 54 37 L_value_name R_value_name := ⟨_, _, Tryz.func54, rfl, by kernel_rfl, by kernel_rfl, rfl⟩
theorem name_at (b : Bld) (s : List UInt8) (hl : b.bytes.length + 3 * s.length + 1 ≤ 1000000000) : MCallE Tryz.prog 54 [.ptr (.x 0) 0, .d (.str s)] [b.at (.x 0)] (.tuple []) [Bld.at (.x 0) (.has (b.bytes ++ [47] ++ nameP s))] := by
 refine lift_value_name.mcall (by kernel_rfl) rfl ?_
 simp (maxSteps := 2000000) only [go_sem, ↓reduceIte, L_value_name, R_value_name]
 refine bldCall (.x 0) rfl (writeByte_at b 47 (by omega)) rfl rfl rfl rfl ?_
 simp (maxSteps := 2000000) only [go_sem, ↓reduceIte]
 refine run_loop (fun i : Nat => ⟨[(0, .ptr (.x 0) 0), (1, .d (.str s)), (7, .d (.str s)), (8, .d (.int .i64 s.length)), (9, .d (.int .i64 i))], [],
   [(0, Bld.at (.x 0) (.has (b.bytes ++ [47] ++ nameP (s.take i))))]⟩)
  (fun i => i ≤ s.length) (fun i => s.length - i) 0 ?_ ?_ ?_
 ·refine Weak.mk ?_ ?_ ?_ <;> simp (maxSteps := 2000000) only [go_sem, ↓reduceIte, Sub, Int.natCast_add, Int.natCast_mul, List.take_zero, nameP, List.flatMap_nil]
 ·omega
 ·intro i hi
  have hle := nameP_length (s.take i)
  rw [List.length_take] at hle
  have ht : ([48, 49, 50, 51, 52, 53, 54, 55, 56, 57, 65, 66, 67, 68, 69, 70] : List UInt8) = hexTab := rfl
  simp (maxSteps := 2000000) only [run_seq, run_reg, ops_val, pev, fB, binD, St.ev, St.get, aget, reduceCtorEq, ↓reduceIte, Nat.reduceEqDiff, Option.getD_some, binI, Option.map_some, PutG_some, St.put, acons, ops_nil, pop_code, run_cond, BoolG_d, decide_eq_true_eq, run_skip, run_block, ops_asg, asgS, fIdxS, run_exit, pop_exit_code, pop_exit_goal, pop_exit_blk, pop_nil, retM_normal, resR, resAL, mkA, objsOf, RetM_some, true_and, IteG]
  refine ⟨fun hlt => ?_, fun hge => ?_⟩
  ·obtain ⟨c, hc⟩ := get_some (l := s) (i := i) (by omega)
   have hc8 := u8_lt c
   have e1 : Int.fdiv (c.toNat : Int) (2 ^ min 4 IntKind.u8.bits) = ((c.toNat / 16 : Nat) : Int) := shr_u8 c.toNat 4
   have e2 : IntKind.u8.wrap (((BitVec.ofInt IntKind.u8.bits (c.toNat : Int) &&& BitVec.ofInt IntKind.u8.bits 15).toNat : Nat) : Int) = ((c.toNat % 16 : Nat) : Int) := by
    rw [← and15]; exact and_u8 (m := 15) hc8 (by decide)
   have t1 : getI hexTab ((c.toNat / 16 : Nat) : Int) = some (hexTab.getD (c.toNat / 16) 0) := tab_get (by omega)
   have t2 : getI hexTab ((c.toNat % 16 : Nat) : Int) = some (hexTab.getD (c.toNat % 16) 0) := tab_get (by omega)
   simp (maxSteps := 2000000) (disch := omega) only [getI_nat s, hc, Option.map_some, PutG_some, St.put, acons, ops_call, evL, St.ev, St.get, aget, ↓reduceIte, Option.getD_some, rdAll, AV.rd]
   refine CallG.of (plain_call c) ?_
   simp (maxSteps := 2000000) (disch := omega) only [putO, St.put, acons, Res.av, ops_nil, pop_code, run_cond, St.ev, St.get, aget, ↓reduceIte, Option.getD_some, BoolG_d, run_reg, ops_val, pev, reduceCtorEq, PutG_some, Nat.reduceEqDiff, fIdxS, getI_nat s, hc, Option.map_some, ops_prim, run_dreg, dps_val, fB, binD, Int.reduceLT, Int.reduceToNat, IteG, Bool.not_eq_true]
   refine ⟨fun p1 => ?_, fun p1 => ?_⟩
   ·refine bldCall (.x 0) rfl (writeByte_at (.has (b.bytes ++ [47] ++ nameP (s.take i))) c (by simp only [Bld.bytes_has, List.length_append, List.length_cons, List.length_nil]; omega)) rfl rfl rfl rfl ?_
    simp (maxSteps := 2000000) (disch := omega) only [go_sem, ↓reduceIte]
    refine ⟨i + 1, ?_, by omega, by omega⟩
    have : nameB c = [c] := by simp [nameB, p1]
    refine Weak.mk ?_ ?_ ?_ <;> simp (maxSteps := 2000000) only [go_sem, ↓reduceIte, Sub, Int.natCast_add, Int.natCast_mul, nameP_next hc, Bld.bytes_has, this, List.append_assoc]
   ·simp (maxSteps := 2000000) (disch := omega) only [ht, e1, t1, Option.map_some, PutG_some, St.put, acons, dps_val, pev, St.ev, St.get, aget, Nat.reduceEqDiff, ↓reduceIte, reduceCtorEq, Option.getD_some, fIdxS, getI_nat s, hc, fB, binD, binI, e2, t2, dps_bsl, bspS, evL, rdAll, AV.rd, allSz, D.cells, List.length_cons, List.length_nil, Nat.zero_add, beq_self_eq_true, Bool.and_self, Nat.reduceAdd, Nat.reduceMul, Nat.reduceLeDiff, ne_eq, not_false_eq_true, and_self, StG_some, fB2s, bytesOf2, binS, Int.cast_ofNat_Int, Int.reduceLE, List.cons_append, List.nil_append, dps_prim]
    refine bldCall (.x 0) rfl (writeString_at (.has (b.bytes ++ [47] ++ nameP (s.take i))) [35, hexTab.getD (c.toNat / 16) 0, hexTab.getD (c.toNat % 16) 0] (by simp only [Bld.bytes_has, List.length_append, List.length_cons, List.length_nil]; omega)) rfl rfl rfl rfl ?_
    simp (maxSteps := 2000000) (disch := omega) only [go_sem, ↓reduceIte]
    refine ⟨i + 1, ?_, by omega, by omega⟩
    have : nameB c = [35, hexTab.getD (c.toNat / 16) 0, hexTab.getD (c.toNat % 16) 0] := by simp [nameB, p1]
    refine Weak.mk ?_ ?_ ?_ <;> simp (maxSteps := 2000000) only [go_sem, ↓reduceIte, Sub, Int.natCast_add, Int.natCast_mul, nameP_next hc, Bld.bytes_has, this, List.append_assoc]
  ·rw [List.take_of_length_le (by omega)]
end Go.Av.Tryz
