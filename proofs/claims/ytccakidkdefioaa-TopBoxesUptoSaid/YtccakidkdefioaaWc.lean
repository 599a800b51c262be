import Derived.Test.YtccakidkdefioaaWb
import Derived.Test.YtccakidkdefioaaAvI
import Derived.Test.YtccakidkdefioaaAvG
set_option linter.unusedSimpArgs false
set_option maxRecDepth 100000
set_option maxHeartbeats 2000000
namespace Go.Av.Try
open Go.Proofs
open Go.Lib (decodeL)
/-! ### A string's signs -/
theorem runesFrom_M (s : List UInt8) : ∀ (f i : Nat) (acc : Array Value) (rs : List Nat), s.length - i ≤ f → runesF f (s.drop i) = some rs → Conv.runesFrom ⟨s.toArray⟩ f i acc = acc ++ (rs.map fun n => Value.int .i32 ((n : Nat) : Int)).toArray
 | 0, i, acc, rs, _, h => by
  simp only [runesF, Option.some.injEq] at h
  subst h
  simp [Conv.runesFrom]
 | f + 1, i, acc, rs, hf, h => by
  have hsz : (⟨s.toArray⟩ : ByteArray).size = s.length := by simp [ByteArray.size]
  unfold Conv.runesFrom
  rw [hsz]
  simp only [runesF] at h
  by_cases hi : i < s.length
  ·have hne : s.drop i ≠ [] := by simpa using hi
   rw [if_neg hne] at h
   cases hb : bad (s.drop i) with
   | true => rw [hb] at h; simp at h
   | false =>
    rw [hb] at h
    simp only [Bool.false_eq_true, if_false] at h
    have hd := (Lib.decodeL_drop ⟨s.toArray⟩ i).symm
    have hd : Utf8.decode ⟨s.toArray⟩ i = decodeL (s.drop i) := hd
    rw [if_pos hi, hd]
    obtain ⟨d1, d2, d3, _, _⟩ := dec_facts hne
    rw [List.drop_drop] at h
    cases hr : runesF f (s.drop (i + (decodeL (s.drop i)).2)) with
    | none => rw [hr] at h; cases h
    | some rs' =>
     rw [hr] at h
     cases h
     simp only [runesFrom_M s f (i + (decodeL (s.drop i)).2) _ rs' (by omega) hr, List.map_cons]
     simp
  ·have he : s.drop i = [] := List.drop_eq_nil_of_le (by omega)
   rw [if_pos he] at h
   cases h
   rw [if_neg hi]
   simp
theorem runesFrom_of {s : List UInt8} {rs : List Nat} (h : runesM s = some rs) : Conv.runesFrom ⟨s.toArray⟩ s.length 0 #[] = (rs.map fun n => Value.int .i32 ((n : Nat) : Int)).toArray := by
 have := runesFrom_M s s.length 0 #[] rs (by omega) (by simpa [runesM] using h)
 simpa using this
/-! ### fold, table, Find -/
def foldN (on : Bool) (r : Nat) : Nat := if on = true ∧ 65 ≤ r ∧ r ≤ 90 then r + 32 else r
theorem foldN_le {on : Bool} {r : Nat} (h : r ≤ 1114111) : foldN on r ≤ 1114111 := by unfold foldN; split <;> omega
def L_search_fold : LCode :=
 .seq (.reg [Qx 4 (.k (.d (.int .i32 0)))]) (.seq (.seq (.reg [Qc 5 1, Qc 6 5, Qd 7 0 6 true, Qg 8 (.bin .geq (.t 7) (.k (.d (.int .i32 65)))) 6 true, Q 9 (.pick (.t 6) (.t 8) KF), 
 Qc 10 9, Qd 11 0 10 true, Qg 12 (.bin .leq (.t 11) (.k (.d (.int .i32 90)))) 10 true, Q 13 (.pick (.t 10) (.t 12) KF)]) (.cond (.t 13) (.seq (.reg [Qc 14 0, Q 15 (.bin .add (.t 
 14) (.k (.d (.int .i32 97)))), Q 16 (.bin .sub (.t 15) (.k (.d (.int .i32 65)))), Qa 4 16]) .ret) .skip)) (.seq (.reg [Qc 17 0, Qa 4 17]) .ret))
def R_search_fold : List LRes := [.tmp 4]
theorem lift_search_fold : Lifts Try.prog 29 18 L_search_fold R_search_fold := ⟨_, _, Try.func29, rfl, by kernel_rfl, by kernel_rfl, rfl⟩
theorem fold_call (r : Nat) (on : Bool) (hr : r ≤ 1114111) : PCall Try.prog 29 [.int .i32 (r : Nat), .bool on] (fun x => x = .one (.int .i32 (foldN on r : Nat))) := by
 refine lift_search_fold.call rfl ?_
 simp (maxSteps := 2000000) only [go_sem, ↓reduceIte, L_search_fold, R_search_fold]
 unfold foldN
 cases on with
 | false => simp (maxSteps := 2000000) only [go_sem, ↓reduceIte]
 | true =>
  by_cases h1 : 65 ≤ r
  ·by_cases h2 : r ≤ 90
   ·have z1 : (65 ≤ (r : Int)) = True := eq_true (by omega)
    have z2 : ((r : Int) ≤ 90) = True := eq_true (by omega)
    rw [if_pos ⟨rfl, h1, h2⟩]
    simp (maxSteps := 2000000) (disch := omega) only [go_sem, ↓reduceIte, z1, z2]
    rw [IntWalk.i32_in ((r : Int) + 97) (by omega), IntWalk.i32_in _ (by omega)]
    rw [show ((r : Int) + 97 - 65) = ((r + 32 : Nat) : Int) by omega]
   ·have z1 : (65 ≤ (r : Int)) = True := eq_true (by omega)
    have z2 : ((r : Int) ≤ 90) = False := eq_false (by omega)
    rw [if_neg (by omega)]
    simp (maxSteps := 2000000) only [go_sem, ↓reduceIte, z1, z2]
  ·have z1 : (65 ≤ (r : Int)) = False := eq_false (by omega)
   rw [if_neg (by omega)]
   simp (maxSteps := 2000000) only [go_sem, ↓reduceIte, z1]
theorem set_le {T : List Nat} {i k : Nat} (h : ∀ (j v : Nat), T[j]? = some v → v ≤ j) (hk : k ≤ i) : ∀ (j v : Nat), (T.set i k)[j]? = some v → v ≤ j := fun j v hj => by
 rw [List.getElem?_set] at hj
 split at hj
 ·split at hj
  ·cases hj; omega
  ·cases hj
 ·exact h j v hj
def L_search_table : LCode :=
 .seq (.reg [⟨some 2, .nils 3 1, none⟩]) (.seq (.reg [Qc 6 0, Q 7 (.len false (.t 6)), ⟨some 8, .prim (.mkSlice 26) [.t 7, .t 7] [], none⟩, Qa 3 8]) (.seq (.seq (.reg [Qx 4 (Ki 1), 
 Qx 5 (Ki 0)]) (.block 0 (.loop (.seq (.seq (.reg [Qc 9 4, Qc 10 0, Q 11 (.len false (.t 10)), Q 12 (.bin .lss (.t 9) (.t 11))]) (.cond (.t 12) .skip (.exit 0))) (.seq (.block 1 
 (.seq (.block 2 (.loop (.seq (.seq (.dreg [Qc 15 5, Q 16 (.bin .gtr (.t 15) (Ki 0)), Qc 17 16, Qd 18 0 17 true, Qd 19 4 17 true, Qg 20 (.ia 1 (.t 18) (.t 19)) 17 true, Qg 21 (.ld 
 false 1 (.t 20)) 17 true, Qd 22 0 17 true, Qd 23 5 17 true, Qg 24 (.ia 1 (.t 22) (.t 23)) 17 true, Qg 25 (.ld false 1 (.t 24)) 17 true, Qg 26 (.bin .neq (.t 21) (.t 25)) 17 true, 
 Q 27 (.pick (.t 17) (.t 26) KF)]) (.cond (.t 27) .skip (.exit 2))) (.block 3 (.reg [Qc 28 3, Qc 29 5, Q 30 (.bin .sub (.t 29) (Ki 1)), Q 31 (.ia 1 (.t 28) (.t 30)), Q 32 (.ld 
 false 1 (.t 31)), Qa 5 32]))))) (.seq (.seq (.dreg [Qc 33 0, Qc 34 4, Q 35 (.ia 1 (.t 33) (.t 34)), Q 36 (.ld false 1 (.t 35)), Qc 37 0, Qc 38 5, Q 39 (.ia 1 (.t 37) (.t 38)), Q 
 40 (.ld false 1 (.t 39)), Q 41 (.bin .eql (.t 36) (.t 40))]) (.cond (.t 41) (.reg [Qc 42 5, Q 43 (.bin .add (.t 42) (Ki 1)), Qa 5 43]) .skip)) (.reg [Qc 44 3, Qc 45 4, Qc 46 5, Q 
 47 (.ia 1 (.t 44) (.t 45)), ⟨none, .st 1 (.t 47) (.t 46), none⟩])))) (.reg [Qc 13 4, Q 14 (.bin .add (.t 13) (Ki 1)), Qa 4 14])))))) (.seq (.alt [([], Qc 48 3)] [Qa 2 48]) 
 .ret)))
def R_search_table : List LRes := [.tmp 2]
theorem lift_search_table : Lifts Try.prog 30 49 L_search_table R_search_table := ⟨_, _, Try.func30, rfl, by kernel_rfl, by kernel_rfl, rfl⟩
theorem table_call (p : List Nat) (hp : p.length ≤ 1000000) : PCall Try.prog 30 [.list (rnD p)] (fun r => ∃ T : List Nat, r = .one (.list (nsD T)) ∧ T.length = p.length ∧ ∀ (j v : Nat), T[j]? = some v → v ≤ j) := by
 have hI : ((rnD p).length : Int) = (p.length : Int) := by rw [rnD_len]
 refine lift_search_table.call rfl ?_
 simp (maxSteps := 2000000) only [go_sem, ↓reduceIte, L_search_table, R_search_table, hI]
 refine PrimG.mkRow (r := 40) (n := p.length) (z := .int .i64 0) (zv := .int .i64 0) rfl rfl (show liftSl Try.prog 26 = some (3, 1, 8) by kernel_rfl) (by kernel_rfl) rfl rfl (fun f w => .int _ _) (by omega) (by omega) ?_
 rw [show List.replicate p.length (AV.d (.int .i64 0)) = rowN (List.replicate p.length 0) p.length by simp [rowN, rowA, nsA]]
 simp (maxSteps := 2000000) only [go_sem, ↓reduceIte]
 refine run_loop (fun y : Nat × Nat × List Nat => ⟨[(0, .d (.list (rnD p))), (3, .rs (.l 40) p.length p.length), (4, .d (.int .i64 (y.1 : Nat))), (5, .d (.int .i64 (y.2.1 : Nat)))], [(40, .cells (rowN y.2.2 p.length))], []⟩)
  (fun y => 1 ≤ y.1 ∧ y.1 ≤ p.length + 1 ∧ y.2.1 < y.1 ∧ y.2.2.length = p.length ∧ ∀ (j v : Nat), y.2.2[j]? = some v → v ≤ j) (fun y => p.length + 1 - y.1) (1, 0, List.replicate p.length 0) ?_ ?_ ?_
 ·refine Weak.mk ?_ ?_ ?_ <;> simp (maxSteps := 2000000) only [go_sem, ↓reduceIte, Sub, Int.natCast_add, Int.natCast_mul]
 ·exact ⟨Nat.le_refl _, by simp only; omega, by simp only; omega, by simp, fun j v h => by have := (List.mem_replicate.1 (List.mem_of_getElem? h)).2; omega⟩
 ·rintro ⟨i, k, T⟩ ⟨i1, i2, hk, hT, hv⟩
  simp only at i1 i2 hk hT hv
  simp (maxSteps := 2000000) only [go_sem, ↓reduceIte, hI]
  refine ⟨fun hlt1 => ?_, fun hge => ?_⟩
  ·obtain ⟨a, ha⟩ := get_some (l := p) (i := i) (by omega)
   have gA : (rnD p)[i]? = some (.int .i32 (a : Nat)) := by rw [rnD, List.getElem?_map, ha]; rfl
   refine run_loop (fun k : Nat => ⟨[(0, .d (.list (rnD p))), (3, .rs (.l 40) p.length p.length), (4, .d (.int .i64 (i : Nat))), (5, .d (.int .i64 (k : Nat)))], [(40, .cells (rowN T p.length))], []⟩)
    (fun k => k < i) (fun k => k) k ?_ hk ?_
   ·refine Weak.mk ?_ ?_ ?_ <;> simp (maxSteps := 2000000) only [go_sem, ↓reduceIte, Sub, Int.natCast_add, Int.natCast_mul]
   ·clear hk k
    intro k hk
    obtain ⟨b, hb⟩ := get_some (l := p) (i := k) (by omega)
    have gB : (rnD p)[k]? = some (.int .i32 (b : Nat)) := by rw [rnD, List.getElem?_map, hb]; rfl
    simp (maxSteps := 2000000) only [go_sem, ↓reduceIte]
    have l3 : ∀ v : Nat, (rowN T p.length).set (((i : Nat) : Int).toNat * 1) (.d (.int .i64 (v : Nat))) = rowN (T.set i v) p.length := fun v => by
     rw [show ((i : Nat) : Int).toNat * 1 = i by omega]; exact rowN_set (by omega)
    have ek : ((k : Int) + 1) = ((k + 1 : Nat) : Int) := by omega
    have l4 : (rowN T p.length).set (((i : Nat) : Int).toNat * 1) (.d (.int .i64 ((k : Int) + 1))) = rowN (T.set i (k + 1)) p.length := by rw [ek]; exact l3 _
    by_cases h0 : k = 0
    ·have z : (0 < (k : Int)) = False := eq_false (by omega)
     by_cases hab : a = b
     ·have z2 : ((a : Int) = (b : Int)) = True := eq_true (by omega)
      simp (maxSteps := 2000000) (disch := omega) only [go_sem, ↓reduceIte, z, getI_nat, gA, gB, z2, ek]
      refine ⟨⟨by omega, by omega⟩, by rw [rowN_len (by omega)]; omega, (i + 1, k + 1, T.set i (k + 1)), ?_, ⟨by simp only; omega, by simp only; omega, by simp only; omega, by rw [List.length_set]; exact hT, set_le hv (by omega)⟩, by simp only; omega⟩
      refine Weak.mk ?_ ?_ ?_ <;> simp (maxSteps := 2000000) only [go_sem, ↓reduceIte, Sub, Int.natCast_add, Int.natCast_mul, l3, l4]
     ·have z2 : ((a : Int) = (b : Int)) = False := eq_false (by omega)
      simp (maxSteps := 2000000) (disch := omega) only [go_sem, ↓reduceIte, z, getI_nat, gA, gB, z2]
      refine ⟨⟨by omega, by omega⟩, by rw [rowN_len (by omega)]; omega, (i + 1, k, T.set i (k)), ?_, ⟨by simp only; omega, by simp only; omega, by simp only; omega, by rw [List.length_set]; exact hT, set_le hv (by omega)⟩, by simp only; omega⟩
      refine Weak.mk ?_ ?_ ?_ <;> simp (maxSteps := 2000000) only [go_sem, ↓reduceIte, Sub, Int.natCast_add, Int.natCast_mul, l3, l4]
    ·have z : (0 < (k : Int)) = True := eq_true (by omega)
     by_cases hab : a = b
     ·have z2 : ((a : Int) = (b : Int)) = True := eq_true (by omega)
      simp (maxSteps := 2000000) (disch := omega) only [go_sem, ↓reduceIte, z, getI_nat, gA, gB, z2, ek]
      refine ⟨⟨by omega, by omega⟩, by rw [rowN_len (by omega)]; omega, (i + 1, k + 1, T.set i (k + 1)), ?_, ⟨by simp only; omega, by simp only; omega, by simp only; omega, by rw [List.length_set]; exact hT, set_le hv (by omega)⟩, by simp only; omega⟩
      refine Weak.mk ?_ ?_ ?_ <;> simp (maxSteps := 2000000) only [go_sem, ↓reduceIte, Sub, Int.natCast_add, Int.natCast_mul, l3, l4]
     ·have z2 : ((a : Int) = (b : Int)) = False := eq_false (by omega)
      obtain ⟨v, hvk⟩ := get_some (l := T) (i := k - 1) (by omega)
      have hle := hv _ _ hvk
      have l1 : (rowN T p.length)[((k : Int) - 1).toNat * 1]? = some (.d (.int .i64 (v : Nat))) := by
       rw [show ((k : Int) - 1).toNat * 1 = k - 1 by omega]; exact rowN_get hvk
      simp (maxSteps := 2000000) (disch := omega) only [go_sem, ↓reduceIte, z, getI_nat, gA, gB, z2, l1]
      refine ⟨⟨by omega, by omega⟩, v, ?_, by omega, by omega⟩
      refine Weak.mk ?_ ?_ ?_ <;> simp (maxSteps := 2000000) only [go_sem, ↓reduceIte, Sub, Int.natCast_add, Int.natCast_mul]
  ·refine AStep.ghost (AStep.step rfl (fun _ _ _ h => by cases h) rfl ?_)
   refine ⟨⟨[(48, .d (.list (nsD T)))], [], []⟩, Gh.trans (Gh.frzL (a := 40) (sz := 1) (fs := nsD T) (c := p.length) ?_ (fun y hy => by rw [nsD_one T y hy]; rfl) (by rw [nsD_len]; omega)) (Gh.wk ⟨fun t x hx => ?_, fun r ob h => by cases r <;> cases h⟩), ?_⟩
   ·rw [rowC_rowA (nsD_one T), ← nsA_nsD]; rfl
   ·simp only [aget] at hx
    split at hx
    ·rename_i e
     subst e
     cases hx
     rw [St.ρ_frzL (x := .rs (.l 40) p.length p.length) rfl]
     simp [AV.frzL, nsD_len, hT]
    ·cases hx
   ·simp (maxSteps := 2000000) only [go_sem, ↓reduceIte]
    exact ⟨T, rfl, hT, hv⟩
theorem getI_0 {α : Type} (l : List α) : getI l 0 = l[0]? := getI_nat l 0
theorem rnD_get' {l : List Nat} {j a : Nat} (h : l[j]? = some a) : (rnD l)[j]? = some (.int .i32 (a : Nat)) := by rw [rnD, List.getElem?_map, h]; rfl
def L_search_Find : LCode :=
 .seq (.reg [⟨some 6, .nils 3 1, none⟩, Qx 7 (.k (.d .nil))]) (.seq (.seq (.reg [Qc 16 1, Q 17 (.len false (.t 16)), Q 18 (.bin .eql (.t 17) (Ki 0))]) (.cond (.t 18) (.seq (.reg [Q 
 19 (.mkI 66 (Ki 11)), ⟨some 6, .nils 3 1, none⟩, Qa 7 19]) .ret) .skip)) (.seq (.reg [⟨some 8, .nils 21 1, none⟩]) (.seq (.seq (.reg [Qc 20 1, Q 21 (.len false (.t 20)), Q 22 
 (.cp (Ki 0))]) (.block 0 (.loop (.seq (.reg [Q 23 (.bin .lss (.t 22) (.t 21))]) (.seq (.cond (.t 23) .skip (.exit 0)) (.seq (.block 1 (.seq (.reg [Q 24 (.ia 1 (.t 20) (.t 22)), Q 
 25 (.ld false 1 (.t 24)), Qa 10 25]) (.reg [Qc 26 8, Qc 27 10, Qc 28 2, ⟨some 29, .call 29 [.t 27, .t 28], none⟩, ⟨some 30, .bsl 21 1 [.t 29], none⟩, ⟨some 31, .app 21 1 4 false 
 (.t 26) (.t 30), none⟩, Qa 8 31]))) (.reg [Q 32 (.bin .add (.t 22) (Ki 1)), Qc 22 32]))))))) (.seq (.reg [Qc 33 8, ⟨some 34, .call 30 [.t 33], none⟩, Qa 11 34]) (.seq (.reg 
 [⟨some 12, .nils 3 1, none⟩]) (.seq (.reg [Qx 13 (Ki 0)]) (.seq (.seq (.reg [Qc 35 0, Q 36 (.len false (.t 35)), Q 37 (.cp (Ki 0))]) (.block 2 (.loop (.seq (.reg [Q 38 (.bin .lss 
 (.t 37) (.t 36))]) (.seq (.cond (.t 38) .skip (.exit 2)) (.seq (.block 3 (.seq (.reg [Qc 39 37, Q 40 (.ia 1 (.t 35) (.t 37)), Q 41 (.ld false 1 (.t 40)), Qa 14 39, Qa 15 41]) 
 (.seq (.reg [Qc 42 15, Qc 43 2, ⟨some 44, .call 29 [.t 42, .t 43], none⟩, Qa 15 44]) (.seq (.block 4 (.loop (.seq (.seq (.reg [Qc 45 13, Q 46 (.bin .gtr (.t 45) (Ki 0)), Qc 47 
 46, Qd 48 13 47 true, Qd 49 8 47 true, Qg 50 (.len false (.t 49)) 47 true, Qg 51 (.bin .eql (.t 48) (.t 50)) 47 true, Qd 52 51 47 true, Qd 53 8 52 false, Qd 54 13 52 false, Qg 55 
 (.ia 1 (.t 53) (.t 54)) 52 false, Qg 56 (.ld false 1 (.t 55)) 52 false, Qd 57 15 52 false, Qg 58 (.bin .neq (.t 56) (.t 57)) 52 false, Qg 59 (.pick (.t 52) KT (.t 58)) 47 true, Q 
 60 (.pick (.t 47) (.t 59) KF)]) (.cond (.t 60) .skip (.exit 4))) (.block 5 (.reg [Qc 61 11, Qc 62 13, Q 63 (.bin .sub (.t 62) (Ki 1)), Q 64 (.ia 1 (.t 61) (.t 63)), Q 65 (.ld 
 false 1 (.t 64)), Qa 13 65]))))) (.seq (.seq (.reg [Qc 66 8, Qc 67 13, Q 68 (.ia 1 (.t 66) (.t 67)), Q 69 (.ld false 1 (.t 68)), Qc 70 15, Q 71 (.bin .eql (.t 69) (.t 70))]) 
 (.cond (.t 71) (.reg [Qc 72 13, Q 73 (.bin .add (.t 72) (Ki 1)), Qa 13 73]) .skip)) (.seq (.reg [Qc 74 13, Qc 75 8, Q 76 (.len false (.t 75)), Q 77 (.bin .eql (.t 74) (.t 76))]) 
 (.cond (.t 77) (.reg [Qc 78 12, Qc 79 14, Q 80 (.bin .add (.t 79) (Ki 1)), Qc 81 13, Q 82 (.bin .sub (.t 80) (.t 81)), ⟨some 83, .bsl 3 1 [.t 82], none⟩, ⟨some 84, .app 3 1 8 
 false (.t 78) (.t 83), none⟩, Qa 12 84]) .skip))))))) (.reg [Q 85 (.bin .add (.t 37) (Ki 1)), Qc 37 85]))))))) (.seq (.reg [Qc 86 12, Qa 6 86, Qx 7 (.k (.d .nil))]) .ret))))))))
def R_search_Find : List LRes := [.tmp 6, .tmp 7]
theorem lift_search_Find : Lifts Try.prog 23 87 L_search_Find R_search_Find := ⟨_, _, Try.func23, rfl, by kernel_rfl, by kernel_rfl, rfl⟩
theorem find_call (s p : List Nat) (on : Bool) (hs : s.length ≤ 1000000) (hp : p.length ≤ 1000000) (hp0 : p ≠ []) (hsv : ∀ r ∈ s, r ≤ 1114111) (hpv : ∀ r ∈ p, r ≤ 1114111) :
  PCall Try.prog 23 [.list (rnD s), .list (rnD p), .bool on] (fun r => ∃ at_ : List Nat, r = .tup [.list (nsD at_), .nil] ∧ at_.length ≤ s.length ∧ at_.Pairwise (· < ·) ∧ ∀ a ∈ at_, a + p.length ≤ s.length) := by
 have hS : ((rnD s).length : Int) = (s.length : Int) := by rw [rnD_len]
 have hP : ((rnD p).length : Int) = (p.length : Int) := by rw [rnD_len]
 have hpl := List.length_pos_iff.2 hp0
 have z0 : ((p.length : Int) = 0) = False := eq_false (by omega)
 refine lift_search_Find.call rfl ?_
 simp (maxSteps := 2000000) only [go_sem, ↓reduceIte, L_search_Find, R_search_Find, hS, hP, z0]
 refine run_loop (fun i : Nat => ⟨[(0, .d (.list (rnD s))), (1, .d (.list (rnD p))), (2, .d (.bool on)), (8, .own (.t 8) 21 1 (rnD ((p.take i).map (foldN on)))), (20, .d (.list (rnD p))), (21, .d (.int .i64 (p.length : Nat))), (22, .d (.int .i64 (i : Nat)))], [], []⟩)
  (fun i => i ≤ p.length) (fun i => p.length - i) 0 ?_ (Nat.zero_le _) ?_
 ·refine Weak.mk ?_ ?_ ?_ <;> simp (maxSteps := 2000000) only [go_sem, ↓reduceIte, Sub, Int.natCast_add, Int.natCast_mul, rnD]
 ·intro i hi
  simp (maxSteps := 2000000) only [go_sem, ↓reduceIte]
  refine ⟨fun hlt1 => ?_, fun hge => ?_⟩
  ·obtain ⟨a, ha⟩ := get_some (l := p) (i := i) (by omega)
   have gA := rnD_get' ha
   simp (maxSteps := 2000000) (disch := omega) only [go_sem, ↓reduceIte, getI_nat, gA, hP]
   refine CallG.of (fold_call a on (hpv a (List.mem_of_getElem? ha))) ?_
   have hl1 : (rnD ((p.take i).map (foldN on))).length = i := by rw [rnD_len]; simp; omega
   have hn : rnD ((p.take i).map (foldN on)) ++ [.int .i32 (foldN on a : Nat)] = rnD ((p.take (i + 1)).map (foldN on)) := by
    rw [List.take_add_one, ha]; simp [rnD]
   simp (maxSteps := 2000000) (disch := omega) only [go_sem, ↓reduceIte, hn, hl1]
   refine ⟨⟨by omega, by omega⟩, i + 1, ?_, by omega, by omega⟩
   refine Weak.mk ?_ ?_ ?_ <;> simp (maxSteps := 2000000) only [go_sem, ↓reduceIte, Sub, Int.natCast_add, Int.natCast_mul]
  ·have hin : i = p.length := by omega
   subst hin
   rw [List.take_length]
   have hwl : (p.map (foldN on)).length = p.length := by simp
   have hwv : ∀ r ∈ p.map (foldN on), r ≤ 1114111 := fun r hr => by
    obtain ⟨q, hq, rfl⟩ := List.mem_map.1 hr
    exact foldN_le (hpv q hq)
   generalize p.map (foldN on) = q at *
   rw [← hwl] at hpl ⊢
   clear hP z0 hpv hp0 hi hge
   have hQ : ((rnD q).length : Int) = (q.length : Int) := by rw [rnD_len]
   refine CallG.post (table_call q (by omega)) ?_
   rintro r ⟨T, rfl, hTl, hT⟩
   simp (maxSteps := 2000000) only [go_sem, ↓reduceIte, hS]
   refine run_loop (fun y : Nat × Nat × List Nat => ⟨[(0, .d (.list (rnD s))), (2, .d (.bool on)), (8, .own (.t 8) 21 1 (rnD q)), (11, .d (.list (nsD T))), (12, .own (.t 12) 3 1 (nsD y.2.2)), (13, .d (.int .i64 (y.2.1 : Nat))), (35, .d (.list (rnD s))), (36, .d (.int .i64 (s.length : Nat))), (37, .d (.int .i64 (y.1 : Nat)))], [], []⟩)
    (fun y => y.1 ≤ s.length ∧ y.2.1 ≤ q.length ∧ y.2.1 ≤ y.1 ∧ y.2.2.length ≤ y.1 ∧ y.2.2.Pairwise (· < ·) ∧ ∀ a ∈ y.2.2, a + q.length ≤ y.1) (fun y => s.length - y.1) (0, 0, []) ?_ ?_ ?_
   ·refine Weak.mk ?_ ?_ ?_ <;> simp (maxSteps := 2000000) only [go_sem, ↓reduceIte, Sub, Int.natCast_add, Int.natCast_mul, nsD]
   ·exact ⟨Nat.zero_le _, Nat.zero_le _, Nat.le_refl _, Nat.le_refl _, .nil, fun a ha => by cases ha⟩
   ·rintro ⟨i, k, O⟩ ⟨h1, h2, h3, h4, h5, h6⟩
    simp only at h1 h2 h3 h4 h5 h6
    simp (maxSteps := 2000000) only [go_sem, ↓reduceIte]
    refine ⟨fun hlt1 => ?_, fun hge => ?_⟩
    ·obtain ⟨a, ha⟩ := get_some (l := s) (i := i) (by omega)
     have gA := rnD_get' ha
     simp (maxSteps := 2000000) (disch := omega) only [go_sem, ↓reduceIte, getI_nat, gA, hS]
     refine CallG.of (fold_call a on (hsv a (List.mem_of_getElem? ha))) ?_
     have hfa := foldN_le (on := on) (hsv a (List.mem_of_getElem? ha))
     generalize foldN on a = b at *
     have hOl : ((nsD O).length : Int) = (O.length : Int) := by rw [nsD_len]
     simp (maxSteps := 2000000) only [go_sem, ↓reduceIte]
     refine run_loop (fun k : Nat => ⟨[(0, .d (.list (rnD s))), (2, .d (.bool on)), (8, .own (.t 8) 21 1 (rnD q)), (11, .d (.list (nsD T))), (12, .own (.t 12) 3 1 (nsD O)), (13, .d (.int .i64 (k : Nat))), (14, .d (.int .i64 (i : Nat))), (15, .d (.int .i32 (b : Nat))), (35, .d (.list (rnD s))), (36, .d (.int .i64 (s.length : Nat))), (37, .d (.int .i64 (i : Nat)))], [], []⟩)
      (fun k => k ≤ q.length ∧ k ≤ i) (fun k => k) k ?_ ⟨h2, h3⟩ ?_
     ·refine Weak.mk ?_ ?_ ?_ <;> simp (maxSteps := 2000000) only [go_sem, ↓reduceIte, Sub, Int.natCast_add, Int.natCast_mul]
     ·clear h2 h3 k
      rintro k ⟨h2, h3⟩
      have ek : ((k : Int) + 1) = ((k + 1 : Nat) : Int) := by omega
      have happ : ∀ z : Int, z = ((i + 1 - q.length : Nat) : Int) → nsD O ++ [D.int .i64 z] = nsD (O ++ [i + 1 - q.length]) := fun z hz => by rw [hz]; simp [nsD]
      have pw : k + 1 = q.length → (O ++ [i + 1 - q.length]).Pairwise (· < ·) ∧ ∀ a ∈ O ++ [i + 1 - q.length], a + q.length ≤ i + 1 := fun hkq => by
       refine ⟨List.pairwise_append.2 ⟨h5, by simp, fun a ha b hb => ?_⟩, fun a ha => ?_⟩
       ·have := h6 a ha
        rw [List.mem_singleton.1 hb]; omega
       ·rcases List.mem_append.1 ha with ha | ha
        ·have := h6 a ha; omega
        ·rw [List.mem_singleton.1 ha]; omega
      have stay : ∀ a ∈ O, a + q.length ≤ i + 1 := fun a ha => by have := h6 a ha; omega
      have step : ∀ k' : Nat, 0 < k → (nsD T)[k - 1]? = some (.int .i64 (k' : Nat)) → k' < k := fun k' h0 h => by
       rw [nsD_get] at h
       cases hTk : T[k - 1]? with
       | none => rw [hTk] at h; cases h
       | some v =>
        rw [hTk] at h
        have := hT _ _ hTk
        simp at h; omega
      by_cases h0 : k = 0
      ·subst h0
       obtain ⟨c, hc⟩ := get_some (l := q) (i := 0) (by omega)
       have gC := rnD_get' hc
       have zq : ((0 : Int) = (q.length : Int)) = False := eq_false (by omega)
       by_cases hbc : c = b
       ·have z2 : ((c : Int) = (b : Int)) = True := eq_true (by omega)
        simp (maxSteps := 2000000) (disch := omega) only [go_sem, ↓reduceIte, hQ, zq, z2, getI_nat, getI_0, gC]
        refine ⟨fun hq => ⟨⟨by omega, by omega⟩, (i + 1, 0 + 1, O ++ [i + 1 - q.length]), ?_, ⟨by simp only; omega, by simp only; omega, by simp only; omega, by simp only [List.length_append, List.length_cons, List.length_nil]; omega, (pw (by omega)).1, (pw (by omega)).2⟩, by simp only; omega⟩, fun hq => ⟨(i + 1, 0 + 1, O), ?_, ⟨by simp only; omega, by simp only; omega, by simp only; omega, by simp only; omega, h5, stay⟩, by simp only; omega⟩⟩
        ·refine Weak.mk ?_ ?_ ?_ <;> simp (maxSteps := 2000000) only [go_sem, ↓reduceIte, Sub, Int.natCast_add, Int.natCast_mul]
         exact congrArg _ (happ _ (by omega))
        ·refine Weak.mk ?_ ?_ ?_ <;> simp (maxSteps := 2000000) only [go_sem, ↓reduceIte, Sub, Int.natCast_add, Int.natCast_mul]
       ·have z2 : ((c : Int) = (b : Int)) = False := eq_false (by omega)
        simp (maxSteps := 2000000) (disch := omega) only [go_sem, ↓reduceIte, hQ, zq, z2, getI_nat, getI_0, gC]
        refine ⟨(i + 1, 0, O), ?_, ⟨by simp only; omega, by simp only; omega, by simp only; omega, by simp only; omega, h5, stay⟩, by simp only; omega⟩
        refine Weak.mk ?_ ?_ ?_ <;> simp (maxSteps := 2000000) only [go_sem, ↓reduceIte, Sub, Int.natCast_add, Int.natCast_mul]
      ·have z : (0 < (k : Int)) = True := eq_true (by omega)
       obtain ⟨v, hv⟩ := get_some (l := T) (i := k - 1) (by omega)
       have gT : (nsD T)[k - 1]? = some (.int .i64 (v : Nat)) := by rw [nsD_get, hv]; rfl
       have hvk := step v (by omega) gT
       have e1 : ((k : Int) - 1) = ((k - 1 : Nat) : Int) := by omega
       by_cases hkq : k = q.length
       ·have zq : ((k : Int) = (q.length : Int)) = True := eq_true (by omega)
        simp (maxSteps := 2000000) (disch := omega) only [go_sem, ↓reduceIte, hQ, z, zq, getI_nat, e1, gT]
        refine ⟨v, ?_, ⟨by omega, by omega⟩, by omega⟩
        refine Weak.mk ?_ ?_ ?_ <;> simp (maxSteps := 2000000) only [go_sem, ↓reduceIte, Sub, Int.natCast_add, Int.natCast_mul]
       ·have zq : ((k : Int) = (q.length : Int)) = False := eq_false (by omega)
        obtain ⟨c, hc⟩ := get_some (l := q) (i := k) (by omega)
        have gC := rnD_get' hc
        by_cases hbc : c = b
        ·have z2 : ((c : Int) = (b : Int)) = True := eq_true (by omega)
         simp (maxSteps := 2000000) (disch := omega) only [go_sem, ↓reduceIte, hQ, z, zq, z2, getI_nat, gC, ek]
         refine ⟨fun hq => ⟨⟨by omega, by omega⟩, (i + 1, k + 1, O ++ [i + 1 - q.length]), ?_, ⟨by simp only; omega, by simp only; omega, by simp only; omega, by simp only [List.length_append, List.length_cons, List.length_nil]; omega, (pw (by omega)).1, (pw (by omega)).2⟩, by simp only; omega⟩, fun hq => ⟨(i + 1, k + 1, O), ?_, ⟨by simp only; omega, by simp only; omega, by simp only; omega, by simp only; omega, h5, stay⟩, by simp only; omega⟩⟩
         ·refine Weak.mk ?_ ?_ ?_ <;> simp (maxSteps := 2000000) only [go_sem, ↓reduceIte, Sub, Int.natCast_add, Int.natCast_mul]
          exact congrArg _ (happ _ (by omega))
         ·refine Weak.mk ?_ ?_ ?_ <;> simp (maxSteps := 2000000) only [go_sem, ↓reduceIte, Sub, Int.natCast_add, Int.natCast_mul]
        ·have z2 : ((c : Int) = (b : Int)) = False := eq_false (by omega)
         simp (maxSteps := 2000000) (disch := omega) only [go_sem, ↓reduceIte, hQ, z, zq, z2, getI_nat, gC, e1, gT]
         refine ⟨v, ?_, ⟨by omega, by omega⟩, by omega⟩
         refine Weak.mk ?_ ?_ ?_ <;> simp (maxSteps := 2000000) only [go_sem, ↓reduceIte, Sub, Int.natCast_add, Int.natCast_mul]
    ·have hin : i = s.length := by omega
     subst hin
     exact ⟨O, rfl, h4, h5, h6⟩
end Go.Av.Try
set_option linter.unusedSimpArgs false
set_option maxRecDepth 100000
set_option maxHeartbeats 2000000
namespace Go.Av.Try
open Go.Proofs
structure Bx where
 x0 : Int
 y0 : Int
 x1 : Int
 y1 : Int
def Bx.d (b : Bx) : D := .agg [.int .i64 b.x0, .int .i64 b.y0, .int .i64 b.x1, .int .i64 b.y1]
def bxsD (l : List Bx) : List D := l.map Bx.d
theorem bxsD_len (l : List Bx) : (bxsD l).length = l.length := by simp [bxsD]
def Gl.bx (g : Gl) : Bx := ⟨g.b0, g.b1, g.b2, g.b3⟩
def mnI (a b : Int) : Int := if b < a then b else a
def mxI (a b : Int) : Int := if a < b then b else a
def tog (a b : Bx) : Bx := ⟨mnI a.x0 b.x0, mnI a.y0 b.y0, mxI a.x1 b.x1, mxI a.y1 b.y1⟩
theorem tog_self (b : Bx) : tog b b = b := by simp [tog, mnI, mxI]
def bxs (l : List Gl) : Int → List Bx → List Tri → List Bx
 | _, B, [] => B
 | line, B, (_, o, n) :: T => if o < 0 then bxs l line B T else if n ≠ line then bxs l n (B ++ [(glAt l o.toNat).bx]) T
  else bxs l line (B.dropLast ++ [tog (B.getLast?.getD ⟨0, 0, 0, 0⟩) (glAt l o.toNat).bx]) T
def L_search_together : LCode :=
 .seq (.reg [⟨some 2, .box (.t 0), none⟩, ⟨some 3, .box (.t 1), none⟩, ⟨some 4, .allo [.int .i64 0, .int .i64 0, .int .i64 0, .int .i64 0], none⟩]) (.seq (.reg [Q 5 (.fa 0 (.t 2)), 
 Q 6 (.ld false 1 (.t 5)), Q 7 (.fa 0 (.t 3)), Q 8 (.ld false 1 (.t 7)), Q 9 (.mm false (.t 6) (.t 8)), Q 10 (.fa 1 (.t 2)), Q 11 (.ld false 1 (.t 10)), Q 12 (.fa 1 (.t 3)), Q 13 
 (.ld false 1 (.t 12)), Q 14 (.mm false (.t 11) (.t 13)), Q 15 (.fa 2 (.t 2)), Q 16 (.ld false 1 (.t 15)), Q 17 (.fa 2 (.t 3)), Q 18 (.ld false 1 (.t 17)), Q 19 (.mm true (.t 16) 
 (.t 18)), Q 20 (.fa 3 (.t 2)), Q 21 (.ld false 1 (.t 20)), Q 22 (.fa 3 (.t 3)), Q 23 (.ld false 1 (.t 22)), Q 24 (.mm true (.t 21) (.t 23)), Q 25 (.bld [(0, 1), (1, 1), (2, 1), 
 (3, 1)] [.int .i64 0, .int .i64 0, .int .i64 0, .int .i64 0] [] [(0, .t 9), (1, .t 14), (2, .t 19), (3, .t 24)]), ⟨none, .st 4 (.t 4) (.t 25), none⟩]) .ret)
def R_search_together : List LRes := [.cell 4 true 4]
theorem lift_search_together : Lifts Try.prog 31 26 L_search_together R_search_together := ⟨_, _, Try.func31, rfl, by kernel_rfl, by kernel_rfl, rfl⟩
theorem together_call (a b : Bx) : PCall Try.prog 31 [a.d, b.d] (fun r => r = .one (tog a b).d) := by
 unfold Bx.d
 refine lift_search_together.call rfl ?_
 simp (maxSteps := 2000000) only [go_sem, ↓reduceIte, L_search_together, R_search_together, tog]
 rfl
def bxS : List Bx → Nat → AV
 | [], _ => .ns
 | _ :: B, c => .rs (.l 44) (B.length + 1) c
def bxL : List Bx → Nat → List (Nat × AObj)
 | [], _ => []
 | b :: B, c => [(44, .cells (rowC 4 (bxsD (b :: B)) c))]
theorem bxS_of {B : List Bx} {c : Nat} (h : B ≠ []) : bxS B c = .rs (.l 44) B.length c := by
 cases B with
 | nil => exact absurd rfl h
 | cons b B => rfl
theorem bxL_of {B : List Bx} {c : Nat} (h : B ≠ []) : bxL B c = [(44, .cells (rowC 4 (bxsD B) c))] := by
 cases B with
 | nil => exact absurd rfl h
 | cons b B => rfl
theorem bxs4 (B : List Bx) : ∀ y ∈ bxsD B, y.cells.length = 4 := fun y hy => by
 obtain ⟨b, _, rfl⟩ := List.mem_map.1 hy
 rfl
def txtD (T : List Tri) : D := .agg [.list (rnD (T.map (·.1))), .list (inD (T.map (·.2.1))), .list (inD (T.map (·.2.2)))]
theorem boxSl : zeroOne Try.prog 42 = true := by kernel_rfl
def triOk (l : List Gl) (t : Tri) : Prop := (t.2.1 = -1) ∨ (0 ≤ t.2.2 ∧ ∃ g : Nat, t.2.1 = (g : Int) ∧ g < l.length)
theorem bxs_flat (B : List Bx) : (bxsD B).flatMap D.cells = B.flatMap fun b => [.int .i64 b.x0, .int .i64 b.y0, .int .i64 b.x1, .int .i64 b.y1] := by
 simp only [bxsD, List.flatMap_map]; rfl
theorem row_last (B : List Bx) (b : Bx) (c : Nat) : rowC 4 (bxsD (B ++ [b])) c = (B.flatMap fun b => [AV.d (.int .i64 b.x0), .d (.int .i64 b.y0), .d (.int .i64 b.x1), .d (.int .i64 b.y1)]) ++ ([.d (.int .i64 b.x0), .d (.int .i64 b.y0), .d (.int .i64 b.x1), .d (.int .i64 b.y1)] ++ List.replicate ((c - (B.length + 1)) * 4) .junk) := by
 rw [rowC, bxs_flat, bxsD_len, List.flatMap_append, List.map_append, List.length_append, List.append_assoc]
 congr 1
 rw [List.map_flatMap]; rfl
theorem flat4_len (B : List Bx) : (B.flatMap fun b => [AV.d (.int .i64 b.x0), .d (.int .i64 b.y0), .d (.int .i64 b.x1), .d (.int .i64 b.y1)]).length = B.length * 4 := by
 induction B with
 | nil => rfl
 | cons b B ih => rw [List.flatMap_cons, List.length_append, ih, List.length_cons]; simp; omega
theorem row_take (B : List Bx) (b : Bx) (c : Nat) : ((rowC 4 (bxsD (B ++ [b])) c).drop (B.length * 4)).take 4 = [.d (.int .i64 b.x0), .d (.int .i64 b.y0), .d (.int .i64 b.x1), .d (.int .i64 b.y1)] := by
 rw [row_last, ← flat4_len, List.drop_left]; rfl
theorem row_set (B : List Bx) (b b' : Bx) (c : Nat) : setA (rowC 4 (bxsD (B ++ [b])) c) (B.length * 4) [.d (.int .i64 b'.x0), .d (.int .i64 b'.y0), .d (.int .i64 b'.x1), .d (.int .i64 b'.y1)] = rowC 4 (bxsD (B ++ [b'])) c := by
 rw [row_last, row_last, ← flat4_len]
 exact setA_mid _ _ _ _ rfl
theorem sub_bx {B : List Bx} {c : Nat} {o : AObj} : Sub (bxL B c) ((5, o) :: bxL B c) := by
 cases B with
 | nil => trivial
 | cons b B => exact ⟨rfl, trivial⟩
def L_search_boxes : LCode :=
 .seq (.reg [⟨some 5, .box (.t 1), none⟩, ⟨some 8, .nils 42 4, none⟩]) (.seq (.alt [([], ⟨some 9, .nils 42 4, none⟩)] []) (.seq (.reg [Qx 10 (Ki (-1))]) (.seq (.seq (.reg [Qc 13 2, 
 Qa 11 13]) (.block 0 (.loop (.seq (.seq (.reg [Qc 14 11, Qc 15 3, Q 16 (.bin .lss (.t 14) (.t 15))]) (.cond (.t 16) .skip (.exit 0))) (.seq (.block 1 (.seq (.seq (.reg [Q 19 (.fa 
 1 (.t 5)), Q 20 (.ld false 1 (.t 19)), Qc 21 11, Q 22 (.ia 1 (.t 20) (.t 21)), Q 23 (.ld false 1 (.t 22)), Q 24 (.bin .lss (.t 23) (Ki 0))]) (.cond (.t 24) (.exit 1) .skip)) 
 (.seq (.reg [Qc 25 0, Q 26 (.fa 1 (.t 5)), Q 27 (.ld false 1 (.t 26)), Qc 28 11, Q 29 (.ia 1 (.t 27) (.t 28)), Q 30 (.ld false 1 (.t 29)), Q 31 (.ia 10 (.t 25) (.t 30)), Q 32 
 (.fa 6 (.t 31)), Q 33 (.ld true 4 (.t 32)), ⟨some 12, .allo [.int .i64 0, .int .i64 0, .int .i64 0, .int .i64 0], none⟩, ⟨none, .st 4 (.t 12) (.t 33), none⟩]) (.seq (.seq (.reg 
 [Q 34 (.fa 2 (.t 5)), Q 35 (.ld false 1 (.t 34)), Qc 36 11, Q 37 (.ia 1 (.t 35) (.t 36)), Q 38 (.ld false 1 (.t 37)), Qc 39 10, Q 40 (.bin .neq (.t 38) (.t 39))]) (.cond (.t 40) 
 (.seq (.alt [([Qc 41 9, Q 42 (.ld true 4 (.t 12)), ⟨some 43, .bsl 42 4 [.t 42], none⟩], ⟨some 44, .app 42 4 32 false (.t 41) (.t 43), none⟩)] [Qa 9 44]) (.reg [Q 45 (.fa 2 (.t 
 5)), Q 46 (.ld false 1 (.t 45)), Qc 47 11, Q 48 (.ia 1 (.t 46) (.t 47)), Q 49 (.ld false 1 (.t 48)), Qa 10 49])) .skip)) (.dreg [Qc 50 9, Qc 51 9, Q 52 (.len false (.t 51)), Q 53 
 (.bin .sub (.t 52) (Ki 1)), Qc 54 9, Qc 55 9, Q 56 (.len false (.t 55)), Q 57 (.bin .sub (.t 56) (Ki 1)), Q 58 (.ia 4 (.t 54) (.t 57)), Q 59 (.ld true 4 (.t 58)), Q 60 (.ld true 
 4 (.t 12)), ⟨some 61, .call 31 [.t 59, .t 60], none⟩, Q 62 (.ia 4 (.t 50) (.t 53)), ⟨none, .st 4 (.t 62) (.t 61), none⟩]))))) (.reg [Qc 17 11, Q 18 (.bin .add (.t 17) (Ki 1)), Qa 
 11 18])))))) (.seq (.alt [([], Qc 63 9)] [Qa 8 63]) .ret))))
def R_search_boxes : List LRes := [.tmp 8]
theorem lift_search_boxes : Lifts Try.prog 24 64 L_search_boxes R_search_boxes := ⟨_, _, Try.func24, rfl, by kernel_rfl, by kernel_rfl, rfl⟩
theorem boxes_call (l : List Gl) (T : List Tri) (fr to : Nat) (hl : l.length ≤ 1000) (hT : T.length ≤ 1000000) (hft : fr ≤ to) (hto : to ≤ T.length) (hk : ∀ t ∈ T, triOk l t) :
  PCall Try.prog 24 [.list (glsD l), txtD T, .int .i64 (fr : Nat), .int .i64 (to : Nat)] (fun r => r = .one (.list (bxsD (bxs l (-1) [] ((T.take to).drop fr))))) := by
 unfold txtD
 have hOl : ((inD (T.map (·.2.1))).length : Int) = (T.length : Int) := by rw [inD_len, List.length_map]
 have hLl : ((inD (T.map (·.2.2))).length : Int) = (T.length : Int) := by rw [inD_len, List.length_map]
 have gO : ∀ {i : Nat} {t : Tri}, T[i]? = some t → (inD (T.map (·.2.1)))[i]? = some (.int .i64 t.2.1) := fun {i t} h => by rw [inD, List.getElem?_map, List.getElem?_map, h]; rfl
 have gL : ∀ {i : Nat} {t : Tri}, T[i]? = some t → (inD (T.map (·.2.2)))[i]? = some (.int .i64 t.2.2) := fun {i t} h => by rw [inD, List.getElem?_map, List.getElem?_map, h]; rfl
 have hI : ((glsD l).length : Int) = (l.length : Int) := by rw [glsD_length]
 generalize hF : bxs l (-1) [] ((T.take to).drop fr) = F
 refine lift_search_boxes.call rfl ?_
 simp (maxSteps := 2000000) only [go_sem, ↓reduceIte, L_search_boxes, R_search_boxes]
 refine AStep.nils ?_
 simp (maxSteps := 2000000) only [go_sem, ↓reduceIte]
 refine run_loop (fun y : Nat × Int × List Bx × Nat => ⟨[(0, .d (.list (glsD l))), (3, .d (.int .i64 (to : Nat))), (5, .ptr (.l 5) 0), (9, bxS y.2.2.1 y.2.2.2), (10, .d (.int .i64 y.2.1)), (11, .d (.int .i64 (y.1 : Nat)))], (5, .cells [.d (.list (rnD (T.map (·.1)))), .d (.list (inD (T.map (·.2.1)))), .d (.list (inD (T.map (·.2.2))))]) :: bxL y.2.2.1 y.2.2.2, []⟩)
  (fun y => y.1 ≤ to ∧ F = bxs l y.2.1 y.2.2.1 ((T.take to).drop y.1) ∧ y.2.2.1.length ≤ y.1 ∧ (y.2.2.1 = [] → y.2.1 = -1) ∧ (y.2.2.1 ≠ [] → y.2.2.1.length ≤ y.2.2.2 ∧ y.2.2.2 ≤ maxLen)) (fun y => to - y.1) (fr, -1, [], 0) ?_ ?_ ?_
 ·refine Weak.mk ?_ ?_ ?_ <;> simp (maxSteps := 2000000) only [go_sem, ↓reduceIte, Sub, Int.natCast_add, Int.natCast_mul, bxS, bxL]
 ·exact ⟨hft, hF.symm, Nat.zero_le _, fun _ => rfl, fun h => absurd rfl h⟩
 ·rintro ⟨i, line, B, co⟩ ⟨h1, h2, h3, h4, h5⟩
  simp only at h1 h2 h3 h4 h5
  simp (maxSteps := 2000000) only [go_sem, ↓reduceIte]
  refine ⟨fun hlt1 => ?_, fun hge => ?_⟩
  ·obtain ⟨⟨sg, o, n⟩, hTi⟩ := get_some (l := T) (i := i) (by omega)
   have hTk : (T.take to)[i]? = some (sg, o, n) := by rw [List.getElem?_take, if_pos (by omega), hTi]
   have g2 := gO hTi
   have g3 := gL hTi
   simp only at g2 g3
   rw [drop_at hTk, bxs] at h2
   rcases hk _ (List.mem_of_getElem? hTi) with rfl | ⟨hn, g, rfl, hg⟩
   ·have z3 : ((-1 : Int) < 0) = True := eq_true (by omega)
    simp only [z3, if_true] at h2
    simp (maxSteps := 2000000) (disch := omega) only [go_sem, ↓reduceIte, getI_nat, g2, g3, z3, hOl]
    refine ⟨(i + 1, line, B, co), ?_, ⟨by simp only; omega, h2, by simp only; omega, h4, h5⟩, by simp only; omega⟩
    refine Weak.mk ?_ ?_ ?_ <;> simp (maxSteps := 2000000) only [go_sem, ↓reduceIte, Sub, Int.natCast_add, Int.natCast_mul]
    exact sub_bx
   ·have z3 : ((g : Int) < 0) = False := eq_false (by omega)
    have hn : 0 ≤ n := hn
    simp only [z3, if_false, Int.toNat_natCast] at h2
    have hgi : (glsD l)[g]? = some (glAt l g).d := by rw [glsD_get, glAt_get hg]; rfl
    by_cases hnl : n = line
    ·subst hnl
     have hB : B ≠ [] := fun e => by have := h4 e; omega
     rw [if_neg (by simp)] at h2
     obtain ⟨c1, c2⟩ := h5 hB
     rcases List.eq_nil_or_concat B with rfl | ⟨B0, b, rfl⟩
     ·exact absurd rfl hB
     rw [List.concat_eq_append] at *
     rw [bxS_of hB, bxL_of hB]
     have ei : (((B0 ++ [b]).length : Int) - 1).toNat * 4 = B0.length * 4 := by simp
     have r1 := row_take B0 b co
     have r2 := rowC_len (bxs4 (B0 ++ [b])) (c := co) (by rw [bxsD_len]; exact c1)
     simp (maxSteps := 2000000) (disch := omega) only [go_sem, ↓reduceIte, getI_nat, g2, g3, z3, hOl, hLl, hgi, hI, Gl.d, rowC_drop, ei, r1, r2]
     have hBl : (B0 ++ [b]).length = B0.length + 1 := by simp
     refine ⟨⟨by omega, by omega⟩, by omega, ?_⟩
     refine CallD.of (together_call b (glAt l g).bx) ?_
     have r3 := row_set B0 b (tog b (glAt l g).bx) co
     have r4 := rowC_len (bxs4 (B0 ++ [tog b (glAt l g).bx])) (c := co) (by rw [bxsD_len]; simp; omega)
     have hB' : B0 ++ [tog b (glAt l g).bx] ≠ [] := by simp
     have e5 := bxS_of (c := co) hB'
     have e6 := bxL_of (c := co) hB'
     have e7 : (B0 ++ [tog b (glAt l g).bx]).length = (B0 ++ [b]).length := by simp
     simp (maxSteps := 2000000) (disch := omega) only [go_sem, ↓reduceIte, rowC_drop, ei, r1, r2, r3, Bx.d]
     refine ⟨⟨by omega, by omega⟩, by omega, (i + 1, n, B0 ++ [tog b (glAt l g).bx], co), ?_, ⟨by simp only; omega, by rw [h2]; simp, by simp only [e7]; omega, fun h => absurd h hB', fun _ => by simp only [e7]; exact ⟨c1, c2⟩⟩, by simp only; omega⟩
     refine Weak.mk ?_ ?_ ?_ <;> simp (maxSteps := 2000000) only [go_sem, ↓reduceIte, Sub, Int.natCast_add, Int.natCast_mul, e5, e6, e7]
    ·have zn : (n = line) = False := eq_false hnl
     rw [if_pos hnl] at h2
     have fin : ∀ c' : Nat, B.length + 1 ≤ c' → c' ≤ maxLen → True := fun _ _ _ => trivial
     by_cases hB : B = []
     ·subst hB
      have e1 : bxS [] co = .ns := rfl
      have e2 : bxL [] co = [] := rfl
      simp (maxSteps := 2000000) (disch := omega) only [go_sem, ↓reduceIte, getI_nat, g2, g3, z3, zn, hOl, hLl, hgi, hI, Gl.d, e1, e2]
      refine AStep.appRow (r := 44) (c := 0) (fs := []) (ys := [(glAt l g).bx.d]) boxSl (.inl ⟨rfl, rfl⟩) (.inr ⟨_, _, rfl⟩) (by simp) (fun y hy => by rw [List.mem_singleton.1 hy]; rfl) (fun y hy => by cases hy) (by simp [maxLen]) (fun c' q1 q2 => ?_)
      have ei : (([(glAt l g).bx].length : Int) - 1).toNat * 4 = 0 * 4 := by simp
      have r0 : rowC 4 ([] ++ [(glAt l g).bx.d]) c' = rowC 4 (bxsD ([] ++ [(glAt l g).bx])) c' := rfl
      rw [r0]
      have r1 := row_take [] (glAt l g).bx c'
      simp only [List.nil_append, List.length_nil, Nat.zero_mul, List.drop_zero] at r1
      have r2 : (rowC 4 (bxsD [(glAt l g).bx]) c').length = c' * 4 := rowC_len (bxs4 [(glAt l g).bx]) (c := c') (by rw [bxsD_len]; simpa using q1)
      have r3 := row_set [] (glAt l g).bx (glAt l g).bx c'
      simp only [List.nil_append, List.length_nil, Nat.zero_mul] at r3
      have hB' : ([] : List Bx) ++ [(glAt l g).bx] ≠ [] := by simp
      have e5 : bxS [(glAt l g).bx] c' = .rs (.l 44) 1 c' := rfl
      have e6 : bxL [(glAt l g).bx] c' = [(44, .cells (rowC 4 (bxsD [(glAt l g).bx]) c'))] := rfl
      have q1 : 1 ≤ c' := by simpa using q1
      simp (maxSteps := 2000000) (disch := omega) only [go_sem, ↓reduceIte, getI_nat, g2, g3, z3, zn, hOl, hLl, hgi, hI, rowC_drop, r1, r2]
      refine ⟨by omega, ?_⟩
      refine CallD.of (together_call (glAt l g).bx (glAt l g).bx) ?_
      rw [tog_self]
      simp (maxSteps := 2000000) (disch := omega) only [go_sem, ↓reduceIte, rowC_drop, r1, r2, r3, Bx.d]
      refine ⟨by omega, (i + 1, n, [(glAt l g).bx], c'), ?_, ⟨by simp only; omega, h2, by simp, fun h => (by simp at h), fun _ => ⟨by simpa using q1, q2⟩⟩, by simp only; omega⟩
      refine Weak.mk ?_ ?_ ?_ <;> simp (maxSteps := 2000000) only [go_sem, ↓reduceIte, Sub, Int.natCast_add, Int.natCast_mul, e5, e6]
     ·rw [bxS_of hB, bxL_of hB]
      obtain ⟨c1, c2⟩ := h5 hB
      simp (maxSteps := 2000000) (disch := omega) only [go_sem, ↓reduceIte, getI_nat, g2, g3, z3, zn, hOl, hLl, hgi, hI, Gl.d, rowC_drop]
      refine AStep.appRow (r := 44) (c := co) (fs := bxsD B) (ys := [(glAt l g).bx.d]) boxSl (.inr ⟨by rw [bxsD_len]; rfl, rfl, by rw [bxsD_len]; exact c1, c2⟩) (.inr ⟨_, _, rfl⟩) (by simp) (fun y hy => by rw [List.mem_singleton.1 hy]; rfl) (bxs4 B) (by rw [bxsD_len]; simp [maxLen]; omega) (fun c' q1 q2 => ?_)
      rw [bxsD_len] at q1 ⊢
      simp only [List.length_cons, List.length_nil] at q1 ⊢
      have r0 : rowC 4 (bxsD B ++ [(glAt l g).bx.d]) c' = rowC 4 (bxsD (B ++ [(glAt l g).bx])) c' := by simp [bxsD]
      rw [r0]
      have ei : (((B.length + 1 : Nat) : Int) - 1).toNat * 4 = B.length * 4 := by omega
      have r1 := row_take B (glAt l g).bx c'
      have r2 := rowC_len (bxs4 (B ++ [(glAt l g).bx])) (c := c') (by rw [bxsD_len]; simp at q1 ⊢; omega)
      have r3 := row_set B (glAt l g).bx (tog (glAt l g).bx (glAt l g).bx) c'
      have r4 : ∀ cs : List AV, cs.map (AV.drop (.l 44)) = cs.map (AV.drop (.l 44)) := fun _ => rfl
      have hB' : B ++ [(glAt l g).bx] ≠ [] := by simp
      have e5 := bxS_of (c := c') hB'
      have e6 := bxL_of (c := c') hB'
      have e7 : (B ++ [(glAt l g).bx]).length = B.length + 1 := by simp
      rw [tog_self] at r3
      simp (maxSteps := 2000000) (disch := omega) only [go_sem, ↓reduceIte, getI_nat, g2, g3, z3, zn, hOl, hLl, hgi, hI, rowC_drop, ei, r1, r2]
      refine ⟨⟨by omega, by omega⟩, by omega, ?_⟩
      refine CallD.of (together_call (glAt l g).bx (glAt l g).bx) ?_
      rw [tog_self]
      simp (maxSteps := 2000000) (disch := omega) only [go_sem, ↓reduceIte, rowC_drop, ei, r1, r2, r3, Bx.d]
      refine ⟨⟨by omega, by omega⟩, by omega, (i + 1, n, B ++ [(glAt l g).bx], c'), ?_, ⟨by simp only; omega, h2, by simp only [e7]; omega, fun h => absurd h hB', fun _ => by simp only [e7]; exact ⟨q1, q2⟩⟩, by simp only; omega⟩
      refine Weak.mk ?_ ?_ ?_ <;> simp (maxSteps := 2000000) only [go_sem, ↓reduceIte, Sub, Int.natCast_add, Int.natCast_mul, e5, e6, e7]
  ·have hin : i = to := by omega
   subst hin
   have he : ((T.take i).drop i) = [] := List.drop_eq_nil_of_le (by simp; omega)
   rw [he, bxs] at h2
   subst h2
   by_cases hB : F = []
   ·subst hB
    refine AStep.step rfl (fun _ _ _ h => by cases h) rfl ?_
    simp (maxSteps := 2000000) only [go_sem, ↓reduceIte, bxS, bxL]
    rfl
   ·rw [bxS_of hB, bxL_of hB]
    obtain ⟨c1, c2⟩ := h5 hB
    refine AStep.ghost (AStep.step rfl (fun _ _ _ h => by cases h) rfl ?_)
    refine ⟨⟨[(63, .d (.list (bxsD F)))], [], []⟩, Gh.trans (Gh.frzL (a := 44) (sz := 4) (fs := bxsD F) (c := co) ?_ (bxs4 F) (by rw [bxsD_len]; exact c1)) (Gh.wk ⟨fun t x hx => ?_, fun r ob h => by cases r <;> cases h⟩), ?_⟩
    ·rfl
    ·simp only [aget] at hx
     split at hx
     ·rename_i e
      subst e
      cases hx
      rw [St.ρ_frzL (x := .rs (.l 44) F.length co) rfl]
      simp [AV.frzL, bxsD_len]
     ·cases hx
    ·simp (maxSteps := 2000000) only [go_sem, ↓reduceIte]
end Go.Av.Try
set_option linter.unusedSimpArgs false
set_option maxRecDepth 100000
set_option maxHeartbeats 2000000
namespace Go.Av.Try
open Go.Proofs
def lastB (B : List Bx) : Bx := B.getLast?.getD ⟨0, 0, 0, 0⟩
def cellsBx (b : Bx) : List AV := [.d (.int .i64 b.x0), .d (.int .i64 b.y0), .d (.int .i64 b.x1), .d (.int .i64 b.y1)]
theorem bxs_pre (l : List Gl) : ∀ (T : List Tri) (line : Int) (B : List Bx) (b : Bx), ∃ c ys, bxs l line (B ++ [b]) T = B ++ c :: ys
 | [], _, B, b => ⟨b, [], rfl⟩
 | (s, o, n) :: T, line, B, b => by
  simp only [bxs]
  split
  ·exact bxs_pre l T line B b
  ·split
   ·obtain ⟨c, ys, h⟩ := bxs_pre l T n (B ++ [b]) (glAt l o.toNat).bx
    exact ⟨b, c :: ys, by rw [h]; simp⟩
   ·rw [List.dropLast_concat]
    exact bxs_pre l T line B _
theorem lastB_snoc (B : List Bx) (b : Bx) : lastB (B ++ [b]) = b := by simp [lastB]
theorem bxsD_get {B : List Bx} {i : Nat} {b : Bx} (h : B[i]? = some b) : (bxsD B)[i]? = some b.d := by rw [bxsD, List.getElem?_map, h]; rfl
def hitD (fr to : Nat) (B : List Bx) : D := .agg [.int .i64 (fr : Nat), .int .i64 (to : Nat), .list (bxsD B)]
def L_foliowrighttop_boxed : LCode :=
 .seq (.reg [⟨some 4, .box (.t 1), none⟩, ⟨some 5, .box (.t 2), none⟩, Qx 6 KF]) (.seq (.reg [Qx 7 (Ki (-1))]) (.seq (.reg [Qx 8 (Ki (-1))]) (.seq (.reg [⟨some 9, .allo [.int .i64 
 0, .int .i64 0, .int .i64 0, .int .i64 0], none⟩]) (.seq (.seq (.reg [Q 12 (.fa 0 (.t 5)), Q 13 (.ld false 1 (.t 12)), Qa 10 13]) (.block 0 (.loop (.seq (.seq (.reg [Qc 14 10, Q 
 15 (.fa 1 (.t 5)), Q 16 (.ld false 1 (.t 15)), Q 17 (.bin .lss (.t 14) (.t 16))]) (.cond (.t 17) .skip (.exit 0))) (.seq (.block 1 (.seq (.seq (.reg [Q 20 (.fa 1 (.t 4)), Q 21 
 (.ld false 1 (.t 20)), Qc 22 10, Q 23 (.ia 1 (.t 21) (.t 22)), Q 24 (.ld false 1 (.t 23)), Q 25 (.bin .lss (.t 24) (Ki 0))]) (.cond (.t 25) (.exit 1) .skip)) (.seq (.reg [Qc 26 
 0, Q 27 (.fa 1 (.t 4)), Q 28 (.ld false 1 (.t 27)), Qc 29 10, Q 30 (.ia 1 (.t 28) (.t 29)), Q 31 (.ld false 1 (.t 30)), Q 32 (.ia 10 (.t 26) (.t 31)), Q 33 (.fa 6 (.t 32)), Q 34 
 (.ld true 4 (.t 33)), ⟨some 11, .allo [.int .i64 0, .int .i64 0, .int .i64 0, .int .i64 0], none⟩, ⟨none, .st 4 (.t 11) (.t 34), none⟩]) (.seq (.seq (.reg [Q 35 (.fa 2 (.t 4)), Q 
 36 (.ld false 1 (.t 35)), Qc 37 10, Q 38 (.ia 1 (.t 36) (.t 37)), Q 39 (.ld false 1 (.t 38)), Qc 40 8, Q 41 (.bin .neq (.t 39) (.t 40))]) (.cond (.t 41) (.seq (.seq (.dreg [Qc 42 
 7, Q 43 (.bin .geq (.t 42) (Ki 0)), Qc 44 43, Qd 45 7 44 true, Qg 46 (.fa 2 (.t 5)) 44 true, Qg 47 (.ld false 1 (.t 46)) 44 true, Qg 48 (.len false (.t 47)) 44 true, Qg 49 (.bin 
 .geq (.t 45) (.t 48)) 44 true, Qd 50 49 44 true, Qg 51 (.fa 2 (.t 5)) 50 false, Qg 52 (.ld false 1 (.t 51)) 50 false, Qd 53 7 50 false, Qg 54 (.ia 4 (.t 52) (.t 53)) 50 false, Qg 
 55 (.ld true 4 (.t 54)) 50 false, Qg 56 (.ld true 4 (.t 9)) 50 false, Qg 57 (.eqS true [0, 0, 0, 0] (.t 55) (.t 56)) 50 false, Qg 58 (.pick (.t 50) KT (.t 57)) 44 true, Q 59 
 (.pick (.t 44) (.t 58) KF)]) (.cond (.t 59) (.seq (.reg [Qx 6 KF]) .ret) .skip)) (.seq (.reg [Qc 60 7, Q 61 (.bin .add (.t 60) (Ki 1)), Qa 7 61]) (.seq (.reg [Q 62 (.fa 2 (.t 
 4)), Q 63 (.ld false 1 (.t 62)), Qc 64 10, Q 65 (.ia 1 (.t 63) (.t 64)), Q 66 (.ld false 1 (.t 65)), Qa 8 66]) (.reg [Q 67 (.ld true 4 (.t 11)), ⟨none, .st 4 (.t 9) (.t 67), 
 none⟩])))) .skip)) (.reg [Q 68 (.fa 0 (.t 9)), Q 69 (.ld false 1 (.t 68)), Q 70 (.fa 0 (.t 11)), Q 71 (.ld false 1 (.t 70)), Q 72 (.mm false (.t 69) (.t 71)), Q 73 (.fa 1 (.t 
 9)), Q 74 (.ld false 1 (.t 73)), Q 75 (.fa 1 (.t 11)), Q 76 (.ld false 1 (.t 75)), Q 77 (.mm false (.t 74) (.t 76)), Q 78 (.fa 2 (.t 9)), Q 79 (.ld false 1 (.t 78)), Q 80 (.fa 2 
 (.t 11)), Q 81 (.ld false 1 (.t 80)), Q 82 (.mm true (.t 79) (.t 81)), Q 83 (.fa 3 (.t 9)), Q 84 (.ld false 1 (.t 83)), Q 85 (.fa 3 (.t 11)), Q 86 (.ld false 1 (.t 85)), Q 87 
 (.mm true (.t 84) (.t 86)), Q 88 (.bld [(0, 1), (1, 1), (2, 1), (3, 1)] [.int .i64 0, .int .i64 0, .int .i64 0, .int .i64 0] [] [(0, .t 72), (1, .t 77), (2, .t 82), (3, .t 87)]), 
 ⟨none, .st 4 (.t 9) (.t 88), none⟩]))))) (.reg [Qc 18 10, Q 19 (.bin .add (.t 18) (Ki 1)), Qa 10 19])))))) (.seq (.seq (.dreg [Qc 89 7, Q 90 (.bin .geq (.t 89) (Ki 0)), Qc 91 90, 
 Qd 92 7 91 true, Qg 93 (.fa 2 (.t 5)) 91 true, Qg 94 (.ld false 1 (.t 93)) 91 true, Qg 95 (.len false (.t 94)) 91 true, Qg 96 (.bin .geq (.t 92) (.t 95)) 91 true, Qd 97 96 91 
 true, Qg 98 (.fa 2 (.t 5)) 97 false, Qg 99 (.ld false 1 (.t 98)) 97 false, Qd 100 7 97 false, Qg 101 (.ia 4 (.t 99) (.t 100)) 97 false, Qg 102 (.ld true 4 (.t 101)) 97 false, Qg 
 103 (.ld true 4 (.t 9)) 97 false, Qg 104 (.eqS true [0, 0, 0, 0] (.t 102) (.t 103)) 97 false, Qg 105 (.pick (.t 97) KT (.t 104)) 91 true, Q 106 (.pick (.t 91) (.t 105) KF)]) 
 (.cond (.t 106) (.seq (.reg [Qx 6 KF]) .ret) .skip)) (.seq (.reg [Qc 107 7, Q 108 (.bin .add (.t 107) (Ki 1)), Q 109 (.fa 2 (.t 5)), Q 110 (.ld false 1 (.t 109)), Q 111 (.len 
 false (.t 110)), Q 112 (.bin .eql (.t 108) (.t 111)), Qa 6 112]) .ret))))))
def R_foliowrighttop_boxed : List LRes := [.tmp 6]
theorem lift_foliowrighttop_boxed : Lifts Try.prog 19 113 L_foliowrighttop_boxed R_foliowrighttop_boxed := ⟨_, _, Try.func19, rfl, by kernel_rfl, by kernel_rfl, rfl⟩
theorem boxed_call (l : List Gl) (T : List Tri) (fr to : Nat) (F : List Bx) (hl : l.length ≤ 1000) (hT : T.length ≤ 1000000) (hft : fr ≤ to) (hto : to ≤ T.length) (hk : ∀ t ∈ T, triOk l t) (hF : bxs l (-1) [] ((T.take to).drop fr) = F) (hFl : F.length ≤ 1000000) :
  PCall Try.prog 19 [.list (glsD l), txtD T, hitD fr to F] (fun r => r = .one (.bool true)) := by
 unfold txtD hitD
 have hOl : ((inD (T.map (·.2.1))).length : Int) = (T.length : Int) := by rw [inD_len, List.length_map]
 have hLl : ((inD (T.map (·.2.2))).length : Int) = (T.length : Int) := by rw [inD_len, List.length_map]
 have gO : ∀ {i : Nat} {t : Tri}, T[i]? = some t → (inD (T.map (·.2.1)))[i]? = some (.int .i64 t.2.1) := fun {i t} h => by rw [inD, List.getElem?_map, List.getElem?_map, h]; rfl
 have gL : ∀ {i : Nat} {t : Tri}, T[i]? = some t → (inD (T.map (·.2.2)))[i]? = some (.int .i64 t.2.2) := fun {i t} h => by rw [inD, List.getElem?_map, List.getElem?_map, h]; rfl
 have hI : ((glsD l).length : Int) = (l.length : Int) := by rw [glsD_length]
 have hFD : ((bxsD F).length : Int) = (F.length : Int) := by rw [bxsD_len]
 refine lift_foliowrighttop_boxed.call rfl ?_
 simp (maxSteps := 2000000) only [go_sem, ↓reduceIte, L_foliowrighttop_boxed, R_foliowrighttop_boxed]
 refine run_loop (fun y : Nat × Int × List Bx => ⟨[(0, .d (.list (glsD l))), (4, .ptr (.l 4) 0), (5, .ptr (.l 5) 0), (7, .d (.int .i64 ((y.2.2.length : Nat) - 1 : Int))), (8, .d (.int .i64 y.2.1)), (9, .ptr (.l 9) 0), (10, .d (.int .i64 (y.1 : Nat)))], [(4, .cells [.d (.list (rnD (T.map (·.1)))), .d (.list (inD (T.map (·.2.1)))), .d (.list (inD (T.map (·.2.2))))]), (5, .cells [.d (.int .i64 (fr : Nat)), .d (.int .i64 (to : Nat)), .d (.list (bxsD F))]), (9, .cells (cellsBx (lastB y.2.2)))], []⟩)
  (fun y => y.1 ≤ to ∧ F = bxs l y.2.1 y.2.2 ((T.take to).drop y.1) ∧ y.2.2.length ≤ y.1 ∧ (y.2.2 = [] → y.2.1 = -1)) (fun y => to - y.1) (fr, -1, []) ?_ ?_ ?_
 ·refine Weak.mk ?_ ?_ ?_ <;> simp (maxSteps := 2000000) only [go_sem, ↓reduceIte, Sub, Int.natCast_add, Int.natCast_mul, cellsBx]
  rfl
 ·exact ⟨hft, hF.symm, Nat.zero_le _, fun _ => rfl⟩
 ·rintro ⟨i, line, B⟩ ⟨h1, h2, h3, h4⟩
  simp only at h1 h2 h3 h4
  simp (maxSteps := 2000000) only [go_sem, ↓reduceIte, cellsBx]
  refine ⟨fun hlt1 => ?_, fun hge => ?_⟩
  ·obtain ⟨⟨sg, o, n⟩, hTi⟩ := get_some (l := T) (i := i) (by omega)
   have hTk : (T.take to)[i]? = some (sg, o, n) := by rw [List.getElem?_take, if_pos (by omega), hTi]
   have g2 := gO hTi
   have g3 := gL hTi
   simp only at g2 g3
   rw [drop_at hTk, bxs] at h2
   rcases hk _ (List.mem_of_getElem? hTi) with rfl | ⟨hn, g, rfl, hg⟩
   ·have z3 : ((-1 : Int) < 0) = True := eq_true (by omega)
    simp only [z3, if_true] at h2
    simp (maxSteps := 2000000) (disch := omega) only [go_sem, ↓reduceIte, getI_nat, g2, g3, z3, hOl]
    refine ⟨(i + 1, line, B), ?_, ⟨by simp only; omega, h2, by simp only; omega, h4⟩, by simp only; omega⟩
    refine Weak.mk ?_ ?_ ?_ <;> simp (maxSteps := 2000000) only [go_sem, ↓reduceIte, Sub, Int.natCast_add, Int.natCast_mul, cellsBx]
   ·have z3 : ((g : Int) < 0) = False := eq_false (by omega)
    have hn : 0 ≤ n := hn
    simp only [z3, if_false, Int.toNat_natCast] at h2
    have hgi : (glsD l)[g]? = some (glAt l g).d := by rw [glsD_get, glAt_get hg]; rfl
    by_cases hnl : n = line
    ·subst hnl
     have hB : B ≠ [] := fun e => by have := h4 e; omega
     rw [if_neg (by simp)] at h2
     rcases List.eq_nil_or_concat B with rfl | ⟨B0, b, rfl⟩
     ·exact absurd rfl hB
     rw [List.concat_eq_append] at *
     simp (maxSteps := 2000000) (disch := omega) only [go_sem, ↓reduceIte, getI_nat, g2, g3, z3, hOl, hLl, hgi, hI, Gl.d]
     have eL : ((B0 ++ [b]).length : Int) = ((B0 ++ [tog b (glAt l g).bx]).length : Int) := by simp
     refine ⟨(i + 1, n, B0 ++ [tog b (glAt l g).bx]), ?_, ⟨by simp only; omega, by rw [h2]; simp, by simp only; omega, fun h => by simp at h⟩, by simp only; omega⟩
     refine Weak.mk ?_ ?_ ?_ <;> simp (maxSteps := 2000000) only [go_sem, ↓reduceIte, Sub, Int.natCast_add, Int.natCast_mul, cellsBx, lastB_snoc, tog, mnI, mxI, Gl.bx, eL]
     rfl
    ·have zn : (n = line) = False := eq_false hnl
     rw [if_pos hnl] at h2
     rcases List.eq_nil_or_concat B with rfl | ⟨B0, b, rfl⟩
     ·simp (maxSteps := 2000000) (disch := omega) only [go_sem, ↓reduceIte, getI_nat, g2, g3, z3, zn, hOl, hLl, hgi, hI, Gl.d]
      have eL : ((([] ++ [(glAt l g).bx] : List Bx).length : Int) - 1) = 0 := by simp
      refine ⟨(i + 1, n, [] ++ [(glAt l g).bx]), ?_, ⟨by simp only; omega, h2, by simp, fun h => by simp at h⟩, by simp only; omega⟩
      refine Weak.mk ?_ ?_ ?_ <;> simp (maxSteps := 2000000) only [go_sem, ↓reduceIte, Sub, Int.natCast_add, Int.natCast_mul, cellsBx, lastB_snoc, Gl.bx, ite_self, eL]
      rfl
     ·rw [List.concat_eq_append] at *
      obtain ⟨c, ys, hpre⟩ := bxs_pre l ((T.take to).drop (i + 1)) n (B0 ++ [b]) (glAt l g).bx
      have hFp : F = B0 ++ [b] ++ c :: ys := by rw [h2, hpre]
      have hFg : F[B0.length]? = some b := by rw [hFp]; simp
      have hFl2 : B0.length + 1 < F.length := by rw [hFp]; simp
      have gF := bxsD_get hFg
      have eB : (((B0 ++ [b]).length : Int) - 1) = ((B0.length : Nat) : Int) := by simp
      have z5 : (0 ≤ ((B0.length : Nat) : Int)) = True := eq_true (by omega)
      have z6 : ((F.length : Int) ≤ (B0.length : Int)) = False := eq_false (by omega)
      simp (maxSteps := 2000000) (disch := omega) only [go_sem, ↓reduceIte, getI_nat, g2, g3, z3, zn, hOl, hLl, hgi, hI, Gl.d, eB, z5, z6, hFD, gF, lastB_snoc, Bx.d]
      have eL : ∀ x : Bx, (((B0 ++ [b] ++ [x]).length : Int) - 1) = (B0.length : Int) + 1 := fun x => by simp only [List.length_append, List.length_cons, List.length_nil]; omega
      refine ⟨(i + 1, n, B0 ++ [b] ++ [(glAt l g).bx]), ?_, ⟨by simp only; omega, h2, by simp only [List.length_append, List.length_cons, List.length_nil] at h3 ⊢; omega, fun h => by simp at h⟩, by simp only; omega⟩
      refine Weak.mk ?_ ?_ ?_ <;> simp (maxSteps := 2000000) only [go_sem, ↓reduceIte, Sub, Int.natCast_add, Int.natCast_mul, cellsBx, lastB_snoc, Gl.bx, ite_self, eL]
  ·have hin : i = to := by omega
   subst hin
   have he : ((T.take i).drop i) = [] := List.drop_eq_nil_of_le (by simp; omega)
   rw [he, bxs] at h2
   subst h2
   rcases List.eq_nil_or_concat F with rfl | ⟨B0, b, rfl⟩
   ·simp (maxSteps := 2000000) (disch := omega) only [go_sem, ↓reduceIte]
    simp [bxsD]
   ·rw [List.concat_eq_append] at *
    have hFg : (B0 ++ [b])[B0.length]? = some b := by simp
    have gF := bxsD_get hFg
    have eB : (((B0 ++ [b]).length : Int) - 1) = ((B0.length : Nat) : Int) := by simp
    have eC : ((B0 ++ [b]).length : Int) = (B0.length : Int) + 1 := by simp
    have z5 : (0 ≤ ((B0.length : Nat) : Int)) = True := eq_true (by omega)
    have z6 : ((B0.length : Int) + 1 ≤ (B0.length : Int)) = False := eq_false (by omega)
    rw [eC] at hFD
    simp (maxSteps := 2000000) (disch := omega) only [go_sem, ↓reduceIte, getI_nat, eB, z5, z6, hFD, gF, lastB_snoc, Bx.d]
    trace_state
end Go.Av.Try
set_option linter.unusedSimpArgs false
set_option maxRecDepth 100000
set_option maxHeartbeats 2000000
namespace Go.Av.Try
open Go.Proofs
theorem bxs_len (l : List Gl) : ∀ (T : List Tri) (line : Int) (B : List Bx), (bxs l line B T).length ≤ B.length + T.length + 1
 | [], _, B => by simp [bxs]
 | (s, o, n) :: T, line, B => by
  simp only [bxs, List.length_cons]
  split
  ·have := bxs_len l T line B; omega
  ·split
   ·have := bxs_len l T n (B ++ [(glAt l o.toNat).bx])
    simp at this; omega
   ·have := bxs_len l T line (B.dropLast ++ [tog (B.getLast?.getD ⟨0, 0, 0, 0⟩) (glAt l o.toNat).bx])
    simp at this; omega
theorem lineT_ok {l : List Gl} (n : Nat) : ∀ (row : List Nat) (last : Option Nat), (∀ i ∈ row, i < l.length) → ∀ t ∈ lineT l (n : Int) last row, triOk l t
 | [], _, _, t, h => by cases h
 | i :: r, last, hr, t, h => by
  rw [lineT] at h
  rcases List.mem_append.1 h with h | h
  ·cases last with
   | none => cases h
   | some j =>
    rw [gapT] at h
    split at h
    ·rw [List.mem_singleton.1 h]; exact .inl rfl
    ·cases h
  ·rcases List.mem_append.1 h with h | h
   ·obtain ⟨c, _, rfl⟩ := List.mem_map.1 h
    exact .inr ⟨by simp, i, rfl, hr i (by simp)⟩
   ·exact lineT_ok n r (some i) (fun j hj => hr j (by simp [hj])) t h
theorem pageT_ok {l : List Gl} : ∀ (rows : List (List Nat)) (n : Nat), (∀ r ∈ rows, ∀ i ∈ r, i < l.length) → ∀ t ∈ pageT l n rows, triOk l t
 | [], _, _, t, h => by cases h
 | r :: rs, n, hr, t, h => by
  rw [pageT] at h
  rcases List.mem_append.1 h with h | h
  ·split at h
   ·cases h
   ·rw [List.mem_singleton.1 h]; exact .inl rfl
  ·rcases List.mem_append.1 h with h | h
   ·exact lineT_ok n r none (hr r (by simp)) t h
   ·exact pageT_ok rs (n + 1) (fun q hq => hr q (by simp [hq])) t h
theorem textF_tri {l : List Gl} : ∀ t ∈ textF l, triOk l t := pageT_ok _ 0 linesF_lt
theorem lineT_v {l : List Gl} {n : Int} (hr : ∀ g ∈ l, ∃ rs, runesM g.tx = some rs) : ∀ (row : List Nat) (last : Option Nat), (∀ i ∈ row, i < l.length) → ∀ t ∈ lineT l n last row, t.1 ≤ 1114111
 | [], _, _, t, h => by cases h
 | i :: r, last, hi, t, h => by
  rw [lineT] at h
  rcases List.mem_append.1 h with h | h
  ·cases last with
   | none => cases h
   | some j =>
    rw [gapT] at h
    split at h
    ·rw [List.mem_singleton.1 h]; simp
    ·cases h
  ·rcases List.mem_append.1 h with h | h
   ·obtain ⟨c, hc, rfl⟩ := List.mem_map.1 h
    obtain ⟨rs, hrs⟩ := hr _ (List.mem_of_getElem? (glAt_get (hi i (by simp))))
    rw [rnG, hrs] at hc
    have := (runesM_enc _ (Nat.le_refl _) hrs).2 c hc
    unfold vrune at this
    simp only; omega
   ·exact lineT_v hr r (some i) (fun j hj => hi j (by simp [hj])) t h
theorem pageT_v {l : List Gl} (hr : ∀ g ∈ l, ∃ rs, runesM g.tx = some rs) : ∀ (rows : List (List Nat)) (n : Nat), (∀ r ∈ rows, ∀ i ∈ r, i < l.length) → ∀ t ∈ pageT l n rows, t.1 ≤ 1114111
 | [], _, _, t, h => by cases h
 | r :: rs, n, hi, t, h => by
  rw [pageT] at h
  rcases List.mem_append.1 h with h | h
  ·split at h
   ·cases h
   ·rw [List.mem_singleton.1 h]; simp
  ·rcases List.mem_append.1 h with h | h
   ·exact lineT_v hr r none (hi r (by simp)) t h
   ·exact pageT_v hr rs (n + 1) (fun q hq => hi q (by simp [hq])) t h
def hitAt (l : List Gl) (T : List Tri) (m a : Nat) : D := hitD a (a + m) (bxs l (-1) [] ((T.take (a + m)).drop a))
def hitsD (l : List Gl) (T : List Tri) (m : Nat) (at_ : List Nat) : List D := at_.map (hitAt l T m)
def L_search_Page : LCode :=
 .seq (.reg [⟨some 6, .nils 55 3, none⟩, Qx 7 (.k (.d .nil))]) (.seq (.reg [Qc 15 0, ⟨some 16, .call 9 [.t 15], none⟩, ⟨some 8, .allo [.list [], .list [], .list []], none⟩, ⟨none, 
 .st 3 (.t 8) (.t 16), none⟩]) (.seq (.reg [Qc 17 1, ⟨some 18, .prim (.conv 9 25) [.t 17] [], none⟩, Qa 9 18]) (.seq (.reg [Q 20 (.fa 0 (.t 8)), Q 21 (.ld false 1 (.t 20)), Qc 22 
 9, Qc 23 2, ⟨some 24, .call 23 [.t 21, .t 22, .t 23], none⟩, Qc 19 24, Q 25 (.ext 0 (.t 19)), Q 26 (.ext 1 (.t 19)), Qa 10 25, Qa 11 26]) (.seq (.seq (.reg [Qc 27 11, Q 28 (.eqN 
 0 true (.t 27))]) (.cond (.t 28) (.seq (.reg [Qc 29 11, ⟨some 6, .nils 55 3, none⟩, Qa 7 29]) .ret) .skip)) (.seq (.reg [⟨some 12, .nils 55 3, none⟩]) (.seq (.seq (.reg [Qc 30 
 10, Q 31 (.len false (.t 30)), Q 32 (.cp (Ki 0))]) (.block 0 (.loop (.seq (.reg [Q 33 (.bin .lss (.t 32) (.t 31))]) (.seq (.cond (.t 33) .skip (.exit 0)) (.seq (.block 1 (.seq 
 (.reg [Q 34 (.ia 1 (.t 30) (.t 32)), Q 35 (.ld false 1 (.t 34)), Qa 14 35]) (.reg [Qc 36 12, Qc 37 14, Qc 38 14, Qc 39 9, Q 40 (.len false (.t 39)), Q 41 (.bin .add (.t 38) (.t 
 40)), Qc 42 0, Q 43 (.ld true 3 (.t 8)), Qc 44 14, Qc 45 14, Qc 46 9, Q 47 (.len false (.t 46)), Q 48 (.bin .add (.t 45) (.t 47)), ⟨some 49, .call 24 [.t 42, .t 43, .t 44, .t 
 48], none⟩, Q 50 (.bld [(0, 1), (1, 1), (2, 1)] [.int .i64 0, .int .i64 0, .list []] [] [(0, .t 37), (1, .t 41), (2, .t 49)]), ⟨some 51, .bsl 55 3 [.t 50], none⟩, ⟨some 52, .app 
 55 3 40 false (.t 36) (.t 51), none⟩, Qa 12 52]))) (.reg [Q 53 (.bin .add (.t 32) (Ki 1)), Qc 32 53]))))))) (.seq (.reg [Qc 54 12, Qa 6 54, Qx 7 (.k (.d .nil))]) .ret)))))))
def R_search_Page : List LRes := [.tmp 6, .tmp 7]
theorem lift_search_Page : Lifts Try.prog 18 55 L_search_Page R_search_Page := ⟨_, _, Try.func18, rfl, by kernel_rfl, by kernel_rfl, rfl⟩
theorem page_call (l : List Gl) (p : List UInt8) (rs : List Nat) (on : Bool) (hl : l.length ≤ 150) (hok : ∀ g ∈ l, g.ok) (hr : ∀ g ∈ l, ∃ rs, runesM g.tx = some rs) (hb : (textF l).length ≤ 9300) (hp : runesM p = some rs) (hrs : rs ≠ []) (hrl : rs.length ≤ 1000) :
  PCall Try.prog 18 [.list (glsD l), .str p, .bool on] (fun r => ∃ at_ : List Nat, r = .tup [.list (hitsD l (textF l) rs.length at_), .nil] ∧ at_.length ≤ 9300 ∧ at_.Pairwise (· < ·) ∧ ∀ a ∈ at_, a + rs.length ≤ (textF l).length) := by
 have hv := pageT_v hr (linesF l) 0 linesF_lt
 have hv : ∀ t ∈ textF l, t.1 ≤ 1114111 := hv
 have hk := textF_tri (l := l)
 have hrv : ∀ r ∈ rs, r ≤ 1114111 := fun r h => by
  have := (runesM_enc _ (Nat.le_refl _) hp).2 r h
  unfold vrune at this; omega
 refine lift_search_Page.call rfl ?_
 simp (maxSteps := 2000000) only [go_sem, ↓reduceIte, L_search_Page, R_search_Page]
 refine CallG.of (of_call l (by omega) hok hr (by omega)) ?_
 generalize textF l = T at *
 simp (maxSteps := 2000000) only [go_sem, ↓reduceIte, txR]
 refine PrimG.strRunes (e := 21) (rs := rs) rfl (by kernel_rfl) (by kernel_rfl) (by kernel_rfl) (runesFrom_of hp) (by omega) ?_
 simp (maxSteps := 2000000) only [go_sem, ↓reduceIte]
 refine CallG.post (find_call (T.map (·.1)) rs on (by rw [List.length_map]; omega) (by omega) hrs (fun r hr => by
  obtain ⟨t, ht, rfl⟩ := List.mem_map.1 hr
  exact hv t ht) hrv) ?_
 rintro r ⟨at_, rfl, ha1, ha2, ha3⟩
 have hA : ((nsD at_).length : Int) = (at_.length : Int) := by rw [nsD_len]
 have hR : ((rs.map fun n => D.int .i32 ((n : Nat) : Int)).length : Int) = (rs.length : Int) := by simp
 generalize hRD : (rs.map fun n => D.int .i32 ((n : Nat) : Int)) = RD at *
 rw [List.length_map] at ha1 ha3
 simp (maxSteps := 2000000) only [go_sem, ↓reduceIte, hA]
 refine run_loop (fun j : Nat => ⟨[(0, .d (.list (glsD l))), (8, .ptr (.l 8) 0), (9, .d (.list RD)), (12, .own (.t 12) 55 3 (hitsD l T rs.length (at_.take j))), (30, .d (.list (nsD at_))), (31, .d (.int .i64 (at_.length : Nat))), (32, .d (.int .i64 (j : Nat)))], [(8, .cells [.d (.list (rnD (T.map (·.1)))), .d (.list (inD (T.map (·.2.1)))), .d (.list (inD (T.map (·.2.2))))])], []⟩)
  (fun j => j ≤ at_.length) (fun j => at_.length - j) 0 ?_ (Nat.zero_le _) ?_
 ·refine Weak.mk ?_ ?_ ?_ <;> simp (maxSteps := 2000000) only [go_sem, ↓reduceIte, Sub, Int.natCast_add, Int.natCast_mul, hitsD]
 ·intro j hj
  simp (maxSteps := 2000000) only [go_sem, ↓reduceIte]
  refine ⟨fun hlt1 => ?_, fun hge => ?_⟩
  ·obtain ⟨a, ha⟩ := get_some (l := at_) (i := j) (by omega)
   have gA : (nsD at_)[j]? = some (.int .i64 (a : Nat)) := by rw [nsD_get, ha]; rfl
   have hae := ha3 a (List.mem_of_getElem? ha)
   have e1 : ((a : Int) + (rs.length : Int)) = ((a + rs.length : Nat) : Int) := by omega
   simp (maxSteps := 2000000) (disch := omega) only [go_sem, ↓reduceIte, getI_nat, gA, hA, hR, e1]
   refine CallG.of (boxes_call l T a (a + rs.length) (by omega) (by omega) (by omega) hae hk) ?_
   have hl1 : (hitsD l T rs.length (at_.take j)).length = j := by simp [hitsD]; omega
   have hn : hitsD l T rs.length (at_.take j) ++ [.agg [.int .i64 (a : Nat), .int .i64 (a + rs.length : Nat), .list (bxsD (bxs l (-1) [] ((T.take (a + rs.length)).drop a)))]] = hitsD l T rs.length (at_.take (j + 1)) := by
    rw [List.take_add_one, ha]; simp [hitsD, hitAt, hitD]
   simp (maxSteps := 2000000) (disch := omega) only [go_sem, ↓reduceIte, hn, hl1]
   refine ⟨⟨by omega, by omega⟩, j + 1, ?_, by omega, by omega⟩
   refine Weak.mk ?_ ?_ ?_ <;> simp (maxSteps := 2000000) only [go_sem, ↓reduceIte, Sub, Int.natCast_add, Int.natCast_mul]
  ·have hjn : j = at_.length := by omega
   subst hjn
   rw [List.take_length]
   exact ⟨at_, rfl, by omega, ha2, ha3⟩
theorem hitsD_get {l : List Gl} {T : List Tri} {m j a : Nat} {at_ : List Nat} (h : at_[j]? = some a) : (hitsD l T m at_)[j]? = some (hitAt l T m a) := by rw [hitsD, List.getElem?_map, h]; rfl
def L_foliowrighttop_TopBoxes : LCode :=
 .seq (.reg [Qx 6 KF]) (.seq (.reg [⟨some 15, .call 16 [], none⟩, Qa 7 15]) (.seq (.seq (.reg [Qc 16 7, Q 17 (.not (.t 16))]) (.cond (.t 17) (.seq (.reg [Qx 6 KF]) .ret) .skip)) 
 (.seq (.reg [Qc 19 1, ⟨some 20, .call 17 [.t 19], none⟩, Qc 18 20, Q 21 (.ext 0 (.t 18)), Q 22 (.ext 1 (.t 18)), Qa 8 21, Qa 9 22]) (.seq (.seq (.reg [Qc 23 0, ⟨some 24, .call 8 
 [.t 23], none⟩, Q 25 (.not (.t 24)), Qc 26 25, Qd 27 9 26 false, Qg 28 (.not (.t 27)) 26 false, Q 29 (.pick (.t 26) KT (.t 28)), Qc 30 29, Qd 31 1 30 false, Qg 32 (.len true (.t 
 31)) 30 false, Qg 33 (.bin .gtr (.t 32) (Ki 100)) 30 false, Q 34 (.pick (.t 30) KT (.t 33)), Qc 35 34, Qd 36 8 35 false, Qg 37 (.len false (.t 36)) 35 false, Qg 38 (.bin .eql (.t 
 37) (Ki 0)) 35 false, Q 39 (.pick (.t 35) KT (.t 38))]) (.cond (.t 39) (.seq (.reg [Qx 6 KT]) .ret) .skip)) (.seq (.reg [Qc 41 0, Qc 42 1, Qc 43 2, ⟨some 44, .call 18 [.t 41, .t 
 42, .t 43], none⟩, Qc 40 44, Q 45 (.ext 0 (.t 40)), Q 46 (.ext 1 (.t 40)), Qa 10 45, Qa 11 46]) (.seq (.seq (.reg [Qc 47 11, Q 48 (.eqN 0 true (.t 47))]) (.cond (.t 48) (.seq 
 (.reg [Qx 6 KF]) .ret) .skip)) (.seq (.reg [Qc 49 0, ⟨some 50, .call 9 [.t 49], none⟩, ⟨some 12, .allo [.list [], .list [], .list []], none⟩, ⟨none, .st 3 (.t 12) (.t 50), 
 none⟩]) (.seq (.seq (.reg [Qx 13 (Ki 0)]) (.block 0 (.loop (.seq (.seq (.reg [Qc 51 13, Qc 52 10, Q 53 (.len false (.t 52)), Q 54 (.bin .lss (.t 51) (.t 53))]) (.cond (.t 54) 
 .skip (.exit 0))) (.seq (.block 1 (.seq (.seq (.dreg [Qc 57 10, Qc 58 13, Q 59 (.ia 3 (.t 57) (.t 58)), Q 60 (.fa 0 (.t 59)), Q 61 (.ld false 1 (.t 60)), Q 62 (.bin .lss (.t 61) 
 (Ki 0)), Qc 63 62, Qd 64 10 63 false, Qd 65 13 63 false, Qg 66 (.ia 3 (.t 64) (.t 65)) 63 false, Qg 67 (.fa 1 (.t 66)) 63 false, Qg 68 (.ld false 1 (.t 67)) 63 false, Qd 69 10 63 
 false, Qd 70 13 63 false, Qg 71 (.ia 3 (.t 69) (.t 70)) 63 false, Qg 72 (.fa 0 (.t 71)) 63 false, Qg 73 (.ld false 1 (.t 72)) 63 false, Qd 74 8 63 false, Qg 75 (.len false (.t 
 74)) 63 false, Qg 76 (.bin .add (.t 73) (.t 75)) 63 false, Qg 77 (.bin .neq (.t 68) (.t 76)) 63 false, Q 78 (.pick (.t 63) KT (.t 77)), Qc 79 78, Qd 80 10 79 false, Qd 81 13 79 
 false, Qg 82 (.ia 3 (.t 80) (.t 81)) 79 false, Qg 83 (.fa 1 (.t 82)) 79 false, Qg 84 (.ld false 1 (.t 83)) 79 false, Qg 85 (.fa 0 (.t 12)) 79 false, Qg 86 (.ld false 1 (.t 85)) 
 79 false, Qg 87 (.len false (.t 86)) 79 false, Qg 88 (.bin .gtr (.t 84) (.t 87)) 79 false, Q 89 (.pick (.t 79) KT (.t 88)), Qc 90 89, Qd 91 13 90 false, Qg 92 (.bin .gtr (.t 91) 
 (Ki 0)) 90 false, Qd 93 92 90 false, Qd 94 10 93 true, Qd 95 13 93 true, Qg 96 (.ia 3 (.t 94) (.t 95)) 93 true, Qg 97 (.fa 0 (.t 96)) 93 true, Qg 98 (.ld false 1 (.t 97)) 93 
 true, Qd 99 10 93 true, Qd 100 13 93 true, Qg 101 (.bin .sub (.t 100) (Ki 1)) 93 true, Qg 102 (.ia 3 (.t 99) (.t 101)) 93 true, Qg 103 (.fa 0 (.t 102)) 93 true, Qg 104 (.ld false 
 1 (.t 103)) 93 true, Qg 105 (.bin .leq (.t 98) (.t 104)) 93 true, Qg 106 (.pick (.t 93) (.t 105) KF) 90 false, Q 107 (.pick (.t 90) KT (.t 106))]) (.cond (.t 107) (.seq (.reg [Qx 
 6 KF]) .ret) .skip)) (.seq (.dreg [Qc 108 0, Q 109 (.ld true 3 (.t 12)), Qc 110 10, Qc 111 13, Q 112 (.ia 3 (.t 110) (.t 111)), Q 113 (.ld true 3 (.t 112)), ⟨some 114, .call 19 
 [.t 108, .t 109, .t 113], none⟩, Qa 14 114]) (.seq (.reg [Qc 115 14, Q 116 (.not (.t 115))]) (.cond (.t 116) (.seq (.reg [Qx 6 KF]) .ret) .skip))))) (.reg [Qc 55 13, Q 56 (.bin 
 .add (.t 55) (Ki 1)), Qa 13 56])))))) (.seq (.reg [Qx 6 KT]) .ret)))))))))
def R_foliowrighttop_TopBoxes : List LRes := [.tmp 6]
theorem lift_foliowrighttop_TopBoxes : Lifts Try.prog 6 117 L_foliowrighttop_TopBoxes R_foliowrighttop_TopBoxes := ⟨_, _, Try.func6, rfl, by kernel_rfl, by kernel_rfl, rfl⟩
theorem topBoxes_call (l : List Gl) (p : List UInt8) (on : Bool) (hl0 : l.length ≤ 9223372036854775807) (ht0 : ∀ g ∈ l, g.tx.length ≤ 1000000000) (hp0 : p.length ≤ 1000000000) :
  PCall Try.prog 6 [.list (glsD l), .str p, .bool on] (fun r => r = .one (.bool true)) := by
 have hI : ((glsD l).length : Int) = (l.length : Int) := by rw [glsD_length]
 refine lift_foliowrighttop_TopBoxes.call rfl ?_
 simp (maxSteps := 2000000) only [go_sem, ↓reduceIte, L_foliowrighttop_TopBoxes, R_foliowrighttop_TopBoxes]
 refine CallG.of laid_call ?_
 simp (maxSteps := 2000000) only [go_sem, ↓reduceIte]
 refine CallG.of (runes_call p hp0) ?_
 have hsome : ∃ (rs : List Nat) (ok : Bool), runesRes (runesM p) = .tup [.list (natsU rs), .bool ok] ∧ (ok = true → runesM p = some rs) := by
  cases h : runesM p with
  | none => exact ⟨[], false, rfl, fun h => by cases h⟩
  | some rs => exact ⟨rs, true, rfl, fun _ => rfl⟩
 obtain ⟨rs, ok, e1, e2⟩ := hsome
 rw [e1]
 have hrl : ((natsU rs).length : Int) = (rs.length : Int) := by rw [natsU_length]
 simp (maxSteps := 2000000) only [go_sem, ↓reduceIte, hrl]
 refine CallG.of (lightGlyphs_call l hl0 ht0) ?_
 cases hlt : lightGM l with
 | false => simp (maxSteps := 2000000) only [go_sem, ↓reduceIte]
 | true =>
  obtain ⟨hl, hok, hr, ht⟩ := light_ok hlt
  have hTl := textF_len hl hr ht
  cases ok with
  | false => simp (maxSteps := 2000000) only [go_sem, ↓reduceIte]
  | true =>
   have e2 := e2 rfl
   by_cases h100 : p.length ≤ 100
   ·have z1 : (100 < (p.length : Int)) = False := eq_false (by omega)
    by_cases hrs : rs = []
    ·subst hrs
     simp (maxSteps := 2000000) only [go_sem, ↓reduceIte, z1, natsU]
    ·have hpos := List.length_pos_iff.2 hrs
     have z2 : ((rs.length : Int) = 0) = False := eq_false (by omega)
     have hrn : rs.length ≤ 100 := by
      obtain ⟨q1, q2⟩ := runesM_enc _ (Nat.le_refl _) e2
      have := encM_ge' q2
      rw [q1] at this
      omega
     simp (maxSteps := 2000000) only [go_sem, ↓reduceIte, z1, z2, hrl]
     refine CallG.post (page_call l p rs on hl hok hr hTl e2 hrs (by omega)) ?_
     rintro r ⟨at_, rfl, ha1, ha2, ha3⟩
     simp (maxSteps := 2000000) only [go_sem, ↓reduceIte]
     refine CallG.of (of_call l (by omega) hok hr (by omega)) ?_
     have hk := textF_tri (l := l)
     generalize textF l = T at *
     have hSl : ((rnD (T.map (·.1))).length : Int) = (T.length : Int) := by rw [rnD_len, List.length_map]
     have hH : ((hitsD l T rs.length at_).length : Int) = (at_.length : Int) := by simp [hitsD]
     simp (maxSteps := 2000000) only [go_sem, ↓reduceIte, txR, hH]
     refine run_loop (fun j : Nat => ⟨[(0, .d (.list (glsD l))), (8, .d (.list (natsU rs))), (10, .d (.list (hitsD l T rs.length at_))), (12, .ptr (.l 12) 0), (13, .d (.int .i64 (j : Nat)))], [(12, .cells [.d (.list (rnD (T.map (·.1)))), .d (.list (inD (T.map (·.2.1)))), .d (.list (inD (T.map (·.2.2))))])], []⟩)
      (fun j => j ≤ at_.length) (fun j => at_.length - j) 0 ?_ (Nat.zero_le _) ?_
     ·refine Weak.mk ?_ ?_ ?_ <;> simp (maxSteps := 2000000) only [go_sem, ↓reduceIte, Sub, Int.natCast_add, Int.natCast_mul]
     ·intro j hj
      simp (maxSteps := 2000000) only [go_sem, ↓reduceIte, hH]
      refine fun hlt1 => ?_
      ·obtain ⟨a, ha⟩ := get_some (l := at_) (i := j) (by omega)
       have gA := hitsD_get (l := l) (T := T) (m := rs.length) ha
       have hae := ha3 a (List.mem_of_getElem? ha)
       have hbl := bxs_len l ((T.take (a + rs.length)).drop a) (-1) []
       have hbl : (bxs l (-1) [] ((T.take (a + rs.length)).drop a)).length ≤ 1000000 := by
        simp only [List.length_nil, List.length_drop, List.length_take] at hbl
        omega
       have z3 : ((a : Int) < 0) = False := eq_false (by omega)
       have z4 : ((a : Int) + (rs.length : Int) = ((a + rs.length : Nat) : Int)) = True := eq_true (by omega)
       have z5 : ((T.length : Int) < ((a + rs.length : Nat) : Int)) = False := eq_false (by omega)
       by_cases h0 : j = 0
       ·have z6 : (0 < (j : Int)) = False := eq_false (by omega)
        simp (maxSteps := 2000000) (disch := omega) only [go_sem, ↓reduceIte, getI_nat, gA, hH, hitAt, hitD, hrl, hSl, z3, z4, z5, z6]
        refine ⟨fun _ => ?_, fun h => absurd (by omega) h⟩
        refine CallD.of (boxed_call l T a (a + rs.length) _ (by omega) (by omega) (by omega) hae hk rfl hbl) ?_
        simp (maxSteps := 2000000) (disch := omega) only [go_sem, ↓reduceIte]
        refine ⟨j + 1, ?_, by omega, by omega⟩
        refine Weak.mk ?_ ?_ ?_ <;> simp (maxSteps := 2000000) only [go_sem, ↓reduceIte, Sub, Int.natCast_add, Int.natCast_mul]
       ·have z6 : (0 < (j : Int)) = True := eq_true (by omega)
        obtain ⟨b, hb⟩ := get_some (l := at_) (i := j - 1) (by omega)
        have gB := hitsD_get (l := l) (T := T) (m := rs.length) hb
        have hba : b < a := by
         have h1 := List.pairwise_iff_getElem.1 ha2 (j - 1) j (by omega) (by omega) (by omega)
         rw [(List.getElem?_eq_some_iff.1 hb).2, (List.getElem?_eq_some_iff.1 ha).2] at h1
         exact h1
        have e3 : ((j : Int) - 1) = ((j - 1 : Nat) : Int) := by omega
        have z7 : ((a : Int) ≤ (b : Int)) = False := eq_false (by omega)
        simp (maxSteps := 2000000) (disch := omega) only [go_sem, ↓reduceIte, getI_nat, gA, gB, e3, hH, hitAt, hitD, hrl, hSl, z3, z4, z5, z6, z7]
        refine ⟨fun _ => ?_, fun h => absurd (by omega) h⟩
        refine CallD.of (boxed_call l T a (a + rs.length) _ (by omega) (by omega) (by omega) hae hk rfl hbl) ?_
        simp (maxSteps := 2000000) (disch := omega) only [go_sem, ↓reduceIte]
        refine ⟨j + 1, ?_, by omega, by omega⟩
        refine Weak.mk ?_ ?_ ?_ <;> simp (maxSteps := 2000000) only [go_sem, ↓reduceIte, Sub, Int.natCast_add, Int.natCast_mul]
   ·have z1 : (100 < (p.length : Int)) = True := eq_true (by omega)
    simp (maxSteps := 2000000) only [go_sem, ↓reduceIte, z1]
end Go.Av.Try
set_option linter.unusedSimpArgs false
set_option maxRecDepth 100000
namespace Go.Av.Try
open Go.Proofs
theorem w_int : Try.prog.cellsOf 3 = 1 := by kernel_rfl
theorem w_str : Try.prog.cellsOf 9 = 1 := by kernel_rfl
theorem w_point : Try.prog.cellsOf 40 = 2 := by kernel_rfl
theorem w_box : Try.prog.cellsOf 42 = 4 := by kernel_rfl
theorem w_glyph : Try.prog.cellsOf 44 = 10 := by kernel_rfl
theorem point_of {k : Nat} {ds : List D} (h : OfT Try.prog k 40 ds) : ∃ x y : Int, ds = [.int .i64 x, .int .i64 y] := by
 cases k with
 | zero => exact h.elim
 | succ k =>
  unfold OfT at h
  rw [Try.underlying40] at h
  obtain ⟨h1, h2⟩ := h
  rw [w_point] at h1
  match ds, h1 with
  | [a, b], _ =>
   have f0 : OfT Try.prog k 3 (([a, b].drop 0).take (Try.prog.cellsOf 3)) := h2 0 _ rfl
   have f1 : OfT Try.prog k 3 (([a, b].drop 1).take (Try.prog.cellsOf 3)) := h2 1 _ rfl
   simp only [w_int, List.drop_zero, List.drop_succ_cons, List.take_succ_cons, List.take_zero] at f0 f1
   obtain ⟨n0, e0, _⟩ := f0.int Try.underlying3
   obtain ⟨n1, e1, _⟩ := f1.int Try.underlying3
   simp only [List.cons.injEq, and_true] at e0 e1
   exact ⟨n0, n1, by rw [e0, e1]⟩
theorem box_of {k : Nat} {ds : List D} (h : OfT Try.prog k 42 ds) : ∃ x y u v : Int, ds = [.int .i64 x, .int .i64 y, .int .i64 u, .int .i64 v] := by
 cases k with
 | zero => exact h.elim
 | succ k =>
  unfold OfT at h
  rw [Try.underlying42] at h
  obtain ⟨h1, h2⟩ := h
  rw [w_box] at h1
  match ds, h1 with
  | [a, b, c, d], _ =>
   have f0 : OfT Try.prog k 3 (([a, b, c, d].drop 0).take (Try.prog.cellsOf 3)) := h2 0 _ rfl
   have f1 : OfT Try.prog k 3 (([a, b, c, d].drop 1).take (Try.prog.cellsOf 3)) := h2 1 _ rfl
   have f2 : OfT Try.prog k 3 (([a, b, c, d].drop 2).take (Try.prog.cellsOf 3)) := h2 2 _ rfl
   have f3 : OfT Try.prog k 3 (([a, b, c, d].drop 3).take (Try.prog.cellsOf 3)) := h2 3 _ rfl
   simp only [w_int, List.drop_zero, List.drop_succ_cons, List.take_succ_cons, List.take_zero] at f0 f1 f2 f3
   obtain ⟨n0, e0, _⟩ := f0.int Try.underlying3
   obtain ⟨n1, e1, _⟩ := f1.int Try.underlying3
   obtain ⟨n2, e2, _⟩ := f2.int Try.underlying3
   obtain ⟨n3, e3, _⟩ := f3.int Try.underlying3
   simp only [List.cons.injEq, and_true] at e0 e1 e2 e3
   exact ⟨n0, n1, n2, n3, by rw [e0, e1, e2, e3]⟩
theorem gl_of {k : Nat} {ds : List D} (h : OfT Try.prog k 44 ds) : ∃ g : Gl, mkD ds = g.d := by
 cases k with
 | zero => exact h.elim
 | succ k =>
  unfold OfT at h
  rw [Try.underlying44] at h
  obtain ⟨h1, h2⟩ := h
  rw [w_glyph] at h1
  match ds, h1 with
  | [a, b, c, d, e, f, g, i, j, m], _ =>
   have f0 : OfT Try.prog k 9 (([a, b, c, d, e, f, g, i, j, m].drop 0).take (Try.prog.cellsOf 9)) := h2 0 _ rfl
   have f1 : OfT Try.prog k 40 (([a, b, c, d, e, f, g, i, j, m].drop 1).take (Try.prog.cellsOf 40)) := h2 1 _ rfl
   have f2 : OfT Try.prog k 40 (([a, b, c, d, e, f, g, i, j, m].drop 3).take (Try.prog.cellsOf 40)) := h2 2 _ rfl
   have f3 : OfT Try.prog k 3 (([a, b, c, d, e, f, g, i, j, m].drop 5).take (Try.prog.cellsOf 3)) := h2 3 _ rfl
   have f4 : OfT Try.prog k 42 (([a, b, c, d, e, f, g, i, j, m].drop 6).take (Try.prog.cellsOf 42)) := h2 4 _ rfl
   simp only [w_int, w_str, w_point, w_box, List.drop_zero, List.drop_succ_cons, List.take_succ_cons, List.take_zero] at f0 f1 f2 f3 f4
   obtain ⟨s, e0, _⟩ := f0.string Try.underlying9
   obtain ⟨n1, n2, e1⟩ := point_of f1
   obtain ⟨n3, n4, e2⟩ := point_of f2
   obtain ⟨n5, e3, _⟩ := f3.int Try.underlying3
   obtain ⟨n6, n7, n8, n9, e4⟩ := box_of f4
   simp only [List.cons.injEq, and_true] at e0 e1 e2 e3 e4
   exact ⟨⟨s, n1, n2, n3, n4, n5, n6, n7, n8, n9⟩, by rw [e0, e1.1, e1.2, e2.1, e2.2, e3, e4.1, e4.2.1, e4.2.2.1, e4.2.2.2]; rfl⟩
theorem all_gls : ∀ {l : List D}, (∀ x ∈ l, ∃ g : Gl, x = g.d) → ∃ gs : List Gl, l = glsD gs
 | [], _ => ⟨[], rfl⟩
 | x :: r, h => by
  obtain ⟨g, hg⟩ := h x (by simp)
  obtain ⟨gs, hr⟩ := all_gls (l := r) fun y hy => h y (by simp [hy])
  exact ⟨g :: gs, by rw [hg, hr]; rfl⟩
theorem gls_of {k : Nat} {x : D} (h : OfT Try.prog k 22 [x]) : ∃ l : List Gl, x = .list (glsD l) ∧ l.length ≤ maxLen := by
 obtain ⟨l, m, _, h1, h2, h3⟩ := h.slice Try.underlying22
 obtain ⟨gs, rfl⟩ := all_gls (l := l) fun y hy => by
  obtain ⟨cs, h4, h5⟩ := h3 y hy
  obtain ⟨g, h6⟩ := gl_of h5
  exact ⟨g, by rw [h4, h6]⟩
 cases h1
 exact ⟨gs, rfl, by rw [glsD_length] at h2; exact h2⟩
theorem bk_gls : ∀ {l : List Gl}, ∀ g ∈ l, g.tx.length + 1 ≤ bkL (glsD l)
 | [], g, h => by cases h
 | x :: r, g, h => by
  have e : bkL (glsD (x :: r)) = bkD x.d + bkL (glsD r) := rfl
  have e2 : x.tx.length + 1 ≤ bkD x.d := by simp only [Gl.d, bkD, bkL]; omega
  rcases List.mem_cons.1 h with rfl | h
  ·omega
  ·have := bk_gls g h
   omega
theorem gls_small {l : List Gl} (h : bkD (.list (glsD l)) ≤ 1048576) : ∀ g ∈ l, g.tx.length ≤ 1000000000 := fun g hg => by
 have := bk_gls g hg
 simp only [bkD] at h
 omega
end Go.Av.Try
