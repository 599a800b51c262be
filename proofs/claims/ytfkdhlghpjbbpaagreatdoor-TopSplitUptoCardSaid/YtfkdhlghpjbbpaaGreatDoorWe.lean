import Derived.Test.YtfkdhlghpjbbpaaGreatDoorWd
import Derived.Test.YtfkdhlghpjbbpaaGreatDoorWc
import Derived.Test.YtfkdhlghpjbbpaaGreatDoorAvG
set_option linter.unusedSimpArgs false
namespace Go.Av.Tryz
open Go.Proofs
def escI (o : Option UInt8) : Int := match o with
 | none => -1
 | some b => b.toNat
theorem idx5 (e : UInt8) : Lib.indexByte [110, 114, 116, 98, 102] e = if e.toNat = 110 then 0 else if e.toNat = 114 then 1 else if e.toNat = 116 then 2 else if e.toNat = 98 then 3 else if e.toNat = 102 then 4 else -1 := by
 have h : ∀ i : Fin 256, Lib.indexByte [110, 114, 116, 98, 102] (UInt8.ofNat i.val) = if i.val = 110 then 0 else if i.val = 114 then 1 else if i.val = 116 then 2 else if i.val = 98 then 3 else if i.val = 102 then 4 else -1 := by decide +kernel
 have := h ⟨e.toNat, q4e e⟩
 simpa using this
theorem j4U {n : Int} (h : 0 ≤ n ∧ n ≤ 511) : IntKind.i64.wrap (((BitVec.ofInt IntKind.i64.bits n &&& BitVec.ofInt IntKind.i64.bits 255).toNat : Nat) : Int) = ((q9V n).toNat : Int) := by
 have hd : ∀ i : Fin 512, IntKind.i64.wrap (((BitVec.ofInt IntKind.i64.bits ((i.val : Nat) : Int) &&& BitVec.ofInt IntKind.i64.bits 255).toNat : Nat) : Int) = ((q9V ((i.val : Nat) : Int)).toNat : Int) := by decide +kernel
 have := hd ⟨n.toNat, by omega⟩
 simp only at this
 rwa [show ((n.toNat : Nat) : Int) = n by omega] at this
def q6r : q0j :=
 .seq (.reg [Qx 4 (Ki 0), Qx 5 (Ki 0)]) (.seq (.reg [Qc 10 0, Qc 11 1, Q 12 (.idxS (.t 10) (.t 11)), Qa 6 12]) (.seq (.reg [Qc 13 6, ⟨some 14, .call 124 [.k (.d (.str [110, 114, 
 116, 98, 102])), .t 13], none⟩, Qa 7 14]) (.seq (.block 0 (.seq (.reg [Qc 16 7, Q 17 (.bin .geq (.t 16) (Ki 0)), Qa 15 17]) (.cond (.t 15) (.seq (.reg [Qc 18 7, Q 19 (.idxS (.k 
 (.d (.str [10, 13, 9, 8, 12]))) (.t 18)), Q 20 (.cvI .i64 (.t 19)), Qa 4 20, Qx 5 (Ki 1)]) .ret) (.seq (.reg [Qc 22 6, Q 23 (.bin .eql (.t 22) (Kb 10)), Qa 21 23]) (.cond (.t 21) 
 (.seq (.reg [Qx 4 (Ki (-1)), Qx 5 (Ki 1)]) .ret) (.seq (.reg [Qc 25 6, Q 26 (.bin .eql (.t 25) (Kb 13)), Qc 27 26, Qd 28 1 27 true, Qg 29 (.bin .add (.t 28) (Ki 1)) 27 true, Qd 
 30 0 27 true, Qg 31 (.len true (.t 30)) 27 true, Qg 32 (.bin .lss (.t 29) (.t 31)) 27 true, Q 33 (.pick (.t 27) (.t 32) KF), Qc 34 33, Qd 35 0 34 true, Qd 36 1 34 true, Qg 37 
 (.bin .add (.t 36) (Ki 1)) 34 true, Qg 38 (.idxS (.t 35) (.t 37)) 34 true, Qg 39 (.bin .eql (.t 38) (Kb 10)) 34 true, Q 40 (.pick (.t 34) (.t 39) KF), Qa 24 40]) (.cond (.t 24) 
 (.seq (.reg [Qx 4 (Ki (-1)), Qx 5 (Ki 2)]) .ret) (.seq (.reg [Qc 42 6, Q 43 (.bin .eql (.t 42) (Kb 13)), Qa 41 43]) (.cond (.t 41) (.seq (.reg [Qx 4 (Ki (-1)), Qx 5 (Ki 1)]) 
 .ret) (.seq (.reg [Qc 45 6, Q 46 (.bin .lss (.t 45) (Kb 48)), Qc 47 46, Qd 48 6 47 false, Qg 49 (.bin .gtr (.t 48) (Kb 55)) 47 false, Q 50 (.pick (.t 47) KT (.t 49)), Qa 44 50]) 
 (.cond (.t 44) (.seq (.reg [Qc 51 6, Q 52 (.cvI .i64 (.t 51)), Qa 4 52, Qx 5 (Ki 1)]) .ret) .skip))))))))))) (.seq (.reg [Qx 8 (Ki 0), Qx 9 (Ki 0)]) (.seq (.block 1 (.loop (.seq 
 (.seq (.reg [Qc 53 9, Q 54 (.bin .lss (.t 53) (Ki 3)), Qc 55 54, Qd 56 1 55 true, Qd 57 9 55 true, Qg 58 (.bin .add (.t 56) (.t 57)) 55 true, Qd 59 0 55 true, Qg 60 (.len true 
 (.t 59)) 55 true, Qg 61 (.bin .lss (.t 58) (.t 60)) 55 true, Q 62 (.pick (.t 55) (.t 61) KF), Qc 63 62, Qd 64 0 63 true, Qd 65 1 63 true, Qd 66 9 63 true, Qg 67 (.bin .add (.t 
 65) (.t 66)) 63 true, Qg 68 (.idxS (.t 64) (.t 67)) 63 true, Qg 69 (.bin .geq (.t 68) (Kb 48)) 63 true, Q 70 (.pick (.t 63) (.t 69) KF), Qc 71 70, Qd 72 0 71 true, Qd 73 1 71 
 true, Qd 74 9 71 true, Qg 75 (.bin .add (.t 73) (.t 74)) 71 true, Qg 76 (.idxS (.t 72) (.t 75)) 71 true, Qg 77 (.bin .leq (.t 76) (Kb 55)) 71 true, Q 78 (.pick (.t 71) (.t 77) 
 KF)]) (.cond (.t 78) .skip (.exit 1))) (.block 2 (.seq (.reg [Qc 79 8, Q 80 (.bin .mul (Ki 8) (.t 79)), Qc 81 0, Qc 82 1, Qc 83 9, Q 84 (.bin .add (.t 82) (.t 83)), Q 85 (.idxS 
 (.t 81) (.t 84)), Q 86 (.bin .sub (.t 85) (Kb 48)), Q 87 (.cvI .i64 (.t 86)), Q 88 (.bin .add (.t 80) (.t 87)), Qa 8 88]) (.reg [Qc 89 9, Q 90 (.bin .add (.t 89) (Ki 1)), Qa 9 
 90])))))) (.seq (.reg [Qc 91 8, Q 92 (.bin .and (.t 91) (Ki 255)), Qc 93 9, Qa 4 92, Qa 5 93]) .ret))))))
def q6u : List LRes := [.tmp 4, .tmp 5]
theorem q8n : q0t Tryz.prog 108 94 q6r q6u := ⟨_, _, Tryz.func108, rfl, by kernel_rfl, by kernel_rfl, rfl⟩
theorem z36 (s : List UInt8) (k : Nat) (hs : s.length ≤ 60000) (hk : k < s.length) : q0u Tryz.prog 108 [.str s, .int .i64 k] (fun r => r = .tup [.int .i64 (escI (escL (s.drop k)).1), .int .i64 (escL (s.drop k)).2]) := by
 obtain ⟨e, he⟩ := get_some (l := s) (i := k) hk
 have he8 := q4e e
 have hx := q7q [110, 114, 116, 98, 102] e
 rw [idx5] at hx
 rw [q1J he]
 generalize hR : escL (e :: s.drop (k + 1)) = R
 rw [escL] at hR
 refine q8n.call rfl ?_
 simp (maxSteps := 2000000) only [go_sem, ↓reduceIte, q6r, q6u, q0c, he]
 refine q0k.of hx ?_
 by_cases q0 : e.toNat = 110
 ·rw [if_pos q0] at hR ⊢
  subst hR
  have g : getI ([10, 13, 9, 8, 12] : List UInt8) 0 = some 10 := rfl
  simp (maxSteps := 2000000) only [go_sem, ↓reduceIte, g]
  rfl
 rw [if_neg q0] at hR ⊢
 by_cases q1 : e.toNat = 114
 ·rw [if_pos q1] at hR ⊢
  subst hR
  have g : getI ([10, 13, 9, 8, 12] : List UInt8) 1 = some 13 := rfl
  simp (maxSteps := 2000000) only [go_sem, ↓reduceIte, g]
  rfl
 rw [if_neg q1] at hR ⊢
 by_cases q2 : e.toNat = 116
 ·rw [if_pos q2] at hR ⊢
  subst hR
  have g : getI ([10, 13, 9, 8, 12] : List UInt8) 2 = some 9 := rfl
  simp (maxSteps := 2000000) only [go_sem, ↓reduceIte, g]
  rfl
 rw [if_neg q2] at hR ⊢
 by_cases q3 : e.toNat = 98
 ·rw [if_pos q3] at hR ⊢
  subst hR
  have g : getI ([10, 13, 9, 8, 12] : List UInt8) 3 = some 8 := rfl
  simp (maxSteps := 2000000) only [go_sem, ↓reduceIte, g]
  rfl
 rw [if_neg q3] at hR ⊢
 by_cases q4 : e.toNat = 102
 ·rw [if_pos q4] at hR ⊢
  subst hR
  have g : getI ([10, 13, 9, 8, 12] : List UInt8) 4 = some 12 := rfl
  simp (maxSteps := 2000000) only [go_sem, ↓reduceIte, g]
  rfl
 rw [if_neg q4] at hR ⊢
 by_cases q5 : e.toNat = 10
 ·rw [if_pos q5] at hR
  subst hR
  have z : ((e.toNat : Int) = 10) = True := eq_true (by omega)
  simp (maxSteps := 2000000) only [go_sem, ↓reduceIte, z]
  rfl
 rw [if_neg q5] at hR
 have z5 : ((e.toNat : Int) = 10) = False := eq_false (by omega)
 by_cases q6 : e.toNat = 13
 ·rw [if_pos q6] at hR
  have z : ((e.toNat : Int) = 13) = True := eq_true (by omega)
  simp (maxSteps := 2000000) (disch := omega) only [go_sem, ↓reduceIte, z5, z]
  refine ⟨fun h1 => ?_, fun h1 => ?_⟩
  ·obtain ⟨x, hx⟩ := get_some (l := s) (i := k + 1) (by omega)
   have hx8 := q4e x
   have g : getI s ((k : Int) + 1) = some x := by rw [z0F, hx]
   have hh : (s.drop (k + 1)).head? = some x := by rw [q1J hx]; rfl
   rw [hh] at hR
   simp (maxSteps := 2000000) (disch := omega) only [go_sem, ↓reduceIte, g]
   refine ⟨fun h2 => ?_, fun h2 => ?_⟩
   ·rw [if_pos (by simp; omega)] at hR; subst hR; rfl
   ·rw [if_neg (by simp; omega)] at hR; subst hR; exact ⟨fun _ => rfl, fun h => absurd (show (e.toNat : Int) = 13 by omega) h⟩
  ·rw [List.drop_eq_nil_of_le (by omega)] at hR
   rw [if_neg (by simp)] at hR
   subst hR; rfl
 rw [if_neg q6] at hR
 have z6 : ((e.toNat : Int) = 13) = False := eq_false (by omega)
 by_cases q7 : octB e = true
 ·rw [if_neg (by simp [q7])] at hR
  have q7' := q7
  simp only [octB, Bool.and_eq_true, decide_eq_true_eq] at q7'
  have z7 : ((e.toNat : Int) < 48) = False := eq_false (by omega)
  have z8 : (55 < (e.toNat : Int)) = False := eq_false (by omega)
  simp (maxSteps := 2000000) only [go_sem, ↓reduceIte, z5, z6, z7, z8]
  have h0 : octG 3 0 (s.drop k) 0 = octG 2 (oct1 e) (s.drop (k + 1)) 1 := by
   rw [q1J he, octG, if_pos q7]; congr 1; simp
  unfold octL at hR
  rw [← h0] at hR
  generalize hG : octG 3 0 (s.drop k) 0 = G at hR
  refine q0s (fun y : Nat × Int => ⟨[(0, .d (.str s)), (1, .d (.int .i64 k)), (8, .d (.int .i64 y.2)), (9, .d (.int .i64 y.1))], [], []⟩)
   (fun y => y.1 ≤ 3 ∧ k + y.1 ≤ s.length ∧ 0 ≤ y.2 ∧ y.2 ≤ 511 ∧ (y.1 = 0 → y.2 = 0) ∧ (y.1 = 1 → y.2 ≤ 7) ∧ (y.1 = 2 → y.2 ≤ 63) ∧ octG (3 - y.1) y.2 (s.drop (k + y.1)) y.1 = G) (fun y => 3 - y.1) (0, 0) ?_ ?_ ?_
  ·refine q0e ?_ trivial
   simp (maxSteps := 2000000) only [go_sem, ↓reduceIte, Sub, Int.natCast_add, Int.natCast_mul]
  ·exact ⟨by simp, by simp only; omega, by simp, by simp, by simp, by simp, by simp, hG⟩
  ·rintro ⟨j, v⟩ ⟨hj, hjl, hv0, hv1, hv2, hv3, hv4, hF⟩
   simp only at hj hjl hv0 hv1 hv2 hv3 hv4 hF
   have stop : octG (3 - j) v (s.drop (k + j)) j = (v, j) → Res.tup [D.int .i64 (IntKind.i64.wrap (((BitVec.ofInt IntKind.i64.bits v &&& BitVec.ofInt IntKind.i64.bits 255).toNat : Nat) : Int)), D.int .i64 j] = Res.tup [D.int .i64 (escI R.1), D.int .i64 R.2] := fun h => by
    rw [h] at hF
    subst hF
    subst hR
    rw [j4U ⟨hv0, hv1⟩]; rfl
   have ej : (k : Int) + (j : Int) = ((k + j : Nat) : Int) := by omega
   simp (maxSteps := 2000000) (disch := omega) only [go_sem, ↓reduceIte]
   refine ⟨fun c1 => ⟨fun c2 => ?_, fun c2 => stop (z4F fun x q h => by rw [List.drop_eq_nil_of_le (by omega)] at h; cases h)⟩, fun c1 => stop (by rw [show 3 - j = 0 by omega]; rfl)⟩
   obtain ⟨x, hx⟩ := get_some (l := s) (i := k + j) (by omega)
   have hx8 := q4e x
   have stop2 := fun (h : octB x = false) => stop (z4F fun x' q h' => by rw [q1J hx] at h'; cases h'; exact h)
   have gx : getI s ((k : Int) + (j : Int)) = some x := by rw [ej, q0c, hx]
   simp (maxSteps := 2000000) (disch := omega) only [go_sem, ↓reduceIte, gx]
   refine ⟨fun c3 => ⟨fun c4 => ?_, fun c4 => stop2 (by simp [octB]; omega)⟩, fun c3 => stop2 (by simp [octB]; omega)⟩
   have ox : octB x = true := by simp [octB]; omega
   rw [q1J hx, show 3 - j = (3 - (j + 1)) + 1 by omega, octG, if_pos ox] at hF
   refine ⟨(j + 1, 8 * v + oct1 x), ?_, ⟨by simp only; omega, by simp only; omega, by simp only [oct1]; omega, by simp only [oct1]; omega, by simp only; omega, by simp only [oct1]; omega, by simp only [oct1]; omega, hF⟩, by simp only; omega⟩
   have zz : decide ((x.toNat : Int) ≤ 55) = true := by simpa using c4
   refine q0e ?_ trivial
   simp (maxSteps := 2000000) only [go_sem, ↓reduceIte, Sub, Int.natCast_add, Int.natCast_mul, oct1, zz]
   all_goals ((repeat' apply And.intro) <;> (congr 2 <;> omega))
 ·have q7 : octB e = false := by simpa using q7
  rw [if_pos q7] at hR
  subst hR
  simp (maxSteps := 2000000) only [go_sem, ↓reduceIte, z5, z6]
  rw [IntWalk.i64_in _ (by omega)]
  refine ⟨fun h1 => ?_, fun h1 => rfl⟩
  refine ⟨fun h2 => rfl, fun h2 => ?_⟩
  simp [octB] at q7
  exfalso; omega
theorem j41 {t : List UInt8} (ht : t ≠ []) : 1 ≤ (escL t).2 ∧ (escL t).2 ≤ t.length := by
 cases t with
 | nil => exact absurd rfl ht
 | cons e r =>
  have g : ∀ (m : Nat) (v : Int) (q : List UInt8) (k : Nat), k ≤ (octG m v q k).2 ∧ (octG m v q k).2 ≤ k + q.length := fun m => by
   induction m with
   | zero => intro v q k; simp [octG]
   | succ m ih =>
    intro v q k
    cases q with
    | nil => simp [octG]
    | cons x q =>
     rw [octG]
     split
     ·have := ih (8 * v + oct1 x) q (k + 1); simp only [List.length_cons]; omega
     ·simp
  have h3 := g 2 (oct1 e) r 1
  rw [escL]
  simp only [List.length_cons]
  repeat' split
  all_goals first
   | (simp only [octL]; omega)
   | (simp only; omega)
   | skip
  all_goals
   rename_i h
   cases r with
   | nil => simp at h
   | cons x q => simp only [List.length_cons]; omega
def q3a : q0j :=
 .seq (.reg [Qx 2 (.k (.d (.str [])))]) (.seq (.reg [Qc 8 0, Q 9 (.nck (.t 8)), Q 10 (.fa 1 (.t 9)), Q 11 (.ld false 1 (.t 10)), Q 12 (.bin .add (.t 11) (Ki 1)), Q 13 (.nck (.t 8)), 
 Q 14 (.fa 1 (.t 13)), ⟨none, .st 1 (.t 14) (.t 12), none⟩]) (.seq (.reg [⟨some 3, .nils 5 1, none⟩]) (.seq (.reg [Qx 4 (Ki 1)]) (.seq (.block 0 (.loop (.seq (.seq (.dreg [Qc 15 
 0, Q 16 (.nck (.t 15)), Q 17 (.fa 1 (.t 16)), Q 18 (.ld false 1 (.t 17)), Qc 19 0, Q 20 (.nck (.t 19)), Q 21 (.fa 0 (.t 20)), Q 22 (.ld false 1 (.t 21)), Q 23 (.len true (.t 
 22)), Q 24 (.bin .lss (.t 18) (.t 23))]) (.cond (.t 24) .skip (.exit 0))) (.block 1 (.seq (.dreg [Qc 25 0, Q 26 (.nck (.t 25)), Q 27 (.fa 0 (.t 26)), Q 28 (.ld false 1 (.t 27)), 
 Qc 29 0, Q 30 (.nck (.t 29)), Q 31 (.fa 1 (.t 30)), Q 32 (.ld false 1 (.t 31)), Q 33 (.idxS (.t 28) (.t 32)), Qa 5 33]) (.seq (.reg [Qc 34 0, Q 35 (.nck (.t 34)), Q 36 (.fa 1 (.t 
 35)), Q 37 (.ld false 1 (.t 36)), Q 38 (.bin .add (.t 37) (Ki 1)), Q 39 (.nck (.t 34)), Q 40 (.fa 1 (.t 39)), ⟨none, .st 1 (.t 40) (.t 38), none⟩]) (.seq (.seq (.reg [Qc 41 5]) 
 (.block 2 (.seq (.reg [Q 43 (.bin .eql (.t 41) (Kb 92)), Qa 42 43]) (.cond (.t 42) (.seq (.seq (.dreg [Qc 44 0, Q 45 (.nck (.t 44)), Q 46 (.fa 1 (.t 45)), Q 47 (.ld false 1 (.t 
 46)), Qc 48 0, Q 49 (.nck (.t 48)), Q 50 (.fa 0 (.t 49)), Q 51 (.ld false 1 (.t 50)), Q 52 (.len true (.t 51)), Q 53 (.bin .eql (.t 47) (.t 52))]) (.cond (.t 53) (.exit 1) 
 .skip)) (.seq (.dreg [Qc 55 0, Q 56 (.nck (.t 55)), Q 57 (.fa 0 (.t 56)), Q 58 (.ld false 1 (.t 57)), Qc 59 0, Q 60 (.nck (.t 59)), Q 61 (.fa 1 (.t 60)), Q 62 (.ld false 1 (.t 
 61)), ⟨some 63, .call 108 [.t 58, .t 62], none⟩, Qc 54 63, Q 64 (.ext 0 (.t 54)), Q 65 (.ext 1 (.t 54)), Qc 6 64, Qc 7 65]) (.seq (.reg [Qc 66 0, Q 67 (.nck (.t 66)), Q 68 (.fa 1 
 (.t 67)), Q 69 (.ld false 1 (.t 68)), Qc 70 7, Q 71 (.bin .add (.t 69) (.t 70)), Q 72 (.nck (.t 66)), Q 73 (.fa 1 (.t 72)), ⟨none, .st 1 (.t 73) (.t 71), none⟩]) (.seq (.seq 
 (.reg [Qc 74 6, Q 75 (.bin .geq (.t 74) (Ki 0))]) (.cond (.t 75) (.reg [Qc 76 3, Qc 77 6, Q 78 (.cvI .u8 (.t 77)), ⟨some 79, .bsl 5 1 [.t 78], none⟩, ⟨some 80, .app 5 1 1 false 
 (.t 76) (.t 79), none⟩, Qa 3 80]) .skip)) (.exit 1))))) (.seq (.reg [Q 82 (.bin .eql (.t 41) (Kb 40)), Qa 81 82]) (.cond (.t 81) (.reg [Qc 83 4, Q 84 (.bin .add (.t 83) (Ki 1)), 
 Qa 4 84]) (.seq (.reg [Q 86 (.bin .eql (.t 41) (Kb 41)), Qa 85 86]) (.cond (.t 85) (.seq (.reg [Qc 87 4, Q 88 (.bin .sub (.t 87) (Ki 1)), Qa 4 88]) (.seq (.reg [Qc 89 4, Q 90 
 (.bin .eql (.t 89) (Ki 0))]) (.cond (.t 90) (.seq (.reg [Qc 91 3, Q 92 (.b2s (.t 91)), Qa 2 92]) .ret) .skip))) .skip)))))))) (.reg [Qc 93 3, Qc 94 5, ⟨some 95, .bsl 5 1 [.t 94], 
 none⟩, ⟨some 96, .app 5 1 1 false (.t 93) (.t 95), none⟩, Qa 3 96])))))))) (.seq (.reg [Qc 97 0, Q 98 (.mkI 76 (Ki 5)), ⟨some 99, .prim .call [.k (.fn (.func 63) [] []), .t 97, 
 .t 98] [], none⟩]) (.seq (.reg [Qx 2 (.k (.d (.str [])))]) .ret))))))
def q3c : List LRes := [.tmp 2]
theorem q4K : q0t Tryz.prog 86 100 q3a q3c := ⟨_, _, Tryz.func86, rfl, by kernel_rfl, by kernel_rfl, rfl⟩
theorem z9P (s : List UInt8) (k : Nat) (hs : s.length ≤ 60000) (hk : k < s.length) : q7z Tryz.prog 86 [.ptr (.x 0) 0] [robj s k 0]
  (fun r hs' => match litF 0 1 (s.drop (k + 1)) [] (k + 1) with
   | some (b, k') => r = .d (.str b) ∧ hs' = [robj s k' 0]
   | none => ∃ k' : Int, r = .d (.str []) ∧ hs' = [robj s k' 5]) := by
 generalize hR : litF 0 1 (s.drop (k + 1)) [] (k + 1) = R
 rw [q1K]
 refine q4K.q2b (by kernel_rfl) rfl ?_
 simp (maxSteps := 2000000) (disch := omega) only [go_sem, ↓reduceIte, q3a, q3c]
 refine q0s (fun y : Nat × Nat × List UInt8 => ⟨[(0, .ptr (.x 0) 0), (3, .own (.t 3) 5 1 (q0U y.2.2)), (4, .d (.int .i64 y.2.1))], [], [(0, .cells [.d (.str s), .d (.int .i64 y.1), .d .nil])]⟩)
  (fun y => y.1 ≤ s.length ∧ y.2.2.length ≤ y.1 ∧ 1 ≤ y.2.1 ∧ y.2.1 ≤ y.1 + 1 ∧ litF 0 y.2.1 (s.drop y.1) y.2.2 y.1 = R) (fun y => s.length - y.1) (k + 1, 1, []) ?_ ?_ ?_
 ·refine Weak.mk ?_ ?_ ?_ <;> simp (maxSteps := 2000000) only [go_sem, ↓reduceIte, Sub, Int.natCast_add, Int.natCast_mul, q0U]
 ·exact ⟨hk, by simp, by simp, by simp, hR⟩
 ·rintro ⟨i, d, b⟩ ⟨hi, hb, hd1, hd2, hF⟩
  simp only at hi hb hd1 hd2 hF
  have hblen := q5Z b
  simp (maxSteps := 2000000) only [go_sem, ↓reduceIte]
  refine ⟨fun hlt => ?_, fun hge => ?_⟩
  ·obtain ⟨c, hc⟩ := get_some (l := s) (i := i) (by omega)
   have hc8 := q4e c
   rw [q1J hc, litF] at hF
   simp (maxSteps := 2000000) (disch := omega) only [go_sem, ↓reduceIte, q0c, hc]
   refine ⟨fun h92 => ?_, fun h92 => ⟨fun h40 => ?_, fun h40 => ⟨fun h41 => ⟨fun hd0 => ?_, fun hd0 => ?_⟩, fun h41 => ?_⟩⟩⟩
   ·rw [if_pos (by omega)] at hF
    refine ⟨fun he => ?_, fun he => ?_⟩
    ·rw [if_pos (List.drop_eq_nil_of_le (by omega))] at hF
     refine ⟨(i + 1, d, b), ?_, ⟨by simp only; omega, by simp only; omega, hd1, by simp only; omega, ?_⟩, by simp only; omega⟩
     ·refine Weak.mk ?_ ?_ ?_ <;> simp (maxSteps := 2000000) only [go_sem, ↓reduceIte, Sub, Int.natCast_add, Int.natCast_mul]
     ·simp only
      rw [List.drop_eq_nil_of_le (by omega), litF]; exact hF
    ·have hne : s.drop (i + 1) ≠ [] := fun e => by have := congrArg List.length e; simp at this; omega
     rw [if_neg hne] at hF
     have hesc := z36 s (i + 1) hs (by omega)
     have hen := j41 hne
     rw [List.length_drop] at hen
     rw [z4z _ (by rw [List.length_drop]; omega), List.drop_drop] at hF
     generalize escL (s.drop (i + 1)) = X at hesc hen hF
     obtain ⟨xo, xn⟩ := X
     simp only at hesc hen hF
     rw [Int.natCast_add, Int.natCast_one] at hesc
     refine q6o.of hesc ?_
     cases xo with
     | none =>
      simp (maxSteps := 2000000) (disch := omega) only [go_sem, ↓reduceIte, escI]
      refine ⟨(i + 1 + xn, d, b), ?_, ⟨by simp only; omega, by simp only; omega, hd1, by simp only; omega, by simpa using hF⟩, by simp only; omega⟩
      refine Weak.mk ?_ ?_ ?_ <;> simp (maxSteps := 2000000) only [go_sem, ↓reduceIte, Sub, Int.natCast_add, Int.natCast_mul]
     | some x =>
      have hx8 := q4e x
      simp (maxSteps := 2000000) (disch := omega) only [go_sem, ↓reduceIte, escI]
      refine ⟨fun _ => ⟨by omega, (i + 1 + xn, d, b ++ [x]), ?_, ⟨by simp only; omega, by simp only [List.length_append, List.length_cons, List.length_nil]; omega, hd1, by simp only; omega, hF⟩, by simp only; omega⟩, fun h => by exfalso; omega⟩
      refine Weak.mk ?_ ?_ ?_ <;> simp (maxSteps := 2000000) only [go_sem, ↓reduceIte, Sub, Int.natCast_add, Int.natCast_mul, q2n, q42, q5H]
   ·rw [if_neg (by omega), if_neg (by omega), if_pos (by omega)] at hF
    refine ⟨by omega, (i + 1, d + 1, b ++ [c]), ?_, ⟨by simp only; omega, by simp only [List.length_append, List.length_cons, List.length_nil]; omega, by simp only; omega, by simp only; omega, hF⟩, by simp only; omega⟩
    refine Weak.mk ?_ ?_ ?_ <;> simp (maxSteps := 2000000) only [go_sem, ↓reduceIte, Sub, Int.natCast_add, Int.natCast_mul, q2n, q42, q5H]
   ·rw [if_neg (by omega), if_pos (by omega), if_pos (by omega)] at hF
    subst hF
    simp (maxSteps := 2000000) (disch := omega) only [go_sem, ↓reduceIte, q3f]
    simp only [robj, Int.natCast_add, Int.natCast_one]; rfl
   ·rw [if_neg (by omega), if_pos (by omega), if_neg (by omega)] at hF
    refine ⟨by omega, (i + 1, d - 1, b ++ [c]), ?_, ⟨by simp only; omega, by simp only [List.length_append, List.length_cons, List.length_nil]; omega, by simp only; omega, by simp only; omega, hF⟩, by simp only; omega⟩
    have e1 : ((d - 1 : Nat) : Int) = (d : Int) - 1 := by omega
    refine Weak.mk ?_ ?_ ?_ <;> simp (maxSteps := 2000000) only [go_sem, ↓reduceIte, Sub, Int.natCast_add, Int.natCast_mul, q2n, q42, q5H, e1]
   ·rw [if_neg (by omega), if_neg (by omega), if_neg (by omega)] at hF
    refine ⟨by omega, (i + 1, d, b ++ [c]), ?_, ⟨by simp only; omega, by simp only [List.length_append, List.length_cons, List.length_nil]; omega, by simp only; omega, by simp only; omega, hF⟩, by simp only; omega⟩
    refine Weak.mk ?_ ?_ ?_ <;> simp (maxSteps := 2000000) only [go_sem, ↓reduceIte, Sub, Int.natCast_add, Int.natCast_mul, q2n, q42, q5H]
  ·rw [List.drop_eq_nil_of_le (by omega), litF] at hF
   subst hF
   have hf := z0B s (i : Int) 5
   rw [q1K, show errD 5 = .iface 76 (.int .i64 5) from rfl] at hf
   refine q0b.mc1 (.x 0) rfl (hf) rfl rfl rfl rfl ⟨rfl, rfl⟩ ?_
   simp (maxSteps := 2000000) only [go_sem, ↓reduceIte, robj]
   exact ⟨_, rfl⟩
def z50 : Option Nat → Res → Prop
 | some n, r => r = .tup [.int .i64 n, .bool true]
 | none, r => ∃ n : Int, r = .tup [.int .i64 n, .bool false]
def q7k : q0j :=
 .seq (.reg [Qx 2 (Ki 0), Qx 3 KF]) (.seq (.seq (.reg [Qc 6 0, Q 7 (.bin .eql (.t 6) (.k (.d (.str [])))), Qc 8 7, Qd 9 0 8 false, Qg 10 (.len true (.t 9)) 8 false, Qg 11 (.bin .gtr 
 (.t 10) (Ki 2)) 8 false, Q 12 (.pick (.t 8) KT (.t 11)), Qc 13 12, Qd 14 0 13 false, Qg 15 (.idxS (.t 14) (Ki 0)) 13 false, Qg 16 (.bin .eql (.t 15) (Kb 48)) 13 false, Q 17 
 (.pick (.t 13) KT (.t 16))]) (.cond (.t 17) (.seq (.reg [Qx 2 (Ki 0), Qx 3 KF]) .ret) .skip)) (.seq (.reg [Qx 4 (Ki 0)]) (.seq (.seq (.reg [Qc 18 0, Q 19 (.len true (.t 18)), Q 
 20 (.cp (Ki 0))]) (.block 0 (.loop (.seq (.reg [Q 21 (.bin .lss (.t 20) (.t 19))]) (.seq (.cond (.t 21) .skip (.exit 0)) (.seq (.block 1 (.seq (.reg [Qc 22 20, Qa 5 22]) (.seq 
 (.seq (.reg [Qc 23 0, Qc 24 5, Q 25 (.idxS (.t 23) (.t 24)), Q 26 (.bin .lss (.t 25) (Kb 48)), Qc 27 26, Qd 28 0 27 false, Qd 29 5 27 false, Qg 30 (.idxS (.t 28) (.t 29)) 27 
 false, Qg 31 (.bin .gtr (.t 30) (Kb 57)) 27 false, Q 32 (.pick (.t 27) KT (.t 31))]) (.cond (.t 32) (.seq (.reg [Qx 2 (Ki 0), Qx 3 KF]) .ret) .skip)) (.reg [Qc 33 4, Q 34 (.bin 
 .mul (Ki 10) (.t 33)), Qc 35 0, Qc 36 5, Q 37 (.idxS (.t 35) (.t 36)), Q 38 (.bin .sub (.t 37) (Kb 48)), Q 39 (.cvI .i64 (.t 38)), Q 40 (.bin .add (.t 34) (.t 39)), Qa 4 40])))) 
 (.reg [Q 41 (.bin .add (.t 20) (Ki 1)), Qc 20 41]))))))) (.seq (.reg [Qc 42 4, Qc 43 4, Q 44 (.bin .leq (.t 43) (Ki 60)), Qa 2 42, Qa 3 44]) .ret))))
def q7n : List LRes := [.tmp 2, .tmp 3]
theorem q83 : q0t Tryz.prog 131 45 q7k q7n := ⟨_, _, Tryz.func131, rfl, by kernel_rfl, by kernel_rfl, rfl⟩
theorem z52 (w : List UInt8) (hw : w.length ≤ 60000) : q0u Tryz.prog 131 [.str w] (z50 (objF w)) := by
 generalize hR : objF w = R
 have bad : R = none → ∀ n : Int, z50 R (.tup [.int .i64 n, .bool false]) := fun e n => by subst e; exact ⟨n, rfl⟩
 refine q83.call rfl ?_
 simp (maxSteps := 2000000) only [go_sem, ↓reduceIte, q7k, q7n]
 refine ⟨fun h1 => ⟨fun h2 => ?_, fun h2 => bad (by rw [← hR, objF, if_pos (by omega)]) 0⟩, fun h1 => bad (by rw [← hR, objF, if_pos (by rw [h1]; simp)]) 0⟩
 have hlen : 1 ≤ w.length := by cases w with | nil => exact absurd rfl h1 | cons a r => simp
 obtain ⟨c0, hc0⟩ := get_some (l := w) (i := 0) (by omega)
 have g0 : getI w 0 = some c0 := by rw [← hc0]; exact q0c w 0
 have hd0 : w.head? = some c0 := by rw [← hc0]; cases w <;> rfl
 simp (maxSteps := 2000000) only [go_sem, ↓reduceIte, g0]
 refine ⟨fun h3 => bad (by rw [← hR, objF, if_pos (.inr (.inr (by rw [hd0]; simp; omega)))]) 0, fun h3 => ?_⟩
 have ho : objF w = match digF w 0 with
  | none => none
  | some n => if n ≤ 60 then some n else none := by rw [objF, if_neg (by rw [hd0]; simp only [Option.map_some, Option.some.injEq]; omega)]; rfl
 rw [ho] at hR
 refine q0s (fun y : Nat × Nat => ⟨[(0, .d (.str w)), (4, .d (.int .i64 y.2)), (19, .d (.int .i64 w.length)), (20, .d (.int .i64 y.1))], [], []⟩)
  (fun y => y.1 ≤ w.length ∧ (y.1 = 0 → y.2 = 0) ∧ (y.1 = 1 → y.2 ≤ 9) ∧ y.2 ≤ 99 ∧ digF (w.drop y.1) y.2 = digF w 0) (fun y => w.length - y.1) (0, 0) ?_ ?_ ?_
 ·refine q0e ?_ trivial
  simp (maxSteps := 2000000) only [go_sem, ↓reduceIte, Sub, Int.natCast_add, Int.natCast_mul]
 ·exact ⟨by simp, by simp, by simp, by simp, rfl⟩
 ·rintro ⟨i, n⟩ ⟨hi, hn0, hn1, hn2, hF⟩
  simp only at hi hn0 hn1 hn2 hF
  simp (maxSteps := 2000000) only [go_sem, ↓reduceIte]
  refine ⟨fun hlt => ?_, fun hge => ?_⟩
  ·obtain ⟨c, hc⟩ := get_some (l := w) (i := i) (by omega)
   have hc8 := q4e c
   rw [q1J hc, digF] at hF
   have nodig : (c.toNat < 48 ∨ 57 < c.toNat) → R = none := fun h => by
    rw [if_pos h] at hF
    rw [← hF] at hR
    exact hR.symm
   simp (maxSteps := 2000000) only [go_sem, ↓reduceIte, q0c, hc]
   refine ⟨fun h4 => ⟨fun h5 => bad (nodig (by omega)) 0, fun h5 => ?_⟩, fun h4 => bad (nodig (by omega)) 0⟩
   simp (maxSteps := 2000000) (disch := omega) only [go_sem, ↓reduceIte, q0c, hc]
   rw [if_neg (by omega)] at hF
   refine ⟨(i + 1, 10 * n + (c.toNat - 48)), ?_, ⟨by simp only; omega, by simp only; omega, by simp only; omega, by simp only; omega, hF⟩, by simp only; omega⟩
   have zz : decide (57 < (c.toNat : Int)) = false := by simpa using h5
   refine q0e ?_ trivial
   simp (maxSteps := 2000000) only [go_sem, ↓reduceIte, Sub, Int.natCast_add, Int.natCast_mul, zz]
   all_goals ((repeat' apply And.intro) <;> (congr 2 <;> omega))
  ·rw [List.drop_eq_nil_of_le (by omega), digF] at hF
   rw [← hF] at hR
   simp only at hR
   by_cases h6 : n ≤ 60
   ·rw [if_pos h6] at hR
    subst hR
    have z : ((n : Int) ≤ 60) = True := eq_true (by omega)
    simp (maxSteps := 2000000) only [go_sem, ↓reduceIte, z]
    rfl
   ·rw [if_neg h6] at hR
    have z : ((n : Int) ≤ 60) = False := eq_false (by omega)
    simp (maxSteps := 2000000) only [go_sem, ↓reduceIte, z]
    exact bad hR.symm _
def j0A (s : List UInt8) (k : Nat) : Option (Nat × Nat) → AV → List AObj → Prop
 | some (n, k'), r, hs => r = .tuple [.d (.int .i64 n), .d (.bool true)] ∧ hs = [robj s k' 0]
 | none, r, hs => ∃ n : Int, r = .tuple [.d (.int .i64 n), .d (.bool false)] ∧ hs = [robj s k 0]
def q4k : q0j :=
 .seq (.reg [Qx 2 (Ki 0), Qx 3 KF]) (.seq (.dreg [Qc 8 0, Q 9 (.nck (.t 8)), Q 10 (.fa 0 (.t 9)), Q 11 (.ld false 1 (.t 10)), Qc 12 0, Q 13 (.nck (.t 12)), Q 14 (.fa 1 (.t 13)), Q 
 15 (.ld false 1 (.t 14)), ⟨some 16, .call 36 [.t 11, .t 15], none⟩, Qa 4 16]) (.seq (.reg [Qc 18 4, ⟨some 19, .call 131 [.t 18], none⟩, Qc 17 19, Q 20 (.ext 0 (.t 17)), Q 21 
 (.ext 1 (.t 17)), Qa 5 20, Qa 6 21]) (.seq (.dreg [Qc 22 0, Q 23 (.nck (.t 22)), Q 24 (.fa 0 (.t 23)), Q 25 (.ld false 1 (.t 24)), Qc 26 0, Q 27 (.nck (.t 26)), Q 28 (.fa 1 (.t 
 27)), Q 29 (.ld false 1 (.t 28)), Qc 30 4, Q 31 (.len true (.t 30)), Q 32 (.bin .add (.t 29) (.t 31)), ⟨some 33, .call 35 [.t 25, .t 32], none⟩, Qa 7 33]) (.seq (.seq (.reg [Qc 
 34 6, Q 35 (.not (.t 34)), Qc 36 35, Qd 37 0 36 false, Qg 38 (.nck (.t 37)) 36 false, Qg 39 (.fa 0 (.t 38)) 36 false, Qg 40 (.ld false 1 (.t 39)) 36 false, Qd 41 7 36 false, 
 ⟨some 42, .call 36 [.t 40, .t 41], some (36, false)⟩, Qg 43 (.bin .neq (.t 42) (.k (.d (.str [48])))) 36 false, Q 44 (.pick (.t 36) KT (.t 43))]) (.cond (.t 44) (.seq (.reg [Qx 2 
 (Ki 0), Qx 3 KF]) .ret) .skip)) (.seq (.reg [Qc 45 0, Q 46 (.nck (.t 45)), Q 47 (.fa 0 (.t 46)), Q 48 (.ld false 1 (.t 47)), Qc 49 7, Q 50 (.bin .add (.t 49) (Ki 1)), ⟨some 51, 
 .call 35 [.t 48, .t 50], none⟩, Qa 7 51]) (.seq (.seq (.reg [Qc 52 0, Q 53 (.nck (.t 52)), Q 54 (.fa 0 (.t 53)), Q 55 (.ld false 1 (.t 54)), Qc 56 7, ⟨some 57, .call 36 [.t 55, 
 .t 56], none⟩, Q 58 (.bin .neq (.t 57) (.k (.d (.str [82]))))]) (.cond (.t 58) (.seq (.reg [Qx 2 (Ki 0), Qx 3 KF]) .ret) .skip)) (.seq (.reg [Qc 59 0, Qc 60 7, Q 61 (.bin .add 
 (.t 60) (Ki 1)), Q 62 (.nck (.t 59)), Q 63 (.fa 1 (.t 62)), ⟨none, .st 1 (.t 63) (.t 61), none⟩]) (.seq (.reg [Qc 64 5, Qa 2 64, Qx 3 KT]) .ret))))))))
def q4m : List LRes := [.tmp 2, .tmp 3]
theorem q5P : q0t Tryz.prog 112 65 q4k q4m := ⟨_, _, Tryz.func112, rfl, by kernel_rfl, by kernel_rfl, rfl⟩
theorem j0z (s : List UInt8) (k : Nat) (hs : s.length ≤ 60000) (hk : k ≤ s.length) : q7z Tryz.prog 112 [.ptr (.x 0) 0] [robj s k 0] (j0A s k (z4T s k)) := by
 have hwl := q3Q s k
 generalize hR : z4T s k = R
 unfold z4T at hR
 have hw := q5Y s ((k : Nat) : Int) (by omega)
 rw [q3H hk] at hw
 generalize q2r s k = w at *
 have hob := z52 w (by omega)
 have bad : R = none → ∀ n : Int, j0A s k R (.tuple [.d (.int .i64 n), .d (.bool false)]) [robj s k 0] := fun e n => by rw [e]; exact ⟨n, rfl, rfl⟩
 have hw1 := q5U s ((k : Int) + (w.length : Int)) (by omega)
 have hcl : q5l s ((k : Int) + (w.length : Int)) = k + w.length := by rw [show (k : Int) + (w.length : Int) = ((k + w.length : Nat) : Int) by omega, q3H (by omega)]
 rw [hcl] at hw1
 have hi1 := q4h (s := s) (k := k + w.length) (by omega)
 rw [q1K]
 refine q5P.q2b (by kernel_rfl) rfl ?_
 simp (maxSteps := 2000000) only [go_sem, ↓reduceIte, q4k, q4m]
 refine q6o.of hw ?_
 simp (maxSteps := 2000000) only [go_sem, ↓reduceIte]
 refine q0k.post hob (fun r hr => ?_)
 cases ho : objF w with
 | none =>
  rw [ho] at hr hR
  obtain ⟨n, rfl⟩ := hr
  simp (maxSteps := 2000000) (disch := omega) only [go_sem, ↓reduceIte]
  refine q6o.of hw1 ?_
  simp (maxSteps := 2000000) only [go_sem, ↓reduceIte]
  exact bad hR.symm 0
 | some n =>
  rw [ho] at hr hR
  simp only [z50] at hr
  subst hr
  simp (maxSteps := 2000000) (disch := omega) only [go_sem, ↓reduceIte]
  refine q6o.of hw1 ?_
  simp only at hR
  generalize q3j s (k + w.length) = q at *
  have hw2 := q5Y s ((q : Nat) : Int) (by omega)
  rw [q3H (by omega)] at hw2
  simp (maxSteps := 2000000) only [go_sem, ↓reduceIte]
  refine q0k.of hw2 ?_
  simp (maxSteps := 2000000) only [go_sem, ↓reduceIte]
  refine ⟨fun h5 => bad (by rw [← hR, if_neg h5]) 0, fun h5 => ?_⟩
  rw [if_pos h5] at hR
  have hql : q < s.length := by
   rcases Nat.lt_or_ge q s.length with h | h
   ·exact h
   ·unfold q2r at h5; rw [List.drop_eq_nil_of_le h] at h5; cases h5
  have hw3 := q5U s ((q : Int) + 1) (by omega)
  rw [show q5l s ((q : Int) + 1) = q + 1 by rw [show (q : Int) + 1 = ((q + 1 : Nat) : Int) by omega, q3H (by omega)]] at hw3
  have hj1 := q4h (s := s) (k := q + 1) (by omega)
  generalize q3j s (q + 1) = j at *
  have hw4 := q5Y s ((j : Nat) : Int) (by omega)
  rw [q3H (by omega)] at hw4
  rw [IntWalk.i64_in _ (by omega)]
  refine q0k.of hw3 ?_
  simp (maxSteps := 2000000) only [go_sem, ↓reduceIte]
  refine q0k.of hw4 ?_
  simp (maxSteps := 2000000) only [go_sem, ↓reduceIte]
  refine ⟨fun h6 => bad (by rw [← hR, if_neg h6]) 0, fun h6 => ?_⟩
  rw [if_pos h6] at hR
  simp (disch := omega) only [IntWalk.i64_in, IntWalk.u8_in]
  subst hR
  exact ⟨rfl, by simp only [robj, Int.natCast_add, Int.natCast_one]; rfl⟩
/-! ### Words -/
def z2v (s : List UInt8) : RV → AV → List AObj → Prop
 | .ok v k, r, hs => r = .d v.d ∧ hs = [robj s k 0]
 | .bad e, r, hs => ∃ (v : Val) (k : Int), r = .d v.d ∧ hs = [robj s k e]
theorem z1c {s : List UInt8} {v : Val} {k : Nat} {R : RV} (h : R = .ok v k) : z2v s R (.d v.d) [robj s k 0] := by subst h; exact ⟨rfl, rfl⟩
theorem q4P {s : List UInt8} {e : Nat} (v : Val) (k : Int) {R : RV} (h : R = .bad e) : z2v s R (.d v.d) [robj s k e] := by subst h; exact ⟨v, k, rfl, rfl⟩
def q3W : q0j :=
 .seq (.reg [⟨some 2, .allo [.int .i64 0, .int .i64 0, .str [], .list [], .list []], none⟩]) (.seq (.dreg [Qc 8 0, Q 9 (.nck (.t 8)), Q 10 (.fa 0 (.t 9)), Q 11 (.ld false 1 (.t 
 10)), Qc 12 0, Q 13 (.nck (.t 12)), Q 14 (.fa 1 (.t 13)), Q 15 (.ld false 1 (.t 14)), ⟨some 16, .call 36 [.t 11, .t 15], none⟩, Qa 3 16]) (.seq (.seq (.reg [Qc 17 3]) (.block 0 
 (.seq (.reg [Q 19 (.bin .eql (.t 17) (.k (.d (.str [110, 117, 108, 108])))), Qa 18 19]) (.cond (.t 18) (.seq (.reg [Qc 20 0, Q 21 (.nck (.t 20)), Q 22 (.fa 1 (.t 21)), Q 23 (.ld 
 false 1 (.t 22)), Q 24 (.bin .add (.t 23) (Ki 4)), Q 25 (.nck (.t 20)), Q 26 (.fa 1 (.t 25)), ⟨none, .st 1 (.t 26) (.t 24), none⟩]) (.seq (.reg [Q 27 (.bld [(0, 1), (1, 1), (2, 
 1), (3, 1), (4, 1)] [.int .i64 0, .int .i64 0, .str [], .list [], .list []] [] []), ⟨none, .st 5 (.t 2) (.t 27), none⟩]) .ret)) (.seq (.reg [Q 29 (.bin .eql (.t 17) (.k (.d (.str 
 [116, 114, 117, 101])))), Qa 28 29]) (.cond (.t 28) (.seq (.reg [Qc 30 0, Q 31 (.nck (.t 30)), Q 32 (.fa 1 (.t 31)), Q 33 (.ld false 1 (.t 32)), Q 34 (.bin .add (.t 33) (Ki 4)), 
 Q 35 (.nck (.t 30)), Q 36 (.fa 1 (.t 35)), ⟨none, .st 1 (.t 36) (.t 34), none⟩]) (.seq (.reg [Q 37 (.bld [(0, 1), (1, 1), (2, 1), (3, 1), (4, 1)] [.int .i64 0, .int .i64 0, .str 
 [], .list [], .list []] [false, false, false, true, true] [(0, .k (.d (.int .i64 1))), (1, .k (.d (.int .i64 1)))]), ⟨none, .st 5 (.t 2) (.t 37), none⟩]) .ret)) (.seq (.reg [Q 39 
 (.bin .eql (.t 17) (.k (.d (.str [102, 97, 108, 115, 101])))), Qa 38 39]) (.cond (.t 38) (.seq (.reg [Qc 40 0, Q 41 (.nck (.t 40)), Q 42 (.fa 1 (.t 41)), Q 43 (.ld false 1 (.t 
 42)), Q 44 (.bin .add (.t 43) (Ki 5)), Q 45 (.nck (.t 40)), Q 46 (.fa 1 (.t 45)), ⟨none, .st 1 (.t 46) (.t 44), none⟩]) (.seq (.reg [Q 47 (.bld [(0, 1), (1, 1), (2, 1), (3, 1), 
 (4, 1)] [.int .i64 0, .int .i64 0, .str [], .list [], .list []] [false, false, false, true, true] [(0, .k (.d (.int .i64 1)))]), ⟨none, .st 5 (.t 2) (.t 47), none⟩]) .ret)) 
 .skip)))))))) (.seq (.reg [Qc 49 0, ⟨some 50, .prim .call [.k (.fn (.func 112) [] []), .t 49] [], none⟩, Qc 48 50, Q 51 (.ext 0 (.t 48)), Q 52 (.ext 1 (.t 48)), Qa 4 51, Qa 5 
 52]) (.seq (.seq (.reg [Qc 53 5]) (.cond (.t 53) (.seq (.reg [Qc 54 4, Q 55 (.bld [(0, 1), (1, 1), (2, 1), (3, 1), (4, 1)] [.int .i64 0, .int .i64 0, .str [], .list [], .list []] 
 [false, false, false, true, true] [(0, .k (.d (.int .i64 7))), (1, .t 54)]), ⟨none, .st 5 (.t 2) (.t 55), none⟩]) .ret) .skip)) (.seq (.reg [Qc 57 3, ⟨some 58, .call 113 [.t 57], 
 none⟩, Qc 56 58, Q 59 (.ext 0 (.t 56)), Q 60 (.ext 1 (.t 56)), Qa 6 59, Qa 7 60]) (.seq (.seq (.reg [Qc 61 7, Q 62 (.eqN 0 true (.t 61))]) (.cond (.t 62) (.seq (.reg [Qc 63 0, Qc 
 64 7, ⟨some 65, .prim .call [.k (.fn (.func 63) [] []), .t 63, .t 64] [], none⟩]) (.seq (.reg [Q 66 (.bld [(0, 1), (1, 1), (2, 1), (3, 1), (4, 1)] [.int .i64 0, .int .i64 0, .str 
 [], .list [], .list []] [] []), ⟨none, .st 5 (.t 2) (.t 66), none⟩]) .ret)) .skip)) (.seq (.reg [Qc 67 0, Q 68 (.nck (.t 67)), Q 69 (.fa 1 (.t 68)), Q 70 (.ld false 1 (.t 69)), 
 Qc 71 3, Q 72 (.len true (.t 71)), Q 73 (.bin .add (.t 70) (.t 72)), Q 74 (.nck (.t 67)), Q 75 (.fa 1 (.t 74)), ⟨none, .st 1 (.t 75) (.t 73), none⟩]) (.seq (.reg [Qc 76 6, Q 77 
 (.bld [(0, 1), (1, 1), (2, 1), (3, 1), (4, 1)] [.int .i64 0, .int .i64 0, .str [], .list [], .list []] [false, false, false, true, true] [(0, .k (.d (.int .i64 2))), (1, .t 
 76)]), ⟨none, .st 5 (.t 2) (.t 77), none⟩]) .ret))))))))
def q32 : List LRes := [.cell 2 true 5]
theorem q5x : q0t Tryz.prog 91 78 q3W q32 := ⟨_, _, Tryz.func91, rfl, by kernel_rfl, by kernel_rfl, rfl⟩
theorem z8q (s : List UInt8) (k : Nat) (hs : s.length ≤ 60000) (hk : k ≤ s.length) : q7z Tryz.prog 91 [.ptr (.x 0) 0] [robj s k 0] (z2v s (z8p s k)) := by
 have hwl := q3Q s k
 generalize hR : z8p s k = R
 unfold z8p at hR
 have hw := q5Y s ((k : Nat) : Int) (by omega)
 rw [q3H hk] at hw
 have hrf := j0z s k hs hk
 have hfx := z7Z (q2r s k) (by omega)
 have good : ∀ (a b : Int) (t : List UInt8) (m : Int), R = .ok (Val.mk a b t [] []) m.toNat → 0 ≤ m → z2v s R (.d (.agg [.int .i64 a, .int .i64 b, .str t, .list [], .list []])) [.cells [.d (.str s), .d (.int .i64 m), .d .nil]] := fun a b t m he hm => by
  have := z1c (s := s) he
  rwa [kmk, q1K, show ((m.toNat : Nat) : Int) = m by omega] at this
 generalize q2r s k = w at *
 rw [q1K] at hrf ⊢
 refine q5x.q2b (by kernel_rfl) rfl ?_
 simp (maxSteps := 2000000) only [go_sem, ↓reduceIte, q3W, q32]
 refine q6o.of hw ?_
 simp (maxSteps := 2000000) (disch := omega) only [go_sem, ↓reduceIte]
 refine ⟨fun w1 => ?_, fun w1 => ⟨fun w2 => ?_, fun w2 => ⟨fun w3 => ?_, fun w3 => ?_⟩⟩⟩
 ·rw [if_pos w1] at hR
  exact good 0 0 [] (k + 4) (by rw [← hR]; congr 1) (by omega)
 ·rw [if_neg w1, if_pos w2] at hR
  exact good 1 1 [] (k + 4) (by rw [← hR]; congr 1) (by omega)
 ·rw [if_neg w1, if_neg w2, if_pos w3] at hR
  exact good 1 0 [] (k + 5) (by rw [← hR]; congr 1) (by omega)
 ·rw [if_neg w1, if_neg w2, if_neg w3] at hR
  refine q0b.mp1 (.x 0) rfl (hrf) rfl rfl rfl rfl (fun r hs' hr => ?_)
  cases hra : z4T s k with
  | some p =>
   obtain ⟨n, kn⟩ := p
   rw [hra] at hR hr
   obtain ⟨rfl, rfl⟩ := hr
   refine ⟨⟨rfl, rfl⟩, ?_⟩
   simp (maxSteps := 2000000) only [go_sem, ↓reduceIte, robj, errD]
   exact good 7 n [] kn (by rw [← hR]; rfl) (by omega)
  | none =>
   rw [hra] at hR hr
   obtain ⟨n, rfl, rfl⟩ := hr
   refine ⟨⟨rfl, rfl⟩, ?_⟩
   simp (maxSteps := 2000000) only [go_sem, ↓reduceIte, robj, errD]
   refine q0k.of hfx ?_
   simp only [resP]
   generalize q6g w = F at hR
   obtain ⟨fn, fc⟩ := F
   simp only at hR
   by_cases f0 : fc = 0
   ·subst f0
    rw [if_pos rfl] at hR
    rw [show errD 0 = .nil from rfl]
    simp (maxSteps := 2000000) (disch := omega) only [go_sem, ↓reduceIte]
    exact good 2 fn [] _ (by rw [← hR]; congr 1) (by omega)
   ·rw [if_neg f0] at hR
    rw [q3n f0]
    have hf := z0B s (k : Int) fc
    rw [q1K, q3n f0] at hf
    simp (maxSteps := 2000000) only [go_sem, ↓reduceIte]
    refine q0b.mc1 (.x 0) rfl (hf) rfl rfl rfl rfl ⟨rfl, rfl⟩ ?_
    simp (maxSteps := 2000000) only [go_sem, ↓reduceIte, robj]
    have := q4P (s := s) zeroV (k : Int) hR.symm
    rwa [Val.d_eq] at this
theorem z7G {s : List UInt8} {k : Nat} {c : UInt8} {x : UInt8} (h : s[k]? = some c) : q6H (s.drop k) [x] = decide (c = x) := by
 rw [q1J h]; simp [q6H]
def zD : D := .agg [.int .i64 0, .int .i64 0, .str [], .list [], .list []]
def q3D : q0j :=
 .seq (.reg [⟨some 4, .allo [.int .i64 0, .int .i64 0, .str [], .list [], .list []], none⟩]) (.seq (.reg [Qc 6 0, ⟨some 7, .prim .call [.k (.fn (.func 83) [] []), .t 6] [], none⟩, 
 Qa 5 7]) (.seq (.seq (.reg [Qc 8 1, Q 9 (.bin .gtr (.t 8) (Ki 8))]) (.cond (.t 9) (.reg [Qc 10 0, Q 11 (.mkI 76 (Ki 2)), ⟨some 12, .prim .call [.k (.fn (.func 63) [] []), .t 10, 
 .t 11] [], none⟩]) .skip)) (.seq (.seq (.reg [Qc 13 0, Q 14 (.nck (.t 13)), Q 15 (.fa 2 (.t 14)), Q 16 (.ld false 1 (.t 15)), Q 17 (.eqN 0 true (.t 16))]) (.cond (.t 17) (.seq 
 (.reg [Q 18 (.bld [(0, 1), (1, 1), (2, 1), (3, 1), (4, 1)] [.int .i64 0, .int .i64 0, .str [], .list [], .list []] [] []), ⟨none, .st 5 (.t 4) (.t 18), none⟩]) .ret) .skip)) 
 (.seq (.block 0 (.seq (.reg [Qc 20 5, Q 21 (.bin .eql (.t 20) (Kb 47)), Qa 19 21]) (.cond (.t 19) (.seq (.reg [Qc 22 0, ⟨some 23, .prim .call [.k (.fn (.func 84) [] []), .t 22] 
 [], none⟩, Q 24 (.bld [(0, 1), (1, 1), (2, 1), (3, 1), (4, 1)] [.int .i64 0, .int .i64 0, .str [], .list [], .list []] [false, false, false, true, true] [(0, .k (.d (.int .i64 
 4))), (2, .t 23)]), ⟨none, .st 5 (.t 4) (.t 24), none⟩]) .ret) (.seq (.reg [Qc 26 5, Q 27 (.bin .eql (.t 26) (Kb 40)), Qa 25 27]) (.cond (.t 25) (.seq (.reg [Qc 28 0, Qc 29 0, 
 ⟨some 30, .prim .call [.k (.fn (.func 86) [] []), .t 29] [], none⟩, ⟨some 31, .prim .call [.k (.fn (.func 85) [] []), .t 28, .t 30] [], none⟩, ⟨none, .st 5 (.t 4) (.t 31), 
 none⟩]) .ret) (.seq (.reg [Qc 33 0, ⟨some 34, .prim .call [.k (.fn (.func 87) [] []), .t 33, .k (.d (.str [60, 60]))] [], none⟩, Qa 32 34]) (.cond (.t 32) (.seq (.reg [Qc 35 0, 
 Qc 36 1, ⟨some 37, .prim .call [.k (.fn (.func 88) [] []), .t 35, .t 36] [], none⟩, ⟨none, .st 5 (.t 4) (.t 37), none⟩]) .ret) (.seq (.reg [Qc 39 5, Q 40 (.bin .eql (.t 39) (Kb 
 60)), Qa 38 40]) (.cond (.t 38) (.seq (.reg [Qc 41 0, Qc 42 0, ⟨some 43, .prim .call [.k (.fn (.func 89) [] []), .t 42] [], none⟩, ⟨some 44, .prim .call [.k (.fn (.func 85) [] 
 []), .t 41, .t 43] [], none⟩, ⟨none, .st 5 (.t 4) (.t 44), none⟩]) .ret) (.seq (.reg [Qc 46 0, ⟨some 47, .prim .call [.k (.fn (.func 87) [] []), .t 46, .k (.d (.str [91]))] [], 
 none⟩, Qa 45 47]) (.cond (.t 45) (.seq (.reg [Qc 48 0, Qc 49 1, ⟨some 50, .prim .call [.k (.fn (.func 90) [] []), .t 48, .t 49] [], none⟩, ⟨none, .st 5 (.t 4) (.t 50), none⟩]) 
 .ret) (.seq (.reg [Qc 52 5, ⟨some 53, .call 61 [.t 52], none⟩, Qa 51 53]) (.cond (.t 51) (.seq (.reg [Qc 54 0, Q 55 (.mkI 76 (Ki 4)), ⟨some 56, .prim .call [.k (.fn (.func 63) [] 
 []), .t 54, .t 55] [], none⟩]) (.seq (.reg [Q 57 (.bld [(0, 1), (1, 1), (2, 1), (3, 1), (4, 1)] [.int .i64 0, .int .i64 0, .str [], .list [], .list []] [] []), ⟨none, .st 5 (.t 
 4) (.t 57), none⟩]) .ret)) .skip))))))))))))) (.seq (.reg [Qc 58 0, ⟨some 59, .prim .call [.k (.fn (.func 91) [] []), .t 58] [], none⟩, ⟨none, .st 5 (.t 4) (.t 59), none⟩]) 
 .ret)))))
def q3E : List LRes := [.cell 4 true 5]
theorem q5f : q0t Tryz.prog 62 60 q3D q3E := ⟨_, _, Tryz.func62, rfl, by kernel_rfl, by kernel_rfl, rfl⟩
theorem z7H {s : List UInt8} {k : Nat} {c : UInt8} {x y : UInt8} (h : s[k]? = some c) : q6H (s.drop k) [x, y] = (decide (c = x) && decide (s[k + 1]? = some y)) := by
 rw [q1J h]
 simp only [q6H, List.length_cons, List.length_nil, List.take_succ_cons]
 cases hd : s[k + 1]? with
 | none =>
  rw [List.drop_eq_nil_of_le (List.getElem?_eq_none_iff.1 hd)]
  simp
 | some d =>
  rw [q1J hd]
  simp
theorem z3H : zeroV.d = .agg [.int .i64 0, .int .i64 0, .str [], .list [], .list []] := by rw [Val.d_eq]; rfl
theorem z71 {s : List UInt8} {R : RV} {r : AV} {hs : List AObj} (h : z2v s R r hs) : ∃ (v : Val) (k : Int) (e : Nat), r = .d (.agg [.int .i64 v.kind, .int .i64 v.n, .str v.s, .list (q05 v.l), .list (q37 v.f)]) ∧ hs = [.cells [.d (.str s), .d (.int .i64 k), .d (errD e)]] := by
 cases R with
 | ok v k => obtain ⟨rfl, rfl⟩ := h; exact ⟨v, k, 0, by rw [Val.d_eq], rfl⟩
 | bad e => obtain ⟨v, k, rfl, rfl⟩ := h; exact ⟨v, k, e, by rw [Val.d_eq], rfl⟩
def topP : RV → Res
 | .ok v k => .tup [v.d, .int .i64 k, .nil]
 | .bad e => .tup [zeroV.d, .int .i64 0, errD e]
def q7X : q0j :=
 .seq (.reg [⟨some 4, .allo [.int .i64 0, .int .i64 0, .str [], .list [], .list []], none⟩, Qx 5 (Ki 0), Qx 6 (.k (.d .nil))]) (.seq (.seq (.reg [Qc 9 0, Q 10 (.len true (.t 9)), Q 
 11 (.bin .gtr (.t 10) (Ki 60000)), Qc 12 11, Qd 13 1 12 false, Qg 14 (.bin .lss (.t 13) (Ki 0)) 12 false, Q 15 (.pick (.t 12) KT (.t 14)), Qc 16 15, Qd 17 1 16 false, Qd 18 0 16 
 false, Qg 19 (.len true (.t 18)) 16 false, Qg 20 (.bin .gtr (.t 17) (.t 19)) 16 false, Q 21 (.pick (.t 16) KT (.t 20))]) (.cond (.t 21) (.seq (.reg [Q 22 (.bld [(0, 1), (1, 1), 
 (2, 1), (3, 1), (4, 1)] [.int .i64 0, .int .i64 0, .str [], .list [], .list []] [] []), Q 23 (.mkI 76 (Ki 1)), ⟨none, .st 5 (.t 4) (.t 22), none⟩, Qx 5 (Ki 0), Qa 6 23]) .ret) 
 .skip)) (.seq (.reg [Qc 24 0, Qc 25 1, Q 26 (.bld [(0, 1), (1, 1), (2, 1)] [.str [], .int .i64 0, .nil] [] [(0, .t 24), (1, .t 25)]), ⟨some 27, .box (.t 26), none⟩, Qa 7 27]) 
 (.seq (.reg [Qc 28 7, ⟨some 29, .prim .call [.k (.fn (.func 62) [] []), .t 28, .k (.d (.int .i64 1))] [], none⟩, ⟨some 8, .allo [.int .i64 0, .int .i64 0, .str [], .list [], 
 .list []], none⟩, ⟨none, .st 5 (.t 8) (.t 29), none⟩]) (.seq (.seq (.reg [Qc 30 7, Q 31 (.nck (.t 30)), Q 32 (.fa 2 (.t 31)), Q 33 (.ld false 1 (.t 32)), Q 34 (.eqN 0 false (.t 
 33))]) (.cond (.t 34) (.reg [Qc 35 7, Q 36 (.ld true 5 (.t 8)), ⟨some 37, .call 34 [.t 36], none⟩, ⟨some 38, .prim .call [.k (.fn (.func 63) [] []), .t 35, .t 37] [], none⟩]) 
 .skip)) (.seq (.seq (.reg [Qc 39 7, Q 40 (.nck (.t 39)), Q 41 (.fa 2 (.t 40)), Q 42 (.ld false 1 (.t 41)), Q 43 (.eqN 0 true (.t 42))]) (.cond (.t 43) (.seq (.dreg [Q 44 (.bld 
 [(0, 1), (1, 1), (2, 1), (3, 1), (4, 1)] [.int .i64 0, .int .i64 0, .str [], .list [], .list []] [] []), Qc 45 7, Q 46 (.nck (.t 45)), Q 47 (.fa 2 (.t 46)), Q 48 (.ld false 1 (.t 
 47)), ⟨none, .stC 5 (.t 4) (.t 44) [(45, .cp (.t 7)), (46, .nck (.t 45)), (47, .fa 2 (.t 46)), (48, .ld false 1 (.t 47))], none⟩, Q 5 (.cp (Ki 0)), Qc 6 48]) .ret) .skip)) (.seq 
 (.dreg [Q 49 (.ld true 5 (.t 8)), Qc 50 7, Q 51 (.nck (.t 50)), Q 52 (.fa 1 (.t 51)), Q 53 (.ld false 1 (.t 52)), ⟨none, .stC 5 (.t 4) (.t 49) [(50, .cp (.t 7)), (51, .nck (.t 
 50)), (52, .fa 1 (.t 51)), (53, .ld false 1 (.t 52))], none⟩, Qc 5 53, Q 6 (.cp (.k (.d .nil)))]) .ret))))))
def q72 : List LRes := [.cell 4 true 5, .tmp 5, .tmp 6]
theorem q92 : q0t Tryz.prog 38 54 q7X q72 := ⟨_, _, Tryz.func38, rfl, by kernel_rfl, by kernel_rfl, rfl⟩
def fltF (s : List UInt8) (at_ : Nat) : RV :=
 match s[q3j s at_]? with
 | none => .bad 5
 | some c =>
  if c.toNat = 47 then (match q9L s (q3j s at_) with
   | none => .bad 4
   | some (b, k) => .ok (namV b) k)
  else if c.toNat = 40 then j1Y s (q3j s at_ + 1)
  else if q8F c = true then .bad 4
  else z8p s (q3j s at_)
def q8J (s : List UInt8) (at_ : Int) : RV :=
 if 60000 < s.length ∨ at_ < 0 ∨ (s.length : Int) < at_ then .bad 1
 else match fltF s at_.toNat with
  | .bad e => .bad e
  | .ok v k => if z0C v = 0 then .ok v k else .bad (z0C v)
def Flt (s : List UInt8) : Prop := ∀ c ∈ s, c.toNat ≠ 60 ∧ c.toNat ≠ 91
theorem z0E (s : List UInt8) (at_ : Nat) (ha : at_ ≤ s.length) : match fltF s at_ with
  | .ok v k => at_ < k ∧ k ≤ s.length ∧ v.sm 300 = true
  | .bad e => 1 ≤ e ∧ e ≤ 8 := by
 have hsk := q4h ha
 have one : ∀ {R : RV} {q : Nat}, at_ ≤ q → (match R with
   | .ok v k => q < k ∧ k ≤ s.length ∧ v.sm 300 = true ∧ (ptV v).1 = 1
   | .bad e => 1 ≤ e ∧ e ≤ 8) → match R with
   | .ok v k => at_ < k ∧ k ≤ s.length ∧ v.sm 300 = true
   | .bad e => 1 ≤ e ∧ e ≤ 8 := fun {R q} hq h => by
  cases R with
  | bad e => exact h
  | ok v k => obtain ⟨h1, h2, h3, h4⟩ := h; exact ⟨by omega, h2, h3⟩
 unfold fltF
 cases hc : s[q3j s at_]? with
 | none => exact ⟨by decide, by decide⟩
 | some c =>
  have hlt : q3j s at_ < s.length := (List.getElem?_eq_some_iff.1 hc).1
  simp only
  by_cases c47 : c.toNat = 47
  ·rw [if_pos c47]
   cases hn : q9L s (q3j s at_) with
   | none => exact ⟨by decide, by decide⟩
   | some p =>
    obtain ⟨b, k⟩ := p
    obtain ⟨n1, n2, n3, _⟩ := z5W hlt hn
    exact ⟨by omega, n2, Val.q9S.2 ⟨by simp only [namV, Val.s]; omega, by simp [namV, Val.l], by simp [namV, Val.f], by simp [namV, Val.l], by simp [namV, Val.f]⟩⟩
  ·rw [if_neg c47]
   by_cases c40 : c.toNat = 40
   ·rw [if_pos c40]; exact one (by omega) (z7L (by omega))
   ·rw [if_neg c40]
    by_cases hs : q8F c = true
    ·rw [if_pos hs]; exact ⟨by decide, by decide⟩
    ·rw [if_neg hs]; exact one (by omega) (z8r hsk.2)
theorem j0Z {s : List UInt8} {a n : Nat} {v : Val} (h : q8J s a = .ok v n) : a < n ∧ n ≤ s.length ∧ v.sm 1048576 = true := by
 unfold q8J at h
 split at h
 ·cases h
 ·rename_i hc
  have hg := z0E s (a : Int).toNat (by omega)
  split at h
  ·cases h
  ·rename_i x k hx
   rw [hx] at hg
   split at h
   ·cases h
    exact ⟨by have := hg.1; omega, hg.2.1, Val.z3B (by omega) v hg.2.2⟩
   ·cases h
theorem z8m {s : List UInt8} {k : Int} {e : Nat} (h : q8J s k = .bad e) : 1 ≤ e := by
 unfold q8J at h
 split at h
 ·cases h; decide
 ·rename_i hc
  have hg := z0E s k.toNat (by omega)
  split at h
  ·rename_i e' hx
   cases h
   rw [hx] at hg
   exact hg.1
  ·split at h
   ·cases h
   ·rename_i hf; cases h; omega
theorem j1G (s : List UInt8) (hs : s.length ≤ 60000) (hno : Flt s) (k : Nat) (hk : k ≤ s.length) : q7z Tryz.prog 62 [.ptr (.x 0) 0, .d (.int .i64 1)] [robj s k 0] (z2v s (fltF s k)) := by
 generalize hR : fltF s k = R
 unfold fltF at hR
 have hsk := q4h hk
 have hnx := j5o s k hs hk
 generalize q3j s k = q at *
 rw [q1K] at hnx ⊢
 refine q5f.q2b (by kernel_rfl) rfl ?_
 simp (maxSteps := 2000000) only [go_sem, ↓reduceIte, q3D, q3E]
 refine q0b.mc1 (.x 0) rfl (hnx) rfl rfl rfl rfl ⟨rfl, rfl⟩ ?_
 cases hc : s[q]? with
 | none =>
  rw [hc] at hR
  have fb := q4P (s := s) zeroV (q : Int) hR.symm
  rw [z3H, z7b] at fb
  simp only
  rw [z7b]
  simp (maxSteps := 2000000) only [go_sem, ↓reduceIte]
  exact fb
 | some c =>
  have hc8 := q4e c
  have hlt : q < s.length := (List.getElem?_eq_some_iff.1 hc).1
  obtain ⟨no60, no91⟩ := hno c (List.mem_of_getElem? hc)
  rw [hc] at hR
  simp only at hR
  simp only
  rw [q1K]
  simp (maxSteps := 2000000) only [go_sem, ↓reduceIte]
  refine ⟨fun h47 => ?_, fun h47 => ⟨fun h40 => ?_, fun h40 => ?_⟩⟩
  ·rw [if_pos (by omega)] at hR
   have hnm := z90 s q hs hlt
   rw [q1K] at hnm
   refine q0b.mp1 (.x 0) rfl (hnm) rfl rfl rfl rfl (fun r hs' hr => ?_)
   cases hn : q9L s q with
   | none =>
    rw [hn] at hR hr
    obtain ⟨b, k2, rfl, rfl⟩ := hr
    refine ⟨⟨rfl, rfl⟩, ?_⟩
    have fb := q4P (s := s) (namV b) k2 hR.symm
    rw [namV, kmk, z7a] at fb
    rw [z7a]
    simp (maxSteps := 2000000) only [go_sem, ↓reduceIte]
    exact fb
   | some p =>
    obtain ⟨b, kn⟩ := p
    rw [hn] at hR hr
    obtain ⟨rfl, rfl⟩ := hr
    refine ⟨⟨rfl, rfl⟩, ?_⟩
    have fb := z1c (s := s) hR.symm
    rw [namV, kmk, q1K] at fb
    rw [q1K]
    simp (maxSteps := 2000000) only [go_sem, ↓reduceIte]
    exact fb
  ·rw [if_neg (by omega), if_pos (by omega)] at hR
   have hl := z9P s q hs hlt
   rw [q1K] at hl
   unfold j1Y at hR
   refine q0b.mp1 (.x 0) rfl (hl) rfl rfl rfl rfl (fun r hs' hr => ?_)
   cases hx : litF 0 1 (s.drop (q + 1)) [] (q + 1) with
   | none =>
    rw [hx] at hR hr
    obtain ⟨k2, rfl, rfl⟩ := hr
    refine ⟨⟨rfl, rfl⟩, ?_⟩
    have fb := q4P (s := s) (strV []) k2 hR.symm
    have hst := j5H s k2 [] (n := 5) (by decide)
    rw [strV, kmk, z7b] at fb hst
    rw [z7b]
    simp (maxSteps := 2000000) only [go_sem, ↓reduceIte]
    refine q0b.mc1 (.x 0) rfl (hst) rfl rfl rfl rfl ⟨rfl, rfl⟩ ?_
    simp (maxSteps := 2000000) only [go_sem, ↓reduceIte]
    exact fb
   | some p =>
    obtain ⟨b, kn⟩ := p
    rw [hx] at hR hr
    obtain ⟨rfl, rfl⟩ := hr
    refine ⟨⟨rfl, rfl⟩, ?_⟩
    simp only at hR
    have hst := j6c s (kn : Int) b
    rw [strV, kmk, q1K] at hst
    rw [q1K]
    simp (maxSteps := 2000000) only [go_sem, ↓reduceIte]
    refine q0b.mc1 (.x 0) rfl (hst) rfl rfl rfl rfl ⟨rfl, rfl⟩ ?_
    by_cases hb : b.length ≤ 200
    ·rw [if_pos hb] at hR ⊢
     have fb := z1c (s := s) hR.symm
     rw [strV, kmk, q1K] at fb
     rw [q1K]
     simp (maxSteps := 2000000) only [go_sem, ↓reduceIte]
     exact fb
    ·rw [if_neg hb] at hR ⊢
     have fb := q4P (s := s) (strV b) (kn : Int) hR.symm
     rw [strV, kmk, j3n] at fb
     rw [j3n]
     simp (maxSteps := 2000000) only [go_sem, ↓reduceIte]
     exact fb
  ·rw [if_neg (by omega), if_neg (by omega)] at hR
   have het := j4Z s q [60, 60] hs (by omega) (by simp)
   have e60 : ¬ c = 60 := fun e => no60 (by rw [e]; rfl)
   have e91 : ¬ c = 91 := fun e => no91 (by rw [e]; rfl)
   rw [z7H hc, decide_eq_false e60, Bool.false_and, if_neg (by decide), q1K] at het
   have het2 := j4Z s q [91] hs (by omega) (by simp)
   rw [z7G hc, decide_eq_false e91, if_neg (by decide), q1K] at het2
   refine q0b.mc1 (.x 0) rfl (het) rfl rfl rfl rfl ⟨rfl, rfl⟩ ?_
   simp (maxSteps := 2000000) only [go_sem, ↓reduceIte]
   refine ⟨fun h60 => absurd h60 (by omega), fun h60 => ?_⟩
   refine q0b.mc1 (.x 0) rfl (het2) rfl rfl rfl rfl ⟨rfl, rfl⟩ ?_
   simp (maxSteps := 2000000) only [go_sem, ↓reduceIte]
   refine q0k.of (z4Z c) ?_
   simp (maxSteps := 2000000) only [go_sem, ↓reduceIte]
   refine ⟨fun hs1 => ?_, fun hs1 => ?_⟩
   ·rw [if_pos hs1] at hR
    have hf := z0B s (q : Int) 4
    have fb := q4P (s := s) zeroV (q : Int) hR.symm
    rw [z3H, z7a] at fb
    rw [q1K, z7a, j2A.2.2.1] at hf
    refine q0b.mc1 (.x 0) rfl (hf) rfl rfl rfl rfl ⟨rfl, rfl⟩ ?_
    simp (maxSteps := 2000000) only [go_sem, ↓reduceIte]
    exact fb
   ·rw [if_neg (by simp [hs1])] at hR
    have hwv := z8q s q hs (by omega)
    rw [hR, q1K] at hwv
    refine q0b.mp1 (.x 0) rfl (hwv) rfl rfl rfl rfl (fun r hs' hr => ?_)
    obtain ⟨v, k2, e, rfl, rfl⟩ := z71 hr
    refine ⟨⟨rfl, rfl⟩, ?_⟩
    simp (maxSteps := 2000000) only [go_sem, ↓reduceIte]
    exact hr
theorem z5x (s : List UInt8) (k : Int) (hs : s.length ≤ 1000000000) (hno : Flt s) : q0u Tryz.prog 38 [.str s, .int .i64 k] (fun r => r = topP (q8J s k)) := by
 refine q92.call rfl ?_
 generalize hR : q8J s k = R
 unfold q8J at hR
 simp (maxSteps := 2000000) only [go_sem, ↓reduceIte, q7X, q72]
 have bad : ∀ (e : Nat), R = .bad e → Res.tup [.agg [.int .i64 0, .int .i64 0, .str [], .list [], .list []], .int .i64 0, errD e] = topP R := fun e he => by
  rw [he, topP, z3H]
 have b1 := bad 1
 rw [q3n (by decide)] at b1
 refine ⟨fun h1 => ⟨fun h2 => ⟨fun h3 => ?_, fun h3 => ?_⟩, fun h2 => ?_⟩, fun h1 => ?_⟩
 ·rw [if_pos (by omega)] at hR; exact b1 hR.symm
 ·rw [if_neg (by omega)] at hR
  obtain ⟨q, rfl⟩ : ∃ q : Nat, k = q := ⟨k.toNat, by omega⟩
  rw [Int.toNat_natCast] at hR
  have hc := j1G s (by omega) hno q (by omega)
  have hg := z0E s q (by omega)
  rw [q1K] at hc
  refine q0b.mp1 (.l 27) rfl (hc) rfl rfl rfl rfl (fun r hs' hr => ?_)
  cases hx : fltF s q with
  | bad e =>
   rw [hx] at hR hr hg
   obtain ⟨v, k2, rfl, rfl⟩ := hr
   refine ⟨⟨rfl, rfl⟩, ?_⟩
   have he : e ≠ 0 := by obtain ⟨g1, _⟩ := hg; omega
   rw [z1f s k2 he, Val.d_eq v]
   have b2 := bad e hR.symm
   rw [q3n he] at b2
   simp (maxSteps := 2000000) only [go_sem, ↓reduceIte]
   exact b2
  | ok v n =>
   rw [hx] at hR hr hg
   obtain ⟨rfl, rfl⟩ := hr
   refine ⟨⟨rfl, rfl⟩, ?_⟩
   simp only at hR
   obtain ⟨g1, g2, g3⟩ := hg
   have hf := z5g v (Val.z3B (by omega) v g3)
   have hfl := z0B s (n : Int) (z0C v)
   rw [q1K] at hfl ⊢
   rw [Val.d_eq v] at hf ⊢
   simp (maxSteps := 2000000) only [go_sem, ↓reduceIte]
   refine q0k.of hf ?_
   simp (maxSteps := 2000000) only [go_sem, ↓reduceIte]
   refine q0b.mc1 (.l 27) rfl (hfl) rfl rfl rfl rfl ⟨rfl, rfl⟩ ?_
   by_cases f0 : z0C v = 0
   ·rw [if_pos f0] at hR
    rw [f0, q1K]
    simp (maxSteps := 2000000) only [go_sem, ↓reduceIte]
    rw [← hR, topP, Val.d_eq]
   ·rw [if_neg f0] at hR
    have b2 := bad _ hR.symm
    rw [q3n f0] at b2
    rw [z1f s n f0]
    simp (maxSteps := 2000000) only [go_sem, ↓reduceIte]
    exact b2
 ·rw [if_pos (by omega)] at hR; exact b1 hR.symm
 ·rw [if_pos (by omega)] at hR; exact b1 hR.symm
def opCh (first : Bool) (c : UInt8) : Bool :=
 (decide (97 ≤ c.toNat) && decide (c.toNat ≤ 122)) || ((decide (65 ≤ c.toNat) && decide (c.toNat ≤ 90)) || (decide (c.toNat = 42) || (decide (c.toNat = 39) || (decide (c.toNat = 34) || (!first && (decide (48 ≤ c.toNat) && decide (c.toNat ≤ 57)))))))
def opL : List UInt8 → Bool → Bool
 | [], _ => true
 | c :: r, b => opCh b c && opL r false
def z7U (w : List UInt8) : Bool := decide (w ≠ []) && (decide (w.length ≤ 8) && (decide (w ≠ [116, 114, 117, 101]) && (decide (w ≠ [102, 97, 108, 115, 101]) && (decide (w ≠ [110, 117, 108, 108]) && opL w true))))
def q7j : q0j :=
 .seq (.reg [Qx 2 KF]) (.seq (.seq (.reg [Qc 5 0, Q 6 (.bin .eql (.t 5) (.k (.d (.str [])))), Qc 7 6, Qd 8 0 7 false, Qg 9 (.len true (.t 8)) 7 false, Qg 10 (.bin .gtr (.t 9) (Ki 
 8)) 7 false, Q 11 (.pick (.t 7) KT (.t 10)), Qc 12 11, Qd 13 0 12 false, Qg 14 (.bin .eql (.t 13) (.k (.d (.str [116, 114, 117, 101])))) 12 false, Q 15 (.pick (.t 12) KT (.t 
 14)), Qc 16 15, Qd 17 0 16 false, Qg 18 (.bin .eql (.t 17) (.k (.d (.str [102, 97, 108, 115, 101])))) 16 false, Q 19 (.pick (.t 16) KT (.t 18)), Qc 20 19, Qd 21 0 20 false, Qg 22 
 (.bin .eql (.t 21) (.k (.d (.str [110, 117, 108, 108])))) 20 false, Q 23 (.pick (.t 20) KT (.t 22))]) (.cond (.t 23) (.seq (.reg [Qx 2 KF]) .ret) .skip)) (.seq (.seq (.reg [Qc 24 
 0, Q 25 (.len true (.t 24)), Q 26 (.cp (Ki 0))]) (.block 0 (.loop (.seq (.reg [Q 27 (.bin .lss (.t 26) (.t 25))]) (.seq (.cond (.t 27) .skip (.exit 0)) (.seq (.block 1 (.seq 
 (.reg [Qc 28 26, Qa 3 28]) (.seq (.reg [Qc 29 0, Qc 30 3, Q 31 (.idxS (.t 29) (.t 30)), Qa 4 31]) (.seq (.reg [Qc 32 4, Q 33 (.bin .lss (.t 32) (Kb 97)), Qc 34 33, Qd 35 4 34 
 false, Qg 36 (.bin .gtr (.t 35) (Kb 122)) 34 false, Q 37 (.pick (.t 34) KT (.t 36)), Qc 38 37, Qd 39 4 38 true, Qg 40 (.bin .lss (.t 39) (Kb 65)) 38 true, Qd 41 40 38 true, Qd 42 
 4 41 false, Qg 43 (.bin .gtr (.t 42) (Kb 90)) 41 false, Qg 44 (.pick (.t 41) KT (.t 43)) 38 true, Q 45 (.pick (.t 38) (.t 44) KF), Qc 46 45, Qd 47 4 46 true, Qg 48 (.bin .neq (.t 
 47) (Kb 42)) 46 true, Q 49 (.pick (.t 46) (.t 48) KF), Qc 50 49, Qd 51 4 50 true, Qg 52 (.bin .neq (.t 51) (Kb 39)) 50 true, Q 53 (.pick (.t 50) (.t 52) KF), Qc 54 53, Qd 55 4 54 
 true, Qg 56 (.bin .neq (.t 55) (Kb 34)) 54 true, Q 57 (.pick (.t 54) (.t 56) KF), Qc 58 57, Qd 59 3 58 true, Qg 60 (.bin .eql (.t 59) (Ki 0)) 58 true, Qd 61 60 58 true, Qd 62 4 
 61 false, Qg 63 (.bin .lss (.t 62) (Kb 48)) 61 false, Qg 64 (.pick (.t 61) KT (.t 63)) 58 true, Qd 65 64 58 true, Qd 66 4 65 false, Qg 67 (.bin .gtr (.t 66) (Kb 57)) 65 false, Qg 
 68 (.pick (.t 65) KT (.t 67)) 58 true, Q 69 (.pick (.t 58) (.t 68) KF)]) (.cond (.t 69) (.seq (.reg [Qx 2 KF]) .ret) .skip))))) (.reg [Q 70 (.bin .add (.t 26) (Ki 1)), Qc 26 
 70]))))))) (.seq (.reg [Qx 2 KT]) .ret)))
def q7m : List LRes := [.tmp 2]
theorem q82 : q0t Tryz.prog 37 71 q7j q7m := ⟨_, _, Tryz.func37, rfl, by kernel_rfl, by kernel_rfl, rfl⟩
theorem z3i (w : List UInt8) : q0u Tryz.prog 37 [.str w] (fun r => r = .one (.bool (z7U w))) := by
 generalize hR : z7U w = R
 unfold z7U at hR
 refine q82.call rfl ?_
 simp (maxSteps := 2000000) only [go_sem, ↓reduceIte, q7j, q7m]
 have no : ∀ {x : Bool}, x = R → x = false → Res.one (D.bool false) = Res.one (D.bool R) := fun h1 h2 => by rw [← h1, h2]
 refine ⟨fun h1 => ⟨fun h2 => ⟨fun h3 => ⟨fun h4 => ⟨fun h5 => ?_, fun h5 => ?_⟩, fun h4 => ?_⟩, fun h3 => ?_⟩, fun h2 => ?_⟩, fun h1 => ?_⟩
 ·exact no hR (by simp [h5])
 rotate_left
 ·exact no hR (by simp [h4])
 ·exact no hR (by simp [h3])
 ·exact no hR (by simp; omega)
 ·exact no hR (by simp [h1])
 ·skip
  have hR' : opL w true = R := by
   rw [← hR]; simp [h1, h3, h4, h5]; omega
  refine q0s (fun i : Nat => ⟨[(0, .d (.str w)), (25, .d (.int .i64 w.length)), (26, .d (.int .i64 i))], [], []⟩)
   (fun i => i ≤ w.length ∧ opL (w.drop i) (decide (i = 0)) = R) (fun i => w.length - i) 0 ?_ ?_ ?_
  ·refine q0e ?_ trivial
   simp (maxSteps := 2000000) only [go_sem, ↓reduceIte, Sub, Int.natCast_add, Int.natCast_mul]
  ·exact ⟨by omega, hR'⟩
  ·intro i ⟨hi, hg⟩
   simp (maxSteps := 2000000) only [go_sem, ↓reduceIte]
   refine ⟨fun q1 => ?_, fun q1 => ?_⟩
   ·obtain ⟨c, hc⟩ := get_some (l := w) (i := i) (by omega)
    have hc8 := q4e c
    rw [q1J hc, opL] at hg
    by_cases k0 : 97 ≤ c.toNat ∧ c.toNat ≤ 122
    ·have ho : opCh (decide (i = 0)) c = true := by unfold opCh; simp; omega
     rw [ho, Bool.true_and] at hg
     have l97 : ((c.toNat : Int) < 97) = False := eq_false (by omega)
     have g122 : (122 < (c.toNat : Int)) = False := eq_false (by omega)
     simp (maxSteps := 2000000) (disch := omega) only [go_sem, ↓reduceIte, q0c, hc, l97, g122]
     refine ⟨i + 1, ?_, ⟨by omega, by simpa using hg⟩, by omega⟩
     refine q0e ?_ trivial
     simp (maxSteps := 2000000) only [go_sem, ↓reduceIte, Sub, Int.natCast_add, Int.natCast_mul]
    by_cases k1 : 65 ≤ c.toNat ∧ c.toNat ≤ 90
    ·have ho : opCh (decide (i = 0)) c = true := by unfold opCh; simp; omega
     rw [ho, Bool.true_and] at hg
     have l97 : ((c.toNat : Int) < 97) = True := eq_true (by omega)
     have l65 : ((c.toNat : Int) < 65) = False := eq_false (by omega)
     have g90 : (90 < (c.toNat : Int)) = False := eq_false (by omega)
     simp (maxSteps := 2000000) (disch := omega) only [go_sem, ↓reduceIte, q0c, hc, l97, l65, g90]
     refine ⟨i + 1, ?_, ⟨by omega, by simpa using hg⟩, by omega⟩
     refine q0e ?_ trivial
     simp (maxSteps := 2000000) only [go_sem, ↓reduceIte, Sub, Int.natCast_add, Int.natCast_mul]
    by_cases k2 : c.toNat = 42
    ·have ho : opCh (decide (i = 0)) c = true := by unfold opCh; simp; omega
     rw [ho, Bool.true_and] at hg
     have l97 : ((c.toNat : Int) < 97) = True := eq_true (by omega)
     have l65 : ((c.toNat : Int) < 65) = True := eq_true (by omega)
     have e42 : ((c.toNat : Int) = 42) = True := eq_true (by omega)
     simp (maxSteps := 2000000) (disch := omega) only [go_sem, ↓reduceIte, q0c, hc, l97, l65, e42]
     refine ⟨i + 1, ?_, ⟨by omega, by simpa using hg⟩, by omega⟩
     refine q0e ?_ trivial
     simp (maxSteps := 2000000) only [go_sem, ↓reduceIte, Sub, Int.natCast_add, Int.natCast_mul]
    by_cases k3 : c.toNat = 39
    ·have ho : opCh (decide (i = 0)) c = true := by unfold opCh; simp; omega
     rw [ho, Bool.true_and] at hg
     have l97 : ((c.toNat : Int) < 97) = True := eq_true (by omega)
     have l65 : ((c.toNat : Int) < 65) = True := eq_true (by omega)
     have e42 : ((c.toNat : Int) = 42) = False := eq_false (by omega)
     have e39 : ((c.toNat : Int) = 39) = True := eq_true (by omega)
     simp (maxSteps := 2000000) (disch := omega) only [go_sem, ↓reduceIte, q0c, hc, l97, l65, e42, e39]
     refine ⟨i + 1, ?_, ⟨by omega, by simpa using hg⟩, by omega⟩
     refine q0e ?_ trivial
     simp (maxSteps := 2000000) only [go_sem, ↓reduceIte, Sub, Int.natCast_add, Int.natCast_mul]
    by_cases k4 : c.toNat = 34
    ·have ho : opCh (decide (i = 0)) c = true := by unfold opCh; simp; omega
     rw [ho, Bool.true_and] at hg
     have l97 : ((c.toNat : Int) < 97) = True := eq_true (by omega)
     have l65 : ((c.toNat : Int) < 65) = True := eq_true (by omega)
     have e42 : ((c.toNat : Int) = 42) = False := eq_false (by omega)
     have e39 : ((c.toNat : Int) = 39) = False := eq_false (by omega)
     have e34 : ((c.toNat : Int) = 34) = True := eq_true (by omega)
     simp (maxSteps := 2000000) (disch := omega) only [go_sem, ↓reduceIte, q0c, hc, l97, l65, e42, e39, e34]
     refine ⟨i + 1, ?_, ⟨by omega, by simpa using hg⟩, by omega⟩
     refine q0e ?_ trivial
     simp (maxSteps := 2000000) only [go_sem, ↓reduceIte, Sub, Int.natCast_add, Int.natCast_mul]
    by_cases ki : i = 0
    ·subst ki
     have ho : opCh (decide ((0 : Nat) = 0)) c = false := by unfold opCh; simp; omega
     rw [ho, Bool.false_and] at hg
     rw [← hg]
     have i0 : getI w 0 = some c := by rw [show (0 : Int) = ((0 : Nat) : Int) from rfl, q0c, hc]
     by_cases r0 : c.toNat < 65
     ·have l97 : ((c.toNat : Int) < 97) = True := eq_true (by omega)
      have l65 : ((c.toNat : Int) < 65) = True := eq_true (by omega)
      have e42 : ((c.toNat : Int) = 42) = False := eq_false (by omega)
      have e39 : ((c.toNat : Int) = 39) = False := eq_false (by omega)
      have e34 : ((c.toNat : Int) = 34) = False := eq_false (by omega)
      simp (maxSteps := 2000000) (disch := omega) only [go_sem, ↓reduceIte, q0c, hc, i0, l97, l65, e42, e39, e34]
     by_cases r1 : c.toNat < 97
     ·have l97 : ((c.toNat : Int) < 97) = True := eq_true (by omega)
      have l65 : ((c.toNat : Int) < 65) = False := eq_false (by omega)
      have g90 : (90 < (c.toNat : Int)) = True := eq_true (by omega)
      have e42 : ((c.toNat : Int) = 42) = False := eq_false (by omega)
      have e39 : ((c.toNat : Int) = 39) = False := eq_false (by omega)
      have e34 : ((c.toNat : Int) = 34) = False := eq_false (by omega)
      simp (maxSteps := 2000000) (disch := omega) only [go_sem, ↓reduceIte, q0c, hc, i0, l97, l65, g90, e42, e39, e34]
     have l97 : ((c.toNat : Int) < 97) = False := eq_false (by omega)
     have g122 : (122 < (c.toNat : Int)) = True := eq_true (by omega)
     have l65 : ((c.toNat : Int) < 65) = False := eq_false (by omega)
     have g90 : (90 < (c.toNat : Int)) = True := eq_true (by omega)
     have e42 : ((c.toNat : Int) = 42) = False := eq_false (by omega)
     have e39 : ((c.toNat : Int) = 39) = False := eq_false (by omega)
     have e34 : ((c.toNat : Int) = 34) = False := eq_false (by omega)
     simp (maxSteps := 2000000) (disch := omega) only [go_sem, ↓reduceIte, q0c, hc, i0, l97, g122, l65, g90, e42, e39, e34]
    ·have i0 : ((i : Int) = 0) = False := eq_false (by omega)
     by_cases kd : 48 ≤ c.toNat ∧ c.toNat ≤ 57
     ·have ho : opCh (decide (i = 0)) c = true := by unfold opCh; simp [ki]; omega
      rw [ho, Bool.true_and] at hg
      have l97 : ((c.toNat : Int) < 97) = True := eq_true (by omega)
      have l65 : ((c.toNat : Int) < 65) = True := eq_true (by omega)
      have l48 : ((c.toNat : Int) < 48) = False := eq_false (by omega)
      have g57 : (57 < (c.toNat : Int)) = False := eq_false (by omega)
      have e42 : ((c.toNat : Int) = 42) = False := eq_false (by omega)
      have e39 : ((c.toNat : Int) = 39) = False := eq_false (by omega)
      have e34 : ((c.toNat : Int) = 34) = False := eq_false (by omega)
      simp (maxSteps := 2000000) (disch := omega) only [go_sem, ↓reduceIte, q0c, hc, i0, l97, l65, l48, g57, e42, e39, e34]
      refine ⟨i + 1, ?_, ⟨by omega, by simpa using hg⟩, by omega⟩
      refine q0e ?_ trivial
      simp (maxSteps := 2000000) only [go_sem, ↓reduceIte, Sub, Int.natCast_add, Int.natCast_mul]
     ·have ho : opCh (decide (i = 0)) c = false := by unfold opCh; simp [ki]; omega
      rw [ho, Bool.false_and] at hg
      rw [← hg]
      by_cases r0 : c.toNat < 65
      ·have l97 : ((c.toNat : Int) < 97) = True := eq_true (by omega)
       have l65 : ((c.toNat : Int) < 65) = True := eq_true (by omega)
       have e42 : ((c.toNat : Int) = 42) = False := eq_false (by omega)
       have e39 : ((c.toNat : Int) = 39) = False := eq_false (by omega)
       have e34 : ((c.toNat : Int) = 34) = False := eq_false (by omega)
       by_cases r48 : c.toNat < 48
       ·have l48 : ((c.toNat : Int) < 48) = True := eq_true (by omega)
        simp (maxSteps := 2000000) (disch := omega) only [go_sem, ↓reduceIte, q0c, hc, i0, l97, l65, e42, e39, e34, l48]
       ·have l48 : ((c.toNat : Int) < 48) = False := eq_false (by omega)
        have g57 : (57 < (c.toNat : Int)) = True := eq_true (by omega)
        simp (maxSteps := 2000000) (disch := omega) only [go_sem, ↓reduceIte, q0c, hc, i0, l97, l65, e42, e39, e34, l48, g57]
      by_cases r1 : c.toNat < 97
      ·have l97 : ((c.toNat : Int) < 97) = True := eq_true (by omega)
       have l65 : ((c.toNat : Int) < 65) = False := eq_false (by omega)
       have g90 : (90 < (c.toNat : Int)) = True := eq_true (by omega)
       have e42 : ((c.toNat : Int) = 42) = False := eq_false (by omega)
       have e39 : ((c.toNat : Int) = 39) = False := eq_false (by omega)
       have e34 : ((c.toNat : Int) = 34) = False := eq_false (by omega)
       have l48 : ((c.toNat : Int) < 48) = False := eq_false (by omega)
       have g57 : (57 < (c.toNat : Int)) = True := eq_true (by omega)
       simp (maxSteps := 2000000) (disch := omega) only [go_sem, ↓reduceIte, q0c, hc, i0, l97, l65, g90, e42, e39, e34, l48, g57]
      have l97 : ((c.toNat : Int) < 97) = False := eq_false (by omega)
      have g122 : (122 < (c.toNat : Int)) = True := eq_true (by omega)
      have l65 : ((c.toNat : Int) < 65) = False := eq_false (by omega)
      have g90 : (90 < (c.toNat : Int)) = True := eq_true (by omega)
      have e42 : ((c.toNat : Int) = 42) = False := eq_false (by omega)
      have e39 : ((c.toNat : Int) = 39) = False := eq_false (by omega)
      have e34 : ((c.toNat : Int) = 34) = False := eq_false (by omega)
      have l48 : ((c.toNat : Int) < 48) = False := eq_false (by omega)
      have g57 : (57 < (c.toNat : Int)) = True := eq_true (by omega)
      simp (maxSteps := 2000000) (disch := omega) only [go_sem, ↓reduceIte, q0c, hc, i0, l97, g122, l65, g90, e42, e39, e34, l48, g57]
   ·rw [List.drop_eq_nil_of_le (by omega), opL] at hg
    rw [← hg]
structure OpX where
 nm : List UInt8
 args : List Val
def OpX.d (o : OpX) : D := .agg [.str o.nm, .list (q05 o.args)]
def opxD (l : List OpX) : List D := l.map OpX.d
theorem z55 (l : List OpX) : (opxD l).length = l.length := by simp [opxD]
theorem j0l (l : List OpX) (o : OpX) : opxD (l ++ [o]) = opxD l ++ [.agg [.str o.nm, .list (q05 o.args)]] := by simp [opxD, OpX.d]
theorem z8l (l : List Val) (v : Val) : q05 (l ++ [v]) = q05 l ++ [v.d] := by simp [z0b]
inductive RO where
 | ok (l : List OpX)
 | bad (e : Nat)
def j0C : RO → Res
 | .ok l => .tup [.list (opxD l), .nil]
 | .bad e => .tup [.list [], errD e]
theorem j0i {w : List UInt8} (h : z7U w = true) : 1 ≤ w.length ∧ w.length ≤ 8 := by
 unfold z7U at h
 simp only [Bool.and_eq_true, decide_eq_true_eq] at h
 exact ⟨by have := List.length_pos_iff.2 h.1; omega, h.2.1⟩
def z0g : q0j :=
 .seq (.reg [⟨some 2, .nils 31 2, none⟩, Qx 3 (.k (.d .nil))]) (.seq (.seq (.reg [Qc 11 0, Q 12 (.len true (.t 11)), Q 13 (.bin .gtr (.t 12) (Ki 20000))]) (.cond (.t 13) (.seq (.reg 
 [Q 14 (.mkI 76 (Ki 2)), ⟨some 2, .nils 31 2, none⟩, Qa 3 14]) .ret) .skip)) (.seq (.reg [⟨some 4, .nils 31 2, none⟩]) (.seq (.reg [⟨some 5, .nils 35 5, none⟩]) (.seq (.seq (.reg 
 [Qc 15 0, ⟨some 16, .call 35 [.t 15, .k (.d (.int .i64 0))], none⟩, Qa 6 16]) (.block 0 (.loop (.seq (.seq (.reg [Qc 17 6, Qc 18 0, Q 19 (.len true (.t 18)), Q 20 (.bin .lss (.t 
 17) (.t 19))]) (.cond (.t 20) .skip (.exit 0))) (.seq (.block 1 (.seq (.reg [Qc 24 0, Qc 25 6, ⟨some 26, .call 36 [.t 24, .t 25], none⟩, Qa 7 26]) (.seq (.seq (.reg [Qc 27 7, 
 ⟨some 28, .call 37 [.t 27], none⟩]) (.cond (.t 28) (.seq (.seq (.reg [Qc 29 4, Q 30 (.len false (.t 29)), Q 31 (.bin .eql (.t 30) (Ki 2000))]) (.cond (.t 31) (.seq (.reg [Q 32 
 (.mkI 76 (Ki 2)), ⟨some 2, .nils 31 2, none⟩, Qa 3 32]) .ret) .skip)) (.seq (.reg [Qc 33 4, Qc 34 7, Qc 35 5, Q 36 (.bld [(0, 1), (1, 1)] [.str [], .list []] [] [(0, .t 34), (1, 
 .t 35)]), ⟨some 37, .bsl 31 2 [.t 36], none⟩, ⟨some 38, .app 31 2 40 false (.t 33) (.t 37), none⟩, Qa 4 38]) (.seq (.reg [⟨some 5, .nils 35 5, none⟩]) (.seq (.reg [Qc 39 6, Qc 40 
 7, Q 41 (.len true (.t 40)), Q 42 (.bin .add (.t 39) (.t 41)), Qa 6 42]) (.exit 1))))) .skip)) (.seq (.reg [Qc 44 0, Qc 45 6, ⟨some 46, .call 38 [.t 44, .t 45], none⟩, Qc 43 46, 
 Q 47 (.ext 0 (.t 43)), Q 48 (.ext 1 (.t 43)), Q 49 (.ext 2 (.t 43)), ⟨some 8, .allo [.int .i64 0, .int .i64 0, .str [], .list [], .list []], none⟩, ⟨none, .st 5 (.t 8) (.t 47), 
 none⟩, Qa 9 48, Qa 10 49]) (.seq (.seq (.reg [Qc 50 10, Q 51 (.eqN 0 true (.t 50))]) (.cond (.t 51) (.seq (.reg [Qc 52 10, ⟨some 2, .nils 31 2, none⟩, Qa 3 52]) .ret) .skip)) 
 (.seq (.seq (.reg [Qc 53 5, Q 54 (.len false (.t 53)), Q 55 (.bin .eql (.t 54) (Ki 8))]) (.cond (.t 55) (.seq (.reg [Q 56 (.mkI 76 (Ki 10)), ⟨some 2, .nils 31 2, none⟩, Qa 3 56]) 
 .ret) .skip)) (.seq (.reg [Qc 57 5, Q 58 (.ld true 5 (.t 8)), ⟨some 59, .bsl 35 5 [.t 58], none⟩, ⟨some 60, .app 35 5 80 false (.t 57) (.t 59), none⟩, Qa 5 60]) (.reg [Qc 61 9, 
 Qa 6 61])))))))) (.reg [Qc 21 0, Qc 22 6, ⟨some 23, .call 35 [.t 21, .t 22], none⟩, Qa 6 23])))))) (.seq (.seq (.reg [Qc 62 5, Q 63 (.len false (.t 62)), Q 64 (.bin .gtr (.t 63) 
 (Ki 0))]) (.cond (.t 64) (.seq (.reg [Q 65 (.mkI 76 (Ki 5)), ⟨some 2, .nils 31 2, none⟩, Qa 3 65]) .ret) .skip)) (.seq (.reg [Qc 66 4, Qa 2 66, Qx 3 (.k (.d .nil))]) .ret))))))
def z0n : List LRes := [.tmp 2, .tmp 3]
theorem z1O : q0t Tryz.prog 24 67 z0g z0n := ⟨_, _, Tryz.func24, rfl, by kernel_rfl, by kernel_rfl, rfl⟩
def opqF (s : List UInt8) : Nat → List OpX → List Val → Nat → RO
 | 0, _, _, _ => .bad 0
 | m + 1, l, args, at_ =>
  if s.length ≤ at_ then (if args = [] then .ok l else .bad 5)
  else if z7U (q2r s at_) = true then (if l.length = 2000 then .bad 2 else opqF s m (l ++ [⟨q2r s at_, args⟩]) [] (q3j s (at_ + (q2r s at_).length)))
  else match q8J s at_ with
   | .bad e => .bad e
   | .ok v k => if args.length = 8 then .bad 10 else opqF s m l (args ++ [v]) (q3j s k)
def opqP (s : List UInt8) : RO := if 20000 < s.length then .bad 2 else opqF s (s.length + 1) [] [] (q3j s 0)
theorem z3j (s : List UInt8) (hs : s.length ≤ 1000000000) (hno : Flt s) : q0u Tryz.prog 24 [.str s] (fun r => r = j0C (opqP s)) := by
 generalize hR : opqP s = R
 unfold opqP at hR
 have bad : ∀ (e : Nat), R = .bad e → e ≠ 0 → Res.tup [.list [], .iface 76 (.int .i64 e)] = j0C R := fun e he h0 => by rw [he, j0C, q3n h0]
 refine z1O.call rfl ?_
 simp (maxSteps := 2000000) only [go_sem, ↓reduceIte, z0g, z0n]
 refine ⟨fun h1 => ?_, fun h1 => ?_⟩
 ·rw [if_pos (by omega)] at hR
  exact bad 2 hR.symm (by decide)
 ·have hsk := q5U s 0 hs
  have hc0 : q5l s 0 = 0 := by unfold q5l; omega
  rw [hc0] at hsk
  rw [if_neg (by omega)] at hR
  refine q0k.of hsk ?_
  simp (maxSteps := 2000000) only [go_sem, ↓reduceIte]
  refine q0s (fun y : Nat × List OpX × List Val => ⟨[(0, .d (.str s)), (4, .own (.t 4) 31 2 (opxD y.2.1)), (5, .own (.t 5) 35 5 (q05 y.2.2)), (6, .d (.int .i64 y.1))], [], []⟩)
   (fun y => y.1 ≤ s.length ∧ y.2.1.length ≤ 2000 ∧ y.2.2.length ≤ 8 ∧ (∀ v ∈ y.2.2, v.sm 1048576 = true) ∧ ∃ m, s.length - y.1 < m ∧ opqF s m y.2.1 y.2.2 y.1 = R) (fun y => s.length - y.1) (q3j s 0, [], []) ?_ ?_ ?_
  ·refine q0e ?_ trivial
   simp (maxSteps := 2000000) only [go_sem, ↓reduceIte, Sub, Int.natCast_add, Int.natCast_mul, opxD, q05, List.map_nil]
  ·have := q4h (s := s) (k := 0) (by omega)
   exact ⟨this.2, by simp, by simp, by simp, s.length + 1, by simp; omega, hR⟩
  ·rintro ⟨at_, l, args⟩ ⟨g1, g2, g3, g4, m, g5, g6⟩
   simp only at g1 g2 g3 g4 g5 g6
   obtain ⟨m, rfl⟩ : ∃ k, m = k + 1 := ⟨m - 1, by omega⟩
   rw [opqF] at g6
   have hll := z55 l
   have hal : (q05 args).length = args.length := by simp [z0b]
   have hw := q5Y s (at_ : Int) hs
   rw [q3H g1] at hw
   have hwl := q3Q s at_
   simp (maxSteps := 2000000) only [go_sem, ↓reduceIte]
   refine ⟨fun q1 => ?_, fun q1 => ?_⟩
   ·rw [if_neg (by omega)] at g6
    refine q0k.of hw ?_
    simp (maxSteps := 2000000) only [go_sem, ↓reduceIte]
    refine q0k.of (z3i _) ?_
    simp (maxSteps := 2000000) (disch := omega) only [go_sem, ↓reduceIte]
    refine ⟨fun q2 => ⟨fun q3 => ?_, fun q3 => ⟨⟨by omega, by omega⟩, ?_⟩⟩, fun q2 => ?_⟩
    ·rw [if_pos q2, if_pos (by omega)] at g6
     exact bad 2 g6.symm (by decide)
    ·rw [if_pos q2, if_neg (by omega)] at g6
     have hml := j0i q2
     have hsk2 := q5U s ((at_ + (q2r s at_).length : Nat) : Int) hs
     rw [q3H (by omega), Int.natCast_add] at hsk2
     refine q0k.of hsk2 ?_
     simp (maxSteps := 2000000) only [go_sem, ↓reduceIte]
     have hle := q4h (s := s) (k := at_ + (q2r s at_).length) (by omega)
     refine ⟨(q3j s (at_ + (q2r s at_).length), l ++ [⟨q2r s at_, args⟩], []), ?_, ⟨hle.2, by simp; omega, by simp, by simp, m, by simp only; omega, g6⟩, by simp only; omega⟩
     refine q0e ?_ trivial
     simp (maxSteps := 2000000) only [go_sem, ↓reduceIte, Sub, Int.natCast_add, Int.natCast_mul, j0l, q05, List.map_nil]
    ·rw [if_neg (by simp [q2])] at g6
     have hv := z5x s (at_ : Int) hs hno
     cases hx : q8J s (at_ : Int) with
     | bad e =>
      rw [hx] at g6 hv
      have he := z8m hx
      rw [topP, z3H, q3n (by omega)] at hv
      refine q0k.of hv ?_
      simp (maxSteps := 2000000) only [go_sem, ↓reduceIte]
      exact bad e g6.symm (by omega)
     | ok v k =>
      rw [hx] at g6 hv
      obtain ⟨e1, e2, e3⟩ := j0Z hx
      rw [topP, Val.d_eq v] at hv
      refine q0k.of hv ?_
      simp (maxSteps := 2000000) (disch := omega) only [go_sem, ↓reduceIte]
      simp only at g6
      refine ⟨fun q3 => ?_, fun q3 => ⟨⟨by omega, by omega⟩, ?_⟩⟩
      ·rw [if_pos (by omega)] at g6
       exact bad 10 g6.symm (by decide)
      ·rw [if_neg (by omega)] at g6
       have hsk2 := q5U s (k : Int) hs
       rw [q3H e2] at hsk2
       refine q0k.of hsk2 ?_
       simp (maxSteps := 2000000) only [go_sem, ↓reduceIte]
       have hle := q4h e2
       refine ⟨(q3j s k, l, args ++ [v]), ?_, ⟨hle.2, g2, by simp; omega, fun x hx => by
        rcases List.mem_append.1 hx with h | h
        ·exact g4 x h
        ·simp only [List.mem_singleton] at h; subst h; exact e3, m, by simp only; omega, g6⟩, by simp only; omega⟩
       refine q0e ?_ trivial
       simp (maxSteps := 2000000) only [go_sem, ↓reduceIte, Sub, Int.natCast_add, Int.natCast_mul, z8l, Val.d_eq v]
   ·rw [if_pos (by omega)] at g6
    refine ⟨fun q2 => ?_, fun q2 => ?_⟩
    ·rw [if_neg (fun e => by subst e; simp [q05] at q2)] at g6
     exact bad 5 g6.symm (by decide)
    ·have : args = [] := List.length_eq_zero_iff.1 (by omega)
     rw [if_pos this] at g6
     rw [← g6, j0C]
end Go.Av.Tryz
set_option linter.unusedSimpArgs false
set_option maxRecDepth 100000
set_option maxHeartbeats 8000000
namespace Go.Av.Tryz
open Go.Proofs
theorem j5D : q0u Tryz.prog 24 [.str z4X] (fun r => r = .tup [opsD z2y, .nil]) := by
 have h := z3j z4X (by decide) (by unfold Flt z4X; decide)
 rw [show j0C (opqP z4X) = .tup [opsD z2y, .nil] by kernel_rfl] at h
 exact h
theorem j0N : ∀ p ∈ z7e, p.2.ok := fun p hp => by
 simp [z7e] at hp; subst hp
 exact ⟨fun s h => by simp at h, by simp, fun p h => by simp at h⟩
theorem j0O : ∀ o ∈ z2y, o.ok := fun o ho => by
 simp [z2y] at ho
 rcases ho with rfl | rfl | rfl | rfl
 ·exact ⟨by simp, fun v h => by simp at h⟩
 ·refine ⟨by simp, fun v h => ?_⟩
  simp at h
  rcases h with rfl | rfl
  ·exact ⟨by simp [namW, Val.s], fun h => by simp [namW, Val.kind] at h, by simp [namW, Val.l], fun w h => by simp [namW, Val.l] at h⟩
  ·exact ⟨by simp [numW, Val.s], fun _ => by simp only [numW, Val.n]; decide, by simp [numW, Val.l], fun w h => by simp [numW, Val.l] at h⟩
 ·refine ⟨by simp, fun v h => ?_⟩
  simp at h; subst h
  exact ⟨by simp [strW, Val.s], fun h => by simp [strW, Val.kind] at h, by simp [strW, Val.l], fun w h => by simp [strW, Val.l] at h⟩
 ·exact ⟨by simp, fun v h => by simp at h⟩
def z5C : Res → Bool
 | .tup [.list [_], .nil] => true
 | _ => false
theorem z5D {r : Res} (h : z5C r = true) : ∃ g, r = .tup [.list [g], .nil] := by
 unfold z5C at h
 split at h
 ·exact ⟨_, rfl⟩
 ·cases h
theorem j5E : z5C (q89 z7e z2y) = true := by kernel_rfl
theorem Gh.frzM {σ : St} {a : Nat} {ks vs : List D} (ho : aget σ.L a = some (.mobj ks vs)) : Gh σ ⟨amap (AV.frzM a ks vs) σ.ρ, [], σ.H⟩ := fun E n G ts w h => ⟨_, h.frzM ho⟩
def q1R : q0j :=
 .seq (.reg [Qx 2 KF]) (.seq (.reg [⟨some 7, .call 24 [.k (.d (.str [66, 84, 32, 47, 70, 32, 49, 48, 32, 84, 102, 32, 40, 97, 41, 32, 84, 106, 32, 69, 84]))], none⟩, Qc 6 7, Q 8 
 (.ext 0 (.t 6)), Q 9 (.ext 1 (.t 6)), Qa 3 8, Qa 4 9]) (.seq (.seq (.reg [Qc 10 4, Q 11 (.eqN 0 true (.t 10))]) (.cond (.t 11) (.seq (.reg [Qx 2 KF]) .ret) .skip)) (.seq (.alt 
 [([Qc 13 3, ⟨some 14, .prim (.mkMap 25) [] [], none⟩, Q 15 (.bld [(0, 1), (1, 1), (2, 1), (3, 1), (4, 1)] [.bool false, .map [] [], .int .i64 0, .map [] [], .list []] [false, 
 false, false, false, true] [(2, .k (.d (.int .i64 500)))]), ⟨none, .prim (.mapUpd 25) [.t 14, .k (.d (.str [70])), .t 15] [], none⟩], Qc 16 14)] [⟨some 17, .prim .call [.k (.fn 
 (.func 11) [] []), .t 13, .t 16] [], none⟩, Qc 12 17, Q 18 (.ext 0 (.t 12)), Q 19 (.ext 1 (.t 12)), Qa 5 18, Qa 4 19]) (.seq (.reg [Qc 20 4, Q 21 (.eqN 0 false (.t 20)), Qc 22 
 21, Qd 23 5 22 true, Qg 24 (.len false (.t 23)) 22 true, Qg 25 (.bin .eql (.t 24) (Ki 1)) 22 true, Q 26 (.pick (.t 22) (.t 25) KF), Qc 27 26, Qd 28 0 27 true, ⟨some 29, .prim 
 (.bi .len [25]) [.t 28] [], some (27, true)⟩, Qg 30 (.bin .lss (.t 29) (Ki 100)) 27 true, Q 31 (.pick (.t 27) (.t 30) KF), Qa 2 31]) .ret))))
def q1X : List LRes := [.tmp 2]
theorem q28 : q0t Tryz.prog 15 32 q1R q1X := ⟨_, _, Tryz.func15, rfl, by kernel_rfl, by kernel_rfl, rfl⟩
theorem z8a (fl : Fl) (h : fl.length ≤ 50) : q0u Tryz.prog 15 [q0W fl] (fun r => r = .one (.bool true)) := by
 refine q28.call rfl ?_
 have hP := j5D
 unfold z4X at hP
 simp (maxSteps := 2000000) only [go_sem, ↓reduceIte, q1R, q1X]
 refine q0k.of hP ?_
 simp (maxSteps := 2000000) only [go_sem, ↓reduceIte]
 refine q0b.mkMap z2o ?_
 simp (maxSteps := 2000000) only [go_sem, ↓reduceIte]
 refine q0b.z6X (ks := []) (vs := []) (key := .str [70]) (v := Fnt.d ⟨false, [], 500, [], []⟩) (s := 14) rfl rfl rfl rfl z2o z8k rfl (fun k hk => by cases hk) rfl ?_
 simp (maxSteps := 2000000) only [go_sem, ↓reduceIte]
 refine q3C.ghost (q3C.step rfl (fun _ _ _ h => by cases h) rfl ?_)
 refine ⟨_, Gh.frzM (a := 14) rfl, ?_⟩
 simp (maxSteps := 2000000) only [go_sem, ↓reduceIte, amap, AV.frzM]
 have hpg := z4L z7e z2y (by decide) j0N j0O
 obtain ⟨g, hg⟩ := z5D j5E
 rw [hg] at hpg
 refine q0b.q2b ([]) ([]) rfl (hpg.q6f (by kernel_rfl)) rfl rfl (by simp only [q17, St.obj, aget, AObj.ren, AV.ren, AV.ren1, renL, q5B, renR, renQ, List.getD_cons_zero, List.getD_cons_succ, and_true, and_self, Nat.reduceEqDiff, ↓reduceIte, reduceCtorEq]) rfl rfl rfl ⟨rfl, rfl⟩ ?_
 simp (maxSteps := 2000000) only [go_sem, ↓reduceIte]
 refine q0b.z9U (ks := q8j fl) (vs := z1x fl) rfl z2o ?_
 have hz : (((q8j fl).length : Int) < 100) = True := eq_true (by rw [List.length_map]; omega)
 simp (maxSteps := 2000000) only [go_sem, ↓reduceIte, hz]
end Go.Av.Tryz
set_option linter.unusedSimpArgs false
set_option maxRecDepth 100000
set_option maxHeartbeats 16000000
namespace Go.Av.Tryz
open Go.Proofs
def q0R : q0j :=
 .seq (.reg [Qx 2 (Ki 0)]) (.seq (.seq (.reg [Qc 5 0, Q 6 (.eqN 0 false (.t 5))]) (.cond (.t 6) (.seq (.reg [Qx 2 (Ki 0)]) .ret) .skip)) (.seq (.reg [Qc 8 0, Q 9 (.asT 76 (.int .i64 
 0) (.t 8)), Qc 7 9, Q 10 (.ext 0 (.t 7)), Q 11 (.ext 1 (.t 7)), Qa 3 10, Qa 4 11]) (.seq (.seq (.reg [Qc 12 4, Q 13 (.not (.t 12))]) (.cond (.t 13) (.seq (.reg [Qx 2 (Ki (-1))]) 
 .ret) .skip)) (.seq (.reg [Qc 14 3, Qa 2 14]) .ret))))
def q0T : List LRes := [.tmp 2]
theorem q2W : q0t Tryz.prog 19 15 q0R q0T := ⟨_, _, Tryz.func19, rfl, by kernel_rfl, by kernel_rfl, rfl⟩
theorem q57 (n : Nat) : q0u Tryz.prog 19 [errD n] (fun r => r = .one (.int .i64 n)) := by
 refine q2W.call rfl ?_
 by_cases h : n = 0
 ·subst h
  simp (maxSteps := 2000000) only [go_sem, ↓reduceIte, q0R, q0T, show errD 0 = .nil from rfl]
 ·rw [q3n h]
  simp (maxSteps := 2000000) only [go_sem, ↓reduceIte, q0R, q0T]
def q07 : q0j :=
 .seq (.reg [⟨some 2, .allo [.int .i64 0, .int .i64 0, .str [], .list [], .list []], none⟩]) (.seq (.reg [Qc 3 0, Q 4 (.bld [(0, 1), (1, 1), (2, 1), (3, 1), (4, 1)] [.int .i64 0, 
 .int .i64 0, .str [], .list [], .list []] [false, false, false, true, true] [(0, .k (.d (.int .i64 2))), (1, .t 3)]), ⟨none, .st 5 (.t 2) (.t 4), none⟩]) .ret)
def q1b : List LRes := [.cell 2 true 5]
theorem q2t : q0t Tryz.prog 21 5 q07 q1b := ⟨_, _, Tryz.func21, rfl, by kernel_rfl, by kernel_rfl, rfl⟩
theorem q7S (n : Int) : q0u Tryz.prog 21 [I n] (fun r => r = .one (numW n).d) := by
 refine q2t.call rfl ?_
 simp (maxSteps := 2000000) only [go_sem, ↓reduceIte, q07, q1b, I, numW, Val.d, q05, q37]
def q08 : q0j :=
 .seq (.reg [⟨some 2, .allo [.int .i64 0, .int .i64 0, .str [], .list [], .list []], none⟩]) (.seq (.reg [Qc 3 0, Q 4 (.bld [(0, 1), (1, 1), (2, 1), (3, 1), (4, 1)] [.int .i64 0, 
 .int .i64 0, .str [], .list [], .list []] [false, false, false, true, true] [(0, .k (.d (.int .i64 3))), (2, .t 3)]), ⟨none, .st 5 (.t 2) (.t 4), none⟩]) .ret)
def q1c : List LRes := [.cell 2 true 5]
theorem q2u : q0t Tryz.prog 22 5 q08 q1c := ⟨_, _, Tryz.func22, rfl, by kernel_rfl, by kernel_rfl, rfl⟩
theorem q7R (s : List UInt8) : q0u Tryz.prog 22 [.str s] (fun r => r = .one (strW s).d) := by
 refine q2u.call rfl ?_
 simp (maxSteps := 2000000) only [go_sem, ↓reduceIte, q08, q1c, strW, Val.d, q05, q37]
def q09 : q0j :=
 .seq (.reg [⟨some 3, .nils 31 2, none⟩]) (.seq (.reg [Q 4 (.ld false 1 (.t 1)), ⟨some 5, .prim (.bi .append [22, 22]) [.k (.d (.list [])), .t 4] [], none⟩, Qc 6 0, ⟨some 7, .app 31 
 2 40 false (.t 5) (.t 6), none⟩, Qa 3 7]) .ret)
def q1d : List LRes := [.tmp 3]
theorem q2v : q0t Tryz.prog 23 8 q09 q1d := ⟨_, _, Tryz.func23, rfl, by kernel_rfl, by kernel_rfl, rfl⟩
def ownO (q : Ref) (l : List OpV) : AV := .own (.c q 0) 31 2 (l.map OpV.d)
theorem opSl : q22 Tryz.prog 22 = some (31, 2, 40) := by kernel_rfl
theorem j5q : q3R Tryz.prog 31 = true := by kernel_rfl
theorem j5r : isSl Tryz.prog 22 = true := by kernel_rfl
theorem j3l (l : List OpV) : q7f 2 (l.map OpV.d) = true := by
 induction l with
 | nil => rfl
 | cons a r ih => simp only [List.map_cons, q7f, Bool.and_eq_true]; exact ⟨rfl, ih⟩
theorem z6m (a b : List OpV) (hl : a.length + b.length ≤ 100000) :
  q4U Tryz.prog 23 [.d (opsD b), .ptr (.x 0) 0] [.cells [ownO (.x 0) a]] (.own (.t 0) 31 2 ((a ++ b).map OpV.d)) [.cells [ownO (.x 0) a]] := by
 refine q2v.q2b (by kernel_rfl) rfl ?_
 simp (maxSteps := 2000000) only [go_sem, ↓reduceIte, q09, q1d, opsD, ownO]
 refine q0b.j3B (ys := a.map OpV.d) opSl j5q j5r (by show (if false = true then none else if q7f 2 (a.map OpV.d) = true then some (a.map OpV.d) else none) = _; rw [j3l]; rfl) (by rw [List.length_map]; omega) ?_
 have hz1 : (a.length + b.length ≤ 140737488355327) = True := eq_true (by omega)
 have hz2 : ((a.length + b.length) * 40 ≤ 140737488355328) = True := eq_true (by omega)
 simp (maxSteps := 2000000) only [go_sem, ↓reduceIte, j3l, List.length_map, hz1, hz2, List.map_append]
def VOK (v : Val) : Prop := v.s.length ≤ 1000000 ∧ (v.kind = 2 → Lim v.n) ∧ v.l.length ≤ 100000 ∧ ∀ w ∈ v.l, w.s.length ≤ 1000000 ∧ (w.kind = 2 → Lim w.n)
theorem z5Z {n : Int} (h : Lim n) : VOK (numW n) := ⟨by simp [numW, Val.s], fun _ => h, by simp [numW, Val.l], fun w hw => by simp [numW, Val.l] at hw⟩
theorem z6n {s : List UInt8} (h : s.length ≤ 1000000) : VOK (strW s) := ⟨h, fun h2 => by simp [strW, Val.kind] at h2, by simp [strW, Val.l], fun w hw => by simp [strW, Val.l] at hw⟩
theorem j37 {s : List UInt8} (h : s.length ≤ 1000000) : VOK (namW s) := ⟨h, fun h2 => by simp [namW, Val.kind] at h2, by simp [namW, Val.l], fun w hw => by simp [namW, Val.l] at hw⟩
theorem j35 {s t : List UInt8} (h1 : s.length ≤ 1000000) (h2 : t.length ≤ 1000000) : VOK (lisW [strW s, strW t]) := ⟨by simp [lisW, Val.s], fun h => by simp [lisW, Val.kind] at h, by simp [lisW, Val.l], fun w hw => by
 simp only [lisW, Val.l, List.mem_cons, List.not_mem_nil, or_false] at hw
 rcases hw with rfl | rfl
 ·exact ⟨h1, fun h => by simp [strW, Val.kind] at h⟩
 ·exact ⟨h2, fun h => by simp [strW, Val.kind] at h⟩⟩
theorem j0j {nm : List UInt8} {l : List Val} (hl : l.length ≤ 1000) (h : ∀ v ∈ l, VOK v) : OpV.ok ⟨nm, l⟩ := ⟨hl, h⟩
theorem z5G {size char scale : Int} (h1 : Lim size) (h2 : Lim char) (h3 : Lim scale) {b : List OpV} (hb : ∀ o ∈ b, o.ok) : ∀ o ∈ q45 size char scale ++ b, o.ok := fun o ho => by
 rcases List.mem_append.1 ho with ho | ho
 ·simp only [q45, List.mem_cons, List.not_mem_nil, or_false] at ho
  rcases ho with rfl | rfl | rfl | rfl
  ·exact j0j (by simp) fun v hv => by cases hv
  ·refine j0j (by simp) fun v hv => ?_
   simp only [List.mem_cons, List.not_mem_nil, or_false] at hv
   rcases hv with rfl | rfl
   ·exact j37 (by simp)
   ·exact z5Z h1
  ·refine j0j (by simp) fun v hv => ?_
   simp only [List.mem_cons, List.not_mem_nil, or_false] at hv
   subst hv; exact z5Z h2
  ·refine j0j (by simp) fun v hv => ?_
   simp only [List.mem_cons, List.not_mem_nil, or_false] at hv
   subst hv; exact z5Z h3
 ·exact hb o ho
theorem z60 {nm : List UInt8} {v : Val} (h : VOK v) : OpV.ok ⟨nm, [v]⟩ := j0j (by simp) fun w hw => by
 simp only [List.mem_cons, List.not_mem_nil, or_false] at hw; subst hw; exact h
theorem j0I {fl : Fl} (hf : ∀ p ∈ fl, p.2.ok) : ∀ (l : List OpV) {q : PT}, q.inv → (q.run fl l).inv
 | [], _, h => h
 | o :: l, q, h => by
  rw [z3v]
  split
  ·exact j0I hf l (z5k h hf o)
  ·exact z5k h hf o
theorem j4q : q00.inv := ⟨⟨fun _ => Nat.zero_le _, fun f h => by cases h⟩, Nat.zero_le _, fun s h => by cases h⟩
theorem z7W {fl : Fl} (hf : ∀ p ∈ fl, p.2.ok) (l : List OpV) : ∃ g n, q89 fl l = .tup [.list (q4J g), errD n] ∧ g.length ≤ 1000 := by
 unfold q89
 split
 ·exact ⟨[], 2, rfl, Nat.zero_le _⟩
 ·have h := j0I hf l j4q
  generalize q00.run fl l = q at *
  unfold q9a
  split
  ·rename_i hb
   exact ⟨q.out, 0, rfl, h.ok.out hb⟩
  ·exact ⟨[], q.bad, rfl, Nat.zero_le _⟩
def q1n : q0j :=
 .seq (.reg [⟨some 6, .box (.t 0), none⟩, Qx 12 KF]) (.seq (.reg [⟨some 26, .prim .call [.k (.fn (.func 15) [] []), .k (.d (.map [] []))] [], none⟩, Qa 13 26]) (.seq (.seq (.reg [Qc 
 27 13, Q 28 (.not (.t 27))]) (.cond (.t 28) (.seq (.reg [Qx 12 KF]) .ret) .skip)) (.seq (.reg [Q 30 (.ld true 5 (.t 6)), Q 31 (.bld [(0, 1), (1, 5)] [.str [], .bool false, .map 
 [] [], .int .i64 0, .map [] [], .list []] [] [(0, .k (.d (.str [70]))), (1, .t 30)]), ⟨some 32, .bsl 64 6 [.t 31], none⟩, ⟨some 33, .call 8 [.t 32], none⟩, Qc 29 33, Q 34 (.ext 0 
 (.t 29)), Q 35 (.ext 1 (.t 29)), Qa 14 34, Qa 15 35]) (.seq (.seq (.reg [Qc 36 15, Q 37 (.not (.t 36)), Qc 38 37, Qd 39 1 38 false, Qd 40 2 38 false, Qd 41 3 38 false, ⟨some 42, 
 .bsl 3 1 [.t 39, .t 40, .t 41], some (38, false)⟩, ⟨some 43, .call 17 [.t 42], some (38, false)⟩, Qg 44 (.not (.t 43)) 38 false, Q 45 (.pick (.t 38) KT (.t 44)), Qc 46 45, Qd 47 
 4 46 false, Qg 48 (.len true (.t 47)) 46 false, Qd 49 5 46 false, Qg 50 (.len true (.t 49)) 46 false, Qg 51 (.bin .add (.t 48) (.t 50)) 46 false, Qg 52 (.bin .gtr (.t 51) (Ki 
 200)) 46 false, Q 53 (.pick (.t 46) KT (.t 52)), Qc 54 53, Qg 55 (.fa 0 (.t 6)) 54 false, Qg 56 (.ld false 1 (.t 55)) 54 false, Qd 57 56 54 false, Qd 58 4 57 true, Qg 59 (.len 
 true (.t 58)) 57 true, Qg 60 (.bin .rem (.t 59) (Ki 2)) 57 true, Qg 61 (.bin .eql (.t 60) (Ki 1)) 57 true, Qd 62 61 57 true, Qd 63 5 62 false, Qg 64 (.len true (.t 63)) 62 false, 
 Qg 65 (.bin .rem (.t 64) (Ki 2)) 62 false, Qg 66 (.bin .eql (.t 65) (Ki 1)) 62 false, Qg 67 (.pick (.t 62) KT (.t 66)) 57 true, Qg 68 (.pick (.t 57) (.t 67) KF) 54 false, Q 69 
 (.pick (.t 54) KT (.t 68))]) (.cond (.t 69) (.seq (.reg [Qx 12 KT]) .ret) .skip)) (.seq (.reg [Qx 16 (.k (.fn (.func 21) [] []))]) (.seq (.reg [Qx 17 (.k (.fn (.func 22) [] 
 []))]) (.seq (.reg [Q 70 (.bld [(0, 1), (1, 1)] [.str [], .list []] [false, true] [(0, .k (.d (.str [66, 84])))]), Q 71 (.bld [(0, 1), (1, 1), (2, 1), (3, 1), (4, 1)] [.int .i64 
 0, .int .i64 0, .str [], .list [], .list []] [false, false, false, true, true] [(0, .k (.d (.int .i64 4))), (2, .k (.d (.str [70])))]), Qc 72 16, Qc 73 1, ⟨some 74, .prim .call 
 [.t 72, .t 73] [], none⟩, ⟨some 75, .bsl 35 5 [.t 71, .t 74], none⟩, Q 76 (.bld [(0, 1), (1, 1)] [.str [], .list []] [] [(0, .k (.d (.str [84, 102]))), (1, .t 75)]), Qc 77 16, Qc 
 78 2, ⟨some 79, .prim .call [.t 77, .t 78] [], none⟩, ⟨some 80, .bsl 35 5 [.t 79], none⟩, Q 81 (.bld [(0, 1), (1, 1)] [.str [], .list []] [] [(0, .k (.d (.str [84, 99]))), (1, .t 
 80)]), Qc 82 16, Qc 83 3, ⟨some 84, .prim .call [.t 82, .t 83] [], none⟩, ⟨some 85, .bsl 35 5 [.t 84], none⟩, Q 86 (.bld [(0, 1), (1, 1)] [.str [], .list []] [] [(0, .k (.d (.str 
 [84, 122]))), (1, .t 85)]), ⟨some 87, .bsl 31 2 [.t 70, .t 76, .t 81, .t 86], none⟩, ⟨some 18, .allo [.list []], none⟩, ⟨none, .st 1 (.t 18) (.t 87), none⟩]) (.seq (.reg [Q 88 
 (.mkF (.func 23) [] [.t 18]), Qa 19 88]) (.seq (.reg [Qc 90 19, Qc 91 17, Qc 92 4, Qc 93 5, Q 94 (.bin .add (.t 92) (.t 93)), ⟨some 95, .prim .call [.t 91, .t 94] [], none⟩, 
 ⟨some 96, .bsl 35 5 [.t 95], none⟩, Q 97 (.bld [(0, 1), (1, 1)] [.str [], .list []] [] [(0, .k (.d (.str [84, 106]))), (1, .t 96)]), ⟨some 98, .bsl 31 2 [.t 97], none⟩, ⟨some 99, 
 .prim .call [.t 90, .t 98] [], none⟩, Qc 100 14, ⟨some 101, .prim .call [.k (.fn (.func 11) [] []), .t 99, .t 100] [], none⟩, Qc 89 101, Q 102 (.ext 0 (.t 89)), Q 103 (.ext 1 (.t 
 89)), Qa 20 102, Qa 21 103]) (.seq (.reg [Qc 105 19, Qc 106 17, Qc 107 4, ⟨some 108, .prim .call [.t 106, .t 107] [], none⟩, ⟨some 109, .bsl 35 5 [.t 108], none⟩, Q 110 (.bld 
 [(0, 1), (1, 1)] [.str [], .list []] [] [(0, .k (.d (.str [84, 106]))), (1, .t 109)]), Qc 111 17, Qc 112 5, ⟨some 113, .prim .call [.t 111, .t 112] [], none⟩, ⟨some 114, .bsl 35 
 5 [.t 113], none⟩, Q 115 (.bld [(0, 1), (1, 1)] [.str [], .list []] [] [(0, .k (.d (.str [84, 106]))), (1, .t 114)]), ⟨some 116, .bsl 31 2 [.t 110, .t 115], none⟩, ⟨some 117, 
 .prim .call [.t 105, .t 116] [], none⟩, Qc 118 14, ⟨some 119, .prim .call [.k (.fn (.func 11) [] []), .t 117, .t 118] [], none⟩, Qc 104 119, Q 120 (.ext 0 (.t 104)), Q 121 (.ext 
 1 (.t 104)), Qa 22 120, Qa 23 121]) (.seq (.reg [Qc 123 19, Qc 124 17, Qc 125 4, ⟨some 126, .prim .call [.t 124, .t 125] [], none⟩, Qc 127 17, Qc 128 5, ⟨some 129, .prim .call 
 [.t 127, .t 128] [], none⟩, ⟨some 130, .bsl 35 5 [.t 126, .t 129], none⟩, Q 131 (.bld [(0, 1), (1, 1), (2, 1), (3, 1), (4, 1)] [.int .i64 0, .int .i64 0, .str [], .list [], .list 
 []] [false, false, false, false, true] [(0, .k (.d (.int .i64 5))), (3, .t 130)]), ⟨some 132, .bsl 35 5 [.t 131], none⟩, Q 133 (.bld [(0, 1), (1, 1)] [.str [], .list []] [] [(0, 
 .k (.d (.str [84, 74]))), (1, .t 132)]), ⟨some 134, .bsl 31 2 [.t 133], none⟩, ⟨some 135, .prim .call [.t 123, .t 134] [], none⟩, Qc 136 14, ⟨some 137, .prim .call [.k (.fn 
 (.func 11) [] []), .t 135, .t 136] [], none⟩, Qc 122 137, Q 138 (.ext 0 (.t 122)), Q 139 (.ext 1 (.t 122)), Qa 24 138, Qa 25 139]) (.seq (.reg [Qc 140 21, ⟨some 141, .call 19 [.t 
 140], none⟩, Qc 142 23, ⟨some 143, .call 19 [.t 142], none⟩, Q 144 (.bin .eql (.t 141) (.t 143)), Qc 145 144, Qd 146 21 145 true, ⟨some 147, .call 19 [.t 146], some (145, true)⟩, 
 Qd 148 25 145 true, ⟨some 149, .call 19 [.t 148], some (145, true)⟩, Qg 150 (.bin .eql (.t 147) (.t 149)) 145 true, Q 151 (.pick (.t 145) (.t 150) KF), Qc 152 151, Qd 153 20 152 
 true, Qd 154 22 152 true, ⟨some 155, .call 14 [.t 153, .t 154], some (152, true)⟩, Q 156 (.pick (.t 152) (.t 155) KF), Qc 157 156, Qd 158 20 157 true, Qd 159 24 157 true, ⟨some 
 160, .call 14 [.t 158, .t 159], some (157, true)⟩, Q 161 (.pick (.t 157) (.t 160) KF), Qa 12 161]) .ret))))))))))))
def q1r : List LRes := [.tmp 12]
theorem q2F : q0t Tryz.prog 6 162 q1n q1r := ⟨_, _, Tryz.func6, rfl, by kernel_rfl, by kernel_rfl, rfl⟩
theorem z3F (x : Fnt) (hx : x.wf) (size char scale : Int) (h64 : i64 size ∧ i64 char ∧ i64 scale ∧ i64 x.miss) (s t : List UInt8) (hs : s.length ≤ 1000000000) (ht : t.length ≤ 1000000000) :
  q0u Tryz.prog 6 [x.d, I size, I char, I scale, .str s, .str t] (fun r => r = .one (.bool true)) := by
 refine q2F.call rfl ?_
 have hD : x.d = .agg [.bool x.wide, .map (q2O x.ws) (q8K x.ws), .int .i64 x.miss, .map (q2O x.ns) (q8s x.ns), .list (q19 x.cs)] := rfl
 have hsh := z8a [] (by simp)
 simp (maxSteps := 2000000) only [go_sem, ↓reduceIte, q1n, q1r, hD, I]
 refine q0b.q2b ([]) ([]) rfl (hsh.q6f (by kernel_rfl)) rfl rfl (by simp only [q17, St.obj, aget, AObj.ren, AV.ren, AV.ren1, renL, q5B, renR, renQ, List.getD_cons_zero, List.getD_cons_succ, and_true, and_self, Nat.reduceEqDiff, ↓reduceIte, reduceCtorEq]) rfl rfl rfl ⟨rfl, rfl⟩ ?_
 simp (maxSteps := 2000000) only [go_sem, ↓reduceIte]
 have hfo := z7D [([70], x)] (by simp) (fun p hp => by simp at hp; subst hp; exact ⟨hx, by simp, h64.2.2.2⟩)
 refine q0k.post hfo ?_
 rintro r ⟨fl, b, rfl, hfl, hb⟩
 cases b with
 | false => simp (maxSteps := 2000000) only [go_sem, ↓reduceIte]
 | true =>
  obtain ⟨rfl, _, hok⟩ := hb rfl
  obtain ⟨_, hxo, hxm, _⟩ := hok _ (List.mem_singleton.2 rfl)
  have hF : q5J [([70], x)] = [([70], x)] := rfl
  rw [hF]
  simp (maxSteps := 2000000) only [go_sem, ↓reduceIte]
  refine q0k.of (z8f [size, char, scale] (by simp)) ?_
  cases hsm : z7i [size, char, scale] with
  | false => simp (maxSteps := 2000000) only [go_sem, ↓reduceIte]
  | true =>
   simp (maxSteps := 2000000) only [go_sem, ↓reduceIte]
   have hw : IntKind.i64.wrap ((s.length : Int) + t.length) = (s.length : Int) + t.length := IntWalk.i64_in _ (by omega)
   rw [hw]
   intro h200
   refine ⟨fun hwd h1 h2 => ?ga, fun hwd => ?gb⟩
   case' ga =>
    have hpar : x.wide = true → s.length % 2 = 0 ∧ t.length % 2 = 0 := fun _ => by
     have e1 : (s.length : Int).tmod 2 = ((s.length % 2 : Nat) : Int) := rfl
     have e2 : (t.length : Int).tmod 2 = ((t.length % 2 : Nat) : Int) := rfl
     rw [e1] at h1; rw [e2] at h2; omega
    clear h1 h2
   case' gb =>
    have hpar : x.wide = true → s.length % 2 = 0 ∧ t.length % 2 = 0 := fun h => by rw [hwd] at h; cases h
   all_goals
    have hvs := q7S size
    have hvc := q7S char
    have hvz := q7S scale
    refine q0b.q2b ([]) ([]) rfl (hvs.q6f (by kernel_rfl)) rfl rfl (by simp only [q17, St.obj, aget, AObj.ren, AV.ren, AV.ren1, renL, q5B, renR, renQ, List.getD_cons_zero, List.getD_cons_succ, and_true, and_self, Nat.reduceEqDiff, ↓reduceIte, reduceCtorEq]) rfl rfl rfl ⟨rfl, rfl⟩ ?_
    simp (maxSteps := 2000000) only [go_sem, ↓reduceIte, numW, Val.d, q05, q37, I]
    refine q0b.q2b ([]) ([]) rfl (hvc.q6f (by kernel_rfl)) rfl rfl (by simp only [q17, St.obj, aget, AObj.ren, AV.ren, AV.ren1, renL, q5B, renR, renQ, List.getD_cons_zero, List.getD_cons_succ, and_true, and_self, Nat.reduceEqDiff, ↓reduceIte, reduceCtorEq]) rfl rfl rfl ⟨rfl, rfl⟩ ?_
    simp (maxSteps := 2000000) only [go_sem, ↓reduceIte, numW, Val.d, q05, q37, I]
    refine q0b.q2b ([]) ([]) rfl (hvz.q6f (by kernel_rfl)) rfl rfl (by simp only [q17, St.obj, aget, AObj.ren, AV.ren, AV.ren1, renL, q5B, renR, renQ, List.getD_cons_zero, List.getD_cons_succ, and_true, and_self, Nat.reduceEqDiff, ↓reduceIte, reduceCtorEq]) rfl rfl rfl ⟨rfl, rfl⟩ ?_
    simp (maxSteps := 2000000) only [go_sem, ↓reduceIte, numW, Val.d, q05, q37, I]
    have hwl : ((s.length + t.length : Nat) : Int) ≤ 9223372036854775807 := by omega
    refine ⟨hwl, ?_⟩
    have hss := q7R s
    have hst := q7R t
    have hsst := q7R (s ++ t)
    refine q0b.q2b ([]) ([]) rfl (hsst.q6f (by kernel_rfl)) rfl rfl (by simp only [q17, St.obj, aget, AObj.ren, AV.ren, AV.ren1, renL, q5B, renR, renQ, List.getD_cons_zero, List.getD_cons_succ, and_true, and_self, Nat.reduceEqDiff, ↓reduceIte, reduceCtorEq]) rfl rfl rfl ⟨rfl, rfl⟩ ?_
    simp (maxSteps := 2000000) only [go_sem, ↓reduceIte, strW, Val.d, q05, q37, I]
    have htl : ∀ b : List OpV, b.length ≤ 10 → q4U Tryz.prog 23 [.d (opsD b), .ptr (.x 0) 0] [.cells [ownO (.x 0) (q45 size char scale)]] (.own (.t 0) 31 2 ((q45 size char scale ++ b).map OpV.d)) [.cells [ownO (.x 0) (q45 size char scale)]] := fun b hb => z6m _ b (by simp [q45]; omega)
    refine q0b.q2b [.l 18] [] rfl (htl [⟨[84, 106], [strW (s ++ t)]⟩] (by simp)) rfl rfl ⟨rfl, trivial⟩ rfl rfl rfl ⟨rfl, rfl⟩ ?_
    simp (maxSteps := 2000000) only [go_sem, ↓reduceIte]
    have hpg : ∀ l : List OpV, l.length ≤ 1000 → (∀ o ∈ l, o.ok) → q4U Tryz.prog 11 [.d (opsD l), .d (q0W [([70], x)])] [] (q89 [([70], x)] l).av [] := fun l hl ho => (z4L [([70], x)] l (by omega) (fun p hp => by simp at hp; subst hp; exact hxo) ho).q6f (by kernel_rfl)
    have hsl : s.length ≤ 1000000 := by omega
    have htl2 : t.length ≤ 1000000 := by omega
    have hl3 : Lim size ∧ Lim char ∧ Lim scale := by
     simp only [z7i, List.all_cons, List.all_nil, Bool.and_true, Bool.and_eq_true, decide_eq_true_eq] at hsm
     unfold Lim; omega
    have hokA : ∀ o ∈ q45 size char scale ++ [⟨[84, 106], [strW (s ++ t)]⟩], o.ok := z5G hl3.1 hl3.2.1 hl3.2.2 fun o ho => by simp at ho; subst ho; exact z60 (z6n (by rw [List.length_append]; omega))
    have hokB : ∀ o ∈ q45 size char scale ++ [⟨[84, 106], [strW s]⟩, ⟨[84, 106], [strW t]⟩], o.ok := z5G hl3.1 hl3.2.1 hl3.2.2 fun o ho => by
     simp at ho
     rcases ho with rfl | rfl
     ·exact z60 (z6n hsl)
     ·exact z60 (z6n htl2)
    have hokC : ∀ o ∈ q45 size char scale ++ [⟨[84, 74], [lisW [strW s, strW t]]⟩], o.ok := z5G hl3.1 hl3.2.1 hl3.2.2 fun o ho => by simp at ho; subst ho; exact z60 (j35 hsl htl2)
    obtain ⟨g, n, hg, hgl⟩ := z7W (fl := [([70], x)]) (fun p hp => by simp at hp; subst hp; exact hxo) (q45 size char scale ++ [⟨[84, 106], [strW (s ++ t)]⟩])
    obtain ⟨eB, eC⟩ := j2O x hxo size char scale s t hpar
    rw [hg] at eB eC
    have hpA := hpg _ (by simp [q45]) hokA
    have hpB := hpg _ (by simp [q45]) hokB
    have hpC := hpg _ (by simp [q45]) hokC
    rw [hg] at hpA
    rw [eB] at hpB
    rw [eC] at hpC
    refine q0b.q2b [] [] rfl hpA rfl rfl trivial rfl rfl rfl ⟨rfl, rfl⟩ ?_
    simp (maxSteps := 2000000) only [go_sem, ↓reduceIte]
    refine q0b.q2b ([]) ([]) rfl (hss.q6f (by kernel_rfl)) rfl rfl (by simp only [q17, St.obj, aget, AObj.ren, AV.ren, AV.ren1, renL, q5B, renR, renQ, List.getD_cons_zero, List.getD_cons_succ, and_true, and_self, Nat.reduceEqDiff, ↓reduceIte, reduceCtorEq]) rfl rfl rfl ⟨rfl, rfl⟩ ?_
    simp (maxSteps := 2000000) only [go_sem, ↓reduceIte, strW, Val.d, q05, q37, I]
    refine q0b.q2b ([]) ([]) rfl (hst.q6f (by kernel_rfl)) rfl rfl (by simp only [q17, St.obj, aget, AObj.ren, AV.ren, AV.ren1, renL, q5B, renR, renQ, List.getD_cons_zero, List.getD_cons_succ, and_true, and_self, Nat.reduceEqDiff, ↓reduceIte, reduceCtorEq]) rfl rfl rfl ⟨rfl, rfl⟩ ?_
    simp (maxSteps := 2000000) only [go_sem, ↓reduceIte, strW, Val.d, q05, q37, I]
    refine q0b.q2b [.l 18] [] rfl (htl [⟨[84, 106], [strW s]⟩, ⟨[84, 106], [strW t]⟩] (by simp)) rfl rfl ⟨rfl, trivial⟩ rfl rfl rfl ⟨rfl, rfl⟩ ?_
    simp (maxSteps := 2000000) only [go_sem, ↓reduceIte]
    refine q0b.q2b [] [] rfl hpB rfl rfl trivial rfl rfl rfl ⟨rfl, rfl⟩ ?_
    simp (maxSteps := 2000000) only [go_sem, ↓reduceIte]
    refine q0b.q2b ([]) ([]) rfl (hss.q6f (by kernel_rfl)) rfl rfl (by simp only [q17, St.obj, aget, AObj.ren, AV.ren, AV.ren1, renL, q5B, renR, renQ, List.getD_cons_zero, List.getD_cons_succ, and_true, and_self, Nat.reduceEqDiff, ↓reduceIte, reduceCtorEq]) rfl rfl rfl ⟨rfl, rfl⟩ ?_
    simp (maxSteps := 2000000) only [go_sem, ↓reduceIte, strW, Val.d, q05, q37, I]
    refine q0b.q2b ([]) ([]) rfl (hst.q6f (by kernel_rfl)) rfl rfl (by simp only [q17, St.obj, aget, AObj.ren, AV.ren, AV.ren1, renL, q5B, renR, renQ, List.getD_cons_zero, List.getD_cons_succ, and_true, and_self, Nat.reduceEqDiff, ↓reduceIte, reduceCtorEq]) rfl rfl rfl ⟨rfl, rfl⟩ ?_
    simp (maxSteps := 2000000) only [go_sem, ↓reduceIte, strW, Val.d, q05, q37, I]
    refine q0b.q2b [.l 18] [] rfl (htl [⟨[84, 74], [lisW [strW s, strW t]]⟩] (by simp)) rfl rfl ⟨rfl, trivial⟩ rfl rfl rfl ⟨rfl, rfl⟩ ?_
    simp (maxSteps := 2000000) only [go_sem, ↓reduceIte]
    refine q0b.q2b [] [] rfl hpC rfl rfl trivial rfl rfl rfl ⟨rfl, rfl⟩ ?_
    simp (maxSteps := 2000000) only [go_sem, ↓reduceIte]
    refine q0k.of (q57 n) ?_
    simp (maxSteps := 2000000) only [go_sem, ↓reduceIte]
    refine q0k.of (q57 n) ?_
    simp (maxSteps := 2000000) only [go_sem, ↓reduceIte]
    refine q0k.of (q57 n) ?_
    simp (maxSteps := 2000000) only [go_sem, ↓reduceIte]
    refine q0k.of (q57 n) ?_
    simp (maxSteps := 2000000) only [go_sem, ↓reduceIte]
    refine q0k.of (q6U g (by omega)) ?_
    simp (maxSteps := 2000000) only [go_sem, ↓reduceIte]
    refine q0k.of (q6U g (by omega)) ?_
    simp (maxSteps := 2000000) only [go_sem, ↓reduceIte]
end Go.Av.Tryz
set_option linter.unusedSimpArgs false
set_option maxRecDepth 100000
namespace Go.Av.Tryz
open Go.Proofs
theorem j0e {P : Program} {k : Nat} {t kt e : TypeId} {ds : List D} (hu : P.underlying t = some (.map kt e)) (h : OfT P k t ds) : ∃ ks vs m, k = m + 1 ∧ ds = [.map ks vs] ∧ ks.length = vs.length ∧
  (∀ x ∈ ks, (∃ i n, P.underlying kt = some (.int i) ∧ x = .int i n) ∨ (∃ s, P.underlying kt = some .string ∧ x = .str s)) ∧ ∀ x ∈ vs, ∃ cs, x = mkD cs ∧ OfT P m e cs := by
 cases k with
 | zero => exact h.elim
 | succ k => unfold OfT at h; rw [hu] at h; obtain ⟨ks, vs, h1, h2, _, h3, h4⟩ := h; exact ⟨ks, vs, k, rfl, h1, h2, h3, h4⟩
theorem zip_map {α : Type} {g : α → D} : ∀ (ks vs : List D), ks.length = vs.length → (∀ x ∈ ks, ∃ n : Int, x = .int .i64 n) → (∀ x ∈ vs, ∃ y : α, x = g y) → ∃ l : List (Int × α), ks = q2O l ∧ vs = l.map fun p => g p.2
 | [], [], _, _, _ => ⟨[], rfl, rfl⟩
 | [], _ :: _, h, _, _ => by simp at h
 | _ :: _, [], h, _, _ => by simp at h
 | k :: ks, v :: vs, h, h1, h2 => by
  obtain ⟨l, e1, e2⟩ := zip_map ks vs (by simpa using h) (fun x hx => h1 x (by simp [hx])) (fun x hx => h2 x (by simp [hx]))
  obtain ⟨n, rfl⟩ := h1 k (by simp)
  obtain ⟨y, rfl⟩ := h2 v (by simp)
  exact ⟨(n, y) :: l, by rw [e1]; rfl, by rw [e2]; rfl⟩
theorem j5R : Tryz.prog.cellsOf 3 = 1 := by kernel_rfl
theorem j5P : Tryz.prog.cellsOf 4 = 1 := by kernel_rfl
theorem j6l : Tryz.prog.cellsOf 9 = 1 := by kernel_rfl
theorem j6j : Tryz.prog.cellsOf 58 = 1 := by kernel_rfl
theorem j6k : Tryz.prog.cellsOf 59 = 1 := by kernel_rfl
theorem j4O : Tryz.prog.cellsOf 60 = 1 := by kernel_rfl
theorem j5S : Tryz.prog.cellsOf 127 = 3 := by kernel_rfl
theorem j5Q : Tryz.prog.cellsOf 62 = 5 := by kernel_rfl
theorem wf64 {n : Int} (h : (Lit.int .i64 n).wf = true) : -9223372036854775808 ≤ n ∧ n ≤ 9223372036854775807 := by
 have := wf_i64 h; omega
def Span.in64 (s : Span) : Prop := -9223372036854775808 ≤ s.fr ∧ s.fr ≤ 9223372036854775807 ∧ -9223372036854775808 ≤ s.to ∧ s.to ≤ 9223372036854775807
theorem j4C {k : Nat} {ds : List D} (h : OfT Tryz.prog k 127 ds) : ∃ s : Span, mkD ds = s.d ∧ s.in64 := by
 cases k with
 | zero => exact h.elim
 | succ k =>
  unfold OfT at h
  rw [Tryz.underlying127] at h
  obtain ⟨h1, h2⟩ := h
  rw [j5S] at h1
  match ds, h1 with
  | [a, b, c], _ =>
   have f0 : OfT Tryz.prog k 3 (([a, b, c].drop 0).take (Tryz.prog.cellsOf 3)) := h2 0 _ rfl
   have f1 : OfT Tryz.prog k 3 (([a, b, c].drop 1).take (Tryz.prog.cellsOf 3)) := h2 1 _ rfl
   have f2 : OfT Tryz.prog k 9 (([a, b, c].drop 2).take (Tryz.prog.cellsOf 9)) := h2 2 _ rfl
   simp only [j5R, j6l, List.drop_zero, List.drop_succ_cons, List.take_succ_cons, List.take_zero] at f0 f1 f2
   obtain ⟨n0, e0, w0⟩ := f0.int Tryz.underlying3
   obtain ⟨n1, e1, w1⟩ := f1.int Tryz.underlying3
   obtain ⟨s, e2, _⟩ := f2.string Tryz.underlying9
   simp only [List.cons.injEq, and_true] at e0 e1 e2
   obtain ⟨a1, a2⟩ := wf64 w0
   obtain ⟨b1, b2⟩ := wf64 w1
   exact ⟨⟨n0, n1, s⟩, by rw [e0, e1, e2]; rfl, a1, a2, b1, b2⟩
theorem j2N {k : Nat} {ds : List D} (h : OfT Tryz.prog k 60 ds) : ∃ l : List Span, ds = [.list (q19 l)] ∧ l.length ≤ maxLen ∧ ∀ s ∈ l, s.in64 := by
 obtain ⟨l, m, _, h1, h2, h3⟩ := h.slice Tryz.underlying60
 obtain ⟨ys, rfl⟩ := z7p (g := fun y : { s : Span // s.in64 } => y.1.d) (l := l) fun x hx => by
  obtain ⟨cs, h4, h5⟩ := h3 x hx
  obtain ⟨s, h6, h7⟩ := j4C h5
  exact ⟨⟨s, h7⟩, by rw [h4, h6]⟩
 refine ⟨ys.map (·.1), by rw [h1]; simp [q19, Function.comp_def], by simpa using h2, fun s hs => ?_⟩
 obtain ⟨y, _, rfl⟩ := List.mem_map.1 hs
 exact y.2
theorem j3W {k : Nat} {ds : List D} (h : OfT Tryz.prog k 62 ds) : ∃ x : Fnt, D.agg ds = x.d ∧ x.wf ∧ -9223372036854775808 ≤ x.miss ∧ x.miss ≤ 9223372036854775807 := by
 cases k with
 | zero => exact h.elim
 | succ k =>
  unfold OfT at h
  rw [Tryz.underlying62] at h
  obtain ⟨h1, h2⟩ := h
  rw [j5Q] at h1
  match ds, h1 with
  | [a, b, c, d, e], _ =>
   have f0 : OfT Tryz.prog k 4 (([a, b, c, d, e].drop 0).take (Tryz.prog.cellsOf 4)) := h2 0 _ rfl
   have f1 : OfT Tryz.prog k 58 (([a, b, c, d, e].drop 1).take (Tryz.prog.cellsOf 58)) := h2 1 _ rfl
   have f2 : OfT Tryz.prog k 3 (([a, b, c, d, e].drop 2).take (Tryz.prog.cellsOf 3)) := h2 2 _ rfl
   have f3 : OfT Tryz.prog k 59 (([a, b, c, d, e].drop 3).take (Tryz.prog.cellsOf 59)) := h2 3 _ rfl
   have f4 : OfT Tryz.prog k 60 (([a, b, c, d, e].drop 4).take (Tryz.prog.cellsOf 60)) := h2 4 _ rfl
   simp only [j5R, j5P, j6j, j6k, j4O, List.drop_zero, List.drop_succ_cons, List.take_succ_cons, List.take_zero] at f0 f1 f2 f3 f4
   obtain ⟨wd, e0⟩ := f0.bool Tryz.underlying4
   obtain ⟨kw, vw, m1, _, e1, l1, k1, v1⟩ := j0e Tryz.underlying58 f1
   obtain ⟨ms, e2, wm⟩ := f2.int Tryz.underlying3
   obtain ⟨kn, vn, m3, _, e3, l3, k3, v3⟩ := j0e Tryz.underlying59 f3
   obtain ⟨cs, e4, l4, w4⟩ := j2N f4
   have keys : ∀ ks : List D, (∀ x ∈ ks, (∃ i n, Tryz.prog.underlying 3 = some (.int i) ∧ x = .int i n) ∨ (∃ s, Tryz.prog.underlying 3 = some .string ∧ x = .str s)) → ∀ x ∈ ks, ∃ n : Int, x = .int .i64 n := fun ks h x hx => by
    rcases h x hx with ⟨i, n, q1, q2⟩ | ⟨s, q1, _⟩
    ·rw [Tryz.underlying3] at q1; cases q1; exact ⟨n, q2⟩
    ·rw [Tryz.underlying3] at q1; cases q1
   obtain ⟨ws, rfl, rfl⟩ := zip_map (g := D.int .i64) kw vw l1 (keys kw k1) fun x hx => by
    obtain ⟨cs, q1, q2⟩ := v1 x hx
    obtain ⟨n, q3, _⟩ := q2.int Tryz.underlying3
    exact ⟨n, by rw [q1, q3]; rfl⟩
   obtain ⟨ns, rfl, rfl⟩ := zip_map (g := D.str) kn vn l3 (keys kn k3) fun x hx => by
    obtain ⟨cs, q1, q2⟩ := v3 x hx
    obtain ⟨n, q3, _⟩ := q2.string Tryz.underlying9
    exact ⟨n, by rw [q1, q3]; rfl⟩
   simp only [List.cons.injEq, and_true] at e0 e1 e2 e3 e4
   refine ⟨⟨wd, ws, ms, ns, cs⟩, by rw [e0, e1, e2, e3, e4]; rfl, ⟨fun s hs => w4 s hs, by unfold maxLen at l4; omega⟩, wf64 wm⟩
end Go.Av.Tryz
