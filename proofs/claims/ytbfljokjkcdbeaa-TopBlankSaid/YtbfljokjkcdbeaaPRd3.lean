import Derived.Test.YtbfljokjkcdbeaaPRd2
/- The program's reader: strings in brackets. -/
set_option linter.unusedSimpArgs false
namespace Go.Av.Try
open Go.Proofs

def escI (o : Option UInt8) : Int := match o with
  | none => -1
  | some b => b.toNat
theorem idx5 (e : UInt8) : Lib.indexByte [110, 114, 116, 98, 102] e = if e.toNat = 110 then 0 else if e.toNat = 114 then 1 else if e.toNat = 116 then 2 else if e.toNat = 98 then 3 else if e.toNat = 102 then 4 else -1 := by
  have h : ∀ i : Fin 256, Lib.indexByte [110, 114, 116, 98, 102] (UInt8.ofNat i.val) = if i.val = 110 then 0 else if i.val = 114 then 1 else if i.val = 116 then 2 else if i.val = 98 then 3 else if i.val = 102 then 4 else -1 := by decide +kernel
  have := h ⟨e.toNat, u8_lt e⟩
  simpa using this
theorem and255 {n : Int} (h : 0 ≤ n ∧ n ≤ 511) : IntKind.i64.wrap (((BitVec.ofInt IntKind.i64.bits n &&& BitVec.ofInt IntKind.i64.bits 255).toNat : Nat) : Int) = ((byteI n).toNat : Int) := by
  have hd : ∀ i : Fin 512, IntKind.i64.wrap (((BitVec.ofInt IntKind.i64.bits ((i.val : Nat) : Int) &&& BitVec.ofInt IntKind.i64.bits 255).toNat : Nat) : Int) = ((byteI ((i.val : Nat) : Int)).toNat : Int) := by decide +kernel
  have := hd ⟨n.toNat, by omega⟩
  simp only at this
  rwa [show ((n.toNat : Nat) : Int) = n by omega] at this

/-- parse.escaped -/
def L_parse_escaped : LCode :=
  .seq (.reg [⟨some 4, .asg (.k (.d (.int .i64 0))), none⟩, ⟨some 5, .asg (.k (.d (.int .i64 0))), none⟩]) (.seq (.reg [⟨some 10, .val (.cp (.t 0)), none⟩, ⟨some 11, .val (.cp (.t 
  1)), none⟩, ⟨some 12, .val (.idxS (.t 10) (.t 11)), none⟩, ⟨some 6, .asg (.t 12), none⟩]) (.seq (.reg [⟨some 13, .val (.cp (.t 6)), none⟩, ⟨some 14, .call 98 [.k (.d (.str [110, 
  114, 116, 98, 102])), .t 13], none⟩, ⟨some 7, .asg (.t 14), none⟩]) (.seq (.block 0 (.seq (.reg [⟨some 16, .val (.cp (.t 7)), none⟩, ⟨some 17, .val (.bin .geq (.t 16) (.k (.d 
  (.int .i64 0)))), none⟩, ⟨some 15, .asg (.t 17), none⟩]) (.cond (.t 15) (.seq (.reg [⟨some 18, .val (.cp (.t 7)), none⟩, ⟨some 19, .val (.idxS (.k (.d (.str [10, 13, 9, 8, 12]))) 
  (.t 18)), none⟩, ⟨some 20, .val (.cvI .i64 (.t 19)), none⟩, ⟨some 4, .asg (.t 20), none⟩, ⟨some 5, .asg (.k (.d (.int .i64 1))), none⟩]) .ret) (.seq (.reg [⟨some 22, .val (.cp 
  (.t 6)), none⟩, ⟨some 23, .val (.bin .eql (.t 22) (.k (.d (.int .u8 10)))), none⟩, ⟨some 21, .asg (.t 23), none⟩]) (.cond (.t 21) (.seq (.reg [⟨some 4, .asg (.k (.d (.int .i64 
  (-1)))), none⟩, ⟨some 5, .asg (.k (.d (.int .i64 1))), none⟩]) .ret) (.seq (.reg [⟨some 25, .val (.cp (.t 6)), none⟩, ⟨some 26, .val (.bin .eql (.t 25) (.k (.d (.int .u8 13)))), 
  none⟩, ⟨some 27, .val (.cp (.t 26)), none⟩, ⟨some 28, .val (.cp (.t 1)), some (27, true)⟩, ⟨some 29, .val (.bin .add (.t 28) (.k (.d (.int .i64 1)))), some (27, true)⟩, ⟨some 30, 
  .val (.cp (.t 0)), some (27, true)⟩, ⟨some 31, .val (.len true (.t 30)), some (27, true)⟩, ⟨some 32, .val (.bin .lss (.t 29) (.t 31)), some (27, true)⟩, ⟨some 33, .val (.pick (.t 
  27) (.t 32) (.k (.d (.bool false)))), none⟩, ⟨some 34, .val (.cp (.t 33)), none⟩, ⟨some 35, .val (.cp (.t 0)), some (34, true)⟩, ⟨some 36, .val (.cp (.t 1)), some (34, true)⟩, 
  ⟨some 37, .val (.bin .add (.t 36) (.k (.d (.int .i64 1)))), some (34, true)⟩, ⟨some 38, .val (.idxS (.t 35) (.t 37)), some (34, true)⟩, ⟨some 39, .val (.bin .eql (.t 38) (.k (.d 
  (.int .u8 10)))), some (34, true)⟩, ⟨some 40, .val (.pick (.t 34) (.t 39) (.k (.d (.bool false)))), none⟩, ⟨some 24, .asg (.t 40), none⟩]) (.cond (.t 24) (.seq (.reg [⟨some 4, 
  .asg (.k (.d (.int .i64 (-1)))), none⟩, ⟨some 5, .asg (.k (.d (.int .i64 2))), none⟩]) .ret) (.seq (.reg [⟨some 42, .val (.cp (.t 6)), none⟩, ⟨some 43, .val (.bin .eql (.t 42) 
  (.k (.d (.int .u8 13)))), none⟩, ⟨some 41, .asg (.t 43), none⟩]) (.cond (.t 41) (.seq (.reg [⟨some 4, .asg (.k (.d (.int .i64 (-1)))), none⟩, ⟨some 5, .asg (.k (.d (.int .i64 
  1))), none⟩]) .ret) (.seq (.reg [⟨some 45, .val (.cp (.t 6)), none⟩, ⟨some 46, .val (.bin .lss (.t 45) (.k (.d (.int .u8 48)))), none⟩, ⟨some 47, .val (.cp (.t 46)), none⟩, ⟨some 
  48, .val (.cp (.t 6)), some (47, false)⟩, ⟨some 49, .val (.bin .gtr (.t 48) (.k (.d (.int .u8 55)))), some (47, false)⟩, ⟨some 50, .val (.pick (.t 47) (.k (.d (.bool true))) (.t 
  49)), none⟩, ⟨some 44, .asg (.t 50), none⟩]) (.cond (.t 44) (.seq (.reg [⟨some 51, .val (.cp (.t 6)), none⟩, ⟨some 52, .val (.cvI .i64 (.t 51)), none⟩, ⟨some 4, .asg (.t 52), 
  none⟩, ⟨some 5, .asg (.k (.d (.int .i64 1))), none⟩]) .ret) .skip))))))))))) (.seq (.reg [⟨some 8, .asg (.k (.d (.int .i64 0))), none⟩, ⟨some 9, .asg (.k (.d (.int .i64 0))), 
  none⟩]) (.seq (.block 1 (.loop (.seq (.seq (.reg [⟨some 53, .val (.cp (.t 9)), none⟩, ⟨some 54, .val (.bin .lss (.t 53) (.k (.d (.int .i64 3)))), none⟩, ⟨some 55, .val (.cp (.t 
  54)), none⟩, ⟨some 56, .val (.cp (.t 1)), some (55, true)⟩, ⟨some 57, .val (.cp (.t 9)), some (55, true)⟩, ⟨some 58, .val (.bin .add (.t 56) (.t 57)), some (55, true)⟩, ⟨some 59, 
  .val (.cp (.t 0)), some (55, true)⟩, ⟨some 60, .val (.len true (.t 59)), some (55, true)⟩, ⟨some 61, .val (.bin .lss (.t 58) (.t 60)), some (55, true)⟩, ⟨some 62, .val (.pick (.t 
  55) (.t 61) (.k (.d (.bool false)))), none⟩, ⟨some 63, .val (.cp (.t 62)), none⟩, ⟨some 64, .val (.cp (.t 0)), some (63, true)⟩, ⟨some 65, .val (.cp (.t 1)), some (63, true)⟩, 
  ⟨some 66, .val (.cp (.t 9)), some (63, true)⟩, ⟨some 67, .val (.bin .add (.t 65) (.t 66)), some (63, true)⟩, ⟨some 68, .val (.idxS (.t 64) (.t 67)), some (63, true)⟩, ⟨some 69, 
  .val (.bin .geq (.t 68) (.k (.d (.int .u8 48)))), some (63, true)⟩, ⟨some 70, .val (.pick (.t 63) (.t 69) (.k (.d (.bool false)))), none⟩, ⟨some 71, .val (.cp (.t 70)), none⟩, 
  ⟨some 72, .val (.cp (.t 0)), some (71, true)⟩, ⟨some 73, .val (.cp (.t 1)), some (71, true)⟩, ⟨some 74, .val (.cp (.t 9)), some (71, true)⟩, ⟨some 75, .val (.bin .add (.t 73) (.t 
  74)), some (71, true)⟩, ⟨some 76, .val (.idxS (.t 72) (.t 75)), some (71, true)⟩, ⟨some 77, .val (.bin .leq (.t 76) (.k (.d (.int .u8 55)))), some (71, true)⟩, ⟨some 78, .val 
  (.pick (.t 71) (.t 77) (.k (.d (.bool false)))), none⟩]) (.cond (.t 78) .skip (.exit 1))) (.block 2 (.seq (.reg [⟨some 79, .val (.cp (.t 8)), none⟩, ⟨some 80, .val (.bin .mul (.k 
  (.d (.int .i64 8))) (.t 79)), none⟩, ⟨some 81, .val (.cp (.t 0)), none⟩, ⟨some 82, .val (.cp (.t 1)), none⟩, ⟨some 83, .val (.cp (.t 9)), none⟩, ⟨some 84, .val (.bin .add (.t 82) 
  (.t 83)), none⟩, ⟨some 85, .val (.idxS (.t 81) (.t 84)), none⟩, ⟨some 86, .val (.bin .sub (.t 85) (.k (.d (.int .u8 48)))), none⟩, ⟨some 87, .val (.cvI .i64 (.t 86)), none⟩, 
  ⟨some 88, .val (.bin .add (.t 80) (.t 87)), none⟩, ⟨some 8, .asg (.t 88), none⟩]) (.reg [⟨some 89, .val (.cp (.t 9)), none⟩, ⟨some 90, .val (.bin .add (.t 89) (.k (.d (.int .i64 
  1)))), none⟩, ⟨some 9, .asg (.t 90), none⟩])))))) (.seq (.reg [⟨some 91, .val (.cp (.t 8)), none⟩, ⟨some 92, .val (.bin .and (.t 91) (.k (.d (.int .i64 255)))), none⟩, ⟨some 93, 
  .val (.cp (.t 9)), none⟩, ⟨some 4, .asg (.t 92), none⟩, ⟨some 5, .asg (.t 93), none⟩]) .ret))))))
def R_parse_escaped : List LRes := [.tmp 4, .tmp 5]
theorem lift_parse_escaped : Lifts Try.prog 82 94 L_parse_escaped R_parse_escaped := ⟨_, _, Try.func82, rfl, by kernel_rfl, by kernel_rfl, rfl⟩

theorem escaped_call (s : List UInt8) (k : Nat) (hs : s.length ≤ 60000) (hk : k < s.length) : PCall Try.prog 82 [.str s, .int .i64 k] (fun r => r = .tup [.int .i64 (escI (escL (s.drop k)).1), .int .i64 (escL (s.drop k)).2]) := by
  obtain ⟨e, he⟩ := get_some (l := s) (i := k) hk
  have he8 := u8_lt e
  have hx := indexByte_call [110, 114, 116, 98, 102] e
  rw [idx5] at hx
  rw [drop_at he]
  generalize hR : escL (e :: s.drop (k + 1)) = R
  rw [escL] at hR
  refine lift_parse_escaped.call rfl ?_
  simp (maxSteps := 2000000) only [go_sem, ↓reduceIte, L_parse_escaped, R_parse_escaped, getI_nat, he]
  refine CallG.of hx ?_
  by_cases q0 : e.toNat = 110
  · rw [if_pos q0] at hR ⊢
    subst hR
    have g : getI ([10, 13, 9, 8, 12] : List UInt8) 0 = some 10 := rfl
    simp (maxSteps := 2000000) only [go_sem, ↓reduceIte, g]
    rfl
  rw [if_neg q0] at hR ⊢
  by_cases q1 : e.toNat = 114
  · rw [if_pos q1] at hR ⊢
    subst hR
    have g : getI ([10, 13, 9, 8, 12] : List UInt8) 1 = some 13 := rfl
    simp (maxSteps := 2000000) only [go_sem, ↓reduceIte, g]
    rfl
  rw [if_neg q1] at hR ⊢
  by_cases q2 : e.toNat = 116
  · rw [if_pos q2] at hR ⊢
    subst hR
    have g : getI ([10, 13, 9, 8, 12] : List UInt8) 2 = some 9 := rfl
    simp (maxSteps := 2000000) only [go_sem, ↓reduceIte, g]
    rfl
  rw [if_neg q2] at hR ⊢
  by_cases q3 : e.toNat = 98
  · rw [if_pos q3] at hR ⊢
    subst hR
    have g : getI ([10, 13, 9, 8, 12] : List UInt8) 3 = some 8 := rfl
    simp (maxSteps := 2000000) only [go_sem, ↓reduceIte, g]
    rfl
  rw [if_neg q3] at hR ⊢
  by_cases q4 : e.toNat = 102
  · rw [if_pos q4] at hR ⊢
    subst hR
    have g : getI ([10, 13, 9, 8, 12] : List UInt8) 4 = some 12 := rfl
    simp (maxSteps := 2000000) only [go_sem, ↓reduceIte, g]
    rfl
  rw [if_neg q4] at hR ⊢
  by_cases q5 : e.toNat = 10
  · rw [if_pos q5] at hR
    subst hR
    have z : ((e.toNat : Int) = 10) = True := by simp only [eq_iff_iff, iff_true]; omega
    simp (maxSteps := 2000000) only [go_sem, ↓reduceIte, z]
    rfl
  rw [if_neg q5] at hR
  have z5 : ((e.toNat : Int) = 10) = False := by simp only [eq_iff_iff, iff_false]; omega
  by_cases q6 : e.toNat = 13
  · rw [if_pos q6] at hR
    have z : ((e.toNat : Int) = 13) = True := by simp only [eq_iff_iff, iff_true]; omega
    simp (maxSteps := 2000000) (disch := omega) only [go_sem, ↓reduceIte, z5, z]
    refine ⟨fun h1 => ?_, fun h1 => ?_⟩
    · obtain ⟨x, hx⟩ := get_some (l := s) (i := k + 1) (by omega)
      have hx8 := u8_lt x
      have g : getI s ((k : Int) + 1) = some x := by rw [getI_add1, hx]
      have hh : (s.drop (k + 1)).head? = some x := by rw [drop_at hx]; rfl
      rw [hh] at hR
      simp (maxSteps := 2000000) (disch := omega) only [go_sem, ↓reduceIte, g]
      refine ⟨fun h2 => ?_, fun h2 => ?_⟩
      · rw [if_pos (by simp; omega)] at hR; subst hR; rfl
      · rw [if_neg (by simp; omega)] at hR; subst hR; exact ⟨fun _ => rfl, fun h => absurd (show (e.toNat : Int) = 13 by omega) h⟩
    · rw [List.drop_eq_nil_of_le (by omega)] at hR
      rw [if_neg (by simp)] at hR
      subst hR; rfl
  rw [if_neg q6] at hR
  have z6 : ((e.toNat : Int) = 13) = False := by simp only [eq_iff_iff, iff_false]; omega
  by_cases q7 : octB e = true
  · rw [if_neg (by simp [q7])] at hR
    have q7' := q7
    simp only [octB, Bool.and_eq_true, decide_eq_true_eq] at q7'
    have z7 : ((e.toNat : Int) < 48) = False := by simp only [eq_iff_iff, iff_false]; omega
    have z8 : (55 < (e.toNat : Int)) = False := by simp only [eq_iff_iff, iff_false]; omega
    simp (maxSteps := 2000000) only [go_sem, ↓reduceIte, z5, z6, z7, z8]
    have h0 : octG 3 0 (s.drop k) 0 = octG 2 (oct1 e) (s.drop (k + 1)) 1 := by
      rw [drop_at he, octG, if_pos q7]; congr 1; simp
    unfold octL at hR
    rw [← h0] at hR
    generalize hG : octG 3 0 (s.drop k) 0 = G at hR
    refine run_loop (fun y : Nat × Int => ⟨[(0, .d (.str s)), (1, .d (.int .i64 k)), (8, .d (.int .i64 y.2)), (9, .d (.int .i64 y.1))], [], []⟩)
      (fun y => y.1 ≤ 3 ∧ k + y.1 ≤ s.length ∧ 0 ≤ y.2 ∧ y.2 ≤ 511 ∧ (y.1 = 0 → y.2 = 0) ∧ (y.1 = 1 → y.2 ≤ 7) ∧ (y.1 = 2 → y.2 ≤ 63) ∧ octG (3 - y.1) y.2 (s.drop (k + y.1)) y.1 = G) (fun y => 3 - y.1) (0, 0) ?_ ?_ ?_
    · refine weak_mk ?_ trivial
      simp (maxSteps := 2000000) only [go_sem, ↓reduceIte, Sub, Int.natCast_add, Int.natCast_mul]
    · exact ⟨by simp, by simp only; omega, by simp, by simp, by simp, by simp, by simp, hG⟩
    · rintro ⟨j, v⟩ ⟨hj, hjl, hv0, hv1, hv2, hv3, hv4, hF⟩
      simp only at hj hjl hv0 hv1 hv2 hv3 hv4 hF
      have stop : octG (3 - j) v (s.drop (k + j)) j = (v, j) → Res.tup [D.int .i64 (IntKind.i64.wrap (((BitVec.ofInt IntKind.i64.bits v &&& BitVec.ofInt IntKind.i64.bits 255).toNat : Nat) : Int)), D.int .i64 j] = Res.tup [D.int .i64 (escI R.1), D.int .i64 R.2] := fun h => by
        rw [h] at hF
        subst hF
        subst hR
        rw [and255 ⟨hv0, hv1⟩]; rfl
      have ej : (k : Int) + (j : Int) = ((k + j : Nat) : Int) := by omega
      simp (maxSteps := 2000000) (disch := omega) only [go_sem, ↓reduceIte]
      refine ⟨fun c1 => ⟨fun c2 => ?_, fun c2 => stop (octG_stop fun x q h => by rw [List.drop_eq_nil_of_le (by omega)] at h; cases h)⟩, fun c1 => stop (by rw [show 3 - j = 0 by omega]; rfl)⟩
      obtain ⟨x, hx⟩ := get_some (l := s) (i := k + j) (by omega)
      have hx8 := u8_lt x
      have stop2 := fun (h : octB x = false) => stop (octG_stop fun x' q h' => by rw [drop_at hx] at h'; cases h'; exact h)
      have gx : getI s ((k : Int) + (j : Int)) = some x := by rw [ej, getI_nat, hx]
      simp (maxSteps := 2000000) (disch := omega) only [go_sem, ↓reduceIte, gx]
      refine ⟨fun c3 => ⟨fun c4 => ?_, fun c4 => stop2 (by simp [octB]; omega)⟩, fun c3 => stop2 (by simp [octB]; omega)⟩
      have ox : octB x = true := by simp [octB]; omega
      rw [drop_at hx, show 3 - j = (3 - (j + 1)) + 1 by omega, octG, if_pos ox] at hF
      refine ⟨(j + 1, 8 * v + oct1 x), ?_, ⟨by simp only; omega, by simp only; omega, by simp only [oct1]; omega, by simp only [oct1]; omega, by simp only; omega, by simp only [oct1]; omega, by simp only [oct1]; omega, hF⟩, by simp only; omega⟩
      have zz : decide ((x.toNat : Int) ≤ 55) = true := by simpa using c4
      refine weak_mk ?_ trivial
      simp (maxSteps := 2000000) only [go_sem, ↓reduceIte, Sub, Int.natCast_add, Int.natCast_mul, oct1, zz]
      all_goals ((repeat' apply And.intro) <;> (congr 2 <;> omega))
  · have q7 : octB e = false := by simpa using q7
    rw [if_pos q7] at hR
    subst hR
    simp (maxSteps := 2000000) only [go_sem, ↓reduceIte, z5, z6]
    rw [IntWalk.i64_in _ (by omega)]
    refine ⟨fun h1 => ?_, fun h1 => rfl⟩
    refine ⟨fun h2 => rfl, fun h2 => ?_⟩
    simp [octB] at q7
    exfalso; omega

theorem escL_n {t : List UInt8} (ht : t ≠ []) : 1 ≤ (escL t).2 ∧ (escL t).2 ≤ t.length := by
  cases t with
  | nil => exact absurd rfl ht
  | cons e r =>
    have g : ∀ (m : Nat) (v : Int) (q : List UInt8) (k : Nat), k ≤ (octG m v q k).2 ∧ (octG m v q k).2 ≤ k + q.length := fun m => by
      induction m with
      | zero => intro v q k; simp [octG]
      | succ m ih =>
        intro v q k
        cases q with
        | nil => simp [octG]
        | cons x q =>
          rw [octG]
          split
          · have := ih (8 * v + oct1 x) q (k + 1); simp only [List.length_cons]; omega
          · simp
    have h3 := g 2 (oct1 e) r 1
    rw [escL]
    simp only [List.length_cons]
    repeat' split
    all_goals first
      | (simp only [octL]; omega)
      | (simp only; omega)
      | skip
    all_goals
      rename_i h
      cases r with
      | nil => simp at h
      | cons x q => simp only [List.length_cons]; omega

/-- (*parse.reader).literal -/
def L___parse_reader__literal : LCode :=
  .seq (.reg [⟨some 2, .asg (.k (.d (.str []))), none⟩]) (.seq (.reg [⟨some 8, .val (.cp (.t 0)), none⟩, ⟨some 9, .val (.nck (.t 8)), none⟩, ⟨some 10, .val (.fa 1 (.t 9)), none⟩, 
  ⟨some 11, .val (.ld false 1 (.t 10)), none⟩, ⟨some 12, .val (.bin .add (.t 11) (.k (.d (.int .i64 1)))), none⟩, ⟨some 13, .val (.nck (.t 8)), none⟩, ⟨some 14, .val (.fa 1 (.t 
  13)), none⟩, ⟨none, .st 1 (.t 14) (.t 12), none⟩]) (.seq (.reg [⟨some 3, .nils 5 1, none⟩]) (.seq (.reg [⟨some 4, .asg (.k (.d (.int .i64 1))), none⟩]) (.seq (.block 0 (.loop 
  (.seq (.seq (.dreg [⟨some 15, .val (.cp (.t 0)), none⟩, ⟨some 16, .val (.nck (.t 15)), none⟩, ⟨some 17, .val (.fa 1 (.t 16)), none⟩, ⟨some 18, .val (.ld false 1 (.t 17)), none⟩, 
  ⟨some 19, .val (.cp (.t 0)), none⟩, ⟨some 20, .val (.nck (.t 19)), none⟩, ⟨some 21, .val (.fa 0 (.t 20)), none⟩, ⟨some 22, .val (.ld false 1 (.t 21)), none⟩, ⟨some 23, .val (.len 
  true (.t 22)), none⟩, ⟨some 24, .val (.bin .lss (.t 18) (.t 23)), none⟩]) (.cond (.t 24) .skip (.exit 0))) (.block 1 (.seq (.dreg [⟨some 25, .val (.cp (.t 0)), none⟩, ⟨some 26, 
  .val (.nck (.t 25)), none⟩, ⟨some 27, .val (.fa 0 (.t 26)), none⟩, ⟨some 28, .val (.ld false 1 (.t 27)), none⟩, ⟨some 29, .val (.cp (.t 0)), none⟩, ⟨some 30, .val (.nck (.t 29)), 
  none⟩, ⟨some 31, .val (.fa 1 (.t 30)), none⟩, ⟨some 32, .val (.ld false 1 (.t 31)), none⟩, ⟨some 33, .val (.idxS (.t 28) (.t 32)), none⟩, ⟨some 5, .asg (.t 33), none⟩]) (.seq 
  (.reg [⟨some 34, .val (.cp (.t 0)), none⟩, ⟨some 35, .val (.nck (.t 34)), none⟩, ⟨some 36, .val (.fa 1 (.t 35)), none⟩, ⟨some 37, .val (.ld false 1 (.t 36)), none⟩, ⟨some 38, 
  .val (.bin .add (.t 37) (.k (.d (.int .i64 1)))), none⟩, ⟨some 39, .val (.nck (.t 34)), none⟩, ⟨some 40, .val (.fa 1 (.t 39)), none⟩, ⟨none, .st 1 (.t 40) (.t 38), none⟩]) (.seq 
  (.seq (.reg [⟨some 41, .val (.cp (.t 5)), none⟩]) (.block 2 (.seq (.reg [⟨some 43, .val (.bin .eql (.t 41) (.k (.d (.int .u8 92)))), none⟩, ⟨some 42, .asg (.t 43), none⟩]) (.cond 
  (.t 42) (.seq (.seq (.dreg [⟨some 44, .val (.cp (.t 0)), none⟩, ⟨some 45, .val (.nck (.t 44)), none⟩, ⟨some 46, .val (.fa 1 (.t 45)), none⟩, ⟨some 47, .val (.ld false 1 (.t 46)), 
  none⟩, ⟨some 48, .val (.cp (.t 0)), none⟩, ⟨some 49, .val (.nck (.t 48)), none⟩, ⟨some 50, .val (.fa 0 (.t 49)), none⟩, ⟨some 51, .val (.ld false 1 (.t 50)), none⟩, ⟨some 52, 
  .val (.len true (.t 51)), none⟩, ⟨some 53, .val (.bin .eql (.t 47) (.t 52)), none⟩]) (.cond (.t 53) (.exit 1) .skip)) (.seq (.dreg [⟨some 55, .val (.cp (.t 0)), none⟩, ⟨some 56, 
  .val (.nck (.t 55)), none⟩, ⟨some 57, .val (.fa 0 (.t 56)), none⟩, ⟨some 58, .val (.ld false 1 (.t 57)), none⟩, ⟨some 59, .val (.cp (.t 0)), none⟩, ⟨some 60, .val (.nck (.t 59)), 
  none⟩, ⟨some 61, .val (.fa 1 (.t 60)), none⟩, ⟨some 62, .val (.ld false 1 (.t 61)), none⟩, ⟨some 63, .call 82 [.t 58, .t 62], none⟩, ⟨some 54, .val (.cp (.t 63)), none⟩, ⟨some 
  64, .val (.ext 0 (.t 54)), none⟩, ⟨some 65, .val (.ext 1 (.t 54)), none⟩, ⟨some 6, .val (.cp (.t 64)), none⟩, ⟨some 7, .val (.cp (.t 65)), none⟩]) (.seq (.reg [⟨some 66, .val 
  (.cp (.t 0)), none⟩, ⟨some 67, .val (.nck (.t 66)), none⟩, ⟨some 68, .val (.fa 1 (.t 67)), none⟩, ⟨some 69, .val (.ld false 1 (.t 68)), none⟩, ⟨some 70, .val (.cp (.t 7)), none⟩, 
  ⟨some 71, .val (.bin .add (.t 69) (.t 70)), none⟩, ⟨some 72, .val (.nck (.t 66)), none⟩, ⟨some 73, .val (.fa 1 (.t 72)), none⟩, ⟨none, .st 1 (.t 73) (.t 71), none⟩]) (.seq (.seq 
  (.reg [⟨some 74, .val (.cp (.t 6)), none⟩, ⟨some 75, .val (.bin .geq (.t 74) (.k (.d (.int .i64 0)))), none⟩]) (.cond (.t 75) (.reg [⟨some 76, .val (.cp (.t 3)), none⟩, ⟨some 77, 
  .val (.cp (.t 6)), none⟩, ⟨some 78, .val (.cvI .u8 (.t 77)), none⟩, ⟨some 79, .bsl 5 1 [.t 78], none⟩, ⟨some 80, .app 5 1 1 false (.t 76) (.t 79), none⟩, ⟨some 3, .asg (.t 80), 
  none⟩]) .skip)) (.exit 1))))) (.seq (.reg [⟨some 82, .val (.bin .eql (.t 41) (.k (.d (.int .u8 40)))), none⟩, ⟨some 81, .asg (.t 82), none⟩]) (.cond (.t 81) (.reg [⟨some 83, .val 
  (.cp (.t 4)), none⟩, ⟨some 84, .val (.bin .add (.t 83) (.k (.d (.int .i64 1)))), none⟩, ⟨some 4, .asg (.t 84), none⟩]) (.seq (.reg [⟨some 86, .val (.bin .eql (.t 41) (.k (.d 
  (.int .u8 41)))), none⟩, ⟨some 85, .asg (.t 86), none⟩]) (.cond (.t 85) (.seq (.reg [⟨some 87, .val (.cp (.t 4)), none⟩, ⟨some 88, .val (.bin .sub (.t 87) (.k (.d (.int .i64 
  1)))), none⟩, ⟨some 4, .asg (.t 88), none⟩]) (.seq (.reg [⟨some 89, .val (.cp (.t 4)), none⟩, ⟨some 90, .val (.bin .eql (.t 89) (.k (.d (.int .i64 0)))), none⟩]) (.cond (.t 90) 
  (.seq (.reg [⟨some 91, .val (.cp (.t 3)), none⟩, ⟨some 92, .val (.b2s (.t 91)), none⟩, ⟨some 2, .asg (.t 92), none⟩]) .ret) .skip))) .skip)))))))) (.reg [⟨some 93, .val (.cp (.t 
  3)), none⟩, ⟨some 94, .val (.cp (.t 5)), none⟩, ⟨some 95, .bsl 5 1 [.t 94], none⟩, ⟨some 96, .app 5 1 1 false (.t 93) (.t 95), none⟩, ⟨some 3, .asg (.t 96), none⟩])))))))) (.seq 
  (.reg [⟨some 97, .val (.cp (.t 0)), none⟩, ⟨some 98, .val (.mkI 76 (.k (.d (.int .i64 5)))), none⟩, ⟨some 99, .prim .call [.k (.fn (.func 40) [] []), .t 97, .t 98] [], none⟩]) 
  (.seq (.reg [⟨some 2, .asg (.k (.d (.str []))), none⟩]) .ret))))))
def R___parse_reader__literal : List LRes := [.tmp 2]
theorem lift___parse_reader__literal : Lifts Try.prog 58 100 L___parse_reader__literal R___parse_reader__literal := ⟨_, _, Try.func58, rfl, by kernel_rfl, by kernel_rfl, rfl⟩

theorem litP_call (s : List UInt8) (k : Nat) (hs : s.length ≤ 60000) (hk : k < s.length) : MCall Try.prog 58 [.ptr (.x 0) 0] [robj s k 0]
    (fun r hs' => match litF 0 1 (s.drop (k + 1)) [] (k + 1) with
      | some (b, k') => r = .d (.str b) ∧ hs' = [robj s k' 0]
      | none => ∃ k' : Int, r = .d (.str []) ∧ hs' = [robj s k' 5]) := by
  generalize hR : litF 0 1 (s.drop (k + 1)) [] (k + 1) = R
  rw [robj_0]
  refine lift___parse_reader__literal.mcall (by kernel_rfl) rfl ?_
  simp (maxSteps := 2000000) (disch := omega) only [go_sem, ↓reduceIte, L___parse_reader__literal, R___parse_reader__literal]
  refine run_loop (fun y : Nat × Nat × List UInt8 => ⟨[(0, .ptr (.x 0) 0), (3, .own (.t 3) 5 1 (bytesD y.2.2)), (4, .d (.int .i64 y.2.1))], [], [(0, .cells [.d (.str s), .d (.int .i64 y.1), .d .nil])]⟩)
    (fun y => y.1 ≤ s.length ∧ y.2.2.length ≤ y.1 ∧ 1 ≤ y.2.1 ∧ y.2.1 ≤ y.1 + 1 ∧ litF 0 y.2.1 (s.drop y.1) y.2.2 y.1 = R) (fun y => s.length - y.1) (k + 1, 1, []) ?_ ?_ ?_
  · refine Weak.mk ?_ ?_ ?_ <;> simp (maxSteps := 2000000) only [go_sem, ↓reduceIte, Sub, Int.natCast_add, Int.natCast_mul, bytesD]
  · exact ⟨hk, by simp, by simp, by simp, hR⟩
  · rintro ⟨i, d, b⟩ ⟨hi, hb, hd1, hd2, hF⟩
    simp only at hi hb hd1 hd2 hF
    have hblen := bytesD_length b
    simp (maxSteps := 2000000) only [go_sem, ↓reduceIte]
    refine ⟨fun hlt => ?_, fun hge => ?_⟩
    · obtain ⟨c, hc⟩ := get_some (l := s) (i := i) (by omega)
      have hc8 := u8_lt c
      rw [drop_at hc, litF] at hF
      simp (maxSteps := 2000000) (disch := omega) only [go_sem, ↓reduceIte, getI_nat, hc]
      refine ⟨fun h92 => ?_, fun h92 => ⟨fun h40 => ?_, fun h40 => ⟨fun h41 => ⟨fun hd0 => ?_, fun hd0 => ?_⟩, fun h41 => ?_⟩⟩⟩
      · rw [if_pos (by omega)] at hF
        refine ⟨fun he => ?_, fun he => ?_⟩
        · rw [if_pos (List.drop_eq_nil_of_le (by omega))] at hF
          refine ⟨(i + 1, d, b), ?_, ⟨by simp only; omega, by simp only; omega, hd1, by simp only; omega, ?_⟩, by simp only; omega⟩
          · refine Weak.mk ?_ ?_ ?_ <;> simp (maxSteps := 2000000) only [go_sem, ↓reduceIte, Sub, Int.natCast_add, Int.natCast_mul]
          · simp only
            rw [List.drop_eq_nil_of_le (by omega), litF]; exact hF
        · have hne : s.drop (i + 1) ≠ [] := fun e => by have := congrArg List.length e; simp at this; omega
          rw [if_neg hne] at hF
          have hesc := escaped_call s (i + 1) hs (by omega)
          have hen := escL_n hne
          rw [List.length_drop] at hen
          rw [litF_skip _ (by rw [List.length_drop]; omega), List.drop_drop] at hF
          generalize escL (s.drop (i + 1)) = X at hesc hen hF
          obtain ⟨xo, xn⟩ := X
          simp only at hesc hen hF
          rw [Int.natCast_add, Int.natCast_one] at hesc
          refine CallD.of hesc ?_
          cases xo with
          | none =>
            simp (maxSteps := 2000000) (disch := omega) only [go_sem, ↓reduceIte, escI]
            refine ⟨(i + 1 + xn, d, b), ?_, ⟨by simp only; omega, by simp only; omega, hd1, by simp only; omega, by simpa using hF⟩, by simp only; omega⟩
            refine Weak.mk ?_ ?_ ?_ <;> simp (maxSteps := 2000000) only [go_sem, ↓reduceIte, Sub, Int.natCast_add, Int.natCast_mul]
          | some x =>
            have hx8 := u8_lt x
            simp (maxSteps := 2000000) (disch := omega) only [go_sem, ↓reduceIte, escI]
            refine ⟨fun _ => ⟨by omega, (i + 1 + xn, d, b ++ [x]), ?_, ⟨by simp only; omega, by simp only [List.length_append, List.length_cons, List.length_nil]; omega, hd1, by simp only; omega, hF⟩, by simp only; omega⟩, fun h => by exfalso; omega⟩
            refine Weak.mk ?_ ?_ ?_ <;> simp (maxSteps := 2000000) only [go_sem, ↓reduceIte, Sub, Int.natCast_add, Int.natCast_mul, bytesD_append, bytesD_cons, bytesD_nil]
      · rw [if_neg (by omega), if_neg (by omega), if_pos (by omega)] at hF
        refine ⟨by omega, (i + 1, d + 1, b ++ [c]), ?_, ⟨by simp only; omega, by simp only [List.length_append, List.length_cons, List.length_nil]; omega, by simp only; omega, by simp only; omega, hF⟩, by simp only; omega⟩
        refine Weak.mk ?_ ?_ ?_ <;> simp (maxSteps := 2000000) only [go_sem, ↓reduceIte, Sub, Int.natCast_add, Int.natCast_mul, bytesD_append, bytesD_cons, bytesD_nil]
      · rw [if_neg (by omega), if_pos (by omega), if_pos (by omega)] at hF
        subst hF
        simp (maxSteps := 2000000) (disch := omega) only [go_sem, ↓reduceIte, bytesOf_bytesD]
        simp only [robj, Int.natCast_add, Int.natCast_one]; rfl
      · rw [if_neg (by omega), if_pos (by omega), if_neg (by omega)] at hF
        refine ⟨by omega, (i + 1, d - 1, b ++ [c]), ?_, ⟨by simp only; omega, by simp only [List.length_append, List.length_cons, List.length_nil]; omega, by simp only; omega, by simp only; omega, hF⟩, by simp only; omega⟩
        have e1 : ((d - 1 : Nat) : Int) = (d : Int) - 1 := by omega
        refine Weak.mk ?_ ?_ ?_ <;> simp (maxSteps := 2000000) only [go_sem, ↓reduceIte, Sub, Int.natCast_add, Int.natCast_mul, bytesD_append, bytesD_cons, bytesD_nil, e1]
      · rw [if_neg (by omega), if_neg (by omega), if_neg (by omega)] at hF
        refine ⟨by omega, (i + 1, d, b ++ [c]), ?_, ⟨by simp only; omega, by simp only [List.length_append, List.length_cons, List.length_nil]; omega, by simp only; omega, by simp only; omega, hF⟩, by simp only; omega⟩
        refine Weak.mk ?_ ?_ ?_ <;> simp (maxSteps := 2000000) only [go_sem, ↓reduceIte, Sub, Int.natCast_add, Int.natCast_mul, bytesD_append, bytesD_cons, bytesD_nil]
    · rw [List.drop_eq_nil_of_le (by omega), litF] at hF
      subst hF
      have hf := fail_0 s (i : Int) 5
      rw [robj_0, show errD 5 = .iface 76 (.int .i64 5) from rfl] at hf
      refine PrimG.mcall ([.x 0]) ([]) rfl (hf) rfl rfl (by simp only [objsAt, St.obj, aget, AObj.ren, AV.ren, AV.ren1, renL, ren1L, renR, renQ, List.getD_cons_zero, List.getD_cons_succ, and_true, and_self, Nat.reduceEqDiff, ↓reduceIte, reduceCtorEq]) rfl rfl rfl ⟨rfl, rfl⟩ ?_
      simp (maxSteps := 2000000) only [go_sem, ↓reduceIte, robj]
      exact ⟨_, rfl⟩
end Go.Av.Try
