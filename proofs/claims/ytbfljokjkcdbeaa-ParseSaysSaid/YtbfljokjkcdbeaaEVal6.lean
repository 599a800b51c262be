import Derived.Test.YtbfljokjkcdbeaaEVal5
import Derived.Test.YtbfljokjkcdbeaaDRefNum
/- Values of a file: which ones are well, by the document. -/
set_option linter.unusedSimpArgs false
namespace Go.Av.Try
open Go.Proofs

theorem wellV_badL {v x : Val} (hx : x ∈ v.l) (h : wellV x = false) : wellV v = false := by
  have h0 : ¬ v.l.length = 0 := fun e => by rw [List.length_eq_zero_iff.1 e] at hx; simp at hx
  have h1 : wellL v.l = false := by rw [wellL_eq]; simp only [Bool.not_eq_false']; exact List.any_eq_true.2 ⟨x, hx, by simp [h]⟩
  rw [wellV_eq]
  simp [h0, h1]
theorem wellV_badF {v : Val} (h : wellF none v.f = false) : wellV v = false := by
  have h0 : ¬ v.f.length = 0 := fun e => by rw [List.length_eq_zero_iff.1 e] at h; simp [wellF] at h
  rw [wellV_eq]
  simp [h0, h]
theorem wellL_all {l : List Val} (h : ∀ x ∈ l, wellV x = true) : wellL l = true := by
  rw [wellL_eq]
  simp only [Bool.not_eq_true']
  rw [List.any_eq_false]
  intro x hx
  simp [h x hx]
theorem wellF_app {p : Option (List UInt8)} {a b : List Fld} (h : wellF p a = false) : wellF p (a ++ b) = false := by
  induction a generalizing p with
  | nil => simp [wellF] at h
  | cons x r ih =>
    cases x
    simp only [List.cons_append, wellF, Bool.and_eq_false_iff] at h ⊢
    rcases h with h | h
    · exact .inl h
    · exact .inr (ih h)
theorem wellF_take_bad {l : List Fld} {i : Nat} (h : wellF none (l.take i) = false) : wellF none l = false := by
  rw [← List.take_append_drop i l]
  exact wellF_app h

theorem bytesLeq_not : ∀ (x y : List UInt8), (Op.bytesLess x y || decide (x = y)) = !Op.bytesLess y x
  | [], [] => by simp [Op.bytesLess]
  | [], _ :: _ => by simp [Op.bytesLess]
  | _ :: _, [] => by simp [Op.bytesLess]
  | a :: x, b :: y => by
    have ih := bytesLeq_not x y
    have hab : a = b ↔ a.toNat = b.toNat := ⟨fun h => by rw [h], UInt8.toNat_inj.1⟩
    simp only [Op.bytesLess, UInt8.lt_iff_toNat_lt, beq_iff_eq, bne_iff_ne] at ih ⊢
    rcases Nat.lt_trichotomy a.toNat b.toNat with h | h | h
    · have h1 : ¬ b.toNat < a.toNat := by omega
      have h2 : ¬ a = b := fun e => by rw [hab] at e; omega
      have h3 : ¬ b = a := fun e => h2 e.symm
      simp [h, h1, h2, h3]
    · have h2 := hab.2 h
      subst h2
      simp [ih]
    · have h1 : ¬ a.toNat < b.toNat := by omega
      have h2 : ¬ a = b := fun e => by rw [hab] at e; omega
      have h3 : ¬ b = a := fun e => h2 e.symm
      simp [h, h1, h2, h3]

/-- foliowrightref.shaped -/
def L_foliowrightref_shaped : LCode :=
  .seq (.reg [⟨some 1, .box (.t 0), none⟩, ⟨some 2, .asg (.k (.d (.bool false))), none⟩]) (.seq (.seq (.reg [⟨some 3, .asg (.k (.d (.int .i64 0))), none⟩]) (.block 0 (.loop (.seq 
  (.seq (.reg [⟨some 12, .val (.cp (.t 3)), none⟩, ⟨some 13, .val (.fa 3 (.t 1)), none⟩, ⟨some 14, .val (.ld false 1 (.t 13)), none⟩, ⟨some 15, .val (.len false (.t 14)), none⟩, 
  ⟨some 16, .val (.bin .lss (.t 12) (.t 15)), none⟩]) (.cond (.t 16) .skip (.exit 0))) (.seq (.block 1 (.seq (.reg [⟨some 19, .val (.fa 3 (.t 1)), none⟩, ⟨some 20, .val (.ld false 
  1 (.t 19)), none⟩, ⟨some 21, .val (.cp (.t 3)), none⟩, ⟨some 22, .val (.ia 5 (.t 20) (.t 21)), none⟩, ⟨some 23, .val (.ld true 5 (.t 22)), none⟩, ⟨some 24, .call 74 [.t 23], 
  none⟩, ⟨some 4, .asg (.t 24), none⟩]) (.seq (.reg [⟨some 25, .val (.cp (.t 4)), none⟩, ⟨some 26, .val (.not (.t 25)), none⟩]) (.cond (.t 26) (.seq (.reg [⟨some 2, .asg (.k (.d 
  (.bool false))), none⟩]) .ret) .skip)))) (.reg [⟨some 17, .val (.cp (.t 3)), none⟩, ⟨some 18, .val (.bin .add (.t 17) (.k (.d (.int .i64 1)))), none⟩, ⟨some 3, .asg (.t 18), 
  none⟩])))))) (.seq (.seq (.reg [⟨some 5, .asg (.k (.d (.int .i64 0))), none⟩]) (.block 2 (.loop (.seq (.seq (.reg [⟨some 27, .val (.cp (.t 5)), none⟩, ⟨some 28, .val (.fa 4 (.t 
  1)), none⟩, ⟨some 29, .val (.ld false 1 (.t 28)), none⟩, ⟨some 30, .val (.len false (.t 29)), none⟩, ⟨some 31, .val (.bin .lss (.t 27) (.t 30)), none⟩]) (.cond (.t 31) .skip 
  (.exit 2))) (.seq (.block 3 (.seq (.reg [⟨some 34, .val (.fa 4 (.t 1)), none⟩, ⟨some 35, .val (.ld false 1 (.t 34)), none⟩, ⟨some 36, .val (.cp (.t 5)), none⟩, ⟨some 37, .val 
  (.ia 6 (.t 35) (.t 36)), none⟩, ⟨some 38, .val (.fa 1 (.t 37)), none⟩, ⟨some 39, .val (.ld true 5 (.t 38)), none⟩, ⟨some 40, .call 74 [.t 39], none⟩, ⟨some 6, .asg (.t 40), 
  none⟩]) (.seq (.reg [⟨some 41, .val (.fa 4 (.t 1)), none⟩, ⟨some 42, .val (.ld false 1 (.t 41)), none⟩, ⟨some 43, .val (.cp (.t 5)), none⟩, ⟨some 44, .val (.ia 6 (.t 42) (.t 
  43)), none⟩, ⟨some 45, .val (.fa 0 (.t 44)), none⟩, ⟨some 46, .val (.ld false 1 (.t 45)), none⟩, ⟨some 47, .call 91 [.t 46], none⟩, ⟨some 7, .asg (.t 47), none⟩]) (.seq (.dreg 
  [⟨some 48, .val (.cp (.t 6)), none⟩, ⟨some 49, .val (.not (.t 48)), none⟩, ⟨some 50, .val (.cp (.t 49)), none⟩, ⟨some 51, .val (.cp (.t 7)), some (50, false)⟩, ⟨some 52, .val 
  (.not (.t 51)), some (50, false)⟩, ⟨some 53, .val (.pick (.t 50) (.k (.d (.bool true))) (.t 52)), none⟩, ⟨some 54, .val (.cp (.t 53)), none⟩, ⟨some 55, .val (.cp (.t 5)), some 
  (54, false)⟩, ⟨some 56, .val (.bin .gtr (.t 55) (.k (.d (.int .i64 0)))), some (54, false)⟩, ⟨some 57, .val (.cp (.t 56)), some (54, false)⟩, ⟨some 58, .val (.fa 4 (.t 1)), some 
  (57, true)⟩, ⟨some 59, .val (.ld false 1 (.t 58)), some (57, true)⟩, ⟨some 60, .val (.cp (.t 5)), some (57, true)⟩, ⟨some 61, .val (.ia 6 (.t 59) (.t 60)), some (57, true)⟩, 
  ⟨some 62, .val (.fa 0 (.t 61)), some (57, true)⟩, ⟨some 63, .val (.ld false 1 (.t 62)), some (57, true)⟩, ⟨some 64, .val (.fa 4 (.t 1)), some (57, true)⟩, ⟨some 65, .val (.ld 
  false 1 (.t 64)), some (57, true)⟩, ⟨some 66, .val (.cp (.t 5)), some (57, true)⟩, ⟨some 67, .val (.bin .sub (.t 66) (.k (.d (.int .i64 1)))), some (57, true)⟩, ⟨some 68, .val 
  (.ia 6 (.t 65) (.t 67)), some (57, true)⟩, ⟨some 69, .val (.fa 0 (.t 68)), some (57, true)⟩, ⟨some 70, .val (.ld false 1 (.t 69)), some (57, true)⟩, ⟨some 71, .val (.bin .leq (.t 
  63) (.t 70)), some (57, true)⟩, ⟨some 72, .val (.pick (.t 57) (.t 71) (.k (.d (.bool false)))), some (54, false)⟩, ⟨some 73, .val (.pick (.t 54) (.k (.d (.bool true))) (.t 72)), 
  none⟩]) (.cond (.t 73) (.seq (.reg [⟨some 2, .asg (.k (.d (.bool false))), none⟩]) .ret) .skip))))) (.reg [⟨some 32, .val (.cp (.t 5)), none⟩, ⟨some 33, .val (.bin .add (.t 32) 
  (.k (.d (.int .i64 1)))), none⟩, ⟨some 5, .asg (.t 33), none⟩])))))) (.seq (.reg [⟨some 74, .val (.fa 1 (.t 1)), none⟩, ⟨some 75, .val (.ld false 1 (.t 74)), none⟩, ⟨some 76, 
  .val (.bin .eql (.t 75) (.k (.d (.int .i64 0)))), none⟩, ⟨some 8, .asg (.t 76), none⟩]) (.seq (.reg [⟨some 77, .val (.fa 2 (.t 1)), none⟩, ⟨some 78, .val (.ld false 1 (.t 77)), 
  none⟩, ⟨some 79, .val (.bin .eql (.t 78) (.k (.d (.str [])))), none⟩, ⟨some 9, .asg (.t 79), none⟩]) (.seq (.reg [⟨some 80, .val (.fa 3 (.t 1)), none⟩, ⟨some 81, .val (.ld false 
  1 (.t 80)), none⟩, ⟨some 82, .val (.len false (.t 81)), none⟩, ⟨some 83, .val (.bin .eql (.t 82) (.k (.d (.int .i64 0)))), none⟩, ⟨some 10, .asg (.t 83), none⟩]) (.seq (.reg 
  [⟨some 84, .val (.fa 4 (.t 1)), none⟩, ⟨some 85, .val (.ld false 1 (.t 84)), none⟩, ⟨some 86, .val (.len false (.t 85)), none⟩, ⟨some 87, .val (.bin .eql (.t 86) (.k (.d (.int 
  .i64 0)))), none⟩, ⟨some 11, .asg (.t 87), none⟩]) (.seq (.seq (.reg [⟨some 88, .val (.fa 0 (.t 1)), none⟩, ⟨some 89, .val (.ld false 1 (.t 88)), none⟩]) (.block 4 (.seq (.reg 
  [⟨some 91, .val (.bin .eql (.t 89) (.k (.d (.int .i64 0)))), none⟩, ⟨some 90, .asg (.t 91), none⟩]) (.cond (.t 90) (.seq (.reg [⟨some 92, .val (.cp (.t 8)), none⟩, ⟨some 93, .val 
  (.cp (.t 92)), none⟩, ⟨some 94, .val (.cp (.t 9)), some (93, true)⟩, ⟨some 95, .val (.pick (.t 93) (.t 94) (.k (.d (.bool false)))), none⟩, ⟨some 96, .val (.cp (.t 95)), none⟩, 
  ⟨some 97, .val (.cp (.t 10)), some (96, true)⟩, ⟨some 98, .val (.pick (.t 96) (.t 97) (.k (.d (.bool false)))), none⟩, ⟨some 99, .val (.cp (.t 98)), none⟩, ⟨some 100, .val (.cp 
  (.t 11)), some (99, true)⟩, ⟨some 101, .val (.pick (.t 99) (.t 100) (.k (.d (.bool false)))), none⟩, ⟨some 2, .asg (.t 101), none⟩]) .ret) (.seq (.reg [⟨some 103, .val (.bin .eql 
  (.t 89) (.k (.d (.int .i64 1)))), none⟩, ⟨some 102, .asg (.t 103), none⟩]) (.cond (.t 102) (.seq (.reg [⟨some 104, .val (.cp (.t 8)), none⟩, ⟨some 105, .val (.cp (.t 104)), 
  none⟩, ⟨some 106, .val (.fa 1 (.t 1)), some (105, false)⟩, ⟨some 107, .val (.ld false 1 (.t 106)), some (105, false)⟩, ⟨some 108, .val (.bin .eql (.t 107) (.k (.d (.int .i64 
  1)))), some (105, false)⟩, ⟨some 109, .val (.pick (.t 105) (.k (.d (.bool true))) (.t 108)), none⟩, ⟨some 110, .val (.cp (.t 109)), none⟩, ⟨some 111, .val (.cp (.t 9)), some 
  (110, true)⟩, ⟨some 112, .val (.pick (.t 110) (.t 111) (.k (.d (.bool false)))), none⟩, ⟨some 113, .val (.cp (.t 112)), none⟩, ⟨some 114, .val (.cp (.t 10)), some (113, true)⟩, 
  ⟨some 115, .val (.pick (.t 113) (.t 114) (.k (.d (.bool false)))), none⟩, ⟨some 116, .val (.cp (.t 115)), none⟩, ⟨some 117, .val (.cp (.t 11)), some (116, true)⟩, ⟨some 118, .val 
  (.pick (.t 116) (.t 117) (.k (.d (.bool false)))), none⟩, ⟨some 2, .asg (.t 118), none⟩]) .ret) (.seq (.reg [⟨some 120, .val (.bin .eql (.t 89) (.k (.d (.int .i64 2)))), none⟩, 
  ⟨some 119, .asg (.t 120), none⟩]) (.cond (.t 119) (.seq (.reg [⟨some 121, .val (.fa 1 (.t 1)), none⟩, ⟨some 122, .val (.ld false 1 (.t 121)), none⟩, ⟨some 123, .call 36 [.t 122], 
  none⟩, ⟨some 124, .val (.bin .eql (.t 123) (.k (.d (.int .i64 0)))), none⟩, ⟨some 125, .val (.cp (.t 124)), none⟩, ⟨some 126, .val (.cp (.t 9)), some (125, true)⟩, ⟨some 127, 
  .val (.pick (.t 125) (.t 126) (.k (.d (.bool false)))), none⟩, ⟨some 128, .val (.cp (.t 127)), none⟩, ⟨some 129, .val (.cp (.t 10)), some (128, true)⟩, ⟨some 130, .val (.pick (.t 
  128) (.t 129) (.k (.d (.bool false)))), none⟩, ⟨some 131, .val (.cp (.t 130)), none⟩, ⟨some 132, .val (.cp (.t 11)), some (131, true)⟩, ⟨some 133, .val (.pick (.t 131) (.t 132) 
  (.k (.d (.bool false)))), none⟩, ⟨some 2, .asg (.t 133), none⟩]) .ret) (.seq (.reg [⟨some 135, .val (.bin .eql (.t 89) (.k (.d (.int .i64 3)))), none⟩, ⟨some 134, .asg (.t 135), 
  none⟩]) (.cond (.t 134) (.seq (.reg [⟨some 136, .val (.cp (.t 8)), none⟩, ⟨some 137, .val (.cp (.t 136)), none⟩, ⟨some 138, .val (.fa 2 (.t 1)), some (137, true)⟩, ⟨some 139, 
  .val (.ld false 1 (.t 138)), some (137, true)⟩, ⟨some 140, .val (.len true (.t 139)), some (137, true)⟩, ⟨some 141, .val (.bin .leq (.t 140) (.k (.d (.int .i64 200)))), some 
  (137, true)⟩, ⟨some 142, .val (.pick (.t 137) (.t 141) (.k (.d (.bool false)))), none⟩, ⟨some 143, .val (.cp (.t 142)), none⟩, ⟨some 144, .val (.cp (.t 10)), some (143, true)⟩, 
  ⟨some 145, .val (.pick (.t 143) (.t 144) (.k (.d (.bool false)))), none⟩, ⟨some 146, .val (.cp (.t 145)), none⟩, ⟨some 147, .val (.cp (.t 11)), some (146, true)⟩, ⟨some 148, .val 
  (.pick (.t 146) (.t 147) (.k (.d (.bool false)))), none⟩, ⟨some 2, .asg (.t 148), none⟩]) .ret) (.seq (.reg [⟨some 150, .val (.bin .eql (.t 89) (.k (.d (.int .i64 4)))), none⟩, 
  ⟨some 149, .asg (.t 150), none⟩]) (.cond (.t 149) (.seq (.reg [⟨some 151, .val (.cp (.t 8)), none⟩, ⟨some 152, .val (.cp (.t 151)), none⟩, ⟨some 153, .val (.fa 2 (.t 1)), some 
  (152, true)⟩, ⟨some 154, .val (.ld false 1 (.t 153)), some (152, true)⟩, ⟨some 155, .call 91 [.t 154], some (152, true)⟩, ⟨some 156, .val (.pick (.t 152) (.t 155) (.k (.d (.bool 
  false)))), none⟩, ⟨some 157, .val (.cp (.t 156)), none⟩, ⟨some 158, .val (.cp (.t 10)), some (157, true)⟩, ⟨some 159, .val (.pick (.t 157) (.t 158) (.k (.d (.bool false)))), 
  none⟩, ⟨some 160, .val (.cp (.t 159)), none⟩, ⟨some 161, .val (.cp (.t 11)), some (160, true)⟩, ⟨some 162, .val (.pick (.t 160) (.t 161) (.k (.d (.bool false)))), none⟩, ⟨some 2, 
  .asg (.t 162), none⟩]) .ret) (.seq (.reg [⟨some 164, .val (.bin .eql (.t 89) (.k (.d (.int .i64 5)))), none⟩, ⟨some 163, .asg (.t 164), none⟩]) (.cond (.t 163) (.seq (.reg [⟨some 
  165, .val (.cp (.t 8)), none⟩, ⟨some 166, .val (.cp (.t 165)), none⟩, ⟨some 167, .val (.cp (.t 9)), some (166, true)⟩, ⟨some 168, .val (.pick (.t 166) (.t 167) (.k (.d (.bool 
  false)))), none⟩, ⟨some 169, .val (.cp (.t 168)), none⟩, ⟨some 170, .val (.cp (.t 11)), some (169, true)⟩, ⟨some 171, .val (.pick (.t 169) (.t 170) (.k (.d (.bool false)))), 
  none⟩, ⟨some 2, .asg (.t 171), none⟩]) .ret) (.seq (.reg [⟨some 173, .val (.bin .eql (.t 89) (.k (.d (.int .i64 6)))), none⟩, ⟨some 172, .asg (.t 173), none⟩]) (.cond (.t 172) 
  (.seq (.reg [⟨some 174, .val (.cp (.t 8)), none⟩, ⟨some 175, .val (.cp (.t 174)), none⟩, ⟨some 176, .val (.cp (.t 9)), some (175, true)⟩, ⟨some 177, .val (.pick (.t 175) (.t 176) 
  (.k (.d (.bool false)))), none⟩, ⟨some 178, .val (.cp (.t 177)), none⟩, ⟨some 179, .val (.cp (.t 10)), some (178, true)⟩, ⟨some 180, .val (.pick (.t 178) (.t 179) (.k (.d (.bool 
  false)))), none⟩, ⟨some 2, .asg (.t 180), none⟩]) .ret) (.seq (.reg [⟨some 182, .val (.bin .eql (.t 89) (.k (.d (.int .i64 7)))), none⟩, ⟨some 181, .asg (.t 182), none⟩]) (.cond 
  (.t 181) (.seq (.reg [⟨some 183, .val (.fa 1 (.t 1)), none⟩, ⟨some 184, .val (.ld false 1 (.t 183)), none⟩, ⟨some 185, .val (.bin .geq (.t 184) (.k (.d (.int .i64 1)))), none⟩, 
  ⟨some 186, .val (.cp (.t 185)), none⟩, ⟨some 187, .val (.fa 1 (.t 1)), some (186, true)⟩, ⟨some 188, .val (.ld false 1 (.t 187)), some (186, true)⟩, ⟨some 189, .val (.bin .leq 
  (.t 188) (.k (.d (.int .i64 60)))), some (186, true)⟩, ⟨some 190, .val (.pick (.t 186) (.t 189) (.k (.d (.bool false)))), none⟩, ⟨some 191, .val (.cp (.t 190)), none⟩, ⟨some 192, 
  .val (.cp (.t 9)), some (191, true)⟩, ⟨some 193, .val (.pick (.t 191) (.t 192) (.k (.d (.bool false)))), none⟩, ⟨some 194, .val (.cp (.t 193)), none⟩, ⟨some 195, .val (.cp (.t 
  10)), some (194, true)⟩, ⟨some 196, .val (.pick (.t 194) (.t 195) (.k (.d (.bool false)))), none⟩, ⟨some 197, .val (.cp (.t 196)), none⟩, ⟨some 198, .val (.cp (.t 11)), some 
  (197, true)⟩, ⟨some 199, .val (.pick (.t 197) (.t 198) (.k (.d (.bool false)))), none⟩, ⟨some 2, .asg (.t 199), none⟩]) .ret) .skip)))))))))))))))))) (.seq (.reg [⟨some 2, .asg 
  (.k (.d (.bool false))), none⟩]) .ret))))))))
def R_foliowrightref_shaped : List LRes := [.tmp 2]
theorem lift_foliowrightref_shaped : Lifts Try.prog 74 200 L_foliowrightref_shaped R_foliowrightref_shaped := ⟨_, _, Try.func74, rfl, by kernel_rfl, by kernel_rfl, rfl⟩

theorem shaped_call : ∀ (m : Nat) (v : Val), SizeOf.sizeOf v ≤ m → v.sm 1048576 = true → PCall Try.prog 74 [v.d] (fun r => r = .one (.bool (wellV v))) := by
  intro m
  induction m with
  | zero => intro v h; cases v; simp at h
  | succ m ih =>
    intro v hv hsm
    obtain ⟨_, hll, hfl, hsl, hsf⟩ := Val.sm_iff.1 hsm
    have hvl := valsD_length v.l
    have hfl' := fldsD_length v.f
    generalize hR : wellV v = R
    have cast0 : ∀ a : Nat, ((a : Int) = 0) = (a = 0) := fun a => by apply propext; omega
    rw [Val.d_eq]
    refine lift_foliowrightref_shaped.call rfl ?_
    simp (maxSteps := 2000000) only [go_sem, ↓reduceIte, L_foliowrightref_shaped, R_foliowrightref_shaped, hvl, hfl']
    refine run_loop (fun i : Nat => ⟨[(1, .ptr (.l 1) 0), (3, .d (.int .i64 i))],
        [(1, .cells [.d (.int .i64 v.kind), .d (.int .i64 v.n), .d (.str v.s), .d (.list (valsD v.l)), .d (.list (fldsD v.f))])], []⟩)
      (fun i => i ≤ v.l.length ∧ ∀ j x, j < i → v.l[j]? = some x → wellV x = true) (fun i => v.l.length - i) 0 ?_ ?_ ?_
    · refine Weak.mk ?_ ?_ ?_ <;> simp (maxSteps := 2000000) only [go_sem, ↓reduceIte, Sub, Int.natCast_add, Int.natCast_mul]
    · exact ⟨by omega, fun j x h => by omega⟩
    · rintro i ⟨hi, hn⟩
      simp (maxSteps := 2000000) only [go_sem, ↓reduceIte, hvl]
      refine ⟨fun hlt => ?_, fun hge => ?_⟩
      · obtain ⟨x, hx⟩ := get_some (l := v.l) (i := i) (by omega)
        have hm := List.mem_of_getElem? hx
        have hc := ih x (by have := size_l hm; omega) (hsl x hm)
        rw [Val.d_eq] at hc
        simp (maxSteps := 2000000) (disch := omega) only [go_sem, ↓reduceIte, getI_nat, valsD_get, hx, Val.d_eq]
        refine CallG.of hc ?_
        simp (maxSteps := 2000000) (disch := omega) only [go_sem, ↓reduceIte]
        refine ⟨fun w1 => ?_, fun w1 => ⟨i + 1, ?_, ⟨by omega, fun j y hj hy => ?_⟩, by omega⟩⟩
        · rw [← hR, wellV_badL hm w1]
        · refine Weak.mk ?_ ?_ ?_ <;> simp (maxSteps := 2000000) only [go_sem, ↓reduceIte, Sub, Int.natCast_add, Int.natCast_mul]
        · rcases Nat.lt_or_ge j i with h | h
          · exact hn j y h hy
          · have : j = i := by omega
            subst this
            rw [hx] at hy; cases hy; exact w1
      · have hL : wellL v.l = true := wellL_all (fun x hx => by
          obtain ⟨j, hj⟩ := List.getElem?_of_mem hx
          exact hn j x (by have := (List.getElem?_eq_some_iff.1 hj).1; omega) hj)
        refine run_loop (fun i : Nat => ⟨[(1, .ptr (.l 1) 0), (5, .d (.int .i64 i))],
            [(1, .cells [.d (.int .i64 v.kind), .d (.int .i64 v.n), .d (.str v.s), .d (.list (valsD v.l)), .d (.list (fldsD v.f))])], []⟩)
          (fun i => i ≤ v.f.length ∧ wellF none (v.f.take i) = true) (fun i => v.f.length - i) 0 ?_ ?_ ?_
        · refine Weak.mk ?_ ?_ ?_ <;> simp (maxSteps := 2000000) only [go_sem, ↓reduceIte, Sub, Int.natCast_add, Int.natCast_mul]
        · exact ⟨by omega, by simp [wellF]⟩
        · rintro i ⟨hi, hn⟩
          simp (maxSteps := 2000000) only [go_sem, ↓reduceIte, hfl']
          refine ⟨fun hlt => ?_, fun hge => ?_⟩
          · obtain ⟨x, hx⟩ := get_some (l := v.f) (i := i) (by omega)
            have hm := List.mem_of_getElem? hx
            have hc := ih x.v (by have := size_f hm; omega) (Fld.sm_iff.1 (hsf x hm)).2
            have hstep : wellF none (v.f.take (i + 1)) = (wellF none (v.f.take i) && (nameMay x.name && (wellV x.v && (match v.f[i - 1]? with | some y => if i = 0 then true else Op.bytesLess y.name x.name | none => true)))) := wellF_take hx
            rw [hn] at hstep
            rw [Val.d_eq] at hc
            simp (maxSteps := 2000000) (disch := omega) only [go_sem, ↓reduceIte, getI_nat, fldsD_get, hx, Fld.d_eq]
            refine CallG.of hc ?_
            simp (maxSteps := 2000000) (disch := omega) only [go_sem, ↓reduceIte, getI_nat, fldsD_get, hx, Fld.d_eq]
            refine CallG.of (refNameMay_call _) ?_
            simp (maxSteps := 2000000) (disch := omega) only [go_sem, ↓reduceIte, getI_nat, fldsD_get, hx, Fld.d_eq]
            refine ⟨fun w1 => ⟨fun n1 => ⟨fun g1 => ?_, fun g1 => ?_⟩, fun n1 => ?_⟩, fun w1 => ?_⟩
            · have i0 : i ≠ 0 := by omega
              obtain ⟨y, hy⟩ := get_some (l := v.f) (i := i - 1) (by omega)
              have hgy : getI (fldsD v.f) ((i : Int) - 1) = some y.d := by
                have : (i : Int) - 1 = ((i - 1 : Nat) : Int) := by omega
                rw [this, getI_nat, fldsD_get, hy]; rfl
              rw [hy] at hstep
              simp only [i0, if_false, w1, n1, Bool.true_and] at hstep
              simp (maxSteps := 2000000) (disch := omega) only [go_sem, ↓reduceIte, hgy, Fld.d_eq]
              refine ⟨fun b1 => ?_, fun b1 => ⟨i + 1, ?_, ⟨by omega, ?_⟩, by omega⟩⟩
              · rw [bytesLeq_not] at b1
                simp only [Bool.not_eq_true'] at b1
                rw [b1] at hstep
                rw [← hR, wellV_badF (wellF_take_bad hstep)]
              · refine Weak.mk ?_ ?_ ?_ <;> simp (maxSteps := 2000000) only [go_sem, ↓reduceIte, Sub, Int.natCast_add, Int.natCast_mul]
              · rw [bytesLeq_not] at b1
                simp only [Bool.not_eq_false'] at b1
                rw [hstep, b1]
            · have i0 : i = 0 := by omega
              subst i0
              simp only [if_true, w1, n1, Bool.true_and] at hstep
              simp (maxSteps := 2000000) (disch := omega) only [go_sem, ↓reduceIte]
              refine ⟨0 + 1, ?_, ⟨by omega, ?_⟩, by omega⟩
              · refine Weak.mk ?_ ?_ ?_ <;> simp (maxSteps := 2000000) only [go_sem, ↓reduceIte, Sub, Int.natCast_add, Int.natCast_mul]
              · rw [hstep]; cases v.f[0 - 1]? <;> rfl
            · rw [n1] at hstep
              simp only [Bool.true_and, Bool.false_and] at hstep
              rw [← hR, wellV_badF (wellF_take_bad hstep)]
            · rw [w1] at hstep
              simp only [Bool.true_and, Bool.false_and, Bool.and_false] at hstep
              rw [← hR, wellV_badF (wellF_take_bad hstep)]
          · have hF : wellF none v.f = true := by rw [← List.take_of_length_le (l := v.f) (i := i) (by omega)]; exact hn
            rw [wellV_eq, hL, hF] at hR
            refine ⟨fun k0 => ?_, fun k0 => ⟨fun k1 => ?_, fun k1 => ⟨fun k2 => ?_, fun k2 => ⟨fun k3 => ?_, fun k3 => ⟨fun k4 => ?_, fun k4 => ⟨fun k5 => ?_, fun k5 => ⟨fun k6 => ?_, fun k6 => ⟨fun k7 => ?_, fun k7 => ?_⟩⟩⟩⟩⟩⟩⟩⟩
            · rw [k0] at hR
              simp only [Int.reduceEq, ↓reduceIte] at hR
              subst hR
              simp only [cast0, hvl]
              by_cases c1 : v.n = 0 <;> by_cases c2 : v.s = [] <;> by_cases c3 : v.l.length = 0 <;> by_cases c4 : v.f.length = 0 <;> simp [c1, c2, c3, c4, Res.one.injEq]
            · rw [k1] at hR
              simp only [Int.reduceEq, ↓reduceIte] at hR
              subst hR
              simp only [cast0, hvl]
              by_cases c1 : v.n = 0 <;> by_cases c2 : v.s = [] <;> by_cases c3 : v.l.length = 0 <;> by_cases c4 : v.f.length = 0 <;> simp [c1, c2, c3, c4, Res.one.injEq]
            · rw [k2] at hR
              simp only [Int.reduceEq, ↓reduceIte] at hR
              subst hR
              refine CallG.of (fault_call _) ?_
              simp (maxSteps := 2000000) only [go_sem, ↓reduceIte]
              have hfl2 : (fltI v.n = 0) = Lim v.n := by unfold fltI; split <;> simp_all
              simp only [cast0, hvl, hfl2]
              by_cases c1 : Lim v.n <;> by_cases c2 : v.s = [] <;> by_cases c3 : v.l.length = 0 <;> by_cases c4 : v.f.length = 0 <;> simp [c1, c2, c3, c4]
            · rw [k3] at hR
              simp only [Int.reduceEq, ↓reduceIte] at hR
              subst hR
              have c5 : ((v.s.length : Int) ≤ 200) = (v.s.length ≤ 200) := by apply propext; omega
              simp only [cast0, hvl, c5]
              by_cases c1 : v.n = 0 <;> by_cases c2 : v.s.length ≤ 200 <;> by_cases c3 : v.l.length = 0 <;> by_cases c4 : v.f.length = 0 <;> simp [c1, c2, c3, c4]
            · rw [k4] at hR
              simp only [Int.reduceEq, ↓reduceIte] at hR
              subst hR
              refine ⟨fun c1 => ?_, fun c1 => ?_⟩
              · refine CallG.of (refNameMay_call v.s) ?_
                simp (maxSteps := 2000000) only [go_sem, ↓reduceIte]
                simp only [cast0, hvl]
                cases c2 : nameMay v.s <;> by_cases c3 : v.l.length = 0 <;> by_cases c4 : v.f.length = 0 <;> simp [c1, c3, c4]
              · simp [c1]
            · rw [k5] at hR
              simp only [Int.reduceEq, ↓reduceIte] at hR
              subst hR
              simp only [cast0, hvl]
              by_cases c1 : v.n = 0 <;> by_cases c2 : v.s = [] <;> by_cases c3 : v.l.length = 0 <;> by_cases c4 : v.f.length = 0 <;> simp [c1, c2, c3, c4, Res.one.injEq]
            · rw [k6] at hR
              simp only [Int.reduceEq, ↓reduceIte] at hR
              subst hR
              simp only [cast0, hvl]
              by_cases c1 : v.n = 0 <;> by_cases c2 : v.s = [] <;> by_cases c3 : v.l.length = 0 <;> by_cases c4 : v.f.length = 0 <;> simp [c1, c2, c3, c4, Res.one.injEq]
            · rw [k7] at hR
              simp only [Int.reduceEq, ↓reduceIte] at hR
              subst hR
              simp only [cast0, hvl]
              by_cases c1 : 1 ≤ v.n <;> by_cases c5 : v.n ≤ 60 <;> by_cases c2 : v.s = [] <;> by_cases c3 : v.l.length = 0 <;> by_cases c4 : v.f.length = 0 <;> simp [c1, c2, c3, c4, c5]
            · rw [if_neg k0, if_neg k1, if_neg k2, if_neg k3, if_neg k4, if_neg k5, if_neg k6, if_neg k7] at hR
              subst hR
              rfl

/-- foliowrightref.ValueFault -/
def L_foliowrightref_ValueFault : LCode :=
  .seq (.reg [⟨some 1, .box (.t 0), none⟩, ⟨some 2, .asg (.k (.d (.int .i64 0))), none⟩]) (.seq (.reg [⟨some 7, .val (.ld true 5 (.t 1)), none⟩, ⟨some 8, .call 73 [.t 7], none⟩, 
  ⟨some 6, .val (.cp (.t 8)), none⟩, ⟨some 9, .val (.ext 0 (.t 6)), none⟩, ⟨some 10, .val (.ext 1 (.t 6)), none⟩, ⟨some 3, .asg (.t 9), none⟩, ⟨some 4, .asg (.t 10), none⟩]) (.seq 
  (.seq (.reg [⟨some 11, .val (.cp (.t 3)), none⟩, ⟨some 12, .val (.bin .gtr (.t 11) (.k (.d (.int .i64 300)))), none⟩, ⟨some 13, .val (.cp (.t 12)), none⟩, ⟨some 14, .val (.cp (.t 
  4)), some (13, false)⟩, ⟨some 15, .val (.bin .gtr (.t 14) (.k (.d (.int .i64 8)))), some (13, false)⟩, ⟨some 16, .val (.pick (.t 13) (.k (.d (.bool true))) (.t 15)), none⟩]) 
  (.cond (.t 16) (.seq (.reg [⟨some 2, .asg (.k (.d (.int .i64 2))), none⟩]) .ret) .skip)) (.seq (.reg [⟨some 17, .val (.ld true 5 (.t 1)), none⟩, ⟨some 18, .call 74 [.t 17], 
  none⟩, ⟨some 5, .asg (.t 18), none⟩]) (.seq (.seq (.reg [⟨some 19, .val (.cp (.t 5)), none⟩, ⟨some 20, .val (.not (.t 19)), none⟩]) (.cond (.t 20) (.seq (.reg [⟨some 2, .asg (.k 
  (.d (.int .i64 3))), none⟩]) .ret) .skip)) (.seq (.reg [⟨some 2, .asg (.k (.d (.int .i64 0))), none⟩]) .ret)))))
def R_foliowrightref_ValueFault : List LRes := [.tmp 2]
theorem lift_foliowrightref_ValueFault : Lifts Try.prog 43 21 L_foliowrightref_ValueFault R_foliowrightref_ValueFault := ⟨_, _, Try.func43, rfl, by kernel_rfl, by kernel_rfl, rfl⟩

theorem faultV_call (v : Val) (hsm : v.sm 1048576 = true) (hpt : (ptV v).1 ≤ 1000000000) : PCall Try.prog 43 [v.d] (fun r => r = .one (.int .i64 (faultV v))) := by
  have h1 := parts_call _ v (Nat.le_refl _) hsm hpt
  have h2 := shaped_call _ v (Nat.le_refl _) hsm
  have c1 : ((300 : Int) < (ptV v).1) = (300 < (ptV v).1) := by apply propext; omega
  have c2 : ((8 : Int) < (ptV v).2) = (8 < (ptV v).2) := by apply propext; omega
  rw [Val.d_eq] at *
  refine lift_foliowrightref_ValueFault.call rfl ?_
  simp (maxSteps := 2000000) only [go_sem, ↓reduceIte, L_foliowrightref_ValueFault, R_foliowrightref_ValueFault]
  refine CallG.of h1 ?_
  simp (maxSteps := 2000000) only [go_sem, ↓reduceIte, c1, c2]
  refine ⟨fun a1 => ⟨fun a2 => ?_, fun a2 => ?_⟩, fun a1 => ?_⟩
  · simp [faultV, a2]
  · refine CallG.of h2 ?_
    simp (maxSteps := 2000000) only [go_sem, ↓reduceIte]
    have a3 : ¬ (300 < (ptV v).1 ∨ 8 < (ptV v).2) := by omega
    simp only [faultV, if_neg a3]
    cases wellV v <;> simp
  · have a3 : 300 < (ptV v).1 := by omega
    simp [faultV, a3]
end Go.Av.Try
