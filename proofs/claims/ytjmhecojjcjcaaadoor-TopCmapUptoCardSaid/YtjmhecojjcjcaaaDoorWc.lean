import Derived.Test.YtjmhecojjcjcaaaDoorWb
import Derived.Test.YtjmhecojjcjcaaaDoorWa
import Derived.Shelf.Unicode.ValidAny
import Derived.Test.YtjmhecojjcjcaaaDoorAvH
import Derived.Test.YtjmhecojjcjcaaaDoorAvG
set_option linter.unusedSimpArgs false
set_option maxRecDepth 100000
namespace Go.Av.Tryd
open Go.Proofs
section
open Go.Shelf Go.RowKit
def validLays_ren : Go.Shelf.Ren := ⟨fun | 196 => 52 | 259 => 70 | n => n, fun | 9 => 9 | 4 => 4 | 3 => 3 | 5 => 5 | 12 => 12 | 119 => 108 | 0 => 0 | 46 => 112 | 139 => 111 | 138 => 110 | 53 => 120 | n => n, fun | 3 => 0 | 4 => 1 | n => n⟩
theorem validLays : Go.Proofs.LaysM.n196 Tryd.prog validLays_ren where
 mixed := by kernel_rfl
 f196 := Tryd.func52.trans (congrArg some (by kernel_rfl))
 f259 := Tryd.func70.trans (congrArg some (by kernel_rfl))
 t0 := Tryd.underlying0
 a0 := Tryd.isAgg0
 z0 := Tryd.sizeOf0
 v0 := Tryd.zeroValue0
 t3 := Tryd.underlying3
 a3 := Tryd.isAgg3
 z3 := Tryd.sizeOf3
 v3 := Tryd.zeroValue3
 t4 := Tryd.underlying4
 a4 := Tryd.isAgg4
 z4 := Tryd.sizeOf4
 v4 := Tryd.zeroValue4
 t5 := Tryd.underlying5
 a5 := Tryd.isAgg5
 z5 := Tryd.sizeOf5
 v5 := Tryd.zeroValue5
 t9 := Tryd.underlying9
 a9 := Tryd.isAgg9
 z9 := Tryd.sizeOf9
 v9 := Tryd.zeroValue9
 t12 := Tryd.underlying12
 a12 := Tryd.isAgg12
 z12 := Tryd.sizeOf12
 v12 := Tryd.zeroValue12
 t46 := Tryd.underlying112
 a46 := Tryd.isAgg112
 z46 := Tryd.sizeOf112
 v46 := Tryd.zeroValue112
 t53 := Tryd.underlying120
 a53 := Tryd.isAgg120
 z53 := Tryd.sizeOf120
 v53 := Tryd.zeroValue120
 t119 := Tryd.underlying108
 a119 := Tryd.isAgg108
 z119 := Tryd.sizeOf108
 t138 := Tryd.underlying110
 a138 := Tryd.isAgg110
 z138 := Tryd.sizeOf110
 v138 := Tryd.zeroValue110
 t139 := Tryd.underlying111
 a139 := Tryd.isAgg111
 z139 := Tryd.sizeOf111
 v139 := Tryd.zeroValue111
 g3 := by kernel_rfl
 g4 := by kernel_rfl
 i0 := by kernel_rfl
 i3 := by kernel_rfl
 i4 := by kernel_rfl
 i5 := by kernel_rfl
 i9 := by kernel_rfl
 i12 := by kernel_rfl
 i46 := by kernel_rfl
 i53 := by kernel_rfl
 i138 := by kernel_rfl
 i139 := by kernel_rfl
 m3 := by kernel_rfl
 m4 := by kernel_rfl
theorem valid_call (s : List UInt8) (hs : s.length ≤ 1000000000) : PCall Tryd.prog 52 [.str s] (fun r => r = .one (.bool (runesM s).isSome)) := by
 intro f w vs hI ht hsz hrd
 obtain rfl := strArg hsz (hrd 0 _ rfl)
 refine (Any.utf8_ValidString validLays.ton196 ⟨s.toArray⟩ w (by show s.toArray.size ≤ _; simp; omega) (u8_tabs hI)).mono fun e w' ⟨he, hw⟩ => ?_
 refine ⟨_, _, f, rfl, he, ?_, below_fr hw ht⟩
 rw [← validD_runes _ s (Nat.le_refl _)]
 exact .bool _
end
def L_cmap_Check : LCode :=
 .seq (.reg [Qx 4 (.k (.d .nil))]) (.seq (.seq (.reg [Qc 10 0, Q 11 (.len false (.t 10)), Q 12 (.bin .gtr (.t 11) (Ki 300))]) (.cond (.t 12) (.seq (.reg [Q 13 (.mkI 65 (Ki 2)), Qa 4 
 13]) .ret) .skip)) (.seq (.reg [Qx 5 (Ki 65535)]) (.seq (.seq (.reg [Qc 14 1, Q 15 (.not (.t 14))]) (.cond (.t 15) (.reg [Qx 5 (Ki 255)]) .skip)) (.seq (.seq (.reg [Qc 16 0, Q 17 
 (.len false (.t 16)), Q 18 (.cp (Ki 0))]) (.block 0 (.loop (.seq (.reg [Q 19 (.bin .lss (.t 18) (.t 17))]) (.seq (.cond (.t 19) .skip (.exit 0)) (.seq (.block 1 (.seq (.reg [Qc 
 20 18, Q 21 (.ia 3 (.t 16) (.t 18)), Q 22 (.ld true 3 (.t 21)), ⟨some 7, .allo [.int .i64 0, .int .i64 0, .str []], none⟩, Qa 6 20, ⟨none, .st 3 (.t 7) (.t 22), none⟩]) (.seq 
 (.seq (.reg [Q 23 (.fa 0 (.t 7)), Q 24 (.ld false 1 (.t 23)), Q 25 (.bin .lss (.t 24) (Ki 0)), Qc 26 25, Qg 27 (.fa 1 (.t 7)) 26 false, Qg 28 (.ld false 1 (.t 27)) 26 false, Qd 
 29 5 26 false, Qg 30 (.bin .gtr (.t 28) (.t 29)) 26 false, Q 31 (.pick (.t 26) KT (.t 30))]) (.cond (.t 31) (.seq (.reg [Q 32 (.mkI 65 (Ki 1)), Qa 4 32]) .ret) .skip)) (.seq 
 (.seq (.dreg [Q 33 (.fa 0 (.t 7)), Q 34 (.ld false 1 (.t 33)), Q 35 (.fa 1 (.t 7)), Q 36 (.ld false 1 (.t 35)), Q 37 (.bin .gtr (.t 34) (.t 36)), Qc 38 37, Qd 39 6 38 false, Qg 
 40 (.bin .gtr (.t 39) (Ki 0)) 38 false, Qd 41 40 38 false, Qd 42 0 41 true, Qd 43 6 41 true, Qg 44 (.bin .sub (.t 43) (Ki 1)) 41 true, Qg 45 (.ia 3 (.t 42) (.t 44)) 41 true, Qg 
 46 (.fa 1 (.t 45)) 41 true, Qg 47 (.ld false 1 (.t 46)) 41 true, Qg 48 (.fa 0 (.t 7)) 41 true, Qg 49 (.ld false 1 (.t 48)) 41 true, Qg 50 (.bin .geq (.t 47) (.t 49)) 41 true, Qg 
 51 (.pick (.t 41) (.t 50) KF) 38 false, Q 52 (.pick (.t 38) KT (.t 51)), Qc 53 52, Qg 54 (.fa 2 (.t 7)) 53 false, Qg 55 (.ld false 1 (.t 54)) 53 false, ⟨some 56, .call 52 [.t 
 55], some (53, false)⟩, Qg 57 (.not (.t 56)) 53 false, Q 58 (.pick (.t 53) KT (.t 57)), Qc 59 58, Qg 60 (.fa 2 (.t 7)) 59 false, Qg 61 (.ld false 1 (.t 60)) 59 false, Qg 62 (.bin 
 .eql (.t 61) (.k (.d (.str [])))) 59 false, Q 63 (.pick (.t 59) KT (.t 62)), Qc 64 63, Qg 65 (.fa 2 (.t 7)) 64 false, Qg 66 (.ld false 1 (.t 65)) 64 false, Qg 67 (.len true (.t 
 66)) 64 false, Qg 68 (.bin .gtr (.t 67) (Ki 40)) 64 false, Q 69 (.pick (.t 64) KT (.t 68))]) (.cond (.t 69) (.seq (.reg [Q 70 (.mkI 65 (Ki 3)), Qa 4 70]) .ret) .skip)) (.seq 
 (.reg [Q 72 (.fa 2 (.t 7)), Q 73 (.ld false 1 (.t 72)), Q 74 (.fa 1 (.t 7)), Q 75 (.ld false 1 (.t 74)), Q 76 (.fa 0 (.t 7)), Q 77 (.ld false 1 (.t 76)), Q 78 (.bin .sub (.t 75) 
 (.t 77)), ⟨some 79, .call 53 [.t 73, .t 78], none⟩, Qc 71 79, Q 80 (.ext 0 (.t 71)), Q 81 (.ext 1 (.t 71)), Qa 8 80, Qa 9 81]) (.seq (.reg [Qc 82 9, Q 83 (.not (.t 82))]) (.cond 
 (.t 83) (.seq (.reg [Q 84 (.mkI 65 (Ki 3)), Qa 4 84]) .ret) .skip))))))) (.reg [Q 85 (.bin .add (.t 18) (Ki 1)), Qc 18 85]))))))) (.seq (.reg [Qx 4 (.k (.d .nil))]) .ret)))))
def R_cmap_Check : List LRes := [.tmp 4]
theorem lift_cmap_Check : Lifts Tryd.prog 23 86 L_cmap_Check R_cmap_Check := ⟨_, _, Tryd.func23, rfl, by kernel_rfl, by kernel_rfl, rfl⟩
theorem check_call (l : List Span) (wide : Bool) (hw : ∀ x ∈ l, x.wf) : PCall Tryd.prog 23 [.list (spansD l), .bool wide] (fun r => r = .one (errD (faultM l wide))) := by
 have hI : ((spansD l).length : Int) = (l.length : Int) := by rw [spansD_length]
 refine lift_cmap_Check.call rfl ?_
 unfold faultM
 by_cases h300 : 300 < l.length
 ·rw [if_pos h300]
  have z : (300 < (l.length : Int)) = True := eq_true (by omega)
  simp (maxSteps := 2000000) only [go_sem, ↓reduceIte, L_cmap_Check, R_cmap_Check, hI, z]
  rfl
 ·rw [if_neg h300]
  have z : (300 < (l.length : Int)) = False := eq_false (by omega)
  generalize hR : faultsF (mostM wide) none l = R
  have e5 : mostM wide = if wide = true then 65535 else 255 := rfl
  have hM : mostM wide = 65535 ∨ mostM wide = 255 := by cases wide <;> simp [mostM]
  obtain ⟨S0, hS0⟩ : ∃ S0 : Nat → St, ∀ i, S0 i = ⟨[(0, .d (.list (spansD l))), (5, .d (.int .i64 (mostM wide))), (16, .d (.list (spansD l))), (17, .d (.int .i64 l.length)), (18, .d (.int .i64 i))], [], []⟩ := ⟨_, fun _ => rfl⟩
  simp (maxSteps := 2000000) only [go_sem, ↓reduceIte, L_cmap_Check, R_cmap_Check, hI, z]
  refine ⟨fun hwd => ?_, fun hwd => ?_⟩
  all_goals
   refine run_loop S0 (fun i => i ≤ l.length ∧ faultsF (mostM wide) (prevM l i) (l.drop i) = R) (fun i => l.length - i) 0 ?_ ⟨Nat.zero_le _, hR⟩ ?_
   ·rw [hS0, e5, hwd]
    refine weak_mk ?_ trivial
    simp (maxSteps := 2000000) only [go_sem, ↓reduceIte, Sub, Int.natCast_add, Int.natCast_mul]
   ·clear hwd e5
    generalize mostM wide = M at *
    rintro i ⟨hi, hF⟩
    rw [hS0]
    simp (maxSteps := 2000000) only [go_sem, ↓reduceIte, hI]
    refine ⟨fun hlt => ?_, fun hge => ?_⟩
    ·obtain ⟨x, hx⟩ := get_some (l := l) (i := i) (by omega)
     obtain ⟨w1, w2, w3, w4, w5⟩ := hw x (List.mem_of_getElem? hx)
     rw [drop_at hx, faultsF] at hF
     have hprev : prevM l (i + 1) = some x.to := by unfold prevM; rw [if_neg (by omega), Nat.add_sub_cancel, hx]; rfl
     rw [← hprev] at hF
     have hbad : ∀ k : Nat, k ≠ 0 → spanFault M (prevM l i) x = k → Res.one (errD k) = Res.one (errD R) := fun k h0 h => by rw [h, if_neg h0] at hF; rw [hF]
     unfold spanFault at hF hbad
     by_cases hA : x.fr < 0 ∨ M < x.to
     ·have b1 := hbad 1 (by decide) (if_pos hA)
      by_cases hA1 : x.fr < 0
      ·have z1 := eq_true hA1
       simp (maxSteps := 2000000) (disch := omega) only [go_sem, ↓reduceIte, hI, getI_nat, spansD_get, hx, Span.d, z1]
       exact b1
      ·have z1 := eq_false hA1
       have z2 : (M < x.to) = True := eq_true (by omega)
       simp (maxSteps := 2000000) (disch := omega) only [go_sem, ↓reduceIte, hI, getI_nat, spansD_get, hx, Span.d, z1, z2]
       exact b1
     ·rw [if_neg hA] at hF
      simp only [if_neg hA] at hbad
      have z1 : (x.fr < 0) = False := eq_false (by omega)
      have z2 : (M < x.to) = False := eq_false (by omega)
      by_cases hC : x.to < x.fr
      ·have b3 := hbad 3 (by decide) (if_pos (.inl hC))
       have z3 := eq_true hC
       simp (maxSteps := 2000000) (disch := omega) only [go_sem, ↓reduceIte, hI, getI_nat, spansD_get, hx, Span.d, z1, z2, z3]
       exact b3
      ·have z3 := eq_false hC
       have hvl := valid_call x.tx (by omega)
       rcases Nat.eq_zero_or_pos i with hi0 | hi0
       have z4 : (0 < (i : Int)) = False := eq_false (by omega)
       have hp : ¬ ∃ p, prevM l i = some p ∧ x.fr ≤ p := by rintro ⟨p, h1, _⟩; unfold prevM at h1; rw [if_pos hi0] at h1; cases h1
       simp (maxSteps := 2000000) (disch := omega) only [go_sem, ↓reduceIte, hI, getI_nat, spansD_get, hx, Span.d, z1, z2, z3, z4]
       rotate_left
       have z4 : (0 < (i : Int)) = True := eq_true (by omega)
       obtain ⟨y, hy⟩ := get_some (l := l) (i := i - 1) (by omega)
       have gy : getI (spansD l) ((i : Int) - 1) = some (.agg [.int .i64 y.fr, .int .i64 y.to, .str y.tx]) := by
        rw [show ((i : Int) - 1) = ((i - 1 : Nat) : Int) by omega, getI_nat, spansD_get, hy]; rfl
       have hpv : prevM l i = some y.to := by unfold prevM; rw [if_neg (by omega), hy]; rfl
       rcases Classical.em (x.fr ≤ y.to) with hq | hq
       have b3 := hbad 3 (by decide) (if_pos (.inr (.inl ⟨y.to, hpv, hq⟩)))
       have z7 := eq_true hq
       simp (maxSteps := 2000000) (disch := omega) only [go_sem, ↓reduceIte, hI, getI_nat, spansD_get, hx, Span.d, z1, z2, z3, z4, gy, z7]
       exact b3
       have z7 := eq_false hq
       have hp : ¬ ∃ p, prevM l i = some p ∧ x.fr ≤ p := by rintro ⟨p, h1, h2⟩; rw [hpv] at h1; cases h1; exact hq h2
       simp (maxSteps := 2000000) (disch := omega) only [go_sem, ↓reduceIte, hI, getI_nat, spansD_get, hx, Span.d, z1, z2, z3, z4, gy, z7]
       all_goals
        refine CallD.of hvl ?_
        cases hrs : runesM x.tx with
        | none =>
         have b3 := hbad 3 (by decide) (if_pos (.inr (.inr (.inl hrs))))
         simp (maxSteps := 2000000) (disch := omega) only [go_sem, ↓reduceIte, Option.isSome_none]
         exact b3
        | some rs =>
         by_cases h5 : x.tx = []
         ·have b3 := hbad 3 (by decide) (if_pos (.inr (.inr (.inr (.inl h5)))))
          simp (maxSteps := 2000000) (disch := omega) only [go_sem, ↓reduceIte, Option.isSome_some, h5]
          exact b3
         ·by_cases h6 : 40 < x.tx.length
          ·have b3 := hbad 3 (by decide) (if_pos (.inr (.inr (.inr (.inr h6)))))
           have z6 : (40 < (x.tx.length : Int)) = True := eq_true (by omega)
           simp (maxSteps := 2000000) (disch := omega) only [go_sem, ↓reduceIte, Option.isSome_some, h5, z6]
           exact b3
          ·have hgood : ¬ (x.to < x.fr ∨ (∃ p, prevM l i = some p ∧ x.fr ≤ p) ∨ runesM x.tx = none ∨ x.tx = [] ∨ 40 < x.tx.length) := by
            rintro (h | h | h | h | h)
            ·exact hC h
            ·exact hp h
            ·rw [hrs] at h; cases h
            ·exact h5 h
            ·exact h6 h
           rw [if_neg hgood] at hF
           simp only [if_neg hgood] at hbad
           have z6 : (40 < (x.tx.length : Int)) = False := eq_false (by omega)
           simp (maxSteps := 2000000) (disch := omega) only [go_sem, ↓reduceIte, Option.isSome_some, h5, z6]
           have hrn : rs ≠ [] := by
            intro e
            subst e
            have := (runesM_enc _ (Nat.le_refl _) hrs).1
            exact h5 this.symm
           refine CallG.of (behind_call x.tx (x.to - x.fr) hrs hrn (by omega) (by omega) (by omega)) ?_
           cases ho : onM x.tx (x.to - x.fr).toNat with
           | none =>
            have b3 := hbad 3 (by decide) (if_pos ho)
            simp only [onRes]
            simp (maxSteps := 2000000) (disch := omega) only [go_sem, ↓reduceIte]
            exact b3
           | some u =>
            simp only [onRes]
            simp only [ho, reduceCtorEq, if_false, if_true] at hF
            simp (maxSteps := 2000000) (disch := omega) only [go_sem, ↓reduceIte]
            refine ⟨i + 1, ?_, ⟨by omega, hF⟩, by omega⟩
            rw [hS0]
            refine weak_mk ?_ trivial
            simp (maxSteps := 2000000) only [go_sem, ↓reduceIte, Sub, Int.natCast_add, Int.natCast_mul]
    ·have : l.drop i = [] := List.drop_eq_nil_of_le (by omega)
     rw [this] at hF
     simp only [faultsF] at hF
     subst hF
     rfl
end Go.Av.Tryd
set_option linter.unusedSimpArgs false
set_option maxRecDepth 100000
set_option maxHeartbeats 2000000
namespace Go.Av.Tryd
open Go.Proofs
/-! ### The spans are none too large -/
def SpW (l : List Span) : Prop := ∀ x ∈ l, x.wf
theorem putL_wf {l : List Span} {x : Span} (h : SpW l) (hx : x.wf) : SpW (putL l x) := by
 intro y hy
 simp only [putL, List.mem_append, List.mem_cons] at hy
 rcases hy with hy | rfl | hy
 ·exact h y (List.takeWhile_subset _ hy)
 ·exact hx
 ·exact h y (List.dropWhile_subset _ hy)
theorem txtS_len (w : List UInt8) : (txtS w).length ≤ 4 * w.length := by
 unfold txtS sgsR
 have h1 := cBl_len w
 have h2 := unitsB_len (cBl w)
 cases hq : sgsF (unitsB (cBl w)) with
 | none => simp [sgsO]
 | some l =>
  obtain ⟨g1, g2⟩ := sgsF_ok _ l (unitsB_le _) hq
  have := encM_len g2
  simp only [sgsO]; omega
theorem span_wf {a b : Nat} {w : List UInt8} (ha : a ≤ 1000000) (hb : b ≤ 1000000) (hw : w.length ≤ 60000) : Span.wf ⟨a, b, txtS w⟩ := by
 have := txtS_len w
 refine ⟨?_, ?_, ?_, ?_, ?_⟩ <;> simp only <;> omega
def StepW (s : List UInt8) (st : RS → RS) : Prop := ∀ x : RS, x.2.1 ≤ s.length → SpW x.2.2.1 → SpW (st x).2.2.1
theorem one1_w (s : List UInt8) (hs : s.length ≤ 60000) : StepW s (one1 s) := fun ⟨b, k, l, n⟩ hk hl => by
 simp only at hk hl
 simp only [one1]
 have h1 := codeT_le s b n hk
 have h2 := (nextT_le h1.2).1
 exact putL_wf hl (span_wf (by omega) (by omega) (by omega))
theorem listF_w (s : List UInt8) (hs : s.length ≤ 60000) (te : Nat) : ∀ (f c k : Nat) (l : List Span) (n : Nat), k ≤ s.length → c + f ≤ 1000000 → SpW l → SpW (listF s te f c k l n).2.1
 | 0, _, _, _, _, _, _, hl => hl
 | f + 1, c, k, l, n, hk, hc, hl => by
  rw [listF]
  have h2 := nextT_le hk
  split
  ·exact hl
  ·split
   ·exact hl
   ·exact listF_w s hs te f _ _ _ _ h2.2 (by omega) (putL_wf hl (span_wf (by omega) (by omega) (by omega)))
theorem one2_w (s : List UInt8) (hs : s.length ≤ 60000) : StepW s (one2 s) := fun ⟨b, k, l, n⟩ hk hl => by
 simp only at hk hl
 simp only [one2]
 have h1 := codeT_le s b n hk
 generalize codeT s b k n = C at *
 obtain ⟨c, k1, n1⟩ := C
 simp only at *
 have h2 := codeT_le s b n1 h1.2
 generalize codeT s b k1 n1 = D at *
 obtain ⟨d, k2, n2⟩ := D
 simp only at *
 have h3 := nextT_le h2.2
 generalize nextT s k2 = T at *
 obtain ⟨w, k3, e2⟩ := T
 simp only at *
 split
 ·exact listF_w s hs d _ _ _ _ _ h3.2 (by omega) hl
 ·exact putL_wf hl (span_wf (by omega) (by omega) (by omega))
theorem one0_w (s : List UInt8) : StepW s (one0 s) := fun ⟨b, k, l, n⟩ hk hl => hl
theorem partF_w (s e : List UInt8) (st : RS → RS) (hst : StepOK s st) (hw : StepW s st) : ∀ (f : Nat) (x : RS), x.2.1 ≤ s.length → (x.2.2.2 = 0 → x.2.2.1.length ≤ 300) → SpW x.2.2.1 → SpW (partF s e st f x).2.2.1
 | 0, _, _, _, h => h
 | f + 1, x, hk, hl, h => by
  rw [partF]
  split
  ·exact h
  ·rename_i hn
   have hl := hl (by simpa using hn)
   split
   ·exact h
   ·have g := hst (x.1, x.2.1, x.2.2.1, if (nextT s x.2.1).1 = [] then orE (orE x.2.2.2 (nextT s x.2.1).2.2) 5 else orE x.2.2.2 (nextT s x.2.1).2.2) hk hl
    exact partF_w s e st hst hw f _ g.1 (fun h => (g.2 h).1) (hw _ hk h)
theorem partF_ok (s e : List UInt8) (st : RS → RS) (hst : StepOK s st) : ∀ (f : Nat) (x : RS), x.2.1 ≤ s.length → (x.2.2.2 = 0 → x.2.2.1.length ≤ 300) → (partF s e st f x).2.1 ≤ s.length ∧ ((partF s e st f x).2.2.2 = 0 → x.2.1 ≤ (partF s e st f x).2.1 ∧ (partF s e st f x).2.2.1.length ≤ 300)
 | 0, x, hk, hl => ⟨hk, fun h => ⟨Nat.le_refl _, hl h⟩⟩
 | f + 1, x, hk, hl => by
  rw [partF]
  split
  ·rename_i hn
   exact ⟨hk, fun h => absurd h hn⟩
  ·rename_i hn
   have hl := hl (by simpa using hn)
   split
   ·exact ⟨(nextT_le hk).2, fun _ => ⟨nextT_ge hk, hl⟩⟩
   ·have g := hst (x.1, x.2.1, x.2.2.1, if (nextT s x.2.1).1 = [] then orE (orE x.2.2.2 (nextT s x.2.1).2.2) 5 else orE x.2.2.2 (nextT s x.2.1).2.2) hk hl
    generalize hy : st (x.1, x.2.1, x.2.2.1, if (nextT s x.2.1).1 = [] then orE (orE x.2.2.2 (nextT s x.2.1).2.2) 5 else orE x.2.2.2 (nextT s x.2.1).2.2) = y at *
    obtain ⟨q1, q2⟩ := partF_ok s e st hst f y g.1 (fun h => (g.2 h).1)
    refine ⟨q1, fun h => ⟨?_, (q2 h).2⟩⟩
    have : y.2.2.2 = 0 := by
     apply Classical.byContradiction
     intro hn
     rw [partF_end _ _ _ _ hn] at h
     exact hn h
    have := (g.2 this).2
    have := (q2 h).1
    simp only at *
    omega
/-! ### The whole -/
def kSpace : List UInt8 := [98, 101, 103, 105, 110, 99, 111, 100, 101, 115, 112, 97, 99, 101, 114, 97, 110, 103, 101]
def kChar : List UInt8 := [98, 101, 103, 105, 110, 98, 102, 99, 104, 97, 114]
def kRange : List UInt8 := [98, 101, 103, 105, 110, 98, 102, 114, 97, 110, 103, 101]
def eSpace : List UInt8 := [101, 110, 100, 99, 111, 100, 101, 115, 112, 97, 99, 101, 114, 97, 110, 103, 101]
def eChar : List UInt8 := [101, 110, 100, 98, 102, 99, 104, 97, 114]
def eRange : List UInt8 := [101, 110, 100, 98, 102, 114, 97, 110, 103, 101]
def wordF (s : List UInt8) (w : List UInt8) (x : RS) : RS :=
 if w = kSpace then partF s eSpace (one0 s) (s.length + 1 - x.2.1) x
 else if w = kChar then partF s eChar (one1 s) (s.length + 1 - x.2.1) x
 else if w = kRange then partF s eRange (one2 s) (s.length + 1 - x.2.1) x
 else x
def mainF (s : List UInt8) : Nat → RS → RS
 | 0, x => x
 | f + 1, x =>
  if x.2.2.2 ≠ 0 then x
  else if (nextT s x.2.1).1 = [] then (x.1, (nextT s x.2.1).2.1, x.2.2.1, orE x.2.2.2 (nextT s x.2.1).2.2)
  else mainF s f (wordF s (nextT s x.2.1).1 (x.1, (nextT s x.2.1).2.1, x.2.2.1, orE x.2.2.2 (nextT s x.2.1).2.2))
theorem wordF_ok (s w : List UInt8) (x : RS) (hk : x.2.1 ≤ s.length) (hl : x.2.2.2 = 0 → x.2.2.1.length ≤ 300) : (wordF s w x).2.1 ≤ s.length ∧ ((wordF s w x).2.2.2 = 0 → x.2.1 ≤ (wordF s w x).2.1 ∧ (wordF s w x).2.2.1.length ≤ 300) := by
 unfold wordF
 split
 ·exact partF_ok s _ _ (one0_ok s) _ x hk hl
 ·split
  ·exact partF_ok s _ _ (one1_ok s) _ x hk hl
  ·split
   ·exact partF_ok s _ _ (one2_ok s) _ x hk hl
   ·exact ⟨hk, fun h => ⟨Nat.le_refl _, hl h⟩⟩
theorem wordF_w (s w : List UInt8) (hs : s.length ≤ 60000) (x : RS) (hk : x.2.1 ≤ s.length) (hl : x.2.2.2 = 0 → x.2.2.1.length ≤ 300) (hx : SpW x.2.2.1) : SpW (wordF s w x).2.2.1 := by
 unfold wordF
 split
 ·exact partF_w s _ _ (one0_ok s) (one0_w s) _ x hk hl hx
 ·split
  ·exact partF_w s _ _ (one1_ok s) (one1_w s hs) _ x hk hl hx
  ·split
   ·exact partF_w s _ _ (one2_ok s) (one2_w s hs) _ x hk hl hx
   ·exact hx
theorem mainF_end (s : List UInt8) (f : Nat) {x : RS} (h : x.2.2.2 ≠ 0) : mainF s f x = x := by
 cases f with
 | zero => rfl
 | succ f => rw [mainF, if_pos h]
theorem mainF_fuel (s : List UInt8) : ∀ (f f' : Nat) (x : RS), x.2.1 ≤ s.length → (x.2.2.2 = 0 → x.2.2.1.length ≤ 300) → s.length + 1 - x.2.1 ≤ f → s.length + 1 - x.2.1 ≤ f' → mainF s f x = mainF s f' x
 | 0, _, _, h, _, h1, _ => by omega
 | _, 0, _, h, _, _, h2 => by omega
 | f + 1, f' + 1, x, h, hl, h1, h2 => by
  simp only [mainF]
  split
  ·rfl
  ·rename_i hn
   split
   ·rfl
   ·rename_i hw
    have g0 := nextT_up hw h
    have g := wordF_ok s (nextT s x.2.1).1 (x.1, (nextT s x.2.1).2.1, x.2.2.1, orE x.2.2.2 (nextT s x.2.1).2.2) (nextT_le h).2 (fun _ => hl (by simpa using hn))
    generalize wordF s (nextT s x.2.1).1 (x.1, (nextT s x.2.1).2.1, x.2.2.1, orE x.2.2.2 (nextT s x.2.1).2.2) = y at *
    by_cases hn : y.2.2.2 = 0
    ·have := (g.2 hn).1
     simp only at this
     exact mainF_fuel s f f' y g.1 (fun h => (g.2 h).2) (by omega) (by omega)
    ·rw [mainF_end _ _ hn, mainF_end _ _ hn]
def doneF (x : RS) : List Span × Bool × Nat :=
 if x.2.2.2 ≠ 0 then ([], false, x.2.2.2)
 else if faultM x.2.2.1 x.1 = 0 then (x.2.2.1, x.1, 0) else ([], false, faultM x.2.2.1 x.1)
def parseF (s : List UInt8) : List Span × Bool × Nat := if 20000 < s.length then ([], false, 2) else doneF (mainF s (s.length + 1) (false, 0, [], 0))
def crz (s : List UInt8) (k : Int) (b : Bool) (l : List D) (n : Nat) : AObj := .cells [.d (.str s), .d (.int .i64 k), .d (.bool b), .d (.list l), .d (errD n)]
theorem cfailz (s : List UInt8) (k : Int) (b : Bool) (l : List D) (e : Nat) : MVE Tryd.prog 41 [.ptr (.x 0) 0, .d (errD e)] [crz s k b l 0] none (.tuple []) [crz s k b l e] none := by
 have z0 : errD 0 = .nil := rfl
 by_cases h : e = 0
 ·subst h
  refine lift___cmap_reader__fail.mv (by kernel_rfl) rfl rfl ?_
  simp (maxSteps := 2000000) only [go_sem, ↓reduceIte, L___cmap_reader__fail, R___cmap_reader__fail, crz, z0]
 ·refine lift___cmap_reader__fail.mv (by kernel_rfl) rfl rfl ?_
  simp (maxSteps := 2000000) only [go_sem, ↓reduceIte, L___cmap_reader__fail, R___cmap_reader__fail, crz, z0, errD_ne h]
theorem row_none {l : List Span} (h : Row.is none l) : l = [] := by
 rcases h with ⟨_, h⟩ | ⟨c, h, _⟩
 ·exact h
 ·cases h
theorem row_some {fs : List D} {cc : Nat} {l : List Span} (h : Row.is (some (fs, cc)) l) : fs = spansD l ∧ l.length ≤ cc := by
 rcases h with ⟨h, _⟩ | ⟨c, h, h2, _⟩
 ·cases h
 ·cases h; exact ⟨rfl, h2⟩
def L_cmap_Parse : LCode :=
 .seq (.reg [⟨some 2, .nils 59 3, none⟩, Qx 3 KF, Qx 4 (.k (.d .nil))]) (.seq (.seq (.reg [Qc 7 0, Q 8 (.len true (.t 7)), Q 9 (.bin .gtr (.t 8) (Ki 20000))]) (.cond (.t 9) (.seq 
 (.reg [Q 10 (.mkI 65 (Ki 2)), ⟨some 2, .nils 59 3, none⟩, Qx 3 KF, Qa 4 10]) .ret) .skip)) (.seq (.reg [Qc 11 0, Q 12 (.bld [(0, 1), (1, 1), (2, 1), (3, 1), (4, 1)] [.str [], 
 .int .i64 0, .bool false, .list [], .nil] [false, false, false, true, false] [(0, .t 11)]), ⟨some 13, .box (.t 12), none⟩, ⟨some 5, .allo [.nilpT 70], none⟩, ⟨none, .st 1 (.t 5) 
 (.t 13), none⟩]) (.seq (.block 0 (.loop (.seq (.seq (.reg [Q 14 (.ld false 1 (.t 5)), Q 15 (.nck (.t 14)), Q 16 (.fa 4 (.t 15)), Q 17 (.ld false 1 (.t 16)), Q 18 (.eqN 0 false 
 (.t 17))]) (.cond (.t 18) .skip (.exit 0))) (.block 1 (.seq (.reg [Q 19 (.ld false 1 (.t 5)), ⟨some 20, .prim .call [.k (.fn (.func 32) [] []), .t 19] [], none⟩, Qa 6 20]) (.seq 
 (.seq (.reg [Qc 21 6, Q 22 (.bin .eql (.t 21) (.k (.d (.str []))))]) (.cond (.t 22) (.exit 0) .skip)) (.seq (.reg [Qc 23 6]) (.block 2 (.seq (.reg [Q 25 (.bin .eql (.t 23) (.k 
 (.d (.str [98, 101, 103, 105, 110, 99, 111, 100, 101, 115, 112, 97, 99, 101, 114, 97, 110, 103, 101])))), Qa 24 25]) (.cond (.t 24) (.reg [Q 26 (.ld false 1 (.t 5)), Q 27 (.ld 
 false 1 (.t 5)), Q 28 (.mkF (.func 34) [.t 27] []), ⟨some 29, .prim .call [.k (.fn (.func 33) [] []), .t 26, .k (.d (.str [101, 110, 100, 99, 111, 100, 101, 115, 112, 97, 99, 
 101, 114, 97, 110, 103, 101])), .t 28] [], none⟩]) (.seq (.reg [Q 31 (.bin .eql (.t 23) (.k (.d (.str [98, 101, 103, 105, 110, 98, 102, 99, 104, 97, 114])))), Qa 30 31]) (.cond 
 (.t 30) (.reg [Q 32 (.ld false 1 (.t 5)), Q 33 (.mkF (.func 35) [] [.t 5]), ⟨some 34, .prim .call [.k (.fn (.func 33) [] []), .t 32, .k (.d (.str [101, 110, 100, 98, 102, 99, 
 104, 97, 114])), .t 33] [], none⟩]) (.seq (.reg [Q 36 (.bin .eql (.t 23) (.k (.d (.str [98, 101, 103, 105, 110, 98, 102, 114, 97, 110, 103, 101])))), Qa 35 36]) (.cond (.t 35) 
 (.reg [Q 37 (.ld false 1 (.t 5)), Q 38 (.mkF (.func 39) [] [.t 5]), ⟨some 39, .prim .call [.k (.fn (.func 33) [] []), .t 37, .k (.d (.str [101, 110, 100, 98, 102, 114, 97, 110, 
 103, 101])), .t 38] [], none⟩]) .skip)))))))))))))) (.seq (.seq (.reg [Q 40 (.ld false 1 (.t 5)), Q 41 (.nck (.t 40)), Q 42 (.fa 4 (.t 41)), Q 43 (.ld false 1 (.t 42)), Q 44 
 (.eqN 0 false (.t 43))]) (.cond (.t 44) (.dreg [Q 45 (.ld false 1 (.t 5)), Q 46 (.ld false 1 (.t 5)), Q 47 (.nck (.t 46)), Q 48 (.fa 3 (.t 47)), Q 49 (.ld false 1 (.t 48)), Q 50 
 (.ld false 1 (.t 5)), Q 51 (.nck (.t 50)), Q 52 (.fa 2 (.t 51)), Q 53 (.ld false 1 (.t 52)), ⟨some 54, .call 23 [.t 49, .t 53], none⟩, ⟨some 55, .prim .call [.k (.fn (.func 41) 
 [] []), .t 45, .t 54] [], none⟩]) .skip)) (.seq (.seq (.reg [Q 56 (.ld false 1 (.t 5)), Q 57 (.nck (.t 56)), Q 58 (.fa 4 (.t 57)), Q 59 (.ld false 1 (.t 58)), Q 60 (.eqN 0 true 
 (.t 59))]) (.cond (.t 60) (.seq (.dreg [Q 61 (.ld false 1 (.t 5)), Q 62 (.nck (.t 61)), Q 63 (.fa 4 (.t 62)), Q 64 (.ld false 1 (.t 63)), Q 2 (.cp (.k (.d (.list [])))), Q 3 (.cp 
 KF), Qc 4 64]) .ret) .skip)) (.seq (.dreg [Q 65 (.ld false 1 (.t 5)), Q 66 (.nck (.t 65)), Q 67 (.fa 3 (.t 66)), Q 68 (.ld false 1 (.t 67)), Q 69 (.ld false 1 (.t 5)), Q 70 (.nck 
 (.t 69)), Q 71 (.fa 2 (.t 70)), Q 72 (.ld false 1 (.t 71)), Qc 2 68, Qc 3 72, Q 4 (.cp (.k (.d .nil)))]) .ret))))))
def R_cmap_Parse : List LRes := [.tmp 2, .tmp 3, .tmp 4]
theorem lift_cmap_Parse : Lifts Tryd.prog 17 73 L_cmap_Parse R_cmap_Parse := ⟨_, _, Tryd.func17, rfl, by kernel_rfl, by kernel_rfl, rfl⟩
theorem parse_call (s : List UInt8) (hs : s.length ≤ 1000000000) : PCall Tryd.prog 17 [.str s] (fun r => r = .tup [.list (spansD (parseF s).1), .bool (parseF s).2.1, errD (parseF s).2.2]) := by
 unfold parseF
 by_cases h2 : 20000 < s.length
 ·rw [if_pos h2]
  have z : (20000 < (s.length : Int)) = True := eq_true (by omega)
  refine lift_cmap_Parse.call rfl ?_
  simp (maxSteps := 2000000) only [go_sem, ↓reduceIte, L_cmap_Parse, R_cmap_Parse, z]
  rfl
 ·rw [if_neg h2]
  have z : (20000 < (s.length : Int)) = False := eq_false (by omega)
  generalize hR : mainF s (s.length + 1) (false, 0, [], 0) = R
  obtain ⟨S0, hS0⟩ : ∃ S0 : Row × RS → St, ∀ y, S0 y = ⟨[(5, .ptr (.l 5) 0)], [(13, crd s y.2.2.1 y.2.1 y.1 y.2.2.2.2), (5, .cells [.ptr (.l 13) 0])], mob y.1.ob⟩ := ⟨_, fun _ => rfl⟩
  refine lift_cmap_Parse.call rfl ?_
  simp (maxSteps := 2000000) only [go_sem, ↓reduceIte, L_cmap_Parse, R_cmap_Parse, z]
  refine run_loop S0 (fun y => y.2.2.1 ≤ s.length ∧ y.1.is y.2.2.2.1 ∧ SpW y.2.2.2.1 ∧ (y.2.2.2.2 = 0 → y.2.2.2.1.length ≤ 300) ∧ mainF s (s.length + 1 - y.2.2.1) y.2 = R) (fun y => if y.2.2.2.2 = 0 then s.length + 2 - y.2.2.1 else 0) (none, false, 0, [], 0) ?_ ?_ ?_
  ·rw [hS0]
   refine Weak.mk ?_ ?_ ?_ <;> simp (maxSteps := 2000000) only [go_sem, ↓reduceIte, Sub, Int.natCast_add, Int.natCast_mul, crd]
   rfl
  ·exact ⟨Nat.zero_le _, .inl ⟨rfl, rfl⟩, fun x hx => by simp at hx, fun _ => by simp, hR⟩
  ·rintro ⟨r, b, k, l, n⟩ ⟨hk, hr, hw, hl, hP⟩
   simp only at hk hr hw hl hP
   rw [hS0]
   have hs6 : s.length ≤ 60000 := by omega
   have hnx := cnext s k b r n hs6 hk
   obtain ⟨hw1, hw2⟩ := nextT_le hk
   have hro := Row.ok r
   have hr0 := hr
   have hpt := fun (e : List UInt8) (st : RS → RS) (hst : StepOK s st) (F : FuncId) (first cap : List AV) h1 h2 h3 (h : n = 0) => cpart s e st hst F first cap h1 h2 h3 (b, (nextT s k).2.1, l, orE n (nextT s k).2.2) r hs6 hw2 hr (hl h)
   have hP2 := hP
   rw [show s.length + 1 - k = (s.length - k) + 1 by omega, mainF] at hP2
   simp only at hP2
   have hZ := check_call l b hw
   have z0 : errD 0 = .nil := rfl
   rcases r with _ | ⟨fs, cc⟩
   all_goals
    rcases Nat.eq_zero_or_pos n with hn | hn
    ·subst hn
     rw [if_neg (by simp)] at hP2
     simp (maxSteps := 2000000) only [go_sem, ↓reduceIte, crd, box, z0]
     refine PrimG.ghost ?_
     refine PrimG.mvE ([.l 13]) rfl (hnx) rfl rfl (by repeat' (first | exact trivial | exact rfl | constructor)) rfl rfl rfl rfl (hro) ⟨⟨rfl, rfl⟩, rfl⟩ ?_
     by_cases hw0 : (nextT s k).1 = []
     ·rw [if_pos hw0] at hP2
      subst hP2
      generalize (nextT s k).2.1 = k1 at *
      generalize orE 0 (nextT s k).2.2 = n1 at *
      rw [hw0]
      have hfz := fun k' e => cfailz s k' b (spansD l) e
      have hf0 := fun (k' : Int) e => cfail s k' b none 0 e
      first
       | (obtain ⟨rfl, hcc⟩ : fs = spansD l ∧ l.length ≤ cc := row_some hr0; refine ⟨_, Gh.frzX (sz := 3) (fs := spansD l) (c := cc) rfl (spansD_cells l) (by rw [spansD_length]; exact hcc), ?_⟩)
       | (obtain rfl : l = [] := row_none hr0; refine ⟨_, Gh.refl _, ?_⟩)
      all_goals
       rcases Nat.eq_zero_or_pos n1 with hn | hn
       ·subst hn
        simp (maxSteps := 2000000) only [go_sem, ↓reduceIte, crd, z0]
        refine CallD.of hZ ?_
        simp (maxSteps := 2000000) only [go_sem, ↓reduceIte]
        first
         | refine PrimG.mvE ([.l 13]) rfl (hfz k1 (faultM l b)) rfl rfl (by repeat' (first | exact trivial | exact rfl | constructor)) rfl rfl rfl rfl ((rfl : rowM none = true)) ⟨⟨rfl, rfl⟩, rfl⟩ ?_
         | refine PrimG.mvE ([.l 13]) rfl (hf0 k1 (faultM [] b)) rfl rfl (by repeat' (first | exact trivial | exact rfl | constructor)) rfl rfl rfl rfl ((rfl : rowM none = true)) ⟨⟨rfl, rfl⟩, rfl⟩ ?_
        generalize hD : doneF _ = Dn
        unfold doneF at hD
        rw [if_neg (by simp)] at hD
        simp only at hD
        generalize faultM _ b = fm at *
        by_cases h0 : fm = 0
        ·rw [if_pos h0] at hD
         subst hD h0
         simp (maxSteps := 2000000) only [go_sem, ↓reduceIte, crd, crz, z0, orE]
         first | done | rfl
        ·rw [if_neg h0] at hD
         subst hD
         simp (maxSteps := 2000000) only [go_sem, ↓reduceIte, crd, crz, errD_ne h0, orE]
         rfl
       ·simp (maxSteps := 2000000) only [go_sem, ↓reduceIte, crd, errD_ne (Nat.pos_iff_ne_zero.1 hn)]
        generalize hD : doneF _ = Dn
        unfold doneF at hD
        rw [if_pos (Nat.pos_iff_ne_zero.1 hn)] at hD
        subst hD
        rw [errD_ne (Nat.pos_iff_ne_zero.1 hn)]
        rfl
     ·rw [if_neg hw0] at hP2
      refine ⟨_, Gh.refl _, ?_⟩
      generalize orE 0 (nextT s k).2.2 = n1 at *
      have hup := nextT_up hw0 hk
      obtain ⟨g1, g2⟩ := wordF_ok s (nextT s k).1 (b, (nextT s k).2.1, l, n1) hw2 (fun _ => hl rfl)
      have g3 := wordF_w s (nextT s k).1 hs6 (b, (nextT s k).2.1, l, n1) hw2 (fun _ => hl rfl) hw
      have hW : wordF s (nextT s k).1 (b, (nextT s k).2.1, l, n1) = if (nextT s k).1 = kSpace then partF s eSpace (one0 s) (s.length + 1 - (nextT s k).2.1) (b, (nextT s k).2.1, l, n1) else if (nextT s k).1 = kChar then partF s eChar (one1 s) (s.length + 1 - (nextT s k).2.1) (b, (nextT s k).2.1, l, n1)
        else if (nextT s k).1 = kRange then partF s eRange (one2 s) (s.length + 1 - (nextT s k).2.1) (b, (nextT s k).2.1, l, n1) else (b, (nextT s k).2.1, l, n1) := rfl
      generalize wordF s (nextT s k).1 (b, (nextT s k).2.1, l, n1) = Y at *
      generalize (nextT s k).2.1 = k1 at *
      generalize (nextT s k).1 = w at *
      obtain ⟨b', k', l', n'⟩ := Y
      simp only at g1 g2 g3
      rcases Classical.em (w = kSpace) with hk1 | hk1
      rw [if_pos hk1] at hW
      have hp := hpt eSpace (one0 s) (one0_ok s) 34 [.ptr (.x 0) 0] [] (.inl ⟨rfl, rfl⟩) (by decide) (fun x r h1 h2 h3 => cone0 s x r hs6 h1 h2 h3) rfl
      simp only at hp
      rw [← hW] at hp
      simp only [kSpace] at hk1
      have q1 := eq_true hk1
      simp (maxSteps := 2000000) only [go_sem, ↓reduceIte, q1, hw0, crd]
      rotate_left
      rcases Classical.em (w = kChar) with hk2 | hk2
      rw [if_neg hk1, if_pos hk2] at hW
      have hp := hpt eChar (one1 s) (one1_ok s) 35 [] [.ptr (.x 1) 0] (.inr ⟨rfl, rfl⟩) (by decide) (fun x r h1 h2 h3 => cone1 s x r hs6 h1 h2 h3) rfl
      simp only at hp
      rw [← hW] at hp
      simp only [kSpace] at hk1
      simp only [kChar] at hk2
      have q2 := eq_true hk2
      simp (maxSteps := 2000000) only [go_sem, ↓reduceIte, hk1, q2, hw0, crd]
      rotate_left
      rcases Classical.em (w = kRange) with hk3 | hk3
      rw [if_neg hk1, if_neg hk2, if_pos hk3] at hW
      have hp := hpt eRange (one2 s) (one2_ok s) 39 [] [.ptr (.x 1) 0] (.inr ⟨rfl, rfl⟩) (by decide) (fun x r h1 h2 h3 => cone2 s x r hs6 h1 h2 h3) rfl
      simp only at hp
      rw [← hW] at hp
      simp only [kSpace] at hk1
      simp only [kChar] at hk2
      simp only [kRange] at hk3
      have q3 := eq_true hk3
      simp (maxSteps := 2000000) only [go_sem, ↓reduceIte, hk1, hk2, q3, hw0, crd]
      rotate_left
      rw [if_neg hk1, if_neg hk2, if_neg hk3] at hW
      cases hW
      simp only [kSpace] at hk1
      simp only [kChar] at hk2
      simp only [kRange] at hk3
      simp (maxSteps := 2000000) only [go_sem, ↓reduceIte, hk1, hk2, hk3, hw0, crd]
      refine ⟨(_, b, k1, l, n1), ?_, ⟨g1, hr0, g3, fun h => (g2 h).2, ?_⟩, ?_⟩
      ·rw [hS0]
       refine Weak.mk ?_ ?_ ?_ <;> simp (maxSteps := 2000000) only [go_sem, ↓reduceIte, Sub, Int.natCast_add, Int.natCast_mul, crd, box]
      ·simp only
       rw [← hP2]
       by_cases hn0 : n1 = 0
       ·refine mainF_fuel s _ _ _ g1 (fun h => (g2 h).2) ?_ ?_ <;> simp only <;> omega
       ·rw [mainF_end _ _ hn0, mainF_end _ _ hn0]
      ·simp only
       split
       ·omega
       ·omega
      all_goals
       refine PrimG.mv ([.l 13, .l 5]) rfl (hp) rfl rfl (by repeat' (first | exact trivial | exact rfl | constructor)) rfl rfl rfl rfl (hro) (fun r hs' m' hr => ?_)
       obtain ⟨r', hr', e1, e2, e3⟩ := hr
       subst e1 e2 e3
       rcases r' with _ | ⟨fs', c'⟩
       all_goals
        refine ⟨⟨⟨rfl, rfl⟩, rfl⟩, ?_⟩
        simp (maxSteps := 2000000) only [go_sem, ↓reduceIte, crd, box]
        refine ⟨(_, b', k', l', n'), ?_, ⟨g1, hr', g3, fun h => (g2 h).2, ?_⟩, ?_⟩
        ·rw [hS0]
         refine Weak.mk ?_ ?_ ?_ <;> simp (maxSteps := 2000000) only [go_sem, ↓reduceIte, Sub, Int.natCast_add, Int.natCast_mul, crd, box]
        ·simp only
         rw [← hP2]
         by_cases hn0 : n' = 0
         ·have := (g2 hn0).1
          refine mainF_fuel s _ _ _ g1 (fun h => (g2 h).2) ?_ ?_ <;> simp only <;> omega
         ·rw [mainF_end _ _ hn0, mainF_end _ _ hn0]
        ·simp only
         split
         ·rename_i h
          have := (g2 h).1
          omega
         ·omega
    ·rw [mainF_end _ _ (Nat.pos_iff_ne_zero.1 hn)] at hP
     subst hP
     simp (maxSteps := 2000000) only [go_sem, ↓reduceIte, crd, box, errD_ne (Nat.pos_iff_ne_zero.1 hn)]
     have hd : doneF (b, k, l, n) = ([], false, n) := if_pos (Nat.pos_iff_ne_zero.1 hn)
     rw [hd, errD_ne (Nat.pos_iff_ne_zero.1 hn)]
     rfl
end Go.Av.Tryd
set_option linter.unusedSimpArgs false
set_option maxRecDepth 100000
set_option maxHeartbeats 2000000
namespace Go.Av.Tryd
open Go.Proofs
abbrev RX := Bool × Nat × ROut × Nat
def re0 (T : List (List UInt8)) (ends : Bool) (x : RX) : RX :=
 let A := rB T ends x.2.1 x.2.2.2
 let B := rB T ends A.2.1 A.2.2
 (decide (A.1.length = 2), B.2.1, x.2.2.1, if B.2.2 = 0 ∧ (A.1.length ≠ B.1.length ∨ A.1.length < 1 ∨ 2 < A.1.length) then 3 else B.2.2)
def re1 (T : List (List UInt8)) (ends : Bool) (x : RX) : RX :=
 let C := rC T ends x.1 x.2.1 x.2.2.2
 let t := rT T ends C.2.1 C.2.2
 if t.2.2 = 0 then (x.1, t.2.1, some (putL x.2.2.1.l ⟨C.1, C.1, t.1⟩), putE x.2.2.1.l 0) else (x.1, t.2.1, x.2.2.1, t.2.2)
def relist (T : List (List UInt8)) (ends : Bool) (te : Nat) : Nat → Nat → Nat → ROut → Nat × ROut × Nat
 | 0, _, j, o => (j, o, 0)
 | f + 1, c, j, o =>
  if T[j]? = some [93] then (j + 1, o, if c = te + 1 then 0 else 3)
  else
   let t := rT T ends j 0
   if t.2.2 = 0 then (if putE o.l 0 = 0 then relist T ends te f (c + 1) t.2.1 (some (putL o.l ⟨c, c, t.1⟩)) else (t.2.1, some (putL o.l ⟨c, c, t.1⟩), putE o.l 0))
   else (t.2.1, o, t.2.2)
def re2 (T : List (List UInt8)) (ends : Bool) (x : RX) : RX :=
 let C := rC T ends x.1 x.2.1 x.2.2.2
 let D := rC T ends x.1 C.2.1 C.2.2
 if D.2.2 = 0 then
  (if T[D.2.1]? = some [91] then (x.1, relist T ends D.1 (T.length + 1 - (D.2.1 + 1)) C.1 (D.2.1 + 1) x.2.2.1)
   else
   let t := rT T ends D.2.1 0
   if t.2.2 = 0 then (x.1, t.2.1, some (putL x.2.2.1.l ⟨C.1, D.1, t.1⟩), putE x.2.2.1.l 0) else (x.1, t.2.1, x.2.2.1, t.2.2))
 else (x.1, D.2.1, x.2.2.1, D.2.2)
theorem rC_le {T : List (List UInt8)} {ends b : Bool} {j n : Nat} (hj : j ≤ T.length) : (rC T ends b j n).1 ≤ 65535 ∧ (rC T ends b j n).2.1 ≤ T.length := by
 have := rB_le (ends := ends) (n := n) hj
 unfold rC
 split
 ·exact ⟨codeV_le _ _, this⟩
 ·exact ⟨Nat.zero_le _, this⟩
theorem rT_le {T : List (List UInt8)} {ends : Bool} {j n : Nat} (hj : j ≤ T.length) : (rT T ends j n).2.1 ≤ T.length := by
 have := rB_le (ends := ends) (n := n) hj
 unfold rT
 split
 ·split
  ·exact this
  ·split <;> exact this
 ·exact this
end Go.Av.Tryd
set_option linter.unusedSimpArgs false
set_option maxRecDepth 100000
namespace Go.Av.Tryd
open Go.Proofs
def StepR (T : List (List UInt8)) (st : RX → RX) : Prop := ∀ x : RX, x.2.1 ≤ T.length → x.2.2.1.l.length ≤ 300 → (st x).2.1 ≤ T.length ∧ ((st x).2.2.2 = 0 → (st x).2.2.1.l.length ≤ 300 ∧ x.2.1 < (st x).2.1)
theorem rN_up {T : List (List UInt8)} {ends : Bool} {j n : Nat} (h : (rN T ends j n).1 ≠ []) : (rN T ends j n).2.1 = j + 1 ∧ (rN T ends j n).2.2 = n ∧ T[j]? = some (rN T ends j n).1 := by
 unfold rN at *
 cases hq : T[j]? with
 | none => rw [hq] at h; simp at h
 | some w => exact ⟨rfl, rfl, rfl⟩
theorem rB_up {T : List (List UInt8)} {ends : Bool} {j n : Nat} (h : (rB T ends j n).2.2 = 0) : (rB T ends j n).2.1 = j + 1 ∧ n = 0 ∧ j < T.length := by
 unfold rB at *
 split at h
 ·rename_i h1
  rw [if_pos h1]
  have hne := cBe_ne h
  obtain ⟨g1, g2, g3⟩ := rN_up hne
  exact ⟨g1, by omega, (List.getElem?_eq_some_iff.1 g3).1⟩
 ·rename_i h1
  exact absurd h h1
theorem rC_up {T : List (List UInt8)} {ends b : Bool} {j n : Nat} (h : (rC T ends b j n).2.2 = 0) : (rC T ends b j n).2.1 = j + 1 ∧ n = 0 ∧ j < T.length := by
 unfold rC at *
 split at h
 ·rename_i h1
  rw [if_pos h1]
  exact rB_up h1
 ·rename_i h1
  exact absurd h h1
theorem rT_upn {T : List (List UInt8)} {ends : Bool} {j n : Nat} (h : (rT T ends j n).2.2 = 0) : (rT T ends j n).2.1 = j + 1 ∧ n = 0 ∧ j < T.length := by
 have hB : (rB T ends j n).2.2 = 0 := by
  unfold rT at h
  split at h
  ·assumption
  ·exact h
 have hj2 : (rT T ends j n).2.1 = (rB T ends j n).2.1 := by
  unfold rT
  rw [if_pos hB]
  split
  ·rfl
  ·split <;> rfl
 rw [hj2]
 exact rB_up hB
theorem rT_ge {T : List (List UInt8)} {ends : Bool} {j n : Nat} : j ≤ (rT T ends j n).2.1 := by
 have h0 : j ≤ (rN T ends j n).2.1 := by
  unfold rN
  cases hq : T[j]? with
  | none => exact Nat.le_refl _
  | some w => exact Nat.le_succ _
 have h1 : j ≤ (rB T ends j n).2.1 := by
  unfold rB
  split <;> exact h0
 unfold rT
 split
 ·split
  ·exact h1
  ·split <;> exact h1
 ·exact h1
theorem re0_ok (T : List (List UInt8)) (ends : Bool) : StepR T (re0 T ends) := fun ⟨b, j, o, n⟩ hj hl => by
 simp only at hj hl
 simp only [re0]
 have h1 := rB_le (ends := ends) (n := n) hj
 have u1 := fun h => rB_up (T := T) (ends := ends) (j := j) (n := n) h
 generalize rB T ends j n = A at *
 obtain ⟨a, j1, n1⟩ := A
 simp only at *
 have h2 := rB_le (ends := ends) (n := n1) h1
 have u2 := fun h => rB_up (T := T) (ends := ends) (j := j1) (n := n1) h
 generalize rB T ends j1 n1 = B at *
 obtain ⟨c, j2, n2⟩ := B
 simp only at *
 refine ⟨h2, fun h => ⟨hl, ?_⟩⟩
 have : n2 = 0 := by
  split at h
  ·cases h
  ·exact h
 have g2 := u2 this
 have g1 := u1 g2.2.1
 omega
theorem re1_ok (T : List (List UInt8)) (ends : Bool) : StepR T (re1 T ends) := fun ⟨b, j, o, n⟩ hj hl => by
 simp only at hj hl
 simp only [re1]
 have h1 := (rC_le (ends := ends) (b := b) (n := n) hj).2
 have u1 := fun h => rC_up (T := T) (ends := ends) (b := b) (j := j) (n := n) h
 generalize rC T ends b j n = A at *
 obtain ⟨a, j1, n1⟩ := A
 simp only at *
 have h2 := rT_le (ends := ends) (n := n1) h1
 have u2 := fun h => rT_upn (T := T) (ends := ends) (j := j1) (n := n1) h
 generalize rT T ends j1 n1 = B at *
 obtain ⟨c, j2, n2⟩ := B
 simp only at *
 split
 ·rename_i h0
  refine ⟨h2, fun h => ?_⟩
  have g2 := u2 h0
  have g1 := u1 g2.2.1
  refine ⟨(putE_0 _ h).2, ?_⟩
  simp only
  omega
 ·rename_i h0
  exact ⟨h2, fun h => absurd h h0⟩
theorem relist_ok (T : List (List UInt8)) (ends : Bool) (te : Nat) : ∀ (f c j : Nat) (o : ROut), j ≤ T.length → o.l.length ≤ 300 → (relist T ends te f c j o).1 ≤ T.length ∧ j ≤ (relist T ends te f c j o).1 ∧ ((relist T ends te f c j o).2.2 = 0 → (relist T ends te f c j o).2.1.l.length ≤ 300)
 | 0, c, j, o, hj, hl => ⟨hj, Nat.le_refl _, fun _ => hl⟩
 | f + 1, c, j, o, hj, hl => by
  simp only [relist]
  split
  ·rename_i h93
   have := (List.getElem?_eq_some_iff.1 h93).1
   exact ⟨by simp only; omega, by simp only; omega, fun _ => hl⟩
  ·have h1 := rT_le (ends := ends) (n := 0) hj
   have h1g := rT_ge (T := T) (ends := ends) (j := j) (n := 0)
   have u1 := fun h => rT_upn (T := T) (ends := ends) (j := j) (n := 0) h
   generalize rT T ends j 0 = A at *
   obtain ⟨t, j1, n1⟩ := A
   simp only at *
   split
   ·rename_i h0
    have := u1 h0
    split
    ·rename_i hp
     obtain ⟨g1, g2, g3⟩ := relist_ok T ends te f (c + 1) j1 (some (putL o.l ⟨c, c, t⟩)) h1 (putE_0 _ hp).2
     exact ⟨g1, by omega, g3⟩
    ·rename_i hp
     exact ⟨h1, by simp only; omega, fun h => absurd h hp⟩
   ·rename_i h0
    exact ⟨h1, h1g, fun h => absurd h h0⟩
theorem re2_ok (T : List (List UInt8)) (ends : Bool) : StepR T (re2 T ends) := fun ⟨b, j, o, n⟩ hj hl => by
 simp only at hj hl
 simp only [re2]
 have h1 := (rC_le (ends := ends) (b := b) (n := n) hj).2
 have u1 := fun h => rC_up (T := T) (ends := ends) (b := b) (j := j) (n := n) h
 generalize rC T ends b j n = A at *
 obtain ⟨a, j1, n1⟩ := A
 simp only at *
 have h2 := (rC_le (ends := ends) (b := b) (n := n1) h1).2
 have u2 := fun h => rC_up (T := T) (ends := ends) (b := b) (j := j1) (n := n1) h
 generalize rC T ends b j1 n1 = B at *
 obtain ⟨d, j2, n2⟩ := B
 simp only at *
 split
 ·rename_i h0
  have g2 := u2 h0
  have g1 := u1 g2.2.1
  split
  ·rename_i h91
   have := (List.getElem?_eq_some_iff.1 h91).1
   obtain ⟨k1, k2, k3⟩ := relist_ok T ends d (T.length + 1 - (j2 + 1)) a (j2 + 1) o (by omega) hl
   refine ⟨k1, fun h => ⟨k3 h, ?_⟩⟩
   simp only
   omega
  ·have h3 := rT_le (ends := ends) (n := 0) h2
   have u3 := fun h => rT_upn (T := T) (ends := ends) (j := j2) (n := 0) h
   generalize rT T ends j2 0 = X at *
   obtain ⟨c, j3, n3⟩ := X
   simp only at *
   split
   ·rename_i h0
    have g3 := u3 h0
    refine ⟨h3, fun h => ⟨(putE_0 _ h).2, ?_⟩⟩
    simp only
    omega
   ·rename_i h0
    exact ⟨h3, fun h => absurd h h0⟩
 ·rename_i h0
  exact ⟨h2, fun h => absurd h h0⟩
def partR (T : List (List UInt8)) (e : List UInt8) (st : RX → RX) : Nat → RX → RX
 | 0, x => x
 | f + 1, x =>
  if x.2.2.2 ≠ 0 then x
  else if T[x.2.1]? = some e then (x.1, x.2.1 + 1, x.2.2.1, 0)
  else if x.2.1 = T.length then (x.1, x.2.1, x.2.2.1, 5)
  else partR T e st f (st x)
theorem partR_end (T : List (List UInt8)) (e : List UInt8) (st : RX → RX) (f : Nat) {x : RX} (h : x.2.2.2 ≠ 0) : partR T e st f x = x := by
 cases f with
 | zero => rfl
 | succ f => rw [partR, if_pos h]
theorem partR_ok (T : List (List UInt8)) (e : List UInt8) (st : RX → RX) (hst : StepR T st) : ∀ (f : Nat) (x : RX), x.2.1 ≤ T.length → (x.2.2.2 = 0 → x.2.2.1.l.length ≤ 300) → (partR T e st f x).2.1 ≤ T.length ∧ ((partR T e st f x).2.2.2 = 0 → x.2.1 ≤ (partR T e st f x).2.1 ∧ (partR T e st f x).2.2.1.l.length ≤ 300)
 | 0, x, hk, hl => ⟨hk, fun h => ⟨Nat.le_refl _, hl h⟩⟩
 | f + 1, x, hk, hl => by
  rw [partR]
  split
  ·rename_i hn
   exact ⟨hk, fun h => absurd h hn⟩
  ·rename_i hn
   have hl := hl (by simpa using hn)
   split
   ·rename_i he
    have := (List.getElem?_eq_some_iff.1 he).1
    exact ⟨by simp only; omega, fun _ => ⟨by simp only; omega, hl⟩⟩
   ·split
    ·exact ⟨hk, fun h => by simp at h⟩
    ·have g := hst x hk hl
     obtain ⟨q1, q2⟩ := partR_ok T e st hst f (st x) g.1 (fun h => (g.2 h).1)
     refine ⟨q1, fun h => ⟨?_, (q2 h).2⟩⟩
     have : (st x).2.2.2 = 0 := by
      apply Classical.byContradiction
      intro hn
      rw [partR_end _ _ _ _ hn] at h
      exact hn h
     have := (g.2 this).2
     have := (q2 h).1
     omega
def wordX (T : List (List UInt8)) (ends : Bool) (w : List UInt8) (x : RX) : RX :=
 if w = kSpace then partR T eSpace (re0 T ends) (T.length + 1 - x.2.1) x
 else if w = kChar then partR T eChar (re1 T ends) (T.length + 1 - x.2.1) x
 else if w = kRange then partR T eRange (re2 T ends) (T.length + 1 - x.2.1) x
 else x
def mainR (T : List (List UInt8)) (ends : Bool) : Nat → RX → RX
 | 0, x => x
 | f + 1, x =>
  if x.2.2.2 ≠ 0 then x
  else if (rN T ends x.2.1 0).1 = [] then (x.1, (rN T ends x.2.1 0).2.1, x.2.2.1, (rN T ends x.2.1 0).2.2)
  else mainR T ends f (wordX T ends (rN T ends x.2.1 0).1 (x.1, (rN T ends x.2.1 0).2.1, x.2.2.1, 0))
theorem wordX_ok (T : List (List UInt8)) (ends : Bool) (w : List UInt8) (x : RX) (hk : x.2.1 ≤ T.length) (hl : x.2.2.2 = 0 → x.2.2.1.l.length ≤ 300) : (wordX T ends w x).2.1 ≤ T.length ∧ ((wordX T ends w x).2.2.2 = 0 → x.2.1 ≤ (wordX T ends w x).2.1 ∧ (wordX T ends w x).2.2.1.l.length ≤ 300) := by
 unfold wordX
 split
 ·exact partR_ok T _ _ (re0_ok T ends) _ x hk hl
 ·split
  ·exact partR_ok T _ _ (re1_ok T ends) _ x hk hl
  ·split
   ·exact partR_ok T _ _ (re2_ok T ends) _ x hk hl
   ·exact ⟨hk, fun h => ⟨Nat.le_refl _, hl h⟩⟩
theorem mainR_end (T : List (List UInt8)) (ends : Bool) (f : Nat) {x : RX} (h : x.2.2.2 ≠ 0) : mainR T ends f x = x := by
 cases f with
 | zero => rfl
 | succ f => rw [mainR, if_pos h]
def doneR (x : RX) : List Span × Bool × Nat :=
 if x.2.2.2 ≠ 0 then ([], false, x.2.2.2)
 else if faultM x.2.2.1.l x.1 = 0 then (x.2.2.1.l, x.1, 0) else ([], false, faultM x.2.2.1.l x.1)
end Go.Av.Tryd
set_option linter.unusedSimpArgs false
set_option maxRecDepth 100000
set_option maxHeartbeats 2000000
namespace Go.Av.Tryd
open Go.Proofs
def ROut.vl : ROut → AV
 | none => .ns
 | some l => .own (.c (.l 21) 4) 59 3 (spansD l)
attribute [go_sem] ROut.vl
def spansR (s : List UInt8) : List Span × Bool × Nat :=
 if 20000 < s.length then ([], false, 2)
 else doneR (mainR (tokensF s (s.length + 1) (skipP s 0)).1 (tokensF s (s.length + 1) (skipP s 0)).2 ((tokensF s (s.length + 1) (skipP s 0)).1.length + 1) (false, 0, none, 0))
def Rel (s : List UInt8) (T : List (List UInt8)) (ends : Bool) (k j : Nat) : Prop := k ≤ s.length ∧ j ≤ T.length ∧ tokensF s (s.length + 1) (skipP s k) = (T.drop j, ends)
theorem tokAt_bad {s : List UInt8} {q : Nat} (hq : q < s.length) (h : (tokAt s q).1 = []) : (tokAt s q).2.2 = 5 := by
 obtain ⟨c, hc⟩ := get_some hq
 by_cases hw : wordP s q = []
 ·by_cases h60 : c.toNat = 60
  ·by_cases hx : Lib.indexByte (s.drop q) 62 < 0
   ·rw [tokAt_open hw hc h60 hx]
   ·exfalso
    have h1 := (tokAt_len hq).1
    rw [h] at h1
    rw [tokAt_str hw hc h60 hx] at h1
    simp only [List.length_nil] at h1
    omega
  ·rw [tokAt_sign hw hc h60] at h; simp at h
 ·rw [tokAt_word hw] at h; exact absurd h hw
theorem next_rel {s : List UInt8} {T : List (List UInt8)} {ends : Bool} {k j : Nat} (h : Rel s T ends k j) :
  (∃ w k', nextT s k = (w, k', 0) ∧ w ≠ [] ∧ T[j]? = some w ∧ Rel s T ends k' (j + 1)) ∨ (∃ k' e, nextT s k = ([], k', e) ∧ T[j]? = none ∧ j = T.length ∧ e = if ends = true then 0 else 5) := by
 obtain ⟨hk, hj, ht⟩ := h
 have hsk := skipP_le hk
 unfold nextT
 generalize skipP s k = q at *
 rw [tokensF] at ht
 by_cases hq : q < s.length
 ·rw [if_pos hq] at ht
  by_cases hw : (tokAt s q).1 = []
  ·rw [if_pos hw] at ht
   have h5 := tokAt_bad hq hw
   obtain ⟨h1, h2⟩ := Prod.mk.inj ht
   have hjl : j = T.length := by
    have := congrArg List.length h1
    rw [List.length_drop] at this
    simp only [List.length_nil] at this
    omega
   refine .inr ⟨(tokAt s q).2.1, 5, ?_, List.getElem?_eq_none (by omega), hjl, by rw [← h2]; rfl⟩
   generalize tokAt s q = X at *
   obtain ⟨a, b, c⟩ := X
   simp only at hw h5
   subst hw h5
   rfl
  ·rw [if_neg hw] at ht
   obtain ⟨h1, h2⟩ := Prod.mk.inj ht
   have h0 := tokAt_err hw
   obtain ⟨g1, g2, g3⟩ := tokAt_len hq
   have hjl : j < T.length := by
    have := congrArg List.length h1
    rw [List.length_drop] at this
    simp only [List.length_cons] at this
    omega
   obtain ⟨w, hw2⟩ := get_some hjl
   rw [drop_at hw2] at h1
   obtain ⟨h3, h4⟩ := List.cons.inj h1
   refine .inl ⟨w, (tokAt s q).2.1, ?_, by rw [← h3]; exact hw, hw2, g2, hjl, ?_⟩
   ·generalize tokAt s q = X at *
    obtain ⟨a, b, c⟩ := X
    simp only at h3 h0
    subst h3 h0
    rfl
   ·rw [tokensF_fuel s (s.length + 1) s.length _ (skipP_le g2).2 (by omega) (by have h7 := (skipP_le g2).1; have h8 : (tokAt s q).1.length ≠ 0 := (by simpa using hw); omega)]
    rw [← h4, ← h2]
 ·rw [if_neg hq] at ht
  obtain ⟨h1, h2⟩ := Prod.mk.inj ht
  have hjl : j = T.length := by
   have := congrArg List.length h1
   rw [List.length_drop] at this
   simp only [List.length_nil] at this
   omega
  have hw : wordP s q = [] := by
   have := wordP_len s q
   exact List.length_eq_zero_iff.1 (by omega)
  exact .inr ⟨q, 0, tokAt_end hw (List.getElem?_eq_none (by omega)), List.getElem?_eq_none (by omega), hjl, by rw [← h2]; rfl⟩
theorem orE_n0 {n : Nat} (h : n ≠ 0) (e : Nat) : orE n e = n := by unfold orE; rw [if_neg h]
theorem orE_z (e : Nat) : orE 0 e = e := rfl
theorem rB_rel {s : List UInt8} {T : List (List UInt8)} {ends : Bool} {k j : Nat} (h : Rel s T ends k j) : (rB T ends j 0).2.2 = strE s k 0 ∧ (strE s k 0 = 0 → (rB T ends j 0).1 = cBl (nextT s k).1 ∧ Rel s T ends (nextT s k).2.1 (rB T ends j 0).2.1) := by
 rcases next_rel h with ⟨w, k', h1, h2, h3, h4⟩ | ⟨k', e, h1, h2, h3, h4⟩
 ·have hN : rN T ends j 0 = (w, j + 1, 0) := by unfold rN; rw [h3]
  have hS : strE s k 0 = cBe w := by unfold strE; rw [h1]; simp only [orE_z]
  have hB : rB T ends j 0 = (cBl w, j + 1, cBe w) := by unfold rB; rw [hN]; rfl
  rw [hB, hS, h1]
  exact ⟨rfl, fun _ => ⟨rfl, h4⟩⟩
 ·have hN : rN T ends j 0 = ([], j, e) := by unfold rN; rw [h2, h4]; cases ends <;> rfl
  have hS : strE s k 0 = orE e 4 := by unfold strE; rw [h1]; rfl
  have he : orE e 4 ≠ 0 := by unfold orE; split <;> omega
  refine ⟨?_, fun h0 => absurd (hS.symm.trans h0) he⟩
  rw [hS]
  unfold rB
  rw [hN]
  by_cases h0 : e = 0
  ·subst h0; rfl
  ·rw [if_neg h0, orE_n0 h0]
theorem rB_n {T : List (List UInt8)} {ends : Bool} {j n : Nat} (h : n ≠ 0) : (rB T ends j n).2.2 = n := by
 have hN : (rN T ends j n).2.2 = n := by
  unfold rN
  cases T[j]? with
  | none => simp only; split <;> first | rfl | exact orE_n0 h 5
  | some w => rfl
 unfold rB
 rw [hN, if_neg h]
theorem rC_n {T : List (List UInt8)} {ends b : Bool} {j n : Nat} (h : n ≠ 0) : (rC T ends b j n).2.2 = n := by
 have hB := rB_n (T := T) (ends := ends) (j := j) h
 unfold rC
 rw [hB, if_neg h]
theorem rT_n {T : List (List UInt8)} {ends : Bool} {j n : Nat} (h : n ≠ 0) : (rT T ends j n).2.2 = n := by
 have hB := rB_n (T := T) (ends := ends) (j := j) h
 unfold rT
 rw [hB, if_neg h]
theorem strE_n {s : List UInt8} {k n : Nat} (h : n ≠ 0) : strE s k n = n := by
 unfold strE
 rw [orE_n0 h, orE_n0 h]
theorem codeT_n {s : List UInt8} {b : Bool} {k n : Nat} (h : n ≠ 0) : (codeT s b k n).2.2 = n := by
 unfold codeT
 rw [strE_n h, if_neg h]
theorem txtE_n {w : List UInt8} {n : Nat} (h : n ≠ 0) : txtE w n = n := by
 unfold txtE txtE1
 rw [orE_n0 h, if_neg (fun g => h g.1), orE_n0 h]
theorem putE_n {l : List Span} {n : Nat} (h : n ≠ 0) : putE l n = n := by
 unfold putE
 rw [orE_n0 h]
 split <;> rfl
theorem rC_rel {s : List UInt8} {T : List (List UInt8)} {ends b : Bool} {k j : Nat} (h : Rel s T ends k j) : (rC T ends b j 0).2.2 = (codeT s b k 0).2.2 ∧ ((codeT s b k 0).2.2 = 0 → (rC T ends b j 0).1 = (codeT s b k 0).1 ∧ Rel s T ends (codeT s b k 0).2.1 (rC T ends b j 0).2.1) := by
 obtain ⟨h1, h2⟩ := rB_rel h
 unfold rC codeT
 rw [h1]
 by_cases h0 : strE s k 0 = 0
 ·obtain ⟨h3, h4⟩ := h2 h0
  rw [if_pos h0, if_pos h0, h3]
  exact ⟨rfl, fun _ => ⟨rfl, h4⟩⟩
 ·rw [if_neg h0, if_neg h0]
  exact ⟨rfl, fun h => absurd h h0⟩
theorem rT_rel {s : List UInt8} {T : List (List UInt8)} {ends : Bool} {k j : Nat} (h : Rel s T ends k j) : (rT T ends j 0).2.2 = txtE (nextT s k).1 (orE 0 (nextT s k).2.2) ∧ ((rT T ends j 0).2.2 = 0 → (rT T ends j 0).1 = txtS (nextT s k).1 ∧ Rel s T ends (nextT s k).2.1 (rT T ends j 0).2.1) := by
 obtain ⟨h1, h2⟩ := rB_rel h
 have hS : strE s k 0 = orE (orE 0 (nextT s k).2.2) (cBe (nextT s k).1) := rfl
 have hX : txtE (nextT s k).1 (orE 0 (nextT s k).2.2) = orE (if strE s k 0 = 0 ∧ (cBl (nextT s k).1).length % 2 = 1 then 4 else strE s k 0) (if sgsF (unitsB (cBl (nextT s k).1)) = none then 4 else 0) := rfl
 rw [hX]
 unfold rT
 rw [h1]
 by_cases h0 : strE s k 0 = 0
 ·obtain ⟨h3, h4⟩ := h2 h0
  rw [if_pos h0, h3, h0]
  by_cases ho : (cBl (nextT s k).1).length % 2 = 1
  ·rw [if_pos ho, if_pos ⟨rfl, ho⟩]
   exact ⟨rfl, fun h => by simp at h⟩
  ·rw [if_neg ho, if_neg (fun g => ho g.2), orE_z]
   unfold txtS sgsR
   cases sgsF (unitsB (cBl (nextT s k).1)) with
   | none => exact ⟨rfl, fun h => by simp at h⟩
   | some l => exact ⟨rfl, fun _ => ⟨rfl, h4⟩⟩
 ·rw [if_neg h0, if_neg (fun g => h0 g.1), orE_n0 h0]
  exact ⟨rfl, fun h => absurd h h0⟩
def Sim (s : List UInt8) (T : List (List UInt8)) (ends : Bool) (x : RS) (X : RX) : Prop := X.2.2.2 = x.2.2.2 ∧ (x.2.2.2 = 0 → X.1 = x.1 ∧ Rel s T ends x.2.1 X.2.1 ∧ X.2.2.1.l = x.2.2.1)
theorem sim_err {s : List UInt8} {T : List (List UInt8)} {ends : Bool} {x : RS} {X : RX} {m : Nat} (hm : m ≠ 0) (h1 : x.2.2.2 = m) (h2 : X.2.2.2 = m) : Sim s T ends x X := ⟨h2.trans h1.symm, fun h => absurd (h1.symm.trans h) hm⟩
theorem sim0 {s : List UInt8} {T : List (List UInt8)} {ends : Bool} {b : Bool} {k j : Nat} {o : ROut} (h : Rel s T ends k j) : Sim s T ends (one0 s (b, k, o.l, 0)) (re0 T ends (b, j, o, 0)) := by
 obtain ⟨h1, h2⟩ := rB_rel h
 simp only [one0, re0, spaceT]
 generalize rB T ends j 0 = A at *
 obtain ⟨a, j1, n1⟩ := A
 simp only at *
 subst h1
 by_cases h0 : strE s k 0 = 0
 ·obtain ⟨h3, h4⟩ := h2 h0
  rw [h0]
  subst h3
  obtain ⟨g1, g2⟩ := rB_rel h4
  generalize rB T ends j1 0 = B at *
  obtain ⟨c, j2, n2⟩ := B
  simp only at *
  subst g1
  by_cases h5 : strE s (nextT s k).2.1 0 = 0
  ·obtain ⟨g3, g4⟩ := g2 h5
   subst g3
   rw [h5]
   exact ⟨rfl, fun _ => ⟨rfl, g4, rfl⟩⟩
  ·refine ⟨?_, fun h => absurd h ?_⟩
   ·simp only
    rw [if_neg (fun g => h5 g.1), if_neg (fun g => h5 g.1)]
   ·simp only
    rw [if_neg (fun g => h5 g.1)]
    exact h5
 ·refine ⟨?_, fun h => absurd h ?_⟩
  ·simp only
   rw [rB_n h0, strE_n h0, if_neg (fun g => h0 g.1), if_neg (fun g => h0 g.1)]
  ·simp only
   rw [strE_n h0, if_neg (fun g => h0 g.1)]
   exact h0
theorem sim1 {s : List UInt8} {T : List (List UInt8)} {ends : Bool} {b : Bool} {k j : Nat} {o : ROut} (h : Rel s T ends k j) : Sim s T ends (one1 s (b, k, o.l, 0)) (re1 T ends (b, j, o, 0)) := by
 obtain ⟨h1, h2⟩ := rC_rel (b := b) h
 simp only [one1, re1]
 generalize rC T ends b j 0 = A at *
 obtain ⟨c, j1, n1⟩ := A
 generalize codeT s b k 0 = C at *
 obtain ⟨c', k1, n1'⟩ := C
 simp only at *
 subst h1
 by_cases h0 : n1 = 0
 ·subst h0
  obtain ⟨rfl, h4⟩ := h2 rfl
  obtain ⟨g1, g2⟩ := rT_rel h4
  rw [← g1]
  generalize rT T ends j1 0 = B at *
  obtain ⟨t, j2, n2⟩ := B
  simp only at *
  by_cases h5 : n2 = 0
  ·obtain ⟨g3, g4⟩ := g2 h5
   subst g3 h5
   rw [if_pos rfl]
   exact ⟨rfl, fun _ => ⟨rfl, g4, rfl⟩⟩
  ·rw [if_neg h5, putE_n h5]
   exact ⟨rfl, fun h => absurd h h5⟩
 ·rw [rT_n h0, if_neg h0, orE_n0 h0, txtE_n h0, putE_n h0]
  exact ⟨rfl, fun h => absurd h h0⟩
theorem simL {s : List UInt8} {T : List (List UInt8)} {ends b : Bool} {te : Nat} : ∀ (f f' c k j : Nat) (o : ROut), Rel s T ends k j → s.length + 1 - k ≤ f → T.length + 1 - j ≤ f' → Sim s T ends (b, listF s te f c k o.l 0) (b, relist T ends te f' c j o)
 | 0, _, _, k, _, _, h, h1, _ => by have := h.1; omega
 | _, 0, _, _, j, _, h, _, h2 => by have := h.2.1; omega
 | f + 1, f' + 1, c, k, j, o, h, h1, h2 => by
  simp only [listF, relist]
  rw [if_neg (by simp)]
  obtain ⟨g1, g2⟩ := rT_rel h
  have hnx := next_rel h
  have hge := nextT_ge h.1
  have hup := fun g => nextT_up (s := s) (k := k) g h.1
  have hT := rT_upn (T := T) (ends := ends) (j := j) (n := 0)
  rw [← g1]
  generalize rT T ends j 0 = B at *
  obtain ⟨t, j2, n2⟩ := B
  generalize nextT s k = N at *
  obtain ⟨w, k', e⟩ := N
  simp only at *
  by_cases h93 : w = [93]
  ·rcases hnx with ⟨w', k'', e1, e2, e3, e4⟩ | ⟨k'', e', e1, e2, e3, e4⟩
   ·cases e1
    rw [if_pos h93, e3, h93, if_pos rfl]
    by_cases hct : c = te + 1
    ·rw [if_pos hct, if_pos hct]
     exact ⟨rfl, fun _ => ⟨rfl, e4, rfl⟩⟩
    ·rw [if_neg hct, if_neg hct]
     exact ⟨rfl, fun h => by simp [orE] at h⟩
   ·cases e1
    simp at h93
  ·have hq : ¬ T[j]? = some [93] := by
    intro g
    rcases hnx with ⟨w', k'', e1, e2, e3, e4⟩ | ⟨k'', e', e1, e2, e3, e4⟩
    ·cases e1
     rw [e3] at g
     cases g
     exact h93 rfl
    ·rw [e2] at g
     cases g
   rw [if_neg h93, if_neg hq]
   by_cases h5 : n2 = 0
   ·obtain ⟨g3, g4⟩ := g2 h5
    subst g3 h5
    obtain ⟨u1, u2, u3⟩ := hT rfl
    rw [if_pos rfl]
    by_cases h6 : putE o.l 0 = 0
    ·rw [if_pos h6, h6]
     have hk' : k < k' := by
      rcases hnx with ⟨w', k'', e1, e2, e3, e4⟩ | ⟨k'', e', e1, e2, e3, e4⟩
      ·cases e1
       exact hup e2
      ·omega
     exact simL (b := b) f f' (c + 1) k' j2 (some (putL o.l ⟨c, c, txtS w⟩)) g4 (by omega) (by omega)
    ·rw [if_neg h6, listF_end _ _ _ _ _ _ h6]
     exact ⟨rfl, fun h => absurd h h6⟩
   ·rw [if_neg h5, putE_n h5, listF_end _ _ _ _ _ _ h5]
    exact ⟨rfl, fun h => absurd h h5⟩
theorem sim2 {s : List UInt8} {T : List (List UInt8)} {ends : Bool} {b : Bool} {k j : Nat} {o : ROut} (h : Rel s T ends k j) : Sim s T ends (one2 s (b, k, o.l, 0)) (re2 T ends (b, j, o, 0)) := by
 obtain ⟨h1, h2⟩ := rC_rel (b := b) h
 simp only [one2, re2]
 generalize rC T ends b j 0 = A at *
 obtain ⟨c, j1, n1⟩ := A
 generalize codeT s b k 0 = C at *
 obtain ⟨c', k1, n1'⟩ := C
 simp only at *
 subst h1
 have bad : ∀ (m d k3 : Nat) (l3 : List Span), m ≠ 0 → (if (nextT s k3).1 = [91] then ((b, listF s d (s.length + 1 - (nextT s k3).2.1) c' (nextT s k3).2.1 o.l (orE m (nextT s k3).2.2)) : RS) else (b, (nextT s k3).2.1, l3, putE o.l (txtE (nextT s k3).1 (orE m (nextT s k3).2.2)))).2.2.2 = m := fun m d k3 l3 hm => by
  rw [orE_n0 hm, txtE_n hm, putE_n hm, listF_end _ _ _ _ _ _ hm]
  split <;> rfl
 by_cases h0 : n1 = 0
 ·subst h0
  obtain ⟨rfl, h4⟩ := h2 rfl
  obtain ⟨q1, q2⟩ := rC_rel (b := b) h4
  generalize rC T ends b j1 0 = A at *
  obtain ⟨d, j2, n2⟩ := A
  generalize codeT s b k1 0 = C at *
  obtain ⟨d', k2, n2'⟩ := C
  simp only at *
  subst q1
  by_cases h5 : n2 = 0
  ·subst h5
   obtain ⟨rfl, h6⟩ := q2 rfl
   rw [if_pos rfl]
   obtain ⟨g1, g2⟩ := rT_rel h6
   have hnx := next_rel h6
   rw [← g1]
   generalize rT T ends j2 0 = B at *
   obtain ⟨t, j3, n3⟩ := B
   generalize nextT s k2 = N at *
   obtain ⟨w, k', e⟩ := N
   simp only at *
   by_cases h91 : w = [91]
   ·rcases hnx with ⟨w', k'', e1, e2, e3, e4⟩ | ⟨k'', e', e1, e2, e3, e4⟩
    ·cases e1
     rw [if_pos h91, e3, h91, if_pos rfl]
     exact simL _ _ _ _ _ _ e4 (Nat.le_refl _) (Nat.le_refl _)
    ·cases e1
     simp at h91
   ·have hq : ¬ T[j2]? = some [91] := by
     intro g
     rcases hnx with ⟨w', k'', e1, e2, e3, e4⟩ | ⟨k'', e', e1, e2, e3, e4⟩
     ·cases e1
      rw [e3] at g
      cases g
      exact h91 rfl
     ·rw [e2] at g
      cases g
    rw [if_neg h91, if_neg hq]
    by_cases h5 : n3 = 0
    ·obtain ⟨g3, g4⟩ := g2 h5
     subst g3 h5
     rw [if_pos rfl]
     exact ⟨rfl, fun _ => ⟨rfl, g4, rfl⟩⟩
    ·rw [if_neg h5, putE_n h5]
     exact ⟨rfl, fun h => absurd h h5⟩
  ·rw [if_neg h5]
   exact sim_err h5 (bad n2 _ k2 _ h5) rfl
 ·have hd := codeT_n (s := s) (b := b) (k := k1) h0
  rw [rC_n h0, if_neg h0, hd]
  exact sim_err h0 (bad n1 _ _ _ h0) rfl
def KeepE (st : RS → RS) : Prop := ∀ x : RS, x.2.2.2 ≠ 0 → (st x).2.2.2 = x.2.2.2
theorem keep0 (s : List UInt8) : KeepE (one0 s) := fun ⟨b, k, l, n⟩ h => by
 simp only at h
 simp only [one0, spaceT]
 rw [strE_n h, strE_n h, if_neg (fun g => h g.1)]
theorem keep1 (s : List UInt8) : KeepE (one1 s) := fun ⟨b, k, l, n⟩ h => by
 simp only at h
 simp only [one1]
 rw [codeT_n h, orE_n0 h, txtE_n h, putE_n h]
theorem keep2 (s : List UInt8) : KeepE (one2 s) := fun ⟨b, k, l, n⟩ h => by
 simp only at h
 simp only [one2]
 rw [codeT_n h, codeT_n h, orE_n0 h, txtE_n h, putE_n h, listF_end _ _ _ _ _ _ h]
 split <;> rfl
def SimS (s : List UInt8) (T : List (List UInt8)) (ends : Bool) (st : RS → RS) (sr : RX → RX) : Prop := ∀ (b : Bool) (k j : Nat) (o : ROut), Rel s T ends k j → Sim s T ends (st (b, k, o.l, 0)) (sr (b, j, o, 0))
theorem simP {s : List UInt8} {T : List (List UInt8)} {ends : Bool} {e : List UInt8} (he : e ≠ []) {st : RS → RS} {sr : RX → RX} (hst : StepOK s st) (hsr : StepR T sr) (hk : KeepE st) (hsim : SimS s T ends st sr) :
  ∀ (f f' : Nat) (b : Bool) (k j : Nat) (o : ROut), Rel s T ends k j → o.l.length ≤ 300 → s.length + 1 - k ≤ f → T.length + 1 - j ≤ f' → Sim s T ends (partF s e st f (b, k, o.l, 0)) (partR T e sr f' (b, j, o, 0))
 | 0, _, _, k, _, _, h, _, h1, _ => by have := h.1; omega
 | _, 0, _, _, j, _, h, _, _, h2 => by have := h.2.1; omega
 | f + 1, f' + 1, b, k, j, o, h, hl, h1, h2 => by
  simp only [partF, partR, ne_eq, not_true_eq_false, if_false]
  rcases next_rel h with ⟨w, k', e1, e2, e3, e4⟩ | ⟨k', e', e1, e2, e3, e4⟩
  ·rw [e1, e3]
   by_cases hwe : w = e
   ·rw [if_pos hwe, if_pos (by rw [hwe])]
    exact ⟨rfl, fun _ => ⟨rfl, e4, rfl⟩⟩
   ·rw [if_neg hwe, if_neg e2, if_neg (show ¬ (some w = some e) from fun g => hwe (Option.some.inj g))]
    have hj : ¬ j = T.length := by
     have := (List.getElem?_eq_some_iff.1 e3).1
     omega
    rw [if_neg hj, orE_z]
    have hs := hsim b k j o h
    obtain ⟨p1, p2⟩ := hst (b, k, o.l, 0) h.1 hl
    obtain ⟨q1, q2⟩ := hsr (b, j, o, 0) h.2.1 hl
    generalize st (b, k, o.l, 0) = x at *
    generalize sr (b, j, o, 0) = X at *
    obtain ⟨xb, xk, xl, xn⟩ := x
    obtain ⟨Xb, Xj, Xo, Xn⟩ := X
    obtain ⟨s1, s2⟩ := hs
    simp only at *
    subst s1
    by_cases hn : Xn = 0
    ·subst hn
     obtain ⟨rfl, r2, rfl⟩ := s2 rfl
     obtain ⟨p3, p4⟩ := p2 rfl
     obtain ⟨q3, q4⟩ := q2 rfl
     exact simP he hst hsr hk hsim f f' _ _ _ _ r2 p3 (by omega) (by omega)
    ·rw [partF_end _ _ _ _ hn, partR_end _ _ _ _ hn]
     exact sim_err hn rfl rfl
  ·rw [e1, e2]
   rw [if_neg (fun g => he g.symm), if_pos rfl, if_neg (show ¬ ((none : Option (List UInt8)) = some e) by simp), if_pos e3, orE_z]
   have h5 : orE e' 5 = 5 := by rw [e4]; cases ends <;> rfl
   rw [h5]
   have h6 := hk (b, k, o.l, 5) (by simp)
   rw [partF_end _ _ _ _ (by rw [h6]; simp)]
   exact sim_err (m := 5) (by simp) h6 rfl
theorem simW {s : List UInt8} {T : List (List UInt8)} {ends : Bool} (w : List UInt8) (b : Bool) (k j : Nat) (o : ROut) (h : Rel s T ends k j) (hl : o.l.length ≤ 300) : Sim s T ends (wordF s w (b, k, o.l, 0)) (wordX T ends w (b, j, o, 0)) := by
 unfold wordF wordX
 split
 ·exact simP (by decide) (one0_ok s) (re0_ok T ends) (keep0 s) (fun _ _ _ _ h => sim0 h) _ _ _ _ _ _ h hl (Nat.le_refl _) (Nat.le_refl _)
 ·split
  ·exact simP (by decide) (one1_ok s) (re1_ok T ends) (keep1 s) (fun _ _ _ _ h => sim1 h) _ _ _ _ _ _ h hl (Nat.le_refl _) (Nat.le_refl _)
  ·split
   ·exact simP (by decide) (one2_ok s) (re2_ok T ends) (keep2 s) (fun _ _ _ _ h => sim2 h) _ _ _ _ _ _ h hl (Nat.le_refl _) (Nat.le_refl _)
   ·exact ⟨rfl, fun _ => ⟨rfl, h, rfl⟩⟩
def Sim2 (x : RS) (X : RX) : Prop := X.2.2.2 = x.2.2.2 ∧ (x.2.2.2 = 0 → X.1 = x.1 ∧ X.2.2.1.l = x.2.2.1)
theorem sim2_err {x : RS} {X : RX} {m : Nat} (hm : m ≠ 0) (h1 : x.2.2.2 = m) (h2 : X.2.2.2 = m) : Sim2 x X := ⟨h2.trans h1.symm, fun h => absurd (h1.symm.trans h) hm⟩
theorem simM {s : List UInt8} {T : List (List UInt8)} {ends : Bool} :
  ∀ (f f' : Nat) (b : Bool) (k j : Nat) (o : ROut), Rel s T ends k j → o.l.length ≤ 300 → s.length + 1 - k ≤ f → T.length + 1 - j ≤ f' → Sim2 (mainF s f (b, k, o.l, 0)) (mainR T ends f' (b, j, o, 0))
 | 0, _, _, k, _, _, h, _, h1, _ => by have := h.1; omega
 | _, 0, _, _, j, _, h, _, _, h2 => by have := h.2.1; omega
 | f + 1, f' + 1, b, k, j, o, h, hl, h1, h2 => by
  simp only [mainF, mainR, ne_eq, not_true_eq_false, if_false]
  have hup := fun g => nextT_up (s := s) (k := k) g h.1
  rcases next_rel h with ⟨w, k', e1, e2, e3, e4⟩ | ⟨k', e', e1, e2, e3, e4⟩
  ·have hN : rN T ends j 0 = (w, j + 1, 0) := by unfold rN; rw [e3]
   rw [e1] at hup
   rw [e1, hN]
   simp only at hup
   have hkk := hup e2
   rw [if_neg e2, if_neg e2, orE_z]
   have hs := simW w b k' (j + 1) o e4 hl
   obtain ⟨p1, p2⟩ := wordF_ok s w (b, k', o.l, 0) e4.1 (fun _ => hl)
   obtain ⟨q1, q2⟩ := wordX_ok T ends w (b, j + 1, o, 0) e4.2.1 (fun _ => hl)
   generalize wordF s w (b, k', o.l, 0) = x at *
   generalize wordX T ends w (b, j + 1, o, 0) = X at *
   obtain ⟨xb, xk, xl, xn⟩ := x
   obtain ⟨Xb, Xj, Xo, Xn⟩ := X
   obtain ⟨s1, s2⟩ := hs
   simp only at *
   subst s1
   by_cases hn : Xn = 0
   ·subst hn
    obtain ⟨rfl, r2, rfl⟩ := s2 rfl
    obtain ⟨p3, p4⟩ := p2 rfl
    obtain ⟨q3, q4⟩ := q2 rfl
    exact simM f f' _ _ _ _ r2 p4 (by omega) (by omega)
   ·rw [mainF_end _ _ hn, mainR_end _ _ _ hn]
    exact sim2_err hn rfl rfl
  ·have hN : rN T ends j 0 = ([], j, e') := by unfold rN; rw [e2, e4]; cases ends <;> rfl
   rw [e1, hN]
   simp only [if_true, orE_z]
   exact ⟨rfl, fun _ => ⟨rfl, rfl⟩⟩
theorem reads_same (s : List UInt8) : parseF s = spansR s := by
 unfold parseF spansR
 split
 ·rfl
 ·have hq0 := (skipP_le (Nat.zero_le s.length)).2
  have h : Rel s (tokensF s (s.length + 1) (skipP s 0)).1 (tokensF s (s.length + 1) (skipP s 0)).2 0 0 := ⟨Nat.zero_le _, Nat.zero_le _, rfl⟩
  obtain ⟨h1, h2⟩ := simM (s.length + 1) ((tokensF s (s.length + 1) (skipP s 0)).1.length + 1) false 0 0 none h (by simp [ROut.l]) (by omega) (by omega)
  have e0 : (ROut.l none) = [] := rfl
  rw [e0] at h1 h2
  generalize mainF s (s.length + 1) (false, 0, [], 0) = x at *
  generalize mainR (tokensF s (s.length + 1) (skipP s 0)).1 (tokensF s (s.length + 1) (skipP s 0)).2 _ (false, 0, none, 0) = X at *
  unfold doneF doneR
  rw [h1]
  by_cases hn : x.2.2.2 = 0
  ·obtain ⟨r1, r3⟩ := h2 hn
   rw [r1, r3]
  ·rw [if_pos hn, if_pos hn]
end Go.Av.Tryd
set_option linter.unusedSimpArgs false
set_option maxRecDepth 100000
namespace Go.Av.Tryd
open Go.Proofs
def L_foliowrightref_SameSpans : LCode :=
 .seq (.reg [Qx 4 KF]) (.seq (.seq (.reg [Qc 6 0, Q 7 (.len false (.t 6)), Qc 8 1, Q 9 (.len false (.t 8)), Q 10 (.bin .neq (.t 7) (.t 9))]) (.cond (.t 10) (.seq (.reg [Qx 4 KF]) 
 .ret) .skip)) (.seq (.seq (.reg [Qx 5 (Ki 0)]) (.block 0 (.loop (.seq (.seq (.reg [Qc 11 5, Qc 12 0, Q 13 (.len false (.t 12)), Q 14 (.bin .lss (.t 11) (.t 13))]) (.cond (.t 14) 
 .skip (.exit 0))) (.seq (.block 1 (.seq (.dreg [Qc 17 0, Qc 18 5, Q 19 (.ia 3 (.t 17) (.t 18)), Q 20 (.ld true 3 (.t 19)), Qc 21 1, Qc 22 5, Q 23 (.ia 3 (.t 21) (.t 22)), Q 24 
 (.ld true 3 (.t 23)), Q 25 (.eqS true [0, 0, 2] (.t 20) (.t 24))]) (.cond (.t 25) (.seq (.reg [Qx 4 KF]) .ret) .skip))) (.reg [Qc 15 5, Q 16 (.bin .add (.t 15) (Ki 1)), Qa 5 
 16])))))) (.seq (.reg [Qx 4 KT]) .ret)))
def R_foliowrightref_SameSpans : List LRes := [.tmp 4]
theorem lift_foliowrightref_SameSpans : Lifts Tryd.prog 19 26 L_foliowrightref_SameSpans R_foliowrightref_SameSpans := ⟨_, _, Tryd.func19, rfl, by kernel_rfl, by kernel_rfl, rfl⟩
theorem sameSpans_call (l : List Span) (hl : l.length ≤ 1000000) : PCall Tryd.prog 19 [.list (spansD l), .list (spansD l)] (fun r => r = .one (.bool true)) := by
 have hI : ((spansD l).length : Int) = (l.length : Int) := by rw [spansD_length]
 refine lift_foliowrightref_SameSpans.call rfl ?_
 simp (maxSteps := 2000000) only [go_sem, ↓reduceIte, L_foliowrightref_SameSpans, R_foliowrightref_SameSpans, hI]
 refine run_loop (fun i : Nat => ⟨[(0, .d (.list (spansD l))), (1, .d (.list (spansD l))), (5, .d (.int .i64 i))], [], []⟩) (fun i => i ≤ l.length) (fun i => l.length - i) 0 ?_ (Nat.zero_le _) ?_
 ·refine weak_mk ?_ trivial
  simp (maxSteps := 2000000) only [go_sem, ↓reduceIte, Sub, Int.natCast_add, Int.natCast_mul]
 ·intro i hi
  simp (maxSteps := 2000000) only [go_sem, ↓reduceIte, hI]
  refine fun hlt => ?_
  obtain ⟨x, hx⟩ := get_some (l := l) (i := i) (by omega)
  simp (maxSteps := 2000000) (disch := omega) only [go_sem, ↓reduceIte, hI, getI_nat, spansD_get, hx, Span.d]
  refine ⟨i + 1, ?_, by omega, by omega⟩
  refine weak_mk ?_ trivial
  simp (maxSteps := 2000000) only [go_sem, ↓reduceIte, Sub, Int.natCast_add, Int.natCast_mul]
def sixteenL : List UInt8 := [48, 49, 50, 51, 52, 53, 54, 55, 56, 57, 65, 66, 67, 68, 69, 70]
def dig (n : Nat) : UInt8 := sixteenL.getD (n % 16) 48
def hexN : Nat → Nat → List UInt8
 | 0, _ => []
 | d + 1, n => hexN d (n / 16) ++ [dig n]
theorem hexN_length : ∀ (d n : Nat), (hexN d n).length = d
 | 0, _ => rfl
 | d + 1, n => by rw [hexN, List.length_append, hexN_length d]; rfl
theorem dig_get (n : Nat) : sixteenL[n % 16]? = some (dig n) := by
 have h : n % 16 < sixteenL.length := Nat.mod_lt _ (by decide)
 rw [List.getElem?_eq_getElem h, dig, List.getD_eq_getElem?_getD, List.getElem?_eq_getElem h]; rfl
theorem dig_asc (n : Nat) : (dig n).toNat < 128 := by
 have : ∀ k : Fin 16, (sixteenL.getD k.val 48).toNat < 128 := by decide
 exact this ⟨n % 16, Nat.mod_lt _ (by decide)⟩
theorem and15 (n : Nat) (h : n ≤ 1048575) : IntKind.i64.wrap (((BitVec.ofInt IntKind.i64.bits (n : Int) &&& BitVec.ofInt IntKind.i64.bits 15).toNat : Nat) : Int) = ((n % 16 : Nat) : Int) := by
 have e : (BitVec.ofInt IntKind.i64.bits (n : Int) &&& BitVec.ofInt IntKind.i64.bits 15).toNat = n % 16 := by
  show (BitVec.ofInt 64 (n : Int) &&& BitVec.ofInt 64 15).toNat = n % 16
  rw [BitVec.toNat_and, show (BitVec.ofInt 64 15).toNat = 2 ^ 4 - 1 from rfl, Nat.and_two_pow_sub_one_eq_mod]
  rw [show (BitVec.ofInt 64 (n : Int)).toNat = n by
   rw [BitVec.toNat_ofInt]
   omega]
 rw [e, IntKind.wrap_i64]
 omega
theorem fdk (n k : Nat) : (n : Int).fdiv ((2 ^ k : Nat) : Int) = ((n / 2 ^ k : Nat) : Int) := by rw [Int.fdiv_eq_ediv_of_nonneg _ (by exact Int.natCast_nonneg _)]; rfl
def L_cmap_hexed : LCode :=
 .seq (.reg [Qx 4 (.k (.d (.str [])))]) (.seq (.reg [Qx 5 (.k (.d (.str [])))]) (.seq (.seq (.reg [Qc 7 1, Q 8 (.bin .mul (Ki 2) (.t 7)), Q 9 (.bin .sub (.t 8) (Ki 1)), Qa 6 9]) 
 (.block 0 (.loop (.seq (.seq (.reg [Qc 10 6, Q 11 (.bin .geq (.t 10) (Ki 0))]) (.cond (.t 11) .skip (.exit 0))) (.seq (.block 1 (.reg [Qc 14 5, Qc 15 0, Qc 16 6, Q 17 (.bin .mul 
 (Ki 4) (.t 16)), Q 18 (.bin .shr (.t 15) (.t 17)), Q 19 (.bin .and (.t 18) (Ki 15)), Q 20 (.idxS (.k (.d (.str [48, 49, 50, 51, 52, 53, 54, 55, 56, 57, 65, 66, 67, 68, 69, 70]))) 
 (.t 19)), Q 21 (.cvI .i32 (.t 20)), Q 22 (.i2s (.t 21)), Q 23 (.bin .add (.t 14) (.t 22)), Qa 5 23])) (.reg [Qc 12 6, Q 13 (.bin .sub (.t 12) (Ki 1)), Qa 6 13])))))) (.seq (.reg 
 [Qc 24 5, Q 25 (.bin .add (.k (.d (.str [60]))) (.t 24)), Q 26 (.bin .add (.t 25) (.k (.d (.str [62])))), Qa 4 26]) .ret)))
def R_cmap_hexed : List LRes := [.tmp 4]
theorem lift_cmap_hexed : Lifts Tryd.prog 49 27 L_cmap_hexed R_cmap_hexed := ⟨_, _, Tryd.func49, rfl, by kernel_rfl, by kernel_rfl, rfl⟩
theorem hexedP (n b : Nat) (h : n ≤ 65535) (hb : b ≤ 2) : PCall Tryd.prog 49 [.int .i64 n, .int .i64 b] (fun r => r = .one (.str (60 :: hexN (2 * b) n ++ [62]))) := by
 refine lift_cmap_hexed.call rfl ?_
 simp (maxSteps := 2000000) (disch := omega) only [go_sem, ↓reduceIte, L_cmap_hexed, R_cmap_hexed]
 refine run_loop (fun m : Nat => ⟨[(0, .d (.int .i64 n)), (4, .d (.str [])), (5, .d (.str (hexN (2 * b - m) (n / 16 ^ m)))), (6, .d (.int .i64 ((m : Int) - 1)))], [], []⟩) (fun m => m ≤ 2 * b) (fun m => m) (2 * b) ?_ (Nat.le_refl _) ?_
 ·refine Weak.mk ?_ ?_ ?_ <;> simp (maxSteps := 2000000) only [go_sem, ↓reduceIte, Sub, Int.natCast_add, Int.natCast_mul, Nat.sub_self, hexN]
  all_goals first | done | rfl
 ·intro m hm
  rcases Nat.eq_zero_or_pos m with h0 | h0
  ·subst h0
   have hl := hexN_length (2 * b - 0) (n / 16 ^ 0)
   simp (maxSteps := 2000000) only [go_sem, ↓reduceIte]
   refine ⟨by omega, by omega, ?_⟩
   simp
  ·have zc : (0 ≤ (m : Int) - 1) = True := eq_true (by omega)
   obtain ⟨k, rfl⟩ : ∃ k, m = k + 1 := ⟨m - 1, by omega⟩
   have hk : ((k + 1 : Nat) : Int) - 1 = (k : Int) := by omega
   have hn : n / 16 ^ k ≤ 1048575 := Nat.le_trans (Nat.div_le_self _ _) (by omega)
   have zs : (4 * (k : Int) < 0) = False := eq_false (by omega)
   have hsh : (n : Int).fdiv (2 ^ min (4 * (k : Int)).toNat 64) = ((n / 16 ^ k : Nat) : Int) := by
    have e : min (4 * (k : Int)).toNat 64 = 4 * k := by omega
    rw [e, show (16 : Nat) ^ k = 2 ^ (4 * k) by rw [Nat.pow_mul], ← fdk]
    rfl
   have hd := dig_get (n / 16 ^ k)
   have hgi : getI [48, 49, 50, 51, 52, 53, 54, 55, 56, 57, 65, 66, 67, 68, 69, 70] ((n / 16 ^ k % 16 : Nat) : Int) = some (dig (n / 16 ^ k)) := by rw [getI_nat]; exact hd
   have ha := dig_asc (n / 16 ^ k)
   have hen := encode_asc ha
   have hl := hexN_length (2 * b - (k + 1)) (n / 16 ^ (k + 1))
   have hst : hexN (2 * b - (k + 1)) (n / 16 ^ (k + 1)) ++ [dig (n / 16 ^ k)] = hexN (2 * b - k) (n / 16 ^ k) := by
    rw [show 2 * b - k = (2 * b - (k + 1)) + 1 by omega, hexN, Nat.div_div_eq_div_mul, ← Nat.pow_succ]
   have h32 : IntKind.i32.wrap ((dig (n / 16 ^ k)).toNat : Int) = ((dig (n / 16 ^ k)).toNat : Int) := by rw [IntWalk.i32_in _ (by omega)]
   rw [hk] at zc ⊢
   have h15 := and15 _ hn
   simp only [IntKind.bits] at h15
   simp (maxSteps := 2000000) (disch := omega) only [go_sem, ↓reduceIte, zc, zs, hsh, h15, hgi, h32, hen, hst]
   refine ⟨by omega, k, ?_, by omega, by omega⟩
   refine Weak.mk ?_ ?_ ?_ <;> simp (maxSteps := 2000000) only [go_sem, ↓reduceIte, Sub, Int.natCast_add, Int.natCast_mul]
end Go.Av.Tryd
set_option linter.unusedSimpArgs false
set_option maxRecDepth 100000
set_option maxHeartbeats 2000000
namespace Go.Av.Tryd
open Go.Proofs
def unitsL (c : Nat) : List Nat := if c < 65536 then [c] else [55296 + (c - 65536) / 1024, 56320 + (c - 65536) % 1024]
def unitsH (rs : List Nat) : List UInt8 := rs.flatMap fun c => (unitsL c).flatMap (hexN 4)
theorem unitsL_le {c : Nat} (h : vrune c) : ∀ u ∈ unitsL c, u ≤ 65535 := by
 unfold vrune at h
 unfold unitsL
 split
 ·intro u hu; rw [List.mem_singleton.1 hu]; omega
 ·intro u hu
  simp only [List.mem_cons, List.not_mem_nil, or_false] at hu
  rcases hu with hu | hu <;> (rw [hu]; omega)
theorem unitsL_len (c : Nat) : (unitsL c).length ≤ 2 := by unfold unitsL; split <;> simp
theorem hexs_len : ∀ (l : List Nat), (l.flatMap (hexN 4)).length = 4 * l.length
 | [] => rfl
 | a :: l => by rw [List.flatMap_cons, List.length_append, hexN_length, hexs_len l, List.length_cons]; omega
theorem unitsH_len : ∀ (rs : List Nat), (unitsH rs).length ≤ 8 * rs.length
 | [] => by simp [unitsH]
 | c :: rs => by
  have h1 := unitsH_len rs
  have h2 := unitsL_len c
  have e : unitsH (c :: rs) = (unitsL c).flatMap (hexN 4) ++ unitsH rs := rfl
  rw [e, List.length_append, hexs_len, List.length_cons]; omega
theorem and1023 (n : Nat) (h : n ≤ 1048575) : IntKind.i64.wrap (((BitVec.ofInt IntKind.i64.bits (n : Int) &&& BitVec.ofInt IntKind.i64.bits 1023).toNat : Nat) : Int) = ((n % 1024 : Nat) : Int) := by
 have e : (BitVec.ofInt IntKind.i64.bits (n : Int) &&& BitVec.ofInt IntKind.i64.bits 1023).toNat = n % 1024 := by
  show (BitVec.ofInt 64 (n : Int) &&& BitVec.ofInt 64 1023).toNat = n % 1024
  rw [BitVec.toNat_and, show (BitVec.ofInt 64 1023).toNat = 2 ^ 10 - 1 from rfl, Nat.and_two_pow_sub_one_eq_mod]
  rw [show (BitVec.ofInt 64 (n : Int)).toNat = n by
   rw [BitVec.toNat_ofInt]
   omega]
 rw [e, IntKind.wrap_i64]
 omega
def L_cmap_unitsOf : LCode :=
 .seq (.reg [⟨some 2, .nils 3 1, none⟩]) (.seq (.reg [Qc 4 0, Q 5 (.cvI .i64 (.t 4)), Qa 3 5]) (.seq (.seq (.reg [Qc 6 3, Q 7 (.bin .lss (.t 6) (Ki 65536))]) (.cond (.t 7) (.seq 
 (.reg [Qc 8 3, ⟨some 9, .bsl 3 1 [.t 8], none⟩, Qa 2 9]) .ret) .skip)) (.seq (.reg [Qc 10 3, Q 11 (.bin .sub (.t 10) (Ki 65536)), Qa 3 11]) (.seq (.reg [Qc 12 3, Q 13 (.bin .shr 
 (.t 12) (.k (.d (.int .u64 10)))), Q 14 (.bin .add (Ki 55296) (.t 13)), Qc 15 3, Q 16 (.bin .and (.t 15) (Ki 1023)), Q 17 (.bin .add (Ki 56320) (.t 16)), ⟨some 18, .bsl 3 1 [.t 
 14, .t 17], none⟩, Qa 2 18]) .ret))))
def R_cmap_unitsOf : List LRes := [.tmp 2]
theorem lift_cmap_unitsOf : Lifts Tryd.prog 69 19 L_cmap_unitsOf R_cmap_unitsOf := ⟨_, _, Tryd.func69, rfl, by kernel_rfl, by kernel_rfl, rfl⟩
theorem unitsOf_call {c : Nat} (h : vrune c) : PCall Tryd.prog 69 [.int .i32 c] (fun r => r = .one (.list (natsU (unitsL c)))) := by
 have hv := h
 unfold vrune at h
 unfold unitsL
 refine lift_cmap_unitsOf.call rfl ?_
 by_cases h1 : c < 65536
 ·rw [if_pos h1]
  have z : ((c : Int) < 65536) = True := eq_true (by omega)
  simp (maxSteps := 2000000) (disch := omega) only [go_sem, ↓reduceIte, L_cmap_unitsOf, R_cmap_unitsOf, z, natsU]
  first | done | rfl
 ·rw [if_neg h1]
  obtain ⟨n, rfl⟩ : ∃ n, c = n + 65536 := ⟨c - 65536, by omega⟩
  have z : (((n + 65536 : Nat) : Int) < 65536) = False := eq_false (by omega)
  have hs : ((n + 65536 : Nat) : Int) - 65536 = (n : Int) := by omega
  have hsh : (n : Int).fdiv (2 ^ min 10 64) = ((n / 1024 : Nat) : Int) := fdk n 10
  have h10 := and1023 n (by omega)
  simp only [IntKind.bits] at h10
  simp (maxSteps := 2000000) (disch := omega) only [go_sem, ↓reduceIte, L_cmap_unitsOf, R_cmap_unitsOf, z, hs, hsh, h10, natsU]
  rfl
theorem encM_ge : ∀ {l : List Nat}, (∀ r ∈ l, vrune r) → l.length ≤ (encM l).length
 | [], _ => by simp [encM]
 | r :: l, h => by
  have h1 := encM_ge (l := l) (fun x hx => h x (by simp [hx]))
  have h2 := (enc_len (h r (by simp))).1
  have e : encM (r :: l) = enc r ++ encM l := rfl
  rw [e, List.length_append, List.length_cons]; omega
theorem runeAt_enc {c : Nat} (h : vrune c) (a b : List UInt8) : runeAt (a ++ (enc c ++ b)) a.length = (c, (enc c).length) := by
 have h1 := Lib.decodeL_drop ⟨(a ++ (enc c ++ b)).toArray⟩ a.length
 unfold runeAt
 rw [← h1]
 show Lib.decodeL ((a ++ (enc c ++ b)).drop a.length) = _
 rw [List.drop_left, decode_enc h]
def L_cmap_units : LCode :=
 .seq (.reg [Qx 2 (.k (.d (.str [])))]) (.seq (.reg [⟨some 3, .allo [.nilpT 92, .list []], none⟩]) (.seq (.reg [⟨some 9, .prim .call [.k (.fn (.func 68) [] []), .t 3, .k (.d (.int 
 .u8 60))] [], none⟩]) (.seq (.seq (.reg [Qc 10 0, ⟨some 11, .prim (.range 9) [.t 10] [], none⟩]) (.block 0 (.loop (.seq (.reg [⟨some 12, .prim (.next true 0) [.t 11] [], none⟩, Q 
 13 (.ext 0 (.t 12))]) (.seq (.cond (.t 13) .skip (.exit 0)) (.block 1 (.seq (.reg [Q 14 (.ext 2 (.t 12)), Qa 5 14]) (.seq (.reg [Qc 15 5, ⟨some 16, .call 69 [.t 15], none⟩, Q 17 
 (.len false (.t 16)), Q 18 (.cp (Ki 0))]) (.block 2 (.loop (.seq (.reg [Q 19 (.bin .lss (.t 18) (.t 17))]) (.seq (.cond (.t 19) .skip (.exit 2)) (.seq (.block 3 (.seq (.reg [Q 20 
 (.ia 1 (.t 16) (.t 18)), Q 21 (.ld false 1 (.t 20)), Qa 7 21]) (.seq (.reg [Qc 22 7, ⟨some 23, .call 49 [.t 22, .k (.d (.int .i64 2))], none⟩, Qa 8 23]) (.reg [Qc 24 8, Q 25 
 (.subS (.t 24) (some (Ki 1)) (some (Ki 5))), ⟨some 26, .prim .call [.k (.fn (.func 48) [] []), .t 3, .t 25] [], none⟩])))) (.reg [Q 27 (.bin .add (.t 18) (Ki 1)), Qc 18 
 27])))))))))))))) (.seq (.reg [⟨some 28, .prim .call [.k (.fn (.func 68) [] []), .t 3, .k (.d (.int .u8 62))] [], none⟩]) (.seq (.reg [⟨some 29, .prim .call [.k (.fn (.func 51) 
 [] []), .t 3] [], none⟩, Qa 2 29]) .ret)))))
def R_cmap_units : List LRes := [.tmp 2]
theorem lift_cmap_units : Lifts Tryd.prog 50 30 L_cmap_units R_cmap_units := ⟨_, _, Tryd.func50, rfl, by kernel_rfl, by kernel_rfl, rfl⟩
theorem units_call (s : List UInt8) {rs : List Nat} (hrs : runesM s = some rs) (hs : s.length ≤ 1000000) : PCall Tryd.prog 50 [.str s] (fun r => r = .one (.str (60 :: unitsH rs ++ [62]))) := by
 obtain ⟨e1, e2⟩ := runesM_enc s.length (Nat.le_refl _) hrs
 refine lift_cmap_units.call rfl ?_
 simp (maxSteps := 2000000) only [go_sem, ↓reduceIte, L_cmap_units, R_cmap_units]
 have h1 := writeByte_at .new 60 (by simp [Bld.bytes])
 refine bldCall (.l 3) rfl (h1) rfl rfl rfl rfl ?_
 simp (maxSteps := 2000000) only [go_sem, ↓reduceIte]
 refine PrimG.rangeStr rfl (by kernel_rfl) ?_
 simp (maxSteps := 2000000) only [go_sem, ↓reduceIte, Bld.at, Bld.bytes]
 refine run_loop (fun y : List Nat × List Nat => ⟨[(3, .ptr (.l 3) 0), (11, .ptr (.l 11) 0)], [(3, .cells [.ptr (.l 3) 0, .own (.c (.l 3) 1) 5 1 (bytesD (60 :: unitsH y.1))]), (11, .siter s (encM y.1).length)], []⟩)
  (fun y => y.1 ++ y.2 = rs) (fun y => y.2.length) ([], rs) ?_ rfl ?_
 ·refine Weak.mk ?_ ?_ ?_ <;> simp (maxSteps := 2000000) only [go_sem, ↓reduceIte, Sub, Int.natCast_add, Int.natCast_mul, unitsH, encM]
  exact ⟨rfl, rfl⟩
 ·rintro ⟨pre, rest⟩ hpr
  simp only at hpr
  have hul := unitsH_len pre
  have hrl : rs.length ≤ s.length := by
   rw [← e1]
   exact encM_ge e2
  have hpl : pre.length ≤ rs.length := by rw [← hpr, List.length_append]; omega
  have hs2 : s = encM pre ++ encM rest := by rw [← e1, ← hpr, encM_append]
  simp (maxSteps := 2000000) only [go_sem, ↓reduceIte]
  refine PrimG.nextStr rfl rfl (fun hle => ?_) (fun hlt => ?_)
  ·have hr0 : rest = [] := by
    cases rest with
    | nil => rfl
    | cons c r =>
     exfalso
     have hc := e2 c (by rw [← hpr]; simp)
     have := (enc_len hc).1
     rw [hs2, List.length_append, show encM (c :: r) = enc c ++ encM r from rfl, List.length_append] at hle
     omega
   subst hr0
   rw [List.append_nil] at hpr
   subst hpr
   simp (maxSteps := 2000000) only [go_sem, ↓reduceIte]
   have h2 := writeByte_at (.has (60 :: unitsH pre)) 62 (by simp only [Bld.bytes, List.length_cons]; omega)
   refine bldCall (.l 3) rfl (h2) rfl rfl rfl rfl ?_
   simp (maxSteps := 2000000) only [go_sem, ↓reduceIte, Bld.at, Bld.bytes]
   have h3 := string_call (.has (60 :: unitsH pre ++ [62])) (by simp only [Bld.bytes, List.length_cons, List.length_append, List.length_nil]; omega)
   simp only [Bld.obj, Bld.said, Bld.bytes] at h3
   refine PrimG.mc1 (.l 3) rfl (h3) rfl rfl rfl rfl ⟨rfl, rfl⟩ ?_
   simp (maxSteps := 2000000) only [go_sem, ↓reduceIte]
  ·cases rest with
   | nil =>
    exfalso
    rw [hs2, show encM [] = [] from rfl, List.append_nil] at hlt
    omega
   | cons c r =>
    have hc := e2 c (by rw [← hpr]; simp)
    have hra : runeAt s (encM pre).length = (c, (enc c).length) := by rw [hs2, show encM (c :: r) = enc c ++ encM r from rfl]; exact runeAt_enc hc _ _
    rw [hra]
    simp (maxSteps := 2000000) only [go_sem, ↓reduceIte]
    refine CallG.of (unitsOf_call hc) ?_
    simp (maxSteps := 2000000) only [go_sem, ↓reduceIte, natsU_length]
    refine run_loop (fun i : Nat => ⟨[(3, .ptr (.l 3) 0), (11, .ptr (.l 11) 0), (16, .d (.list (natsU (unitsL c)))), (17, .d (.int .i64 (unitsL c).length)), (18, .d (.int .i64 i))], [(3, .cells [.ptr (.l 3) 0, .own (.c (.l 3) 1) 5 1 (bytesD (60 :: unitsH pre ++ ((unitsL c).take i).flatMap (hexN 4)))]), (11, .siter s ((encM pre).length + (enc c).length))], []⟩)
     (fun i => i ≤ (unitsL c).length) (fun i => (unitsL c).length - i) 0 ?_ (Nat.zero_le _) ?_
    ·refine Weak.mk ?_ ?_ ?_ <;> simp (maxSteps := 2000000) only [go_sem, ↓reduceIte, Sub, Int.natCast_add, Int.natCast_mul]
     all_goals first | done | simp
    ·intro i hi
     have hlen := unitsL_len c
     rcases Nat.lt_or_ge i (unitsL c).length with hlt2 | hge2
     ·have zl : ((i : Int) < ((unitsL c).length : Int)) = True := eq_true (by omega)
      obtain ⟨u, hu⟩ := get_some (l := unitsL c) (i := i) hlt2
      have hu16 := unitsL_le hc u (List.mem_of_getElem? hu)
      have hx := hexedP u 2 hu16 (by omega)
      have hh := hexN_length 4 u
      have hcut : cutI (60 :: (hexN (2 * 2) u ++ [62])) 1 5 = hexN 4 u := by
       show ((60 :: (hexN 4 u ++ [62])).take 5).drop 1 = hexN 4 u
       rw [List.take_succ_cons, List.drop_succ_cons, List.drop_zero, List.take_append_of_le_length (by omega), List.take_of_length_le (by omega)]
      have hfl := hexs_len ((unitsL c).take i)
      rw [List.length_take] at hfl
      have h2 := writeString_at (.has (60 :: unitsH pre ++ ((unitsL c).take i).flatMap (hexN 4))) (hexN 4 u) (by simp only [Bld.bytes, List.length_append, List.length_cons]; omega)
      simp (maxSteps := 2000000) (disch := omega) only [go_sem, ↓reduceIte, zl, getI_nat, natsU_get, hu]
      refine CallG.of hx ?_
      have hx2 : (60 :: (hexN (2 * 2) u ++ [62])).length = 6 := by
       show (60 :: (hexN 4 u ++ [62])).length = 6
       simp [hh]
      simp (maxSteps := 2000000) (disch := omega) only [go_sem, ↓reduceIte, hx2, hcut]
      refine bldCall (.l 3) rfl (h2) rfl rfl rfl rfl ?_
      simp (maxSteps := 2000000) (disch := omega) only [go_sem, ↓reduceIte, Bld.at, Bld.bytes]
      refine ⟨i + 1, ?_, by omega, by omega⟩
      have hst : unitsH pre ++ ((unitsL c).take (i + 1)).flatMap (hexN 4) = unitsH pre ++ ((unitsL c).take i).flatMap (hexN 4) ++ hexN 4 u := by
       rw [List.take_add_one, hu]
       simp
      rw [hst]
      refine Weak.mk ?_ ?_ ?_ <;> simp (maxSteps := 2000000) only [go_sem, ↓reduceIte, Sub, Int.natCast_add, Int.natCast_mul]
      all_goals first | done | simp
     ·have zl : ((i : Int) < ((unitsL c).length : Int)) = False := eq_false (by omega)
      simp (maxSteps := 2000000) only [go_sem, ↓reduceIte, zl]
      refine ⟨(pre ++ [c], r), ?_, by simp only; rw [List.append_assoc]; exact hpr, by simp⟩
      rw [List.take_of_length_le hge2]
      refine Weak.mk ?_ ?_ ?_ <;> simp (maxSteps := 2000000) only [go_sem, ↓reduceIte, Sub, Int.natCast_add, Int.natCast_mul]
      refine ⟨?_, ?_⟩
      ·have e : unitsH (pre ++ [c]) = unitsH pre ++ (unitsL c).flatMap (hexN 4) := by simp [unitsH]
       rw [e]
      ·have e : encM (pre ++ [c]) = encM pre ++ enc c := by simp [encM]
       rw [e, List.length_append]
end Go.Av.Tryd
set_option linter.unusedSimpArgs false
set_option maxRecDepth 100000
set_option maxHeartbeats 2000000
namespace Go.Av.Tryd
open Go.Proofs
/-! ### What spans are that may be -/
theorem spanFault_0 {most : Int} {prev : Option Int} {x : Span} (h : spanFault most prev x = 0) : 0 ≤ x.fr ∧ x.fr ≤ x.to ∧ x.to ≤ most ∧ (∀ p, prev = some p → p < x.fr) ∧ (∃ rs, runesM x.tx = some rs ∧ rs ≠ []) ∧ x.tx ≠ [] ∧ x.tx.length ≤ 40 ∧ ∃ u, onM x.tx (x.to - x.fr).toNat = some u := by
 unfold spanFault at h
 split at h
 ·cases h
 ·rename_i h1
  split at h
  ·cases h
  ·rename_i h2
   split at h
   ·cases h
   ·rename_i h3
    have a1 : x.tx ≠ [] := fun e => h2 (.inr (.inr (.inr (.inl e))))
    refine ⟨by omega, ?_, by omega, fun p hp => ?_, ?_, a1, ?_, ?_⟩
    ·have : ¬ x.to < x.fr := fun e => h2 (.inl e)
     omega
    ·have : ¬ x.fr ≤ p := fun e => h2 (.inr (.inl ⟨p, hp, e⟩))
     omega
    ·cases hr : runesM x.tx with
     | none => exact absurd (.inr (.inr (.inl hr))) h2
     | some rs =>
      refine ⟨rs, rfl, fun e => ?_⟩
      subst e
      exact a1 (runesM_enc _ (Nat.le_refl _) hr).1.symm
    ·have : ¬ 40 < x.tx.length := fun e => h2 (.inr (.inr (.inr (.inr e))))
     omega
    ·cases ho : onM x.tx (x.to - x.fr).toNat with
     | none => exact absurd ho h3
     | some u => exact ⟨u, rfl⟩
theorem faultsF_0 {most : Int} : ∀ {l : List Span} {prev : Option Int}, faultsF most prev l = 0 → ∀ x ∈ l, ∃ q, spanFault most q x = 0
 | [], _, _, _, hx => by simp at hx
 | y :: l, prev, h, x, hx => by
  simp only [faultsF] at h
  split at h
  ·rename_i h0
   rcases List.mem_cons.1 hx with rfl | hx
   ·exact ⟨prev, h0⟩
   ·exact faultsF_0 h x hx
  ·rename_i h0
   exact absurd h h0
theorem mostM_le (b : Bool) : mostM b ≤ 65535 := by cases b <;> simp [mostM]
theorem faultM_0 {l : List Span} {b : Bool} (h : faultM l b = 0) : l.length ≤ 300 ∧ ∀ x ∈ l, ∃ fr te : Nat, ∃ rs, x.fr = fr ∧ x.to = te ∧ fr ≤ te ∧ te ≤ 65535 ∧ (te : Int) ≤ mostM b ∧ runesM x.tx = some rs ∧ rs ≠ [] ∧ x.tx.length ≤ 40 := by
 unfold faultM at h
 split at h
 ·cases h
 ·refine ⟨by omega, fun x hx => ?_⟩
  obtain ⟨q, hq⟩ := faultsF_0 h x hx
  obtain ⟨a1, a2, a3, a4, ⟨rs, a5, a6⟩, a7, a8, a9⟩ := spanFault_0 hq
  have hm := mostM_le b
  exact ⟨x.fr.toNat, x.to.toNat, rs, by omega, by omega, by omega, by omega, by omega, a5, a6, a8⟩
/-! ### The text -/
def bytesN (b : Bool) : Nat := if b = true then 2 else 1
def wHead (b : Bool) : List UInt8 := [49, 32, 98, 101, 103, 105, 110, 99, 111, 100, 101, 115, 112, 97, 99, 101, 114, 97, 110, 103, 101, 10] ++ (60 :: hexN (2 * bytesN b) 0 ++ [62]) ++ [32] ++ (60 :: hexN (2 * bytesN b) (if b = true then 65535 else 255) ++ [62]) ++ [10, 101, 110, 100, 99, 111, 100, 101, 115, 112, 97, 99, 101, 114, 97, 110, 103, 101, 10]
def wSpan (b : Bool) (x : Span) : List UInt8 := [49, 32, 98, 101, 103, 105, 110, 98, 102, 114, 97, 110, 103, 101, 10] ++ (60 :: hexN (2 * bytesN b) x.fr.toNat ++ [62]) ++ [32] ++ (60 :: hexN (2 * bytesN b) x.to.toNat ++ [62]) ++ [32] ++ (60 :: unitsH ((runesM x.tx).getD []) ++ [62]) ++ [10, 101, 110, 100, 98, 102, 114, 97, 110, 103, 101, 10]
def wText (b : Bool) (l : List Span) : List UInt8 := wHead b ++ l.flatMap (wSpan b)
theorem wSpan_len (b : Bool) {x : Span} {rs : List Nat} (h : runesM x.tx = some rs) (hl : x.tx.length ≤ 40) : (wSpan b x).length ≤ 1000 := by
 obtain ⟨e1, e2⟩ := runesM_enc _ (Nat.le_refl _) h
 have h1 := encM_ge e2
 rw [e1] at h1
 have h2 := unitsH_len rs
 have h3 : 2 * bytesN b ≤ 4 := by cases b <;> simp [bytesN]
 unfold wSpan
 rw [h]
 simp only [List.length_append, List.length_cons, List.length_nil, hexN_length, Option.getD_some]
 omega
theorem wSpans_len (l : List Span) (b : Bool) (hx : ∀ x ∈ l, ∃ fr te : Nat, ∃ rs, x.fr = fr ∧ x.to = te ∧ fr ≤ te ∧ te ≤ 65535 ∧ (te : Int) ≤ mostM b ∧ runesM x.tx = some rs ∧ rs ≠ [] ∧ x.tx.length ≤ 40) : ∀ k, ((l.take k).flatMap (wSpan b)).length ≤ 1000 * k
 | 0 => by simp
 | k + 1 => by
  have ih := wSpans_len l b hx k
  rw [List.take_add_one, List.flatMap_append, List.length_append]
  cases hq : l[k]? with
  | none => simp only [Option.toList_none, List.flatMap_nil, List.length_nil]; omega
  | some x =>
   obtain ⟨fr, te, rs, a1, a2, a3, a4, a5, a6, a7, a8⟩ := hx x (List.mem_of_getElem? hq)
   have := wSpan_len b a6 a8
   simp only [Option.toList_some, List.flatMap_cons, List.flatMap_nil, List.append_nil]
   omega
def L_cmap_Write : LCode :=
 .seq (.reg [Qx 4 (.k (.d (.str []))), Qx 5 (.k (.d .nil))]) (.seq (.reg [Qc 11 0, Qc 12 1, ⟨some 13, .call 23 [.t 11, .t 12], none⟩, Qa 6 13]) (.seq (.seq (.reg [Qc 14 6, Q 15 
 (.eqN 0 true (.t 14))]) (.cond (.t 15) (.seq (.reg [Qc 16 6, Qx 4 (.k (.d (.str []))), Qa 5 16]) .ret) .skip)) (.seq (.reg [Qx 7 (Ki 1)]) (.seq (.seq (.reg [Qc 17 1]) (.cond (.t 
 17) (.reg [Qx 7 (Ki 2)]) .skip)) (.seq (.reg [⟨some 8, .allo [.nilpT 92, .list []], none⟩]) (.seq (.dreg [Qc 18 7, ⟨some 19, .call 49 [.k (.d (.int .i64 0)), .t 18], none⟩, Q 20 
 (.bin .add (.k (.d (.str [49, 32, 98, 101, 103, 105, 110, 99, 111, 100, 101, 115, 112, 97, 99, 101, 114, 97, 110, 103, 101, 10]))) (.t 19)), Q 21 (.bin .add (.t 20) (.k (.d (.str 
 [32])))), Qc 22 7, Q 23 (.bin .mul (Ki 8) (.t 22)), Q 24 (.bin .shl (Ki 1) (.t 23)), Q 25 (.bin .sub (.t 24) (Ki 1)), Qc 26 7, ⟨some 27, .call 49 [.t 25, .t 26], none⟩, Q 28 
 (.bin .add (.t 21) (.t 27)), Q 29 (.bin .add (.t 28) (.k (.d (.str [10, 101, 110, 100, 99, 111, 100, 101, 115, 112, 97, 99, 101, 114, 97, 110, 103, 101, 10])))), ⟨some 30, .prim 
 .call [.k (.fn (.func 48) [] []), .t 8, .t 29] [], none⟩]) (.seq (.seq (.reg [Qc 31 0, Q 32 (.len false (.t 31)), Q 33 (.cp (Ki 0))]) (.block 0 (.loop (.seq (.reg [Q 34 (.bin 
 .lss (.t 33) (.t 32))]) (.seq (.cond (.t 34) .skip (.exit 0)) (.seq (.block 1 (.seq (.reg [Q 35 (.ia 3 (.t 31) (.t 33)), Q 36 (.ld true 3 (.t 35)), ⟨some 10, .allo [.int .i64 0, 
 .int .i64 0, .str []], none⟩, ⟨none, .st 3 (.t 10) (.t 36), none⟩]) (.dreg [Q 37 (.fa 0 (.t 10)), Q 38 (.ld false 1 (.t 37)), Qc 39 7, ⟨some 40, .call 49 [.t 38, .t 39], none⟩, Q 
 41 (.bin .add (.k (.d (.str [49, 32, 98, 101, 103, 105, 110, 98, 102, 114, 97, 110, 103, 101, 10]))) (.t 40)), Q 42 (.bin .add (.t 41) (.k (.d (.str [32])))), Q 43 (.fa 1 (.t 
 10)), Q 44 (.ld false 1 (.t 43)), Qc 45 7, ⟨some 46, .call 49 [.t 44, .t 45], none⟩, Q 47 (.bin .add (.t 42) (.t 46)), Q 48 (.bin .add (.t 47) (.k (.d (.str [32])))), Q 49 (.fa 2 
 (.t 10)), Q 50 (.ld false 1 (.t 49)), ⟨some 51, .call 50 [.t 50], none⟩, Q 52 (.bin .add (.t 48) (.t 51)), Q 53 (.bin .add (.t 52) (.k (.d (.str [10, 101, 110, 100, 98, 102, 114, 
 97, 110, 103, 101, 10])))), ⟨some 54, .prim .call [.k (.fn (.func 48) [] []), .t 8, .t 53] [], none⟩]))) (.reg [Q 55 (.bin .add (.t 33) (Ki 1)), Qc 33 55]))))))) (.seq (.reg 
 [⟨some 56, .prim .call [.k (.fn (.func 51) [] []), .t 8] [], none⟩, Qa 4 56, Qx 5 (.k (.d .nil))]) .ret))))))))
def R_cmap_Write : List LRes := [.tmp 4, .tmp 5]
theorem lift_cmap_Write : Lifts Tryd.prog 22 57 L_cmap_Write R_cmap_Write := ⟨_, _, Tryd.func22, rfl, by kernel_rfl, by kernel_rfl, rfl⟩
theorem write_call (l : List Span) (b : Bool) (hw : ∀ x ∈ l, x.wf) : PCall Tryd.prog 22 [.list (spansD l), .bool b] (fun r => r = .tup [.str (if faultM l b = 0 then wText b l else []), errD (faultM l b)]) := by
 have hc := check_call l b hw
 have hI : ((spansD l).length : Int) = (l.length : Int) := by rw [spansD_length]
 by_cases h0 : faultM l b = 0
 ·obtain ⟨hl, hx⟩ := faultM_0 h0
  rw [if_pos h0]
  rw [h0] at hc ⊢
  have z0 : errD 0 = .nil := rfl
  have hb2 : bytesN b ≤ 2 := by cases b <;> simp [bytesN]
  have h1 := hexedP 0 (bytesN b) (by omega) hb2
  have h2 := hexedP (if b = true then 65535 else 255) (bytesN b) (by split <;> omega) hb2
  rw [z0] at hc ⊢
  refine lift_cmap_Write.call rfl ?_
  simp (maxSteps := 2000000) only [go_sem, ↓reduceIte, L_cmap_Write, R_cmap_Write]
  refine CallG.of hc ?_
  obtain ⟨S0, hS0⟩ : ∃ S0 : Nat → St, ∀ i, S0 i = ⟨[(7, .d (.int .i64 (bytesN b))), (8, .ptr (.l 8) 0), (31, .d (.list (spansD l))), (32, .d (.int .i64 l.length)), (33, .d (.int .i64 i))], [(8, .cells [.ptr (.l 8) 0, .own (.c (.l 8) 1) 5 1 (bytesD (wHead b ++ (l.take i).flatMap (wSpan b)))])], []⟩ := ⟨_, fun _ => rfl⟩
  have hhl : (wHead b).length ≤ 100 := by cases b <;> decide
  have hsl : ∀ k, ((l.take k).flatMap (wSpan b)).length ≤ 1000 * k := wSpans_len l b hx
  have hhd : wHead b = [49, 32, 98, 101, 103, 105, 110, 99, 111, 100, 101, 115, 112, 97, 99, 101, 114, 97, 110, 103, 101, 10] ++ (60 :: hexN (2 * bytesN b) 0 ++ [62]) ++ [32] ++ (60 :: hexN (2 * bytesN b) (if b = true then 65535 else 255) ++ [62]) ++ [10, 101, 110, 100, 99, 111, 100, 101, 115, 112, 97, 99, 101, 114, 97, 110, 103, 101, 10] := rfl
  have hx1 := hexN_length (2 * bytesN b) 0
  have hx2 := hexN_length (2 * bytesN b) (if b = true then 65535 else 255)
  have hy1 : (60 :: hexN (2 * bytesN b) 0 ++ [62]).length ≤ 6 := by simp only [List.length_append, List.length_cons, List.length_nil]; omega
  have hy2 : (60 :: hexN (2 * bytesN b) (if b = true then 65535 else 255) ++ [62]).length ≤ 6 := by simp only [List.length_append, List.length_cons, List.length_nil]; omega
  clear hx1 hx2
  generalize (60 :: hexN (2 * bytesN b) 0 ++ [62]) = A1 at *
  generalize (60 :: hexN (2 * bytesN b) (if b = true then 65535 else 255) ++ [62]) = A2 at *
  have hws := writeString_at .new (wHead b) (by simp only [Bld.bytes, List.nil_append]; omega)
  have hmono : ∀ k, k ≤ l.length → (wHead b ++ (l.take k).flatMap (wSpan b)).length ≤ 400000 := fun k hk => by
   have := hsl k
   rw [List.length_append]; omega
  have hfx : ∀ x ∈ l, ∃ (fr te : Nat) (X1 X2 X3 : List UInt8), x.fr = fr ∧ x.to = te ∧ X1.length ≤ 6 ∧ X2.length ≤ 6 ∧ X3.length ≤ 400 ∧ PCall Tryd.prog 49 [.int .i64 fr, .int .i64 (bytesN b)] (fun r => r = .one (.str X1)) ∧ PCall Tryd.prog 49 [.int .i64 te, .int .i64 (bytesN b)] (fun r => r = .one (.str X2)) ∧ PCall Tryd.prog 50 [.str x.tx] (fun r => r = .one (.str X3)) ∧
    wSpan b x = [49, 32, 98, 101, 103, 105, 110, 98, 102, 114, 97, 110, 103, 101, 10] ++ X1 ++ [32] ++ X2 ++ [32] ++ X3 ++ [10, 101, 110, 100, 98, 102, 114, 97, 110, 103, 101, 10] := fun x hxl => by
   obtain ⟨fr, te, rs, a1, a2, a3, a4, a5, a6, a7, a8⟩ := hx x hxl
   obtain ⟨r1, r2⟩ := runesM_enc _ (Nat.le_refl _) a6
   have r3 := encM_ge r2
   rw [r1] at r3
   have r4 := unitsH_len rs
   have hd1 : x.fr.toNat = fr := by omega
   have hd2 : x.to.toNat = te := by omega
   refine ⟨fr, te, _, _, _, a1, a2, ?_, ?_, ?_, hexedP fr (bytesN b) (by omega) hb2, hexedP te (bytesN b) (by omega) hb2, units_call x.tx a6 (by omega), ?_⟩
   ·simp only [List.length_append, List.length_cons, List.length_nil, hexN_length]; omega
   ·simp only [List.length_append, List.length_cons, List.length_nil, hexN_length]; omega
   ·simp only [List.length_append, List.length_cons, List.length_nil]; omega
   ·unfold wSpan
    rw [hd1, hd2, a6]
    rfl
  have hwt : wHead b ++ l.flatMap (wSpan b) = wText b l := rfl
  have h3 : MCallE Tryd.prog 51 [.ptr (.x 0) 0] [Bld.obj (.has (wText b l))] (.d (.str (wText b l))) [Bld.said (.has (wText b l))] := string_call (.has (wText b l)) (by
   have := hmono l.length (Nat.le_refl _)
   rw [List.take_length, hwt] at this
   simp only [Bld.bytes]
   omega)
  simp only [Bld.obj, Bld.said] at h3
  have hP : (256 : Int) ^ bytesN b - 1 = ((if b = true then 65535 else 255 : Nat) : Int) := by cases b <;> rfl
  rcases Bool.eq_false_or_eq_true b with hb | hb
  all_goals
   subst hb
   simp (maxSteps := 2000000) only [go_sem, ↓reduceIte]
   refine CallD.of h1 ?_
   simp (maxSteps := 2000000) (disch := omega) only [go_sem, ↓reduceIte]
   refine ⟨by omega, by omega, ?_⟩
   refine CallD.of h2 ?_
   simp (maxSteps := 2000000) (disch := omega) only [go_sem, ↓reduceIte]
   refine ⟨by simp only [List.length_append, List.length_cons, List.length_nil]; omega, by simp only [List.length_append, List.length_cons, List.length_nil]; omega, ?_⟩
   refine bldCall (.l 8) rfl (writeString_at .new _ (by simp only [Bld.bytes, List.nil_append, List.length_append, List.length_cons, List.length_nil]; omega)) rfl rfl rfl rfl ?_
   simp (maxSteps := 2000000) only [go_sem, ↓reduceIte, Bld.at, Bld.bytes, hI]
   refine run_loop S0 (fun i => i ≤ l.length) (fun i => l.length - i) 0 ?_ (Nat.zero_le _) ?_
   ·rw [hS0, hhd]
    refine Weak.mk ?_ ?_ ?_ <;> simp (maxSteps := 2000000) only [go_sem, ↓reduceIte, Sub, Int.natCast_add, Int.natCast_mul]
    all_goals first | done | rfl | simp
   ·intro i hi
    have hm := hmono i hi
    rw [hS0]
    rcases Nat.lt_or_ge i l.length with hlt | hge
    ·have zl : ((i : Int) < (l.length : Int)) = True := eq_true (by omega)
     obtain ⟨x, hxi⟩ := get_some (l := l) (i := i) hlt
     obtain ⟨fr, te, X1, X2, X3, a1, a2, y1, y2, y3, g1, g2, g3, hsp⟩ := hfx x (List.mem_of_getElem? hxi)
     simp (maxSteps := 2000000) (disch := omega) only [go_sem, ↓reduceIte, zl, getI_nat, spansD_get, hxi, Span.d, a1, a2]
     refine CallD.of g1 ?_
     simp (maxSteps := 2000000) (disch := omega) only [go_sem, ↓reduceIte]
     refine ⟨by omega, by omega, ?_⟩
     refine CallD.of g2 ?_
     simp (maxSteps := 2000000) (disch := omega) only [go_sem, ↓reduceIte]
     refine ⟨by simp only [List.length_append, List.length_cons, List.length_nil]; omega, by simp only [List.length_append, List.length_cons, List.length_nil]; omega, ?_⟩
     refine CallD.of g3 ?_
     simp (maxSteps := 2000000) (disch := omega) only [go_sem, ↓reduceIte]
     refine ⟨by simp only [List.length_append, List.length_cons, List.length_nil]; omega, by simp only [List.length_append, List.length_cons, List.length_nil]; omega, ?_⟩
     refine bldCall (.l 8) rfl (writeString_at (.has (wHead _ ++ (l.take i).flatMap (wSpan _))) _ (by simp only [Bld.bytes, List.length_append, List.length_cons, List.length_nil] at hm ⊢; omega)) rfl rfl rfl rfl ?_
     simp (maxSteps := 2000000) (disch := omega) only [go_sem, ↓reduceIte, Bld.at, Bld.bytes]
     refine ⟨i + 1, ?_, by omega, by omega⟩
     rw [hS0, List.take_add_one, hxi, List.flatMap_append]
     simp only [Option.toList_some, List.flatMap_cons, List.flatMap_nil, List.append_nil]
     rw [hsp]
     refine Weak.mk ?_ ?_ ?_ <;> simp (maxSteps := 2000000) only [go_sem, ↓reduceIte, Sub, Int.natCast_add, Int.natCast_mul]
     all_goals first | done | rfl | simp
    ·have zl : ((i : Int) < (l.length : Int)) = False := eq_false (by omega)
     have he : i = l.length := by omega
     subst he
     rw [List.take_length, hwt]
     simp (maxSteps := 2000000) only [go_sem, ↓reduceIte, zl]
     refine PrimG.mc1 (.l 8) rfl (h3) rfl rfl rfl rfl ⟨rfl, rfl⟩ ?_
     simp (maxSteps := 2000000) only [go_sem, ↓reduceIte]
 ·rw [if_neg h0]
  rw [errD_ne h0] at hc ⊢
  refine lift_cmap_Write.call rfl ?_
  simp (maxSteps := 2000000) only [go_sem, ↓reduceIte, L_cmap_Write, R_cmap_Write]
  refine CallG.of hc ?_
  simp (maxSteps := 2000000) only [go_sem, ↓reduceIte]
end Go.Av.Tryd
set_option linter.unusedSimpArgs false
set_option maxRecDepth 100000
set_option maxHeartbeats 2000000
namespace Go.Av.Tryd
open Go.Proofs
end Go.Av.Tryd
set_option linter.unusedSimpArgs false
set_option maxRecDepth 100000
set_option maxHeartbeats 2000000
namespace Go.Av.Tryd
open Go.Proofs
/-! ### Tokens that are laid, one behind the other -/
def regB (c : UInt8) : Bool := !blankB c.toNat && !signB c
def lay (l : List (List UInt8 × UInt8)) : List UInt8 := l.flatMap fun p => p.1 ++ [p.2]
def tokOK (t : List UInt8) : Prop := (t ≠ [] ∧ ∀ c ∈ t, regB c = true) ∨ ∃ m, t = 60 :: m ++ [62] ∧ (62 : UInt8) ∉ m
def sepOK (c : UInt8) : Prop := c = 10 ∨ c = 32
theorem tokOK_ne {t : List UInt8} (h : tokOK t) : t ≠ [] := by
 rcases h with h | ⟨m, rfl, _⟩
 ·exact h.1
 ·simp
theorem reg_head {c : UInt8} (h : regB c = true ∨ c = 60) : blankB c.toNat = false ∧ c.toNat ≠ 37 := by
 rcases h with h | h
 ·unfold regB at h
  simp only [Bool.and_eq_true, Bool.not_eq_true'] at h
  refine ⟨h.1, fun e => ?_⟩
  have : c = 37 := by rw [← UInt8.toNat_inj]; exact e
  subst this
  simp [signB, signs10] at h
 ·subst h
  exact ⟨by decide, by decide⟩
theorem skip_stop {r : List UInt8} {c : UInt8} (h : blankB c.toNat = false ∧ c.toNat ≠ 37) (k : Nat) : skipF false (c :: r) k = k := by
 unfold skipF
 simp [h.1, h.2]
theorem skip_sep {r : List UInt8} {c : UInt8} (h : sepOK c) (k : Nat) : skipF false (c :: r) k = skipF false r (k + 1) := by
 rcases h with rfl | rfl
 ·rw [skipF]; rfl
 ·rw [skipF]; rfl
theorem skip_lay {l : List (List UInt8 × UInt8)} (h : ∀ p ∈ l, tokOK p.1 ∧ sepOK p.2) (k : Nat) : skipF false (lay l) k = k := by
 cases l with
 | nil => rfl
 | cons p l =>
  obtain ⟨h1, _⟩ := h p (by simp)
  obtain ⟨t, c⟩ := p
  simp only at h1
  have e : lay ((t, c) :: l) = t ++ (c :: lay l) := by simp [lay]
  rw [e]
  rcases h1 with ⟨h1, h2⟩ | ⟨m, rfl, _⟩
  ·cases t with
   | nil => exact absurd rfl h1
   | cons a t => exact skip_stop (reg_head (.inl (h2 a (by simp)))) k
  ·exact skip_stop (reg_head (.inr rfl)) k
theorem tokAt_lay {t r pre : List UInt8} {c : UInt8} (ht : tokOK t) (hc : sepOK c) : tokAt (pre ++ (t ++ c :: r)) pre.length = (t, pre.length + t.length, 0) := by
 have hd : (pre ++ (t ++ c :: r)).drop pre.length = t ++ c :: r := List.drop_left
 rcases ht with ⟨h1, h2⟩ | ⟨m, rfl, hm⟩
 ·have hw : wordP (pre ++ (t ++ c :: r)) pre.length = t := by
   unfold wordP wordL
   rw [hd]
   show (t ++ c :: r).takeWhile regB = t
   have : regB c = false := by rcases hc with rfl | rfl <;> decide
   rw [List.takeWhile_append_of_pos h2, List.takeWhile_cons, this]
   simp
  rw [tokAt_word (by rw [hw]; exact h1), hw]
 ·have hw : wordP (pre ++ ((60 :: m ++ [62]) ++ c :: r)) pre.length = [] := by
   unfold wordP wordL
   rw [hd]
   rfl
  have h6 : (pre ++ ((60 :: m ++ [62]) ++ c :: r))[pre.length]? = some 60 := by
   rw [List.getElem?_append_right (Nat.le_refl _), Nat.sub_self]; rfl
  have hi : Lib.indexByte ((pre ++ ((60 :: m ++ [62]) ++ c :: r)).drop pre.length) 62 = ((m.length + 1 : Nat) : Int) := by
   rw [hd]
   refine idx_yes ?_ (fun j hj e => ?_)
   ·simp
   ·cases j with
    | zero => simp at e
    | succ j =>
     have hj' : j < m.length := by omega
     simp only [List.cons_append, List.getElem?_cons_succ, List.append_assoc] at e
     rw [List.getElem?_append_left hj'] at e
     exact hm (List.mem_of_getElem? e)
  have hn : ¬ Lib.indexByte ((pre ++ ((60 :: m ++ [62]) ++ c :: r)).drop pre.length) 62 < 0 := by rw [hi]; omega
  rw [tokAt_str hw h6 (by decide) hn, hi, hd]
  have e1 : (((m.length + 1 : Nat) : Int) + 1).toNat = (60 :: m ++ [62]).length := by simp; omega
  rw [e1, List.take_left]
theorem tokens_lay : ∀ (l : List (List UInt8 × UInt8)) (pre : List UInt8) (f : Nat), (∀ p ∈ l, tokOK p.1 ∧ sepOK p.2) → (lay l).length < f → tokensF (pre ++ lay l) f pre.length = (l.map Prod.fst, true)
 | [], pre, 0, _, h => by simp at h
 | [], pre, f + 1, _, _ => by
  have e : lay [] = [] := rfl
  rw [e, List.append_nil, tokensF, if_neg (by omega)]
  rfl
 | (t, c) :: l, pre, 0, _, h => by omega
 | (t, c) :: l, pre, f + 1, h, hf => by
  obtain ⟨h1, h2⟩ := h (t, c) (by simp)
  simp only at h1 h2
  have hne := tokOK_ne h1
  have hl0 : t.length ≠ 0 := by simpa using hne
  have e : lay ((t, c) :: l) = t ++ (c :: lay l) := by simp [lay]
  rw [e] at hf ⊢
  rw [List.length_append, List.length_cons] at hf
  have ht := tokAt_lay (r := lay l) (pre := pre) h1 h2
  have hsk : skipP (pre ++ (t ++ c :: lay l)) (pre.length + t.length) = (pre ++ (t ++ [c])).length := by
   unfold skipP
   rw [show pre ++ (t ++ c :: lay l) = (pre ++ t) ++ (c :: lay l) by simp, show pre.length + t.length = (pre ++ t).length by simp, List.drop_left, skip_sep h2, skip_lay (fun p hp => h p (by simp [hp]))]
   simp; omega
  rw [tokensF, if_pos (by simp; omega), ht]
  simp only
  rw [if_neg hne, hsk, show pre ++ (t ++ c :: lay l) = (pre ++ (t ++ [c])) ++ lay l by simp, tokens_lay l (pre ++ (t ++ [c])) f (fun p hp => h p (by simp [hp])) (by omega)]
  rfl
/-! ### Digits, read -/
theorem dig_hexI (n : Nat) : hexI (dig n).toNat = ((n % 16 : Nat) : Int) := by
 have : ∀ k : Fin 16, hexI (sixteenL.getD k.val 48).toNat = (k.val : Int) := by decide
 exact this ⟨n % 16, Nat.mod_lt _ (by decide)⟩
theorem dig_ne (n : Nat) : dig n ≠ 62 := by
 have : ∀ k : Fin 16, sixteenL.getD k.val 48 ≠ 62 := by decide
 exact this ⟨n % 16, Nat.mod_lt _ (by decide)⟩
theorem hexN_ne : ∀ (d n : Nat), (62 : UInt8) ∉ hexN d n
 | 0, _ => by simp [hexN]
 | d + 1, n => by
  rw [hexN]
  simp only [List.mem_append, List.mem_singleton, not_or]
  exact ⟨hexN_ne d _, fun e => dig_ne n e.symm⟩
theorem hexP_pair (a b : Nat) (c : UInt8) (r : List UInt8) : hexP (dig a :: dig b :: c :: r) = (hexP (c :: r)).map (byteI (16 * ((a % 16 : Nat) : Int) + ((b % 16 : Nat) : Int)) :: ·) := by
 rw [hexP, dig_hexI, dig_hexI, if_neg (by omega)]
theorem hexN2 (n : Nat) : hexN 2 n = [dig (n / 16), dig n] := rfl
theorem hexN4 (n : Nat) : hexN 4 n = [dig (n / 16 / 16 / 16), dig (n / 16 / 16), dig (n / 16), dig n] := rfl
def two (u : Nat) : List UInt8 := [byteI ((u / 256 : Nat) : Int), byteI ((u % 256 : Nat) : Int)]
theorem byteI_nat {k : Nat} (h : k < 256) : (byteI (k : Int)).toNat = k := by
 unfold byteI
 rw [Int.toNat_natCast, Nat.mod_eq_of_lt h]
 exact ofNat_toNat h
theorem hexP_two {u : Nat} (h : u ≤ 65535) (c : UInt8) (r : List UInt8) : hexP (hexN 4 u ++ (c :: r)) = (hexP (c :: r)).map (two u ++ ·) := by
 rw [hexN4]
 simp only [List.cons_append, List.nil_append]
 rw [hexP_pair, hexP_pair]
 have e1 : 16 * ((u / 16 / 16 / 16 % 16 : Nat) : Int) + ((u / 16 / 16 % 16 : Nat) : Int) = ((u / 256 : Nat) : Int) := by omega
 have e2 : 16 * ((u / 16 % 16 : Nat) : Int) + ((u % 16 : Nat) : Int) = ((u % 256 : Nat) : Int) := by omega
 rw [e1, e2]
 cases hexP (c :: r) <;> rfl
theorem hexP_units : ∀ {us : List Nat}, (∀ u ∈ us, u ≤ 65535) → hexP (us.flatMap (hexN 4) ++ [62]) = some (us.flatMap two)
 | [], _ => rfl
 | u :: us, h => by
  have ih := hexP_units (us := us) (fun x hx => h x (by simp [hx]))
  rw [List.flatMap_cons, List.flatMap_cons, List.append_assoc]
  cases hq : us.flatMap (hexN 4) ++ [62] with
  | nil => simp at hq
  | cons c r =>
   rw [hexP_two (h u (by simp)), ← hq, ih]
   rfl
theorem cB_str {H : List UInt8} (h : H.length % 2 = 0) : cB (60 :: H ++ [62]) = hexP (H ++ [62]) := by
 rw [cB_yes]
 ·rfl
 ·rintro (h1 | h1 | h1)
  ·simp at h1; omega
  ·simp at h1
  ·simp at h1; omega
theorem cBl_units {us : List Nat} (h : ∀ u ∈ us, u ≤ 65535) : cBl (60 :: us.flatMap (hexN 4) ++ [62]) = us.flatMap two ∧ cBe (60 :: us.flatMap (hexN 4) ++ [62]) = 0 := by
 have hl := hexs_len us
 have e := cB_str (H := us.flatMap (hexN 4)) (by omega)
 rw [hexP_units h] at e
 constructor
 ·unfold cBl; rw [e]; rfl
 ·unfold cBe; rw [e]; rfl
theorem unitsB_two : ∀ {us : List Nat}, (∀ u ∈ us, u ≤ 65535) → unitsB (us.flatMap two) = us ∧ (us.flatMap two).length % 2 = 0
 | [], _ => ⟨rfl, rfl⟩
 | u :: us, h => by
  obtain ⟨h1, h2⟩ := unitsB_two (us := us) (fun x hx => h x (by simp [hx]))
  have hu := h u (by simp)
  have e : (u :: us).flatMap two = byteI ((u / 256 : Nat) : Int) :: byteI ((u % 256 : Nat) : Int) :: us.flatMap two := rfl
  rw [e]
  constructor
  ·rw [unitsB, h1, byteI_nat (by omega), byteI_nat (by omega)]
   congr 1; omega
  ·simp only [List.length_cons]; omega
theorem sgsF_units : ∀ {rs : List Nat}, (∀ r ∈ rs, vrune r) → sgsF (rs.flatMap unitsL) = some rs
 | [], _ => rfl
 | c :: rs, h => by
  have ih := sgsF_units (rs := rs) (fun x hx => h x (by simp [hx]))
  have hc := h c (by simp)
  unfold vrune at hc
  rw [List.flatMap_cons]
  unfold unitsL
  by_cases h1 : c < 65536
  ·rw [if_pos h1]
   show sgsF (c :: rs.flatMap unitsL) = _
   rw [sgsF_cons, if_neg (by omega), ih]; rfl
  ·rw [if_neg h1]
   show sgsF ((55296 + (c - 65536) / 1024) :: (56320 + (c - 65536) % 1024) :: rs.flatMap unitsL) = _
   rw [sgsF_cons, if_pos (by omega)]
   simp only
   have e : 65536 + (55296 + (c - 65536) / 1024 - 55296) * 1024 + (56320 + (c - 65536) % 1024) - 56320 = c := by omega
   rw [if_neg (by omega), ih, e]
   rfl
theorem code_read {b : Bool} {n : Nat} (h : (n : Int) ≤ mostM b) : cBe (60 :: hexN (2 * bytesN b) n ++ [62]) = 0 ∧ codeV b (cBl (60 :: hexN (2 * bytesN b) n ++ [62])) = (n, 0) := by
 cases b with
 | true =>
  have hn : n ≤ 65535 := by simp [mostM] at h; omega
  obtain ⟨h1, h2⟩ := cBl_units (us := [n]) (by simpa using hn)
  have e : [n].flatMap (hexN 4) = hexN (2 * bytesN true) n := by
   show hexN 4 n ++ [] = hexN 4 n
   rw [List.append_nil]
  rw [e] at h1 h2
  refine ⟨h2, ?_⟩
  rw [h1]
  show codeV true (two n ++ []) = _
  unfold codeV two
  simp only [List.append_nil, if_true, List.length_cons, List.length_nil, List.getD_cons_zero, List.getD_cons_succ]
  rw [byteI_nat (by omega), byteI_nat (by omega)]
  congr 1; omega
 | false =>
  have hn : n ≤ 255 := by simp [mostM] at h; omega
  have e := cB_str (H := hexN 2 n) (by rw [hexN_length])
  have e2 : hexP (hexN 2 n ++ [62]) = some [byteI (n : Int)] := by
   rw [hexN2]
   show hexP (dig (n / 16) :: dig n :: 62 :: []) = _
   rw [hexP_pair]
   have e1 : 16 * ((n / 16 % 16 : Nat) : Int) + ((n % 16 : Nat) : Int) = (n : Int) := by omega
   rw [e1]
   rfl
  rw [e2] at e
  show cBe (60 :: hexN 2 n ++ [62]) = 0 ∧ codeV false (cBl (60 :: hexN 2 n ++ [62])) = (n, 0)
  constructor
  ·unfold cBe; rw [e]; rfl
  ·unfold cBl; rw [e]
   unfold codeV
   simp only [Option.getD_some, Bool.false_eq_true, if_false, List.length_cons, List.length_nil, Nat.zero_add, if_true, List.getD_cons_zero]
   rw [byteI_nat (by omega)]
theorem text_read {rs : List Nat} (h : ∀ r ∈ rs, vrune r) : cBe (60 :: unitsH rs ++ [62]) = 0 ∧ (cBl (60 :: unitsH rs ++ [62])).length % 2 = 0 ∧ sgsF (unitsB (cBl (60 :: unitsH rs ++ [62]))) = some rs := by
 have hu : ∀ u ∈ rs.flatMap unitsL, u ≤ 65535 := fun u hu => by
  obtain ⟨c, hc, hcu⟩ := List.mem_flatMap.1 hu
  exact unitsL_le (h c hc) u hcu
 have e : unitsH rs = (rs.flatMap unitsL).flatMap (hexN 4) := by simp [unitsH, List.flatMap_assoc]
 obtain ⟨h1, h2⟩ := cBl_units hu
 obtain ⟨h3, h4⟩ := unitsB_two hu
 rw [e]
 refine ⟨h2, ?_, ?_⟩
 ·rw [h1]; exact h4
 ·rw [h1, h3]; exact sgsF_units h
theorem unitsH_ne (rs : List Nat) : (62 : UInt8) ∉ unitsH rs := by
 intro h
 unfold unitsH at h
 obtain ⟨c, _, h⟩ := List.mem_flatMap.1 h
 obtain ⟨u, _, h⟩ := List.mem_flatMap.1 h
 exact hexN_ne 4 u h
end Go.Av.Tryd
set_option linter.unusedSimpArgs false
set_option maxRecDepth 100000
set_option maxHeartbeats 2000000
namespace Go.Av.Tryd
open Go.Proofs
theorem suf {T r : List (List UInt8)} {j : Nat} {w : List UInt8} (h : T.drop j = w :: r) : T[j]? = some w ∧ T.drop (j + 1) = r ∧ T.length = j + 1 + r.length := by
 have h1 : T[j]? = some w := by
  have := congrArg (fun l => l[0]?) h
  simpa [List.getElem?_drop] using this
 have h2 : T.drop (j + 1) = r := by
  rw [← List.drop_drop, h]; rfl
 refine ⟨h1, h2, ?_⟩
 have h3 := congrArg List.length h
 have h4 := (List.getElem?_eq_some_iff.1 h1).1
 rw [List.length_drop, List.length_cons] at h3
 omega
theorem partR_step {T : List (List UInt8)} {e w : List UInt8} {st : RX → RX} {f j : Nat} {b : Bool} {o : ROut} (h : T[j]? = some w) (hw : w ≠ e) : partR T e st (f + 1) (b, j, o, 0) = partR T e st f (st (b, j, o, 0)) := by
 have := (List.getElem?_eq_some_iff.1 h).1
 rw [partR, if_neg (by simp), h, if_neg (fun g => hw (Option.some.inj g)), if_neg (by simp only; omega)]
theorem partR_done {T : List (List UInt8)} {e : List UInt8} {st : RX → RX} {f j : Nat} {b : Bool} {o : ROut} (h : T[j]? = some e) : partR T e st (f + 1) (b, j, o, 0) = (b, j + 1, o, 0) := by
 rw [partR, if_neg (by simp), h, if_pos rfl]
theorem rB_tok {T : List (List UInt8)} {ends : Bool} {j : Nat} {w : List UInt8} (h : T[j]? = some w) (hb : cBe w = 0) : rB T ends j 0 = (cBl w, j + 1, 0) := by
 have hN : rN T ends j 0 = (w, j + 1, 0) := by unfold rN; rw [h]
 unfold rB
 rw [hN, hb]
 rfl
theorem rC_tok {T : List (List UInt8)} {ends b : Bool} {j n : Nat} {w : List UInt8} (h : T[j]? = some w) (hb : cBe w = 0) (hv : codeV b (cBl w) = (n, 0)) : rC T ends b j 0 = (n, j + 1, 0) := by
 unfold rC
 rw [rB_tok h hb, if_pos rfl, hv]
theorem rT_tok {T : List (List UInt8)} {ends : Bool} {j : Nat} {rs : List Nat} {w : List UInt8} (h : T[j]? = some w) (hb : cBe w = 0) (h2 : (cBl w).length % 2 = 0) (hs : sgsF (unitsB (cBl w)) = some rs) : rT T ends j 0 = (encM rs, j + 1, 0) := by
 unfold rT
 rw [rB_tok h hb, if_pos rfl]
 simp only
 rw [if_neg (by omega), hs]
theorem codeV_len {b : Bool} {l : List UInt8} {n : Nat} (h : codeV b l = (n, 0)) : l.length = bytesN b := by
 unfold codeV at h
 cases b with
 | true =>
  simp only [if_true] at h
  split at h
  ·assumption
  ·have := (Prod.mk.inj h).2
   cases this
 | false =>
  simp only [Bool.false_eq_true, if_false] at h
  split at h
  ·assumption
  ·have := (Prod.mk.inj h).2
   cases this
/-! ### The tokens of the text -/
def hexT (b : Bool) (n : Nat) : List UInt8 := 60 :: hexN (2 * bytesN b) n ++ [62]
def tHead (b : Bool) : List (List UInt8 × UInt8) := [([49], 32), (kSpace, 10), (hexT b 0, 32), (hexT b (if b = true then 65535 else 255), 10), (eSpace, 10)]
def tSpan (b : Bool) (x : Span) : List (List UInt8 × UInt8) := [([49], 32), (kRange, 10), (hexT b x.fr.toNat, 32), (hexT b x.to.toNat, 32), (60 :: unitsH ((runesM x.tx).getD []) ++ [62], 10), (eRange, 10)]
theorem wHead_lay (b : Bool) : wHead b = lay (tHead b) := by
 simp [wHead, lay, tHead, hexT, kSpace, eSpace]
theorem wSpan_lay (b : Bool) (x : Span) : wSpan b x = lay (tSpan b x) := by
 simp [wSpan, lay, tSpan, hexT, kRange, eRange]
theorem wText_lay (b : Bool) (l : List Span) : wText b l = lay (tHead b ++ l.flatMap (tSpan b)) := by
 unfold wText
 rw [wHead_lay]
 unfold lay
 rw [List.flatMap_append, List.flatMap_assoc]
 congr 2
 funext x
 exact wSpan_lay b x
theorem hexT_ok (b : Bool) (n : Nat) : tokOK (hexT b n) := .inr ⟨_, rfl, hexN_ne _ _⟩
theorem one_ok : tokOK [49] := .inl ⟨by simp, by decide⟩
theorem tHead_ok (b : Bool) : ∀ p ∈ tHead b, tokOK p.1 ∧ sepOK p.2 := by
 intro p hp
 simp only [tHead, List.mem_cons, List.not_mem_nil, or_false] at hp
 rcases hp with rfl | rfl | rfl | rfl | rfl
 ·exact ⟨one_ok, .inr rfl⟩
 ·exact ⟨.inl ⟨by decide, by decide⟩, .inl rfl⟩
 ·exact ⟨hexT_ok _ _, .inr rfl⟩
 ·exact ⟨hexT_ok _ _, .inl rfl⟩
 ·exact ⟨.inl ⟨by decide, by decide⟩, .inl rfl⟩
theorem tSpan_ok (b : Bool) (x : Span) : ∀ p ∈ tSpan b x, tokOK p.1 ∧ sepOK p.2 := by
 intro p hp
 simp only [tSpan, List.mem_cons, List.not_mem_nil, or_false] at hp
 rcases hp with rfl | rfl | rfl | rfl | rfl | rfl
 ·exact ⟨one_ok, .inr rfl⟩
 ·exact ⟨.inl ⟨by decide, by decide⟩, .inl rfl⟩
 ·exact ⟨hexT_ok _ _, .inr rfl⟩
 ·exact ⟨hexT_ok _ _, .inr rfl⟩
 ·exact ⟨.inr ⟨_, rfl, unitsH_ne _⟩, .inl rfl⟩
 ·exact ⟨.inl ⟨by decide, by decide⟩, .inl rfl⟩
/-! ### The whole, gone through -/
theorem mainR_step {T r : List (List UInt8)} {ends b : Bool} {f j : Nat} {o : ROut} {w : List UInt8} (h : T.drop j = w :: r) (hw : w ≠ []) : mainR T ends (f + 1) (b, j, o, 0) = mainR T ends f (wordX T ends w (b, j + 1, o, 0)) := by
 obtain ⟨h1, _, _⟩ := suf h
 have hN : rN T ends j 0 = (w, j + 1, 0) := by unfold rN; rw [h1]
 rw [mainR, if_neg (by simp)]
 simp only
 rw [hN]
 simp only
 rw [if_neg hw]
theorem wordX_one {T : List (List UInt8)} {ends : Bool} {x : RX} : wordX T ends [49] x = x := by
 unfold wordX
 rw [if_neg (by decide), if_neg (by decide), if_neg (by decide)]
theorem putL_end {l : List Span} {x : Span} (h : ∀ y ∈ l, y.fr < x.fr) : putL l x = l ++ [x] := by
 unfold putL
 have e : l.takeWhile (fun y => decide (y.fr < x.fr)) = l ∧ l.dropWhile (fun y => decide (y.fr < x.fr)) = [] := by
  induction l with
  | nil => exact ⟨rfl, rfl⟩
  | cons y l ih =>
   obtain ⟨i1, i2⟩ := ih (fun z hz => h z (List.mem_cons_of_mem _ hz))
   have hy : decide (y.fr < x.fr) = true := by simpa using h y List.mem_cons_self
   rw [List.takeWhile_cons, List.dropWhile_cons, i1, i2]
   simp only [hy, if_true, and_self]
 rw [e.1, e.2]
theorem span_step {T r : List (List UInt8)} {ends b : Bool} {f j : Nat} {o : ROut} {x : Span} {fr te : Nat} {rs : List Nat} (h : T.drop j = (tSpan b x).map Prod.fst ++ r) (a1 : x.fr = fr) (a2 : x.to = te) (a3 : fr ≤ te) (a4 : (te : Int) ≤ mostM b) (a5 : runesM x.tx = some rs) (hl : o.l.length + 1 ≤ 300) (hs : ∀ y ∈ o.l, y.fr < x.fr) (hf : 2 ≤ f) :
  ∃ f', f = f' + 2 ∧ mainR T ends f (b, j, o, 0) = mainR T ends f' (b, j + 6, some (o.l ++ [x]), 0) := by
 obtain ⟨f', rfl⟩ : ∃ f', f = f' + 2 := ⟨f - 2, by omega⟩
 refine ⟨f', rfl, ?_⟩
 obtain ⟨e1, e2⟩ := runesM_enc _ (Nat.le_refl _) a5
 have hd1 : x.fr.toNat = fr := by omega
 have hd2 : x.to.toNat = te := by omega
 simp only [tSpan, hd1, hd2, a5, Option.getD_some, List.map_cons, List.map_nil, List.cons_append, List.nil_append] at h
 obtain ⟨_, s1, n1⟩ := suf h
 obtain ⟨_, s2, n2⟩ := suf s1
 obtain ⟨g3, s3, n3⟩ := suf s2
 obtain ⟨g4, s4, n4⟩ := suf s3
 obtain ⟨g5, s5, n5⟩ := suf s4
 obtain ⟨g6, s6, n6⟩ := suf s5
 obtain ⟨c1, c2⟩ := code_read (b := b) (n := fr) (by omega)
 obtain ⟨c3, c4⟩ := code_read (b := b) (n := te) a4
 obtain ⟨t1, t2, t3⟩ := text_read e2
 have r1 := rC_tok (ends := ends) (b := b) g3 c1 c2
 have r2 := rC_tok (ends := ends) (b := b) g4 c3 c4
 have r3 := rT_tok (ends := ends) g5 t1 t2 t3
 rw [mainR_step h (by simp), wordX_one, mainR_step s1 (by decide)]
 have hX : wordX T ends kRange (b, j + 1 + 1, o, 0) = partR T eRange (re2 T ends) (T.length + 1 - (j + 1 + 1)) (b, j + 1 + 1, o, 0) := by
  unfold wordX
  rw [if_neg (by decide), if_neg (by decide), if_pos rfl]
 have hre : re2 T ends (b, j + 1 + 1, o, 0) = (b, j + 5, some (o.l ++ [x]), 0) := by
  simp only [re2]
  rw [r1]
  simp only
  rw [r2]
  simp only [if_true]
  rw [g5, if_neg (by simp), r3]
  simp only [if_true]
  have hx : (⟨(fr : Int), (te : Int), encM rs⟩ : Span) = x := by rw [e1, ← a1, ← a2]
  rw [hx, putL_end hs]
  have hp : putE o.l 0 = 0 := by unfold putE; rw [if_neg (by omega)]
  rw [hp]
 obtain ⟨m, hm⟩ : ∃ m, T.length + 1 - (j + 1 + 1) = m + 2 := ⟨T.length + 1 - (j + 1 + 1) - 2, by omega⟩
 rw [hX, hm, partR_step g3 (by simp [hexT, eRange]), hre, partR_done g6]
theorem spans_read {T : List (List UInt8)} {b : Bool} (he : mostM b ≤ 65535) : ∀ (l : List Span) (f j : Nat) (o : ROut) (prev : Option Int), T.drop j = (l.flatMap (tSpan b)).map Prod.fst → faultsF (mostM b) prev l = 0 → (∀ y ∈ o.l, ∃ p, prev = some p ∧ y.fr ≤ p) → o.l.length + l.length ≤ 300 → 2 * l.length + 1 ≤ f →
  ∃ j' o', mainR T true f (b, j, o, 0) = (b, j', o', 0) ∧ o'.l = o.l ++ l
 | [], f, j, o, prev, h, _, _, _, hf => by
  obtain ⟨f', rfl⟩ : ∃ f', f = f' + 1 := ⟨f - 1, by omega⟩
  have hg : T[j]? = none := by
   have := congrArg List.length h
   rw [List.length_drop] at this
   simp at this
   exact List.getElem?_eq_none (by omega)
  have hN : rN T true j 0 = ([], j, 0) := by unfold rN; rw [hg]; rfl
  refine ⟨j, o, ?_, by simp⟩
  rw [mainR, if_neg (by simp)]
  simp only
  rw [hN]
  rfl
 | x :: l, f, j, o, prev, h, hq, hs, hl, hf => by
  simp only [faultsF] at hq
  split at hq
  ·rename_i h0
   obtain ⟨a1, a2, a3, a4, ⟨rs, a5, a6⟩, a7, a8, a9⟩ := spanFault_0 h0
   rw [List.flatMap_cons, List.map_append] at h
   rw [List.length_cons] at hl hf
   obtain ⟨f', rfl, hstep⟩ := span_step (ends := true) (fr := x.fr.toNat) (te := x.to.toNat) (o := o) (f := f) h (by omega) (by omega) (by omega) (by omega) a5 (by omega) (fun y hy => by
    obtain ⟨p, hp, hyp⟩ := hs y hy
    have := a4 p hp
    omega) (by omega)
   have h6 : T.drop (j + 6) = (l.flatMap (tSpan b)).map Prod.fst := by
    rw [← List.drop_drop, h]
    rfl
   obtain ⟨j', o', r1, r2⟩ := spans_read he l f' (j + 6) (some (o.l ++ [x])) (some x.to) h6 hq (fun y hy => by
    refine ⟨x.to, rfl, ?_⟩
    have hy : y ∈ o.l ++ [x] := hy
    rcases List.mem_append.1 hy with hy | hy
    ·obtain ⟨p, hp, hyp⟩ := hs y hy
     have := a4 p hp
     omega
    ·rw [List.mem_singleton.1 hy]; exact a2) (by
    show (o.l ++ [x]).length + l.length ≤ 300
    rw [List.length_append]; simp only [List.length_cons, List.length_nil]; omega) (by omega)
   refine ⟨j', o', hstep.trans r1, ?_⟩
   rw [r2]
   show (o.l ++ [x]) ++ l = _
   simp
  ·rename_i h0
   exact absurd hq h0
theorem write_read (l : List Span) (b : Bool) (h0 : faultM l b = 0) (hlen : (wText b l).length ≤ 20000) : spansR (wText b l) = (l, b, 0) := by
 have hl := (faultM_0 h0).1
 have hq : faultsF (mostM b) none l = 0 := by
  unfold faultM at h0
  rw [if_neg (by omega)] at h0
  exact h0
 unfold spansR
 rw [if_neg (by omega)]
 have hlay := wText_lay b l
 have hok : ∀ p ∈ tHead b ++ l.flatMap (tSpan b), tokOK p.1 ∧ sepOK p.2 := by
  intro p hp
  rcases List.mem_append.1 hp with hp | hp
  ·exact tHead_ok b p hp
  ·obtain ⟨x, _, hp⟩ := List.mem_flatMap.1 hp
   exact tSpan_ok b x p hp
 have hsk : skipP (wText b l) 0 = 0 := by
  unfold skipP
  rw [List.drop_zero, hlay, skip_lay hok]
 have htk := tokens_lay (tHead b ++ l.flatMap (tSpan b)) [] ((wText b l).length + 1) hok (by rw [← hlay]; omega)
 rw [List.nil_append, ← hlay, List.length_nil] at htk
 rw [hsk, htk]
 simp only
 have hT : ((tHead b ++ l.flatMap (tSpan b)).map Prod.fst).length = 5 + 6 * l.length := by
  rw [List.length_map, List.length_append]
  have : (l.flatMap (tSpan b)).length = 6 * l.length := by
   clear hok hsk htk hlay hq hl h0 hlen
   induction l with
   | nil => rfl
   | cons x l ih => rw [List.flatMap_cons, List.length_append, ih, List.length_cons]; simp only [tSpan, List.length_cons, List.length_nil]; omega
  rw [this]
  rfl
 generalize hTT : (tHead b ++ l.flatMap (tSpan b)).map Prod.fst = T at *
 have hd : T.drop 0 = [49] :: kSpace :: hexT b 0 :: hexT b (if b = true then 65535 else 255) :: eSpace :: (l.flatMap (tSpan b)).map Prod.fst := by
  rw [← hTT]; rfl
 obtain ⟨_, s1, _⟩ := suf hd
 obtain ⟨_, s2, _⟩ := suf s1
 obtain ⟨g3, s3, _⟩ := suf s2
 obtain ⟨g4, s4, _⟩ := suf s3
 obtain ⟨g5, s5, _⟩ := suf s4
 obtain ⟨c1, c2⟩ := code_read (b := b) (n := 0) (by cases b <;> decide)
 obtain ⟨c3, c4⟩ := code_read (b := b) (n := if b = true then 65535 else 255) (by cases b <;> decide)
 have r1 := rB_tok (ends := true) g3 c1
 have r2 := rB_tok (ends := true) g4 c3
 have l1 := codeV_len c2
 have l2 := codeV_len c4
 have hX : wordX T true kSpace (false, 0 + 1 + 1, none, 0) = (b, 5, none, 0) := by
  unfold wordX
  rw [if_pos rfl]
  obtain ⟨m, hm⟩ : ∃ m, T.length + 1 - (0 + 1 + 1) = m + 2 := ⟨T.length - 3, by omega⟩
  have hre : re0 T true (false, 0 + 1 + 1, none, 0) = (b, 4, none, 0) := by
   simp only [re0]
   rw [r1]
   simp only
   rw [r2]
   simp only
   have e1 : (cBl (hexT b 0)).length = bytesN b := l1
   have e2 : (cBl (hexT b (if b = true then 65535 else 255))).length = bytesN b := l2
   rw [e1, e2]
   cases b <;> rfl
  simp only
  rw [hm, partR_step g3 (by simp [hexT, eSpace]), hre, partR_done g5]
 obtain ⟨m, hm⟩ : ∃ m, T.length + 1 = m + 2 := ⟨T.length - 1, by omega⟩
 rw [hm, mainR_step hd (by simp), wordX_one, mainR_step s1 (by decide), hX]
 obtain ⟨j', o', q1, q2⟩ := spans_read (mostM_le b) l m 5 none none s5 hq (fun y hy => by simp [ROut.l] at hy) (by simpa [ROut.l] using hl) (by omega)
 rw [q1]
 have e0 : o'.l = l := by rw [q2]; rfl
 unfold doneR
 simp only [ne_eq, not_true_eq_false, if_false]
 rw [e0, h0]
 rfl
end Go.Av.Tryd
set_option linter.unusedSimpArgs false
set_option maxRecDepth 100000
namespace Go.Av.Tryd
open Go.Proofs
end Go.Av.Tryd
set_option linter.unusedSimpArgs false
set_option maxRecDepth 100000
namespace Go.Av.Tryd
open Go.Proofs
end Go.Av.Tryd
set_option linter.unusedSimpArgs false
set_option maxRecDepth 100000
namespace Go.Av.Tryd
open Go.Proofs
structure Fnt where
 wide : Bool
 ws : List (Int × Int)
 miss : Int
 ns : List (Int × List UInt8)
 cs : List Span
def iKeys {α : Type} (l : List (Int × α)) : List D := l.map fun p => .int .i64 p.1
def wVals (l : List (Int × Int)) : List D := l.map fun p => .int .i64 p.2
def nVals (l : List (Int × List UInt8)) : List D := l.map fun p => .str p.2
def Fnt.d (x : Fnt) : D := .agg [.bool x.wide, .map (iKeys x.ws) (wVals x.ws), .int .i64 x.miss, .map (iKeys x.ns) (nVals x.ns), .list (spansD x.cs)]
structure Fnt.ok (x : Fnt) : Prop where
 cs : ∀ s ∈ x.cs, spanOK s
 cl : x.cs.length ≤ 1000000
 nl : ∀ p ∈ x.ns, p.2.length ≤ 1000000
structure Sgn where
 code : Int
 width : Int
 text : List UInt8
def Sgn.d (x : Sgn) : D := .agg [.int .i64 x.code, .int .i64 x.width, .str x.text]
end Go.Av.Tryd
set_option linter.unusedSimpArgs false
set_option maxRecDepth 100000
namespace Go.Av.Tryd
open Go.Proofs
end Go.Av.Tryd
