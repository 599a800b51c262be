import Derived.Test.YtccakidkdefioaaWb
import Derived.Test.YtccakidkdefioaaAvG
set_option linter.unusedSimpArgs false
set_option maxRecDepth 100000
set_option maxHeartbeats 2000000
namespace Go.Av.Try
open Go.Proofs
theorem intRow0 : liftSl Try.prog 26 = some (3, 1, 8) := by kernel_rfl
theorem rep_row (n : Nat) : List.replicate n (AV.d (.int .i64 0)) = rowN (List.replicate n 0) n := by
 simp [rowN, rowA, nsA]
theorem rnD_get (l : List Nat) (j : Nat) : (rnD l)[j]? = (l[j]?).map fun (n : Nat) => D.int .i32 (n : Int) := by simp [rnD]
theorem inD_get (l : List Int) (j : Nat) : (inD l)[j]? = (l[j]?).map fun n => D.int .i64 n := by simp [inD]
def L_foliowrighttop_TopText : LCode :=
 .seq (.reg [Qx 2 KF]) (.seq (.reg [⟨some 14, .call 16 [], none⟩, Qa 3 14]) (.seq (.seq (.reg [Qc 15 3, Q 16 (.not (.t 15))]) (.cond (.t 16) (.seq (.reg [Qx 2 KF]) .ret) .skip)) 
 (.seq (.seq (.reg [Qc 17 0, ⟨some 18, .call 8 [.t 17], none⟩, Q 19 (.not (.t 18))]) (.cond (.t 19) (.seq (.reg [Qx 2 KT]) .ret) .skip)) (.seq (.reg [Qc 20 0, ⟨some 21, .call 9 
 [.t 20], none⟩, ⟨some 4, .allo [.list [], .list [], .list []], none⟩, ⟨none, .st 3 (.t 4) (.t 21), none⟩]) (.seq (.seq (.reg [Q 22 (.fa 1 (.t 4)), Q 23 (.ld false 1 (.t 22)), Q 
 24 (.len false (.t 23)), Q 25 (.fa 0 (.t 4)), Q 26 (.ld false 1 (.t 25)), Q 27 (.len false (.t 26)), Q 28 (.bin .neq (.t 24) (.t 27)), Qc 29 28, Qg 30 (.fa 2 (.t 4)) 29 false, Qg 
 31 (.ld false 1 (.t 30)) 29 false, Qg 32 (.len false (.t 31)) 29 false, Qg 33 (.fa 0 (.t 4)) 29 false, Qg 34 (.ld false 1 (.t 33)) 29 false, Qg 35 (.len false (.t 34)) 29 false, 
 Qg 36 (.bin .neq (.t 32) (.t 35)) 29 false, Q 37 (.pick (.t 29) KT (.t 36))]) (.cond (.t 37) (.seq (.reg [Qx 2 KF]) .ret) .skip)) (.seq (.reg [Qc 38 0, Q 39 (.len false (.t 38)), 
 ⟨some 40, .prim (.mkSlice 26) [.t 39, .t 39] [], none⟩, Qa 5 40]) (.seq (.reg [Qx 6 (Ki 0)]) (.seq (.seq (.reg [Qx 7 (Ki 0)]) (.block 0 (.loop (.seq (.seq (.reg [Qc 41 7, Q 42 
 (.fa 0 (.t 4)), Q 43 (.ld false 1 (.t 42)), Q 44 (.len false (.t 43)), Q 45 (.bin .lss (.t 41) (.t 44))]) (.cond (.t 45) .skip (.exit 0))) (.seq (.block 1 (.seq (.seq (.reg [Q 48 
 (.fa 2 (.t 4)), Q 49 (.ld false 1 (.t 48)), Qc 50 7, Q 51 (.ia 1 (.t 49) (.t 50)), Q 52 (.ld false 1 (.t 51)), Qc 53 6, Q 54 (.bin .lss (.t 52) (.t 53)), Qc 55 54, Qg 56 (.fa 2 
 (.t 4)) 55 false, Qg 57 (.ld false 1 (.t 56)) 55 false, Qd 58 7 55 false, Qg 59 (.ia 1 (.t 57) (.t 58)) 55 false, Qg 60 (.ld false 1 (.t 59)) 55 false, Qd 61 6 55 false, Qg 62 
 (.bin .add (.t 61) (Ki 1)) 55 false, Qg 63 (.bin .gtr (.t 60) (.t 62)) 55 false, Q 64 (.pick (.t 55) KT (.t 63))]) (.cond (.t 64) (.seq (.reg [Qx 2 KF]) .ret) .skip)) (.seq (.reg 
 [Q 65 (.fa 2 (.t 4)), Q 66 (.ld false 1 (.t 65)), Qc 67 7, Q 68 (.ia 1 (.t 66) (.t 67)), Q 69 (.ld false 1 (.t 68)), Qa 6 69]) (.seq (.reg [Q 70 (.fa 1 (.t 4)), Q 71 (.ld false 1 
 (.t 70)), Qc 72 7, Q 73 (.ia 1 (.t 71) (.t 72)), Q 74 (.ld false 1 (.t 73)), Qa 8 74]) (.seq (.seq (.reg [Qc 75 8, Q 76 (.bin .lss (.t 75) (Ki 0))]) (.cond (.t 76) (.seq (.seq 
 (.reg [Q 77 (.fa 0 (.t 4)), Q 78 (.ld false 1 (.t 77)), Qc 79 7, Q 80 (.ia 1 (.t 78) (.t 79)), Q 81 (.ld false 1 (.t 80)), Q 82 (.bin .neq (.t 81) (.k (.d (.int .i32 32)))), Qc 
 83 82, Qg 84 (.fa 0 (.t 4)) 83 true, Qg 85 (.ld false 1 (.t 84)) 83 true, Qd 86 7 83 true, Qg 87 (.ia 1 (.t 85) (.t 86)) 83 true, Qg 88 (.ld false 1 (.t 87)) 83 true, Qg 89 (.bin 
 .neq (.t 88) (.k (.d (.int .i32 10)))) 83 true, Q 90 (.pick (.t 83) (.t 89) KF)]) (.cond (.t 90) (.seq (.reg [Qx 2 KF]) .ret) .skip)) (.exit 1)) .skip)) (.seq (.seq (.reg [Qc 91 
 8, Qc 92 0, Q 93 (.len false (.t 92)), Q 94 (.bin .geq (.t 91) (.t 93))]) (.cond (.t 94) (.seq (.reg [Qx 2 KF]) .ret) .skip)) (.seq (.reg [Qc 96 0, Qc 97 8, Q 98 (.ia 10 (.t 96) 
 (.t 97)), Q 99 (.fa 0 (.t 98)), Q 100 (.ld false 1 (.t 99)), ⟨some 101, .call 17 [.t 100], none⟩, Qc 95 101, Q 102 (.ext 0 (.t 95)), Q 103 (.ext 1 (.t 95)), Qa 9 102, Qa 10 103]) 
 (.seq (.seq (.dreg [Qc 104 5, Qc 105 8, Q 106 (.ia 1 (.t 104) (.t 105)), Q 107 (.ld false 1 (.t 106)), Qc 108 9, Q 109 (.len false (.t 108)), Q 110 (.bin .geq (.t 107) (.t 109)), 
 Qc 111 110, Qd 112 9 111 false, Qd 113 5 111 false, Qd 114 8 111 false, Qg 115 (.ia 1 (.t 113) (.t 114)) 111 false, Qg 116 (.ld false 1 (.t 115)) 111 false, Qg 117 (.ia 1 (.t 
 112) (.t 116)) 111 false, Qg 118 (.ld false 1 (.t 117)) 111 false, Qg 119 (.fa 0 (.t 4)) 111 false, Qg 120 (.ld false 1 (.t 119)) 111 false, Qd 121 7 111 false, Qg 122 (.ia 1 (.t 
 120) (.t 121)) 111 false, Qg 123 (.ld false 1 (.t 122)) 111 false, Qg 124 (.cvI .i64 (.t 123)) 111 false, Qg 125 (.bin .neq (.t 118) (.t 124)) 111 false, Q 126 (.pick (.t 111) KT 
 (.t 125)), Qc 127 126, Qd 128 5 127 false, Qd 129 8 127 false, Qg 130 (.ia 1 (.t 128) (.t 129)) 127 false, Qg 131 (.ld false 1 (.t 130)) 127 false, Qg 132 (.bin .gtr (.t 131) (Ki 
 0)) 127 false, Qd 133 132 127 false, Qg 134 (.fa 1 (.t 4)) 133 true, Qg 135 (.ld false 1 (.t 134)) 133 true, Qd 136 7 133 true, Qg 137 (.bin .sub (.t 136) (Ki 1)) 133 true, Qg 
 138 (.ia 1 (.t 135) (.t 137)) 133 true, Qg 139 (.ld false 1 (.t 138)) 133 true, Qd 140 8 133 true, Qg 141 (.bin .neq (.t 139) (.t 140)) 133 true, Qg 142 (.pick (.t 133) (.t 141) 
 KF) 127 false, Q 143 (.pick (.t 127) KT (.t 142))]) (.cond (.t 143) (.seq (.reg [Qx 2 KF]) .ret) .skip)) (.reg [Qc 144 5, Qc 145 8, Q 146 (.ia 1 (.t 144) (.t 145)), Q 147 (.ld 
 false 1 (.t 146)), Q 148 (.bin .add (.t 147) (Ki 1)), Q 149 (.ia 1 (.t 144) (.t 145)), ⟨none, .st 1 (.t 149) (.t 148), none⟩]))))))))) (.reg [Qc 46 7, Q 47 (.bin .add (.t 46) (Ki 
 1)), Qa 7 47])))))) (.seq (.seq (.reg [Qx 11 (Ki 0)]) (.block 2 (.loop (.seq (.seq (.reg [Qc 150 11, Qc 151 0, Q 152 (.len false (.t 151)), Q 153 (.bin .lss (.t 150) (.t 152))]) 
 (.cond (.t 153) .skip (.exit 2))) (.seq (.block 3 (.seq (.reg [Qc 157 0, Qc 158 11, Q 159 (.ia 10 (.t 157) (.t 158)), Q 160 (.fa 0 (.t 159)), Q 161 (.ld false 1 (.t 160)), ⟨some 
 162, .call 17 [.t 161], none⟩, Qc 156 162, Q 163 (.ext 0 (.t 156)), Q 164 (.ext 1 (.t 156)), Qa 12 163, Qa 13 164]) (.seq (.reg [Qc 165 5, Qc 166 11, Q 167 (.ia 1 (.t 165) (.t 
 166)), Q 168 (.ld false 1 (.t 167)), Qc 169 12, Q 170 (.len false (.t 169)), Q 171 (.bin .neq (.t 168) (.t 170))]) (.cond (.t 171) (.seq (.reg [Qx 2 KF]) .ret) .skip)))) (.reg 
 [Qc 154 11, Q 155 (.bin .add (.t 154) (Ki 1)), Qa 11 155])))))) (.seq (.reg [Qx 2 KT]) .ret))))))))))
def R_foliowrighttop_TopText : List LRes := [.tmp 2]
theorem lift_foliowrighttop_TopText : Lifts Try.prog 4 172 L_foliowrighttop_TopText R_foliowrighttop_TopText := ⟨_, _, Try.func4, rfl, by kernel_rfl, by kernel_rfl, rfl⟩
theorem topText_call (l : List Gl) (hl0 : l.length ≤ 9223372036854775807) (ht0 : ∀ g ∈ l, g.tx.length ≤ 1000000000) : PCall Try.prog 4 [.list (glsD l)] (fun r => r = .one (.bool true)) := by
 have hI : ((glsD l).length : Int) = (l.length : Int) := by rw [glsD_length]
 refine lift_foliowrighttop_TopText.call rfl ?_
 simp (maxSteps := 2000000) only [go_sem, ↓reduceIte, L_foliowrighttop_TopText, R_foliowrighttop_TopText]
 refine CallG.of laid_call ?_
 simp (maxSteps := 2000000) only [go_sem, ↓reduceIte]
 refine CallG.of (lightGlyphs_call l hl0 ht0) ?_
 cases hlt : lightGM l with
 | false => simp (maxSteps := 2000000) only [go_sem, ↓reduceIte]
 | true =>
  obtain ⟨hl, hok, hr, ht⟩ := light_ok hlt
  have hTl := textF_len hl hr ht
  have hT0 := textF_ok hr
  simp (maxSteps := 2000000) only [go_sem, ↓reduceIte]
  refine CallG.of (of_call l (by omega) hok hr (by omega)) ?_
  generalize textF l = T at *
  have hSl : ((rnD (T.map (·.1))).length : Int) = (T.length : Int) := by rw [rnD_len, List.length_map]
  have hOl : ((inD (T.map (·.2.1))).length : Int) = (T.length : Int) := by rw [inD_len, List.length_map]
  have hLl : ((inD (T.map (·.2.2))).length : Int) = (T.length : Int) := by rw [inD_len, List.length_map]
  generalize hSD : rnD (T.map (·.1)) = SD at *
  generalize hOD : inD (T.map (·.2.1)) = OD at *
  generalize hLD : inD (T.map (·.2.2)) = LD at *
  have gS : ∀ {i : Nat} {t : Tri}, T[i]? = some t → SD[i]? = some (.int .i32 (t.1 : Nat)) := fun {i t} h => by rw [← hSD, rnD_get, List.getElem?_map, h]; rfl
  have gO : ∀ {i : Nat} {t : Tri}, T[i]? = some t → OD[i]? = some (.int .i64 t.2.1) := fun {i t} h => by rw [← hOD, inD_get, List.getElem?_map, h]; rfl
  have gL : ∀ {i : Nat} {t : Tri}, T[i]? = some t → LD[i]? = some (.int .i64 t.2.2) := fun {i t} h => by rw [← hLD, inD_get, List.getElem?_map, h]; rfl
  simp (maxSteps := 2000000) only [go_sem, ↓reduceIte, txR, hSD, hOD, hLD, hSl, hOl, hLl, hI]
  refine PrimG.mkRow (r := 40) (n := l.length) (z := .int .i64 0) (zv := .int .i64 0) rfl rfl intRow0 (by kernel_rfl) rfl rfl (fun f w => .int _ _) (by omega) (by omega) ?_
  rw [rep_row]
  simp (maxSteps := 2000000) only [go_sem, ↓reduceIte]
  refine run_loop (fun y : Nat × Int × List Nat => ⟨[(0, .d (.list (glsD l))), (4, .ptr (.l 4) 0), (5, .rs (.l 40) l.length l.length), (6, .d (.int .i64 y.2.1)), (7, .d (.int .i64 (y.1 : Nat)))], [(4, .cells [.d (.list SD), .d (.list OD), .d (.list LD)]), (40, .cells (rowN y.2.2 l.length))], []⟩)
   (fun y => y.1 ≤ T.length ∧ y.2.2.length = l.length ∧ 0 ≤ y.2.1 ∧ y.2.1 ≤ y.1 ∧ okT l y.2.1 y.2.2 (if y.1 = 0 then none else (T[y.1 - 1]?).map (·.2.1)) (T.drop y.1)) (fun y => T.length - y.1) (0, 0, List.replicate l.length 0) ?_ ?_ ?_
  ·refine Weak.mk ?_ ?_ ?_ <;> simp (maxSteps := 2000000) only [go_sem, ↓reduceIte, Sub, Int.natCast_add, Int.natCast_mul]
  ·exact ⟨Nat.zero_le _, by simp, by simp, by simp, hT0⟩
  ·rintro ⟨i, line, done⟩ ⟨hi, hdl, q1, q2, hF⟩
   simp only at hi hdl q1 q2 hF
   simp (maxSteps := 2000000) only [go_sem, ↓reduceIte, hSl]
   refine ⟨fun hlt1 => ?_, fun hge => ?_⟩
   ·obtain ⟨⟨sg, o, n⟩, hTi⟩ := get_some (l := T) (i := i) (by omega)
    rw [drop_at hTi, okT] at hF
    obtain ⟨f1, f2, hF⟩ := hF
    have g1 := gS hTi
    have g2 := gO hTi
    have g3 := gL hTi
    simp only at g1 g2 g3
    have hprev : (if i + 1 = 0 then none else (T[i + 1 - 1]?).map (·.2.1)) = some o := by
     rw [if_neg (by omega), Nat.add_sub_cancel, hTi]; rfl
    have z1 : (n < line) = False := eq_false (by omega)
    have z2 : (line + 1 < n) = False := eq_false (by omega)
    rcases hF with ⟨rfl, hs, hF⟩ | ⟨g, d, rfl, hg, hd, hrn, hpv, hF⟩
    ·have z3 : ((-1 : Int) < 0) = True := eq_true (by omega)
     rcases hs with rfl | rfl
     ·simp (maxSteps := 2000000) (disch := omega) only [go_sem, ↓reduceIte, getI_nat, g1, g2, g3, z1, z2, z3]
      refine ⟨(i + 1, n, done), ?_, ⟨by simp only; omega, hdl, by simp only; omega, by simp only; omega, ?_⟩, by simp only; omega⟩
      ·refine Weak.mk ?_ ?_ ?_ <;> simp (maxSteps := 2000000) only [go_sem, ↓reduceIte, Sub, Int.natCast_add, Int.natCast_mul]
      ·simp only [hprev]; exact hF
     ·simp (maxSteps := 2000000) (disch := omega) only [go_sem, ↓reduceIte, getI_nat, g1, g2, g3, z1, z2, z3]
      refine ⟨(i + 1, n, done), ?_, ⟨by simp only; omega, hdl, by simp only; omega, by simp only; omega, ?_⟩, by simp only; omega⟩
      ·refine Weak.mk ?_ ?_ ?_ <;> simp (maxSteps := 2000000) only [go_sem, ↓reduceIte, Sub, Int.natCast_add, Int.natCast_mul]
      ·simp only [hprev]; exact hF
    ·have z3 : ((g : Int) < 0) = False := eq_false (by omega)
     have z4 : ((l.length : Int) ≤ (g : Int)) = False := eq_false (by omega)
     have hgi : (glsD l)[g]? = some (glAt l g).d := by rw [glsD_get, glAt_get hg]; rfl
     have hgm := List.mem_of_getElem? (glAt_get hg)
     obtain ⟨rs, hrs⟩ := hr _ hgm
     have hrG : rnG (glAt l g) = rs := by rw [rnG, hrs]; rfl
     rw [hrG] at hrn
     have hdlt := (List.getElem?_eq_some_iff.1 hrn).1
     have hrsv := (runesM_enc _ (Nat.le_refl _) hrs).2 sg (List.mem_of_getElem? hrn)
     unfold vrune at hrsv
     have hrl : ((natsU rs).length : Int) = (rs.length : Int) := by rw [natsU_length]
     have hrl2 : rs.length ≤ 60 := by
      have e := runesM_enc _ (Nat.le_refl _) hrs
      have := encM_ge' e.2
      rw [e.1] at this
      have := ht _ hgm
      omega
     have l1 : (rowN done l.length)[((g : Nat) : Int).toNat * 1]? = some (.d (.int .i64 (d : Nat))) := by
      rw [show ((g : Nat) : Int).toNat * 1 = g by omega]; exact rowN_get hd
     have l2 : (natsU rs)[d]? = some (.int .i64 (sg : Nat)) := by rw [natsU_get, hrn]; rfl
     have l3 : (rowN done l.length).set (((g : Nat) : Int).toNat * 1) (.d (.int .i64 ((d : Nat) + 1 : Int))) = rowN (done.set g (d + 1)) l.length := by
      rw [show ((g : Nat) : Int).toNat * 1 = g by omega, ← rowN_set (by omega)]; rfl
     have l4 : (rowN done l.length).length = l.length := rowN_len (by omega)
     have z5 : ((rs.length : Int) ≤ (d : Int)) = False := eq_false (by omega)
     simp (maxSteps := 2000000) (disch := omega) only [go_sem, ↓reduceIte, getI_nat, g1, g2, g3, z1, z2, z3, z4, hgi, Gl.d, hI]
     refine CallG.of (runes_call _ (ht0 _ hgm)) ?_
     rw [hrs]
     simp only [runesRes]
     by_cases hd0 : d = 0
     ·have z6 : (0 < (d : Int)) = False := eq_false (by omega)
      simp (maxSteps := 2000000) (disch := omega) only [go_sem, ↓reduceIte, getI_nat, g1, g2, g3, l1, l2, l3, l4, z5, z6, hrl]
      refine ⟨⟨by omega, by omega⟩, ⟨by omega, by omega⟩, ⟨by omega, by omega⟩, ⟨by omega, by omega⟩, ⟨by omega, by omega⟩, by omega, (i + 1, n, done.set g (d + 1)), ?_, ⟨by simp only; omega, by rw [List.length_set]; exact hdl, by simp only; omega, by simp only; omega, ?_⟩, by simp only; omega⟩
      ·refine Weak.mk ?_ ?_ ?_ <;> simp (maxSteps := 2000000) only [go_sem, ↓reduceIte, Sub, Int.natCast_add, Int.natCast_mul]
      ·simp only [hprev]; exact hF
     ·have z6 : (0 < (d : Int)) = True := eq_true (by omega)
      have hp := hpv (by omega)
      have hi0 : i ≠ 0 := fun e => by rw [if_pos e] at hp; cases hp
      rw [if_neg hi0] at hp
      obtain ⟨t, ht1⟩ := get_some (l := T) (i := i - 1) (by omega)
      have g4 := gO ht1
      rw [ht1] at hp
      have hto : t.2.1 = (g : Int) := Option.some.inj hp
      rw [hto] at g4
      have e1 : ((i : Int) - 1) = ((i - 1 : Nat) : Int) := by omega
      simp (maxSteps := 2000000) (disch := omega) only [go_sem, ↓reduceIte, getI_nat, g1, g2, g3, g4, e1, l1, l2, l3, l4, z5, z6, hrl]
      refine ⟨⟨by omega, by omega⟩, ⟨by omega, by omega⟩, ⟨by omega, by omega⟩, ⟨by omega, by omega⟩, ⟨by omega, by omega⟩, by omega, (i + 1, n, done.set g (d + 1)), ?_, ⟨by simp only; omega, by rw [List.length_set]; exact hdl, by simp only; omega, by simp only; omega, ?_⟩, by simp only; omega⟩
      ·refine Weak.mk ?_ ?_ ?_ <;> simp (maxSteps := 2000000) only [go_sem, ↓reduceIte, Sub, Int.natCast_add, Int.natCast_mul]
      ·simp only [hprev]; exact hF
   ·have hin : i = T.length := by omega
    subst hin
    rw [List.drop_length, okT] at hF
    subst hF
    refine run_loop (fun j : Nat => ⟨[(0, .d (.list (glsD l))), (5, .rs (.l 40) l.length l.length), (11, .d (.int .i64 (j : Nat)))], [(40, .cells (rowN (lensG l) l.length))], []⟩)
     (fun j => j ≤ l.length) (fun j => l.length - j) 0 ?_ (Nat.zero_le _) ?_
    ·refine Weak.mk ?_ ?_ ?_ <;> simp (maxSteps := 2000000) only [go_sem, ↓reduceIte, Sub, Int.natCast_add, Int.natCast_mul]
    ·intro j hj
     simp (maxSteps := 2000000) only [go_sem, ↓reduceIte, hI]
     intro hlt1
     ·have hg : j < l.length := by omega
      have hgi : (glsD l)[j]? = some (glAt l j).d := by rw [glsD_get, glAt_get hg]; rfl
      have hgm := List.mem_of_getElem? (glAt_get hg)
      obtain ⟨rs, hrs⟩ := hr _ hgm
      have hrG : rnG (glAt l j) = rs := by rw [rnG, hrs]; rfl
      have hrl : ((natsU rs).length : Int) = (rs.length : Int) := by rw [natsU_length]
      have l1 : (rowN (lensG l) l.length)[((j : Nat) : Int).toNat * 1]? = some (.d (.int .i64 (rs.length : Nat))) := by
       rw [show ((j : Nat) : Int).toNat * 1 = j by omega]
       refine rowN_get ?_
       rw [lensG, List.getElem?_map, glAt_get hg, Option.map_some, hrG]
      simp (maxSteps := 2000000) (disch := omega) only [go_sem, ↓reduceIte, getI_nat, hgi, Gl.d, hI]
      refine CallG.of (runes_call _ (ht0 _ hgm)) ?_
      rw [hrs]
      simp only [runesRes]
      simp (maxSteps := 2000000) (disch := omega) only [go_sem, ↓reduceIte, l1, hrl]
      refine ⟨⟨by omega, by omega⟩, j + 1, ?_, by omega, by omega⟩
      refine Weak.mk ?_ ?_ ?_ <;> simp (maxSteps := 2000000) only [go_sem, ↓reduceIte, Sub, Int.natCast_add, Int.natCast_mul]
end Go.Av.Try
set_option linter.unusedSimpArgs false
set_option maxRecDepth 100000
namespace Go.Av.Try
open Go.Proofs
theorem w_int : Try.prog.cellsOf 3 = 1 := by kernel_rfl
theorem w_str : Try.prog.cellsOf 9 = 1 := by kernel_rfl
theorem w_point : Try.prog.cellsOf 40 = 2 := by kernel_rfl
theorem w_box : Try.prog.cellsOf 42 = 4 := by kernel_rfl
theorem w_glyph : Try.prog.cellsOf 44 = 10 := by kernel_rfl
theorem point_of {k : Nat} {ds : List D} (h : OfT Try.prog k 40 ds) : ∃ x y : Int, ds = [.int .i64 x, .int .i64 y] := by
 cases k with
 | zero => exact h.elim
 | succ k =>
  unfold OfT at h
  rw [Try.underlying40] at h
  obtain ⟨h1, h2⟩ := h
  rw [w_point] at h1
  match ds, h1 with
  | [a, b], _ =>
   have f0 : OfT Try.prog k 3 (([a, b].drop 0).take (Try.prog.cellsOf 3)) := h2 0 _ rfl
   have f1 : OfT Try.prog k 3 (([a, b].drop 1).take (Try.prog.cellsOf 3)) := h2 1 _ rfl
   simp only [w_int, List.drop_zero, List.drop_succ_cons, List.take_succ_cons, List.take_zero] at f0 f1
   obtain ⟨n0, e0, _⟩ := f0.int Try.underlying3
   obtain ⟨n1, e1, _⟩ := f1.int Try.underlying3
   simp only [List.cons.injEq, and_true] at e0 e1
   exact ⟨n0, n1, by rw [e0, e1]⟩
theorem box_of {k : Nat} {ds : List D} (h : OfT Try.prog k 42 ds) : ∃ x y u v : Int, ds = [.int .i64 x, .int .i64 y, .int .i64 u, .int .i64 v] := by
 cases k with
 | zero => exact h.elim
 | succ k =>
  unfold OfT at h
  rw [Try.underlying42] at h
  obtain ⟨h1, h2⟩ := h
  rw [w_box] at h1
  match ds, h1 with
  | [a, b, c, d], _ =>
   have f0 : OfT Try.prog k 3 (([a, b, c, d].drop 0).take (Try.prog.cellsOf 3)) := h2 0 _ rfl
   have f1 : OfT Try.prog k 3 (([a, b, c, d].drop 1).take (Try.prog.cellsOf 3)) := h2 1 _ rfl
   have f2 : OfT Try.prog k 3 (([a, b, c, d].drop 2).take (Try.prog.cellsOf 3)) := h2 2 _ rfl
   have f3 : OfT Try.prog k 3 (([a, b, c, d].drop 3).take (Try.prog.cellsOf 3)) := h2 3 _ rfl
   simp only [w_int, List.drop_zero, List.drop_succ_cons, List.take_succ_cons, List.take_zero] at f0 f1 f2 f3
   obtain ⟨n0, e0, _⟩ := f0.int Try.underlying3
   obtain ⟨n1, e1, _⟩ := f1.int Try.underlying3
   obtain ⟨n2, e2, _⟩ := f2.int Try.underlying3
   obtain ⟨n3, e3, _⟩ := f3.int Try.underlying3
   simp only [List.cons.injEq, and_true] at e0 e1 e2 e3
   exact ⟨n0, n1, n2, n3, by rw [e0, e1, e2, e3]⟩
theorem gl_of {k : Nat} {ds : List D} (h : OfT Try.prog k 44 ds) : ∃ g : Gl, mkD ds = g.d := by
 cases k with
 | zero => exact h.elim
 | succ k =>
  unfold OfT at h
  rw [Try.underlying44] at h
  obtain ⟨h1, h2⟩ := h
  rw [w_glyph] at h1
  match ds, h1 with
  | [a, b, c, d, e, f, g, i, j, m], _ =>
   have f0 : OfT Try.prog k 9 (([a, b, c, d, e, f, g, i, j, m].drop 0).take (Try.prog.cellsOf 9)) := h2 0 _ rfl
   have f1 : OfT Try.prog k 40 (([a, b, c, d, e, f, g, i, j, m].drop 1).take (Try.prog.cellsOf 40)) := h2 1 _ rfl
   have f2 : OfT Try.prog k 40 (([a, b, c, d, e, f, g, i, j, m].drop 3).take (Try.prog.cellsOf 40)) := h2 2 _ rfl
   have f3 : OfT Try.prog k 3 (([a, b, c, d, e, f, g, i, j, m].drop 5).take (Try.prog.cellsOf 3)) := h2 3 _ rfl
   have f4 : OfT Try.prog k 42 (([a, b, c, d, e, f, g, i, j, m].drop 6).take (Try.prog.cellsOf 42)) := h2 4 _ rfl
   simp only [w_int, w_str, w_point, w_box, List.drop_zero, List.drop_succ_cons, List.take_succ_cons, List.take_zero] at f0 f1 f2 f3 f4
   obtain ⟨s, e0, _⟩ := f0.string Try.underlying9
   obtain ⟨n1, n2, e1⟩ := point_of f1
   obtain ⟨n3, n4, e2⟩ := point_of f2
   obtain ⟨n5, e3, _⟩ := f3.int Try.underlying3
   obtain ⟨n6, n7, n8, n9, e4⟩ := box_of f4
   simp only [List.cons.injEq, and_true] at e0 e1 e2 e3 e4
   exact ⟨⟨s, n1, n2, n3, n4, n5, n6, n7, n8, n9⟩, by rw [e0, e1.1, e1.2, e2.1, e2.2, e3, e4.1, e4.2.1, e4.2.2.1, e4.2.2.2]; rfl⟩
theorem all_gls : ∀ {l : List D}, (∀ x ∈ l, ∃ g : Gl, x = g.d) → ∃ gs : List Gl, l = glsD gs
 | [], _ => ⟨[], rfl⟩
 | x :: r, h => by
  obtain ⟨g, hg⟩ := h x (by simp)
  obtain ⟨gs, hr⟩ := all_gls (l := r) fun y hy => h y (by simp [hy])
  exact ⟨g :: gs, by rw [hg, hr]; rfl⟩
theorem gls_of {k : Nat} {x : D} (h : OfT Try.prog k 22 [x]) : ∃ l : List Gl, x = .list (glsD l) ∧ l.length ≤ maxLen := by
 obtain ⟨l, m, _, h1, h2, h3⟩ := h.slice Try.underlying22
 obtain ⟨gs, rfl⟩ := all_gls (l := l) fun y hy => by
  obtain ⟨cs, h4, h5⟩ := h3 y hy
  obtain ⟨g, h6⟩ := gl_of h5
  exact ⟨g, by rw [h4, h6]⟩
 cases h1
 exact ⟨gs, rfl, by rw [glsD_length] at h2; exact h2⟩
theorem bk_gls : ∀ {l : List Gl}, ∀ g ∈ l, g.tx.length + 1 ≤ bkL (glsD l)
 | [], g, h => by cases h
 | x :: r, g, h => by
  have e : bkL (glsD (x :: r)) = bkD x.d + bkL (glsD r) := rfl
  have e2 : x.tx.length + 1 ≤ bkD x.d := by simp only [Gl.d, bkD, bkL]; omega
  rcases List.mem_cons.1 h with rfl | h
  ·omega
  ·have := bk_gls g h
   omega
theorem gls_small {l : List Gl} (h : bkD (.list (glsD l)) ≤ 1048576) : ∀ g ∈ l, g.tx.length ≤ 1000000000 := fun g hg => by
 have := bk_gls g hg
 simp only [bkD] at h
 omega
end Go.Av.Try
