import Derived.Test.YtbfljokjkcdbeaaGreatDoorWd
import Derived.Test.YtbfljokjkcdbeaaGreatDoorWb
import Derived.Test.YtbfljokjkcdbeaaGreatDoorWa
import Derived.Test.YtbfljokjkcdbeaaGreatDoorAvE
set_option linter.unusedSimpArgs false
namespace Go.Av.Tryz
open Go.Proofs
def litRes (o : Option (List UInt8 × Nat)) : Res := match o with
 | none => .tup [.str [], .int .i64 0, .int .i64 5]
 | some (b, k) => .tup [.str b, .int .i64 k, .int .i64 0]
def L_foliowrightref_literal : LCode :=
 .seq (.reg [Qx 4 (.k (.d (.str []))), Qx 5 (Ki 0), Qx 6 (Ki 0)]) (.seq (.reg [⟨some 7, .nils 5 1, none⟩]) (.seq (.reg [Qx 8 (Ki 1)]) (.seq (.block 0 (.loop (.seq (.seq (.reg [Qc 13 
 1, Qc 14 0, Q 15 (.len true (.t 14)), Q 16 (.bin .lss (.t 13) (.t 15))]) (.cond (.t 16) .skip (.exit 0))) (.block 1 (.seq (.reg [Qc 17 0, Qc 18 1, Q 19 (.idxS (.t 17) (.t 18)), 
 Qa 9 19]) (.seq (.seq (.reg [Qc 20 9, Q 21 (.bin .eql (.t 20) (Kb 41))]) (.cond (.t 21) (.seq (.reg [Qc 22 8, Q 23 (.bin .sub (.t 22) (Ki 1)), Qa 8 23]) (.seq (.reg [Qc 24 8, Q 
 25 (.bin .eql (.t 24) (Ki 0))]) (.cond (.t 25) (.seq (.reg [Qc 26 7, Q 27 (.b2s (.t 26)), Qc 28 1, Q 29 (.bin .add (.t 28) (Ki 1)), Qa 4 27, Qa 5 29, Qx 6 (Ki 0)]) .ret) .skip))) 
 .skip)) (.seq (.seq (.reg [Qc 30 9, Q 31 (.bin .eql (.t 30) (Kb 40))]) (.cond (.t 31) (.reg [Qc 32 8, Q 33 (.bin .add (.t 32) (Ki 1)), Qa 8 33]) .skip)) (.seq (.seq (.reg [Qc 34 
 9, Q 35 (.bin .neq (.t 34) (Kb 92))]) (.cond (.t 35) (.seq (.reg [Qc 36 7, Qc 37 9, ⟨some 38, .bsl 5 1 [.t 37], none⟩, ⟨some 39, .app 5 1 1 false (.t 36) (.t 38), none⟩, Qa 7 
 39]) (.seq (.reg [Qc 40 1, Q 41 (.bin .add (.t 40) (Ki 1)), Qa 1 41]) (.exit 1))) .skip)) (.seq (.reg [Qc 42 1, Q 43 (.bin .add (.t 42) (Ki 1)), Qa 1 43]) (.seq (.seq (.reg [Qc 
 44 1, Qc 45 0, Q 46 (.len true (.t 45)), Q 47 (.bin .eql (.t 44) (.t 46))]) (.cond (.t 47) (.exit 0) .skip)) (.seq (.reg [Qc 48 0, Qc 49 1, Q 50 (.idxS (.t 48) (.t 49)), Qa 10 
 50]) (.seq (.block 2 (.seq (.reg [Qc 56 10, Q 57 (.bin .eql (.t 56) (Kb 110)), Qa 55 57]) (.cond (.t 55) (.reg [Qc 58 7, ⟨some 59, .bsl 5 1 [.k (.d (.int .u8 10))], none⟩, ⟨some 
 60, .app 5 1 1 false (.t 58) (.t 59), none⟩, Qa 7 60]) (.seq (.reg [Qc 62 10, Q 63 (.bin .eql (.t 62) (Kb 114)), Qa 61 63]) (.cond (.t 61) (.reg [Qc 64 7, ⟨some 65, .bsl 5 1 [.k 
 (.d (.int .u8 13))], none⟩, ⟨some 66, .app 5 1 1 false (.t 64) (.t 65), none⟩, Qa 7 66]) (.seq (.reg [Qc 68 10, Q 69 (.bin .eql (.t 68) (Kb 116)), Qa 67 69]) (.cond (.t 67) (.reg 
 [Qc 70 7, ⟨some 71, .bsl 5 1 [.k (.d (.int .u8 9))], none⟩, ⟨some 72, .app 5 1 1 false (.t 70) (.t 71), none⟩, Qa 7 72]) (.seq (.reg [Qc 74 10, Q 75 (.bin .eql (.t 74) (Kb 98)), 
 Qa 73 75]) (.cond (.t 73) (.reg [Qc 76 7, ⟨some 77, .bsl 5 1 [.k (.d (.int .u8 8))], none⟩, ⟨some 78, .app 5 1 1 false (.t 76) (.t 77), none⟩, Qa 7 78]) (.seq (.reg [Qc 80 10, Q 
 81 (.bin .eql (.t 80) (Kb 102)), Qa 79 81]) (.cond (.t 79) (.reg [Qc 82 7, ⟨some 83, .bsl 5 1 [.k (.d (.int .u8 12))], none⟩, ⟨some 84, .app 5 1 1 false (.t 82) (.t 83), none⟩, 
 Qa 7 84]) (.seq (.reg [Qc 86 10, Q 87 (.bin .eql (.t 86) (Kb 10)), Qa 85 87]) (.cond (.t 85) .skip (.seq (.reg [Qc 89 10, Q 90 (.bin .eql (.t 89) (Kb 13)), Qa 88 90]) (.cond (.t 
 88) (.seq (.reg [Qc 91 1, Q 92 (.bin .add (.t 91) (Ki 1)), Qc 93 0, Q 94 (.len true (.t 93)), Q 95 (.bin .lss (.t 92) (.t 94)), Qc 96 95, Qd 97 0 96 true, Qd 98 1 96 true, Qg 99 
 (.bin .add (.t 98) (Ki 1)) 96 true, Qg 100 (.idxS (.t 97) (.t 99)) 96 true, Qg 101 (.bin .eql (.t 100) (Kb 10)) 96 true, Q 102 (.pick (.t 96) (.t 101) KF)]) (.cond (.t 102) (.reg 
 [Qc 103 1, Q 104 (.bin .add (.t 103) (Ki 1)), Qa 1 104]) .skip)) (.seq (.reg [Qc 106 10, Q 107 (.bin .geq (.t 106) (Kb 48)), Qc 108 107, Qd 109 10 108 true, Qg 110 (.bin .leq (.t 
 109) (Kb 55)) 108 true, Q 111 (.pick (.t 108) (.t 110) KF), Qa 105 111]) (.cond (.t 105) (.seq (.reg [Qc 112 10, Q 113 (.bin .sub (.t 112) (Kb 48)), Q 114 (.cvI .i64 (.t 113)), 
 Qa 11 114]) (.seq (.seq (.reg [Qx 12 (Ki 0)]) (.block 3 (.loop (.seq (.seq (.reg [Qc 115 12, Q 116 (.bin .lss (.t 115) (Ki 2)), Qc 117 116, Qd 118 1 117 true, Qg 119 (.bin .add 
 (.t 118) (Ki 1)) 117 true, Qd 120 0 117 true, Qg 121 (.len true (.t 120)) 117 true, Qg 122 (.bin .lss (.t 119) (.t 121)) 117 true, Q 123 (.pick (.t 117) (.t 122) KF), Qc 124 123, 
 Qd 125 0 124 true, Qd 126 1 124 true, Qg 127 (.bin .add (.t 126) (Ki 1)) 124 true, Qg 128 (.idxS (.t 125) (.t 127)) 124 true, Qg 129 (.bin .geq (.t 128) (Kb 48)) 124 true, Q 130 
 (.pick (.t 124) (.t 129) KF), Qc 131 130, Qd 132 0 131 true, Qd 133 1 131 true, Qg 134 (.bin .add (.t 133) (Ki 1)) 131 true, Qg 135 (.idxS (.t 132) (.t 134)) 131 true, Qg 136 
 (.bin .leq (.t 135) (Kb 55)) 131 true, Q 137 (.pick (.t 131) (.t 136) KF)]) (.cond (.t 137) .skip (.exit 3))) (.seq (.block 4 (.seq (.reg [Qc 140 1, Q 141 (.bin .add (.t 140) (Ki 
 1)), Qa 1 141]) (.reg [Qc 142 11, Q 143 (.bin .mul (Ki 8) (.t 142)), Qc 144 0, Qc 145 1, Q 146 (.idxS (.t 144) (.t 145)), Q 147 (.bin .sub (.t 146) (Kb 48)), Q 148 (.cvI .i64 (.t 
 147)), Q 149 (.bin .add (.t 143) (.t 148)), Qa 11 149]))) (.reg [Qc 138 12, Q 139 (.bin .add (.t 138) (Ki 1)), Qa 12 139])))))) (.reg [Qc 150 7, Qc 151 11, Q 152 (.bin .rem (.t 
 151) (Ki 256)), Q 153 (.cvI .u8 (.t 152)), ⟨some 154, .bsl 5 1 [.t 153], none⟩, ⟨some 155, .app 5 1 1 false (.t 150) (.t 154), none⟩, Qa 7 155]))) (.reg [Qc 51 7, Qc 52 10, ⟨some 
 53, .bsl 5 1 [.t 52], none⟩, ⟨some 54, .app 5 1 1 false (.t 51) (.t 53), none⟩, Qa 7 54])))))))))))))))))) (.reg [Qc 156 1, Q 157 (.bin .add (.t 156) (Ki 1)), Qa 1 
 157]))))))))))))) (.seq (.reg [Qx 4 (.k (.d (.str []))), Qx 5 (Ki 0), Qx 6 (Ki 5)]) .ret))))
def R_foliowrightref_literal : List LRes := [.tmp 4, .tmp 5, .tmp 6]
theorem lift_foliowrightref_literal : Lifts Tryz.prog 67 158 L_foliowrightref_literal R_foliowrightref_literal := ⟨_, _, Tryz.func67, rfl, by kernel_rfl, by kernel_rfl, rfl⟩
theorem literal_call (s : List UInt8) (k : Nat) (hs : s.length ≤ 1000000000) (hk : k ≤ s.length) : PCall Tryz.prog 67 [.str s, .int .i64 k] (fun r => r = litRes (litF 0 1 (s.drop k) [] k)) := by
 refine lift_foliowrightref_literal.call rfl ?_
 generalize hR : litF 0 1 (s.drop k) [] k = R
 simp (maxSteps := 2000000) (disch := omega) only [go_sem, ↓reduceIte, L_foliowrightref_literal, R_foliowrightref_literal]
 refine run_loop (fun y : Nat × Nat × List UInt8 => ⟨[(0, .d (.str s)), (1, .d (.int .i64 y.1)), (7, .own (.t 7) 5 1 (bytesD y.2.2)), (8, .d (.int .i64 y.2.1))], [], []⟩)
  (fun y => y.1 ≤ s.length ∧ y.2.2.length ≤ y.1 ∧ 1 ≤ y.2.1 ∧ y.2.1 ≤ y.1 + 1 ∧ litF 0 y.2.1 (s.drop y.1) y.2.2 y.1 = R) (fun y => s.length - y.1) (k, 1, []) ?_ ?_ ?_
 ·refine weak_mk ?_ trivial
  simp (maxSteps := 2000000) only [go_sem, ↓reduceIte, Sub, Int.natCast_add, Int.natCast_mul, bytesD]
 ·exact ⟨hk, by simp, by simp, by simp, hR⟩
 ·rintro ⟨i, d, b⟩ ⟨hi, hb, hd1, hd2, hF⟩
  simp only at hi hb hd1 hd2 hF
  have hblen := bytesD_length b
  have bad : R = none → Res.tup [D.str [], D.int .i64 0, D.int .i64 5] = litRes R := fun e => by rw [e]; rfl
  simp (maxSteps := 2000000) only [go_sem, ↓reduceIte]
  refine ⟨fun hlt => ?_, fun hge => ?_⟩
  ·obtain ⟨c, hc⟩ := get_some (l := s) (i := i) (by omega)
   have hc8 := u8_lt c
   rw [drop_at hc, litF] at hF
   by_cases h92 : c.toNat = 92
   ·rw [if_pos h92] at hF
    have z1 : ((c.toNat : Int) = 41) = False := eq_false (by omega)
    have z2 : ((c.toNat : Int) = 40) = False := eq_false (by omega)
    have z3 : ((c.toNat : Int) = 92) = True := eq_true (by omega)
    simp (maxSteps := 2000000) (disch := omega) only [go_sem, ↓reduceIte, getI_nat, hc, z1, z2, z3]
    refine ⟨fun he => ?_, fun he => ?_⟩
    ·rw [if_pos (List.drop_eq_nil_of_le (by omega))] at hF
     exact bad hF.symm
    ·obtain ⟨e, hge⟩ := get_some (l := s) (i := i + 1) (by omega)
     have he8 := u8_lt e
     rw [if_neg (by rw [drop_at hge]; simp)] at hF
     have g1 : getI s ((i : Int) + 1) = some e := by rw [getI_add1, hge]
     have fin : ∀ o n, escL (s.drop (i + 1)) = (o, n) → i + 1 + n ≤ s.length → litF 0 d (s.drop (i + 1 + n)) (b ++ o.toList) (i + 1 + n) = R := fun o n he hn => by
      rw [he] at hF
      simp only at hF
      rw [litF_skip n (by rw [List.length_drop]; omega), List.drop_drop] at hF
      exact hF
     have e2 : ((i + 2 : Nat) : Int) = (i : Int) + 1 + 1 := by omega
     have e3 : ((i + 3 : Nat) : Int) = (i : Int) + 1 + 1 + 1 := by omega
     have e4 : ((i + 4 : Nat) : Int) = (i : Int) + 1 + 1 + 1 + 1 := by omega
     rw [drop_at hge] at fin
     simp (maxSteps := 2000000) (disch := omega) only [go_sem, ↓reduceIte, g1]
     refine ⟨fun q1 => ?_, fun q1 => ⟨fun q2 => ?_, fun q2 => ⟨fun q3 => ?_, fun q3 => ⟨fun q4 => ?_, fun q4 => ⟨fun q5 => ?_, fun q5 => ⟨fun q6 => ?_, fun q6 => ⟨fun q7 => ?_, fun q7 => ?_⟩⟩⟩⟩⟩⟩⟩
     ·have z : bytesD b ++ [D.int IntKind.u8 10] = bytesD (b ++ [10]) := by rw [bytesD_append]; rfl
      have f := fin (some 10) 1 (by rw [escL]; simp [(by omega : e.toNat = 110)]) (by omega)
      refine ⟨by omega, (i + 2, d, b ++ [10]), ?_, ⟨by simp only; omega, by simp only [List.length_append, List.length_cons, List.length_nil]; omega, hd1, by simp only; omega, f⟩, by simp only; omega⟩
      refine weak_mk ?_ trivial
      simp (maxSteps := 2000000) only [go_sem, ↓reduceIte, Sub, Int.natCast_add, Int.natCast_mul, z, e2]
     ·have z : bytesD b ++ [D.int IntKind.u8 13] = bytesD (b ++ [13]) := by rw [bytesD_append]; rfl
      have f := fin (some 13) 1 (by rw [escL]; simp [(by omega : e.toNat = 114)]) (by omega)
      refine ⟨by omega, (i + 2, d, b ++ [13]), ?_, ⟨by simp only; omega, by simp only [List.length_append, List.length_cons, List.length_nil]; omega, hd1, by simp only; omega, f⟩, by simp only; omega⟩
      refine weak_mk ?_ trivial
      simp (maxSteps := 2000000) only [go_sem, ↓reduceIte, Sub, Int.natCast_add, Int.natCast_mul, z, e2]
     ·have z : bytesD b ++ [D.int IntKind.u8 9] = bytesD (b ++ [9]) := by rw [bytesD_append]; rfl
      have f := fin (some 9) 1 (by rw [escL]; simp [(by omega : e.toNat = 116)]) (by omega)
      refine ⟨by omega, (i + 2, d, b ++ [9]), ?_, ⟨by simp only; omega, by simp only [List.length_append, List.length_cons, List.length_nil]; omega, hd1, by simp only; omega, f⟩, by simp only; omega⟩
      refine weak_mk ?_ trivial
      simp (maxSteps := 2000000) only [go_sem, ↓reduceIte, Sub, Int.natCast_add, Int.natCast_mul, z, e2]
     ·have z : bytesD b ++ [D.int IntKind.u8 8] = bytesD (b ++ [8]) := by rw [bytesD_append]; rfl
      have f := fin (some 8) 1 (by rw [escL]; simp [(by omega : e.toNat = 98)]) (by omega)
      refine ⟨by omega, (i + 2, d, b ++ [8]), ?_, ⟨by simp only; omega, by simp only [List.length_append, List.length_cons, List.length_nil]; omega, hd1, by simp only; omega, f⟩, by simp only; omega⟩
      refine weak_mk ?_ trivial
      simp (maxSteps := 2000000) only [go_sem, ↓reduceIte, Sub, Int.natCast_add, Int.natCast_mul, z, e2]
     ·have z : bytesD b ++ [D.int IntKind.u8 12] = bytesD (b ++ [12]) := by rw [bytesD_append]; rfl
      have f := fin (some 12) 1 (by rw [escL]; simp [(by omega : e.toNat = 102)]) (by omega)
      refine ⟨by omega, (i + 2, d, b ++ [12]), ?_, ⟨by simp only; omega, by simp only [List.length_append, List.length_cons, List.length_nil]; omega, hd1, by simp only; omega, f⟩, by simp only; omega⟩
      refine weak_mk ?_ trivial
      simp (maxSteps := 2000000) only [go_sem, ↓reduceIte, Sub, Int.natCast_add, Int.natCast_mul, z, e2]
     ·have f := fin none 1 (by rw [escL]; simp [(by omega : e.toNat = 10)]) (by omega)
      refine ⟨(i + 2, d, b), ?_, ⟨by simp only; omega, by simp only; omega, hd1, by simp only; omega, by simpa using f⟩, by simp only; omega⟩
      refine weak_mk ?_ trivial
      simp (maxSteps := 2000000) only [go_sem, ↓reduceIte, Sub, Int.natCast_add, Int.natCast_mul, e2]
     ·have esc : ∀ n, (if (s.drop (i + 1 + 1)).head?.map UInt8.toNat = some 10 then ((none : Option UInt8), 2) else (none, 1)) = (none, n) → i + 1 + n ≤ s.length → litF 0 d (s.drop (i + 1 + n)) b (i + 1 + n) = R := fun n hn hl => by
       have := fin none n (by rw [escL]; simp only [(by omega : e.toNat = 13)]; exact hn) hl
       simpa using this
      refine ⟨fun q8 => ?_, fun q8 => ?_⟩
      ·obtain ⟨x, hx⟩ := get_some (l := s) (i := i + 2) (by omega)
       have hx8 := u8_lt x
       have g2 : getI s ((i : Int) + 1 + 1) = some x := by rw [show (i : Int) + 1 + 1 = ((i + 2 : Nat) : Int) by omega, getI_nat, hx]
       have hh : (s.drop (i + 1 + 1)).head? = some x := by rw [drop_at hx]; rfl
       simp (maxSteps := 2000000) (disch := omega) only [go_sem, ↓reduceIte, g2]
       refine ⟨fun q9 => ?_, fun q9 => ?_⟩
       ·have f := esc 2 (by rw [hh]; simp; omega) (by omega)
        refine ⟨(i + 3, d, b), ?_, ⟨by simp only; omega, by simp only; omega, hd1, by simp only; omega, f⟩, by simp only; omega⟩
        have zz : decide ((x.toNat : Int) = 10) = true := by simpa using q9
        refine weak_mk ?_ trivial
        simp (maxSteps := 2000000) only [go_sem, ↓reduceIte, Sub, Int.natCast_add, Int.natCast_mul, e3, zz]
       ·have f := esc 1 (by rw [hh]; simp; omega) (by omega)
        refine ⟨(i + 2, d, b), ?_, ⟨by simp only; omega, by simp only; omega, hd1, by simp only; omega, f⟩, by simp only; omega⟩
        have zz : decide ((x.toNat : Int) = 10) = false := by simpa using q9
        refine weak_mk ?_ trivial
        simp (maxSteps := 2000000) only [go_sem, ↓reduceIte, Sub, Int.natCast_add, Int.natCast_mul, e2, zz]
      ·have hh : (s.drop (i + 1 + 1)).head? = none := by rw [List.drop_eq_nil_of_le (by omega)]; rfl
       have f := esc 1 (by rw [hh]; simp) (by omega)
       refine ⟨(i + 2, d, b), ?_, ⟨by simp only; omega, by simp only; omega, hd1, by simp only; omega, f⟩, by simp only; omega⟩
       refine weak_mk ?_ trivial
       simp (maxSteps := 2000000) only [go_sem, ↓reduceIte, Sub, Int.natCast_add, Int.natCast_mul, e2]
     ·have esc : ∀ o n, (if octB e = false then (some e, 1) else octL e (s.drop (i + 1 + 1))) = (o, n) → i + 1 + n ≤ s.length → litF 0 d (s.drop (i + 1 + n)) (b ++ o.toList) (i + 1 + n) = R := fun o n hn hl => by
       refine fin o n ?_ hl
       rw [escL, if_neg (by omega), if_neg (by omega), if_neg (by omega), if_neg (by omega), if_neg (by omega), if_neg (by omega), if_neg (by omega)]
       exact hn
      have other : octB e = false → litF 0 d (s.drop (i + 2)) (b ++ [e]) (i + 2) = R := fun h => esc (some e) 1 (by rw [if_pos h]) (by omega)
      refine ⟨fun q8 => ⟨fun q9 => ?_, fun q9 => ?_⟩, fun q8 => ?_⟩
      ·have ho : octB e = true := by simp [octB]; omega
       have oct : ∀ v n, octG 2 (oct1 e) (s.drop (i + 2)) 1 = (v, n) → i + 1 + n ≤ s.length → litF 0 d (s.drop (i + 1 + n)) (b ++ [byteI v]) (i + 1 + n) = R := fun v n hn hl =>
        esc (some (byteI v)) n (by rw [if_neg (by simp [ho]), octL, hn]) hl
       refine run_loop (fun y : Nat × Int => ⟨[(0, .d (.str s)), (1, .d (.int .i64 ((i + 1 + y.1 : Nat) : Int))), (7, .own (.t 7) 5 1 (bytesD b)), (8, .d (.int .i64 d)), (11, .d (.int .i64 y.2)), (12, .d (.int .i64 y.1))], [], []⟩)
        (fun y => y.1 ≤ 2 ∧ i + 1 + y.1 < s.length ∧ 0 ≤ y.2 ∧ y.2 ≤ 511 ∧ (y.1 = 0 → y.2 ≤ 7) ∧ (y.1 = 1 → y.2 ≤ 63) ∧ octG (2 - y.1) y.2 (s.drop (i + 2 + y.1)) (1 + y.1) = octG 2 (oct1 e) (s.drop (i + 2)) 1) (fun y => 2 - y.1) (0, oct1 e) ?_ ?_ ?_
       ·refine weak_mk ?_ trivial
        simp (maxSteps := 2000000) only [go_sem, ↓reduceIte, Sub, Int.natCast_add, Int.natCast_mul, oct1, Int.add_zero]
       ·exact ⟨by simp, by simp only; omega, by simp only [oct1]; omega, by simp only [oct1]; omega, by simp only [oct1]; omega, by simp, rfl⟩
       ·rintro ⟨j, v⟩ ⟨hj, hjl, hv0, hv1, hv2, hv3, hG⟩
        simp only at hj hjl hv0 hv1 hv2 hv3 hG
        have stop : (∀ x q, s.drop (i + 2 + j) = x :: q → octB x = false) → litF 0 d (s.drop (i + 2 + j)) (b ++ [byteI v]) (i + 2 + j) = R := fun h => by
         rw [octG_stop h] at hG
         have := oct v (1 + j) hG.symm (by omega)
         rwa [show i + 1 + (1 + j) = i + 2 + j by omega] at this
        have hmod : Int.tmod v 256 = ((v.toNat % 256 : Nat) : Int) := by rw [← tmodN]; congr 1; omega
        have hby : byteI (Int.tmod v 256) = byteI v := by
         apply UInt8.toNat_inj.1
         have h1 := byteI_toNat (n := Int.tmod v 256) (by omega)
         have h2 := byteI_toNat (n := v) hv0
         omega
        have hsn := bytesD_snocI (b := b) (n := Int.tmod v 256) (by omega) (by omega)
        rw [hby] at hsn
        have ej : ((i + 1 + j : Nat) : Int) + 1 = ((i + 2 + j : Nat) : Int) := by omega
        simp (maxSteps := 2000000) (disch := omega) only [go_sem, ↓reduceIte, ej]
        refine ⟨fun c1 => ⟨fun c2 => ?_, fun c2 => ?_⟩, fun c1 => ?_⟩
        ·obtain ⟨x, hx⟩ := get_some (l := s) (i := i + 2 + j) (by omega)
         have hx8 := u8_lt x
         have gx : getI s (((i + 1 + j : Nat) : Int) + 1) = some x := by rw [ej, getI_nat, hx]
         have stop2 : octB x = false → litF 0 d (s.drop (i + 2 + j)) (b ++ [byteI v]) (i + 2 + j) = R := fun h => stop fun x' q h' => by
          rw [drop_at hx] at h'; cases h'; exact h
         simp (maxSteps := 2000000) (disch := omega) only [go_sem, ↓reduceIte, getI_nat, hx]
         refine ⟨fun c3 => ?_, fun c3 => ?_⟩
         ·simp (maxSteps := 2000000) (disch := omega) only [go_sem, ↓reduceIte, gx]
          refine ⟨fun c4 => ?_, fun c4 => ?_⟩
          ·have ox : octB x = true := by simp [octB]; omega
           rw [drop_at hx, show 2 - j = (2 - (j + 1)) + 1 by omega, octG, if_pos ox] at hG
           refine ⟨(j + 1, 8 * v + oct1 x), ?_, ⟨by simp only; omega, by simp only; omega, by simp only [oct1]; omega, by simp only [oct1]; omega, by simp only; omega, by simp only [oct1]; omega, ?_⟩, by simp only; omega⟩
           ·have zz : decide ((x.toNat : Int) ≤ 55) = true := by simpa using c4
            have e5 : ((i + 1 + (j + 1) : Nat) : Int) = ((i + 1 + j : Nat) : Int) + 1 := by omega
            refine weak_mk ?_ trivial
            simp (maxSteps := 2000000) only [go_sem, ↓reduceIte, Sub, Int.natCast_add, Int.natCast_mul, oct1, e5, zz]
            all_goals ((repeat' apply And.intro) <;> (congr 2 <;> omega))
           ·simp only
            rw [← hG]
            congr 1
          ·have f := stop2 (by simp [octB]; omega)
           simp (maxSteps := 2000000) (disch := omega) only [go_sem, ↓reduceIte, hsn]
           refine ⟨by omega, (i + 2 + j, d, b ++ [byteI v]), ?_, ⟨by simp only; omega, by simp only [List.length_append, List.length_cons, List.length_nil]; omega, hd1, by simp only; omega, f⟩, by simp only; omega⟩
           refine weak_mk ?_ trivial
           simp (maxSteps := 2000000) only [go_sem, ↓reduceIte, Sub, Int.natCast_add, Int.natCast_mul]
           all_goals ((repeat' apply And.intro) <;> (congr 2 <;> omega))
         ·have f := stop2 (by simp [octB]; omega)
          simp (maxSteps := 2000000) (disch := omega) only [go_sem, ↓reduceIte, hsn]
          refine ⟨by omega, (i + 2 + j, d, b ++ [byteI v]), ?_, ⟨by simp only; omega, by simp only [List.length_append, List.length_cons, List.length_nil]; omega, hd1, by simp only; omega, f⟩, by simp only; omega⟩
          refine weak_mk ?_ trivial
          simp (maxSteps := 2000000) only [go_sem, ↓reduceIte, Sub, Int.natCast_add, Int.natCast_mul]
          all_goals ((repeat' apply And.intro) <;> (congr 2 <;> omega))
        ·have f := stop (fun x q h => by rw [List.drop_eq_nil_of_le (by omega)] at h; cases h)
         simp (maxSteps := 2000000) (disch := omega) only [go_sem, ↓reduceIte, hsn]
         refine ⟨by omega, (i + 2 + j, d, b ++ [byteI v]), ?_, ⟨by simp only; omega, by simp only [List.length_append, List.length_cons, List.length_nil]; omega, hd1, by simp only; omega, f⟩, by simp only; omega⟩
         refine weak_mk ?_ trivial
         simp (maxSteps := 2000000) only [go_sem, ↓reduceIte, Sub, Int.natCast_add, Int.natCast_mul]
         all_goals ((repeat' apply And.intro) <;> (congr 2 <;> omega))
        ·have f : litF 0 d (s.drop (i + 2 + j)) (b ++ [byteI v]) (i + 2 + j) = R := by
          have hj2 : j = 2 := by omega
          subst hj2
          rw [show 2 - 2 = 0 from rfl, octG] at hG
          have := oct v (1 + 2) hG.symm (by omega)
          rwa [show i + 1 + (1 + 2) = i + 2 + 2 by omega] at this
         simp (maxSteps := 2000000) (disch := omega) only [go_sem, ↓reduceIte, hsn]
         refine ⟨by omega, (i + 2 + j, d, b ++ [byteI v]), ?_, ⟨by simp only; omega, by simp only [List.length_append, List.length_cons, List.length_nil]; omega, hd1, by simp only; omega, f⟩, by simp only; omega⟩
         refine weak_mk ?_ trivial
         simp (maxSteps := 2000000) only [go_sem, ↓reduceIte, Sub, Int.natCast_add, Int.natCast_mul]
         all_goals ((repeat' apply And.intro) <;> (congr 2 <;> omega))
      ·have f := other (by simp [octB]; omega)
       refine ⟨by omega, (i + 2, d, b ++ [e]), ?_, ⟨by simp only; omega, by simp only [List.length_append, List.length_cons, List.length_nil]; omega, hd1, by simp only; omega, f⟩, by simp only; omega⟩
       have zz : decide ((e.toNat : Int) ≤ 55) = false := by simpa using q9
       refine weak_mk ?_ trivial
       simp (maxSteps := 2000000) only [go_sem, ↓reduceIte, Sub, Int.natCast_add, Int.natCast_mul, bytesD_append, bytesD_cons, bytesD_nil, e2, zz]
      ·have f := other (by simp [octB]; omega)
       refine ⟨by omega, (i + 2, d, b ++ [e]), ?_, ⟨by simp only; omega, by simp only [List.length_append, List.length_cons, List.length_nil]; omega, hd1, by simp only; omega, f⟩, by simp only; omega⟩
       have zz : decide (48 ≤ (e.toNat : Int)) = false := by simpa using q8
       refine weak_mk ?_ trivial
       simp (maxSteps := 2000000) only [go_sem, ↓reduceIte, Sub, Int.natCast_add, Int.natCast_mul, bytesD_append, bytesD_cons, bytesD_nil, e2, zz]
   ·rw [if_neg h92] at hF
    have z3 : ((c.toNat : Int) = 92) = False := eq_false (by omega)
    simp (maxSteps := 2000000) (disch := omega) only [go_sem, ↓reduceIte, getI_nat, hc, z3]
    refine ⟨fun h41 => ⟨fun hd0 => ?_, fun hd0 => ?_⟩, fun h41 => ⟨fun h40 => ?_, fun h40 => ?_⟩⟩
    ·rw [if_pos (by omega), if_pos (by omega)] at hF
     subst hF
     simp (maxSteps := 2000000) (disch := omega) only [go_sem, ↓reduceIte, bytesOf_bytesD]
     simp only [litRes, Int.natCast_add, Int.natCast_one]
    ·rw [if_pos (by omega), if_neg (by omega)] at hF
     have z2 : ((c.toNat : Int) = 40) = False := eq_false (by omega)
     simp (maxSteps := 2000000) (disch := omega) only [go_sem, ↓reduceIte, z2]
     refine ⟨by omega, (i + 1, d - 1, b ++ [c]), ?_, ⟨by simp only; omega, by simp only [List.length_append, List.length_cons, List.length_nil]; omega, by simp only; omega, by simp only; omega, hF⟩, by simp only; omega⟩
     refine weak_mk ?_ trivial
     simp (maxSteps := 2000000) only [go_sem, ↓reduceIte, Sub, Int.natCast_add, Int.natCast_mul, bytesD_append, bytesD_cons, bytesD_nil]
     all_goals ((repeat' apply And.intro) <;> (congr 2 <;> omega))
    ·rw [if_neg (by omega), if_pos (by omega)] at hF
     refine ⟨by omega, (i + 1, d + 1, b ++ [c]), ?_, ⟨by simp only; omega, by simp only [List.length_append, List.length_cons, List.length_nil]; omega, by simp only; omega, by simp only; omega, hF⟩, by simp only; omega⟩
     refine weak_mk ?_ trivial
     simp (maxSteps := 2000000) only [go_sem, ↓reduceIte, Sub, Int.natCast_add, Int.natCast_mul, bytesD_append, bytesD_cons, bytesD_nil]
     all_goals ((repeat' apply And.intro) <;> (congr 2 <;> omega))
    ·rw [if_neg (by omega), if_neg (by omega)] at hF
     refine ⟨by omega, (i + 1, d, b ++ [c]), ?_, ⟨by simp only; omega, by simp only [List.length_append, List.length_cons, List.length_nil]; omega, by simp only; omega, by simp only; omega, hF⟩, by simp only; omega⟩
     refine weak_mk ?_ trivial
     simp (maxSteps := 2000000) only [go_sem, ↓reduceIte, Sub, Int.natCast_add, Int.natCast_mul, bytesD_append, bytesD_cons, bytesD_nil]
     all_goals ((repeat' apply And.intro) <;> (congr 2 <;> omega))
  ·rw [List.drop_eq_nil_of_le (by omega), litF] at hF
   exact bad hF.symm
def refRes (o : Option (Nat × Nat)) : Res := match o with
 | none => .tup [.int .i64 0, .int .i64 0]
 | some (n, k) => .tup [.int .i64 n, .int .i64 k]
def L_foliowrightref_readRef : LCode :=
 .seq (.reg [Qx 6 (Ki 0), Qx 7 (Ki 0)]) (.seq (.reg [Qx 8 (Ki 0)]) (.seq (.seq (.reg [Qc 11 1, Q 12 (.len true (.t 11)), Q 13 (.bin .lss (.t 12) (Ki 1)), Qc 14 13, Qd 15 1 14 false, 
 Qg 16 (.len true (.t 15)) 14 false, Qg 17 (.bin .gtr (.t 16) (Ki 2)) 14 false, Q 18 (.pick (.t 14) KT (.t 17)), Qc 19 18, Qd 20 1 19 false, Qg 21 (.idxS (.t 20) (Ki 0)) 19 false, 
 Qg 22 (.bin .eql (.t 21) (Kb 48)) 19 false, Q 23 (.pick (.t 19) KT (.t 22))]) (.cond (.t 23) (.seq (.reg [Qx 6 (Ki 0), Qx 7 (Ki 0)]) .ret) .skip)) (.seq (.seq (.reg [Qx 9 (Ki 
 0)]) (.block 0 (.loop (.seq (.seq (.reg [Qc 24 9, Qc 25 1, Q 26 (.len true (.t 25)), Q 27 (.bin .lss (.t 24) (.t 26))]) (.cond (.t 27) .skip (.exit 0))) (.seq (.block 1 (.seq 
 (.seq (.reg [Qc 30 1, Qc 31 9, Q 32 (.idxS (.t 30) (.t 31)), Q 33 (.bin .lss (.t 32) (Kb 48)), Qc 34 33, Qd 35 1 34 false, Qd 36 9 34 false, Qg 37 (.idxS (.t 35) (.t 36)) 34 
 false, Qg 38 (.bin .gtr (.t 37) (Kb 57)) 34 false, Q 39 (.pick (.t 34) KT (.t 38))]) (.cond (.t 39) (.seq (.reg [Qx 6 (Ki 0), Qx 7 (Ki 0)]) .ret) .skip)) (.reg [Qc 40 8, Q 41 
 (.bin .mul (Ki 10) (.t 40)), Qc 42 1, Qc 43 9, Q 44 (.idxS (.t 42) (.t 43)), Q 45 (.bin .sub (.t 44) (Kb 48)), Q 46 (.cvI .i64 (.t 45)), Q 47 (.bin .add (.t 41) (.t 46)), Qa 8 
 47]))) (.reg [Qc 28 9, Q 29 (.bin .add (.t 28) (Ki 1)), Qa 9 29])))))) (.seq (.reg [Qc 48 0, Qc 49 2, ⟨some 50, .call 21 [.t 48, .t 49], none⟩, Qa 10 50]) (.seq (.seq (.reg [Qc 
 51 8, Q 52 (.bin .gtr (.t 51) (Ki 60)), Qc 53 52, Qd 54 0 53 false, Qd 55 10 53 false, ⟨some 56, .call 22 [.t 54, .t 55], some (53, false)⟩, Qg 57 (.bin .neq (.t 56) (.k (.d 
 (.str [48])))) 53 false, Q 58 (.pick (.t 53) KT (.t 57))]) (.cond (.t 58) (.seq (.reg [Qx 6 (Ki 0), Qx 7 (Ki 0)]) .ret) .skip)) (.seq (.reg [Qc 59 0, Qc 60 10, Q 61 (.bin .add 
 (.t 60) (Ki 1)), ⟨some 62, .call 21 [.t 59, .t 61], none⟩, Qa 10 62]) (.seq (.seq (.reg [Qc 63 0, Qc 64 10, ⟨some 65, .call 22 [.t 63, .t 64], none⟩, Q 66 (.bin .neq (.t 65) (.k 
 (.d (.str [82]))))]) (.cond (.t 66) (.seq (.reg [Qx 6 (Ki 0), Qx 7 (Ki 0)]) .ret) .skip)) (.seq (.reg [Qc 67 8, Qc 68 10, Q 69 (.bin .add (.t 68) (Ki 1)), Qa 6 67, Qa 7 69]) 
 .ret))))))))
def R_foliowrightref_readRef : List LRes := [.tmp 6, .tmp 7]
theorem lift_foliowrightref_readRef : Lifts Tryz.prog 71 70 L_foliowrightref_readRef R_foliowrightref_readRef := ⟨_, _, Tryz.func71, rfl, by kernel_rfl, by kernel_rfl, rfl⟩
theorem readRef_call (s : List UInt8) (k : Nat) (hs : s.length ≤ 1000000000) (hk : k ≤ s.length) : PCall Tryz.prog 71 [.str s, .str (wordP s k), .int .i64 ((k + (wordP s k).length : Nat) : Int)] (fun r => r = refRes (refAt s k)) := by
 refine lift_foliowrightref_readRef.call rfl ?_
 have hwl := wordP_len s k
 generalize hR : refAt s k = R
 unfold refAt at hR
 generalize wordP s k = w at *
 have bad : R = none → Res.tup [D.int .i64 0, D.int .i64 0] = refRes R := fun e => by rw [e]; rfl
 simp (maxSteps := 2000000) (disch := omega) only [go_sem, ↓reduceIte, L_foliowrightref_readRef, R_foliowrightref_readRef]
 have none_ : objF w = none → R = none := fun e => by rw [e] at hR; exact hR.symm
 refine ⟨fun h1 => ⟨fun h2 => ?_, fun h2 => bad (none_ (by rw [objF, if_pos (by omega)]))⟩, fun h1 => bad (none_ (by rw [objF, if_pos (by omega)]))⟩
 obtain ⟨c0, hc0⟩ := get_some (l := w) (i := 0) (by omega)
 have g0 : getI w 0 = some c0 := by rw [← hc0]; exact getI_nat w 0
 have hd0 : w.head? = some c0 := by rw [← hc0]; cases w <;> rfl
 simp (maxSteps := 2000000) only [go_sem, ↓reduceIte, g0]
 refine ⟨fun h3 => bad (none_ (by rw [objF, if_pos (.inr (.inr (by rw [hd0]; simp; omega)))])), fun h3 => ?_⟩
 have ho : objF w = match digF w 0 with
  | none => none
  | some n => if n ≤ 60 then some n else none := by rw [objF, if_neg (by rw [hd0]; simp only [Option.map_some, Option.some.injEq]; omega)]; rfl
 refine run_loop (fun y : Nat × Nat => ⟨[(0, .d (.str s)), (1, .d (.str w)), (2, .d (.int .i64 ((k + w.length : Nat) : Int))), (8, .d (.int .i64 y.2)), (9, .d (.int .i64 y.1))], [], []⟩)
  (fun y => y.1 ≤ w.length ∧ (y.1 = 0 → y.2 = 0) ∧ (y.1 = 1 → y.2 ≤ 9) ∧ y.2 ≤ 99 ∧ digF (w.drop y.1) y.2 = digF w 0) (fun y => w.length - y.1) (0, 0) ?_ ?_ ?_
 ·refine weak_mk ?_ trivial
  simp (maxSteps := 2000000) only [go_sem, ↓reduceIte, Sub, Int.natCast_add, Int.natCast_mul]
 ·exact ⟨by simp, by simp, by simp, by simp, rfl⟩
 ·rintro ⟨i, n⟩ ⟨hi, hn0, hn1, hn2, hF⟩
  simp only at hi hn0 hn1 hn2 hF
  simp (maxSteps := 2000000) only [go_sem, ↓reduceIte]
  refine ⟨fun hlt => ?_, fun hge => ?_⟩
  ·obtain ⟨c, hc⟩ := get_some (l := w) (i := i) (by omega)
   have hc8 := u8_lt c
   rw [drop_at hc, digF] at hF
   have nodig : (c.toNat < 48 ∨ 57 < c.toNat) → R = none := fun h => by
    rw [if_pos h] at hF
    exact none_ (by rw [ho, ← hF])
   simp (maxSteps := 2000000) only [go_sem, ↓reduceIte, getI_nat, hc]
   refine ⟨fun h4 => ?_, fun h4 => bad (nodig (by omega))⟩
   refine ⟨fun h5 => bad (nodig (by omega)), fun h5 => ?_⟩
   simp (maxSteps := 2000000) (disch := omega) only [go_sem, ↓reduceIte, getI_nat, hc]
   rw [if_neg (by omega)] at hF
   refine ⟨(i + 1, 10 * n + (c.toNat - 48)), ?_, ⟨by simp only; omega, by simp only; omega, by simp only; omega, by simp only; omega, hF⟩, by simp only; omega⟩
   have zz : decide (57 < (c.toNat : Int)) = false := by simpa using h5
   refine weak_mk ?_ trivial
   simp (maxSteps := 2000000) only [go_sem, ↓reduceIte, Sub, Int.natCast_add, Int.natCast_mul, zz]
   all_goals ((repeat' apply And.intro) <;> (congr 2 <;> omega))
  ·rw [List.drop_eq_nil_of_le (by omega), digF] at hF
   have hw1 := skipR_call s ((k + w.length : Nat) : Int) hs
   rw [clamp_in (by omega)] at hw1
   refine CallG.of hw1 ?_
   have hi1 := skipP_le (s := s) (k := k + w.length) (by omega)
   generalize skipP s (k + w.length) = q at *
   simp (maxSteps := 2000000) only [go_sem, ↓reduceIte]
   refine ⟨fun h4 => ?_, fun h4 => bad (none_ (by rw [ho, ← hF]; simp only; rw [if_neg (by omega)]))⟩
   have hob : objF w = some n := by rw [ho, ← hF]; simp only; rw [if_pos (by omega)]
   rw [hob] at hR
   simp only at hR
   have hw2 := wordR_call s ((q : Nat) : Int) hs
   rw [clamp_in (by omega)] at hw2
   refine CallG.of hw2 ?_
   simp (maxSteps := 2000000) only [go_sem, ↓reduceIte]
   refine ⟨fun h5 => bad (by rw [← hR, if_neg h5]), fun h5 => ?_⟩
   rw [if_pos h5] at hR
   have hql : q < s.length := by
    rcases Nat.lt_or_ge q s.length with h | h
    ·exact h
    ·unfold wordP at h5; rw [List.drop_eq_nil_of_le h] at h5; cases h5
   have hw3 := skipR_call s ((q : Int) + 1) hs
   rw [show (q : Int) + 1 = ((q + 1 : Nat) : Int) by omega, clamp_in (by omega)] at hw3
   have hj1 := skipP_le (s := s) (k := q + 1) (by omega)
   generalize skipP s (q + 1) = j at *
   rw [IntWalk.i64_in _ (by omega)]
   refine CallG.of hw3 ?_
   have hw4 := wordR_call s ((j : Nat) : Int) hs
   rw [clamp_in (by omega)] at hw4
   simp (maxSteps := 2000000) only [go_sem, ↓reduceIte]
   refine CallG.of hw4 ?_
   simp (maxSteps := 2000000) only [go_sem, ↓reduceIte]
   refine ⟨fun h6 => bad (by rw [← hR, if_neg h6]), fun h6 => ?_⟩
   rw [if_pos h6] at hR
   simp (disch := omega) only [IntWalk.i64_in, IntWalk.u8_in]
   rw [← hR]
   simp only [refRes, Int.natCast_add, Int.natCast_one]
theorem srt_tail {y : Fld} {r : List Fld} (h : srt (y :: r)) : srt r ∧ ∀ z ∈ r, Op.bytesLess y.name z.name = true :=
 ⟨fun i j a b hij ha hb => h (i + 1) (j + 1) a b (by omega) (by simpa using ha) (by simpa using hb), fun z hz => by
  obtain ⟨i, hi⟩ := List.getElem?_of_mem hz
  exact h 0 (i + 1) y z (by omega) rfl (by simpa using hi)⟩
theorem refSet_laid {nm : List UInt8} {x : Val} : ∀ {l : List Fld}, (∀ z ∈ l, z.name ≠ nm) → refSet nm x true l = l
 | [], _ => by simp [refSet]
 | y :: r, h => by
  have h1 := h y (by simp)
  simp [refSet, h1, refSet_laid (l := r) fun z hz => h z (by simp [hz])]
theorem leqB_not (a b : List UInt8) : leqB a b = !Op.bytesLess b a := bytesLeq_not a b
theorem refSet_eq {nm : List UInt8} {x : Val} : ∀ {l : List Fld}, srt l → refSet nm x false l = setF nm x l
 | [], _ => by simp [refSet, setF, hasV_nil, posV_nil]
 | y :: r, h => by
  obtain ⟨h1, h2⟩ := srt_tail h
  have hq := leqB_not nm y.name
  cases hl : Op.bytesLess y.name nm with
  | true =>
   rw [hl] at hq
   have hne : y.name ≠ nm := fun e => by rw [e, less_irr] at hl; cases hl
   have ih := refSet_eq (nm := nm) (x := x) h1
   have hp : posV nm (y :: r) = posV nm r + 1 := by simp [posV, hl]
   have hh : hasV nm (y :: r) = hasV nm r := by simp [hasV, hp]
   simp only [refSet, hq, Bool.not_true, Bool.and_false, Bool.false_or, if_neg hne, Bool.false_eq_true, if_false, List.nil_append, List.cons_append, ih]
   simp only [setF, hh, hp]
   split <;> simp
  | false =>
   rw [hl] at hq
   have hp : posV nm (y :: r) = 0 := by simp [posV, hl]
   by_cases he : y.name = nm
   ·have hl2 := refSet_laid (nm := nm) (x := x) (l := r) fun z hz e => by
     have := h2 z hz
     rw [e, he, less_irr] at this; cases this
    have hh : hasV nm (y :: r) = true := by simp [hasV, hp, he]
    rw [he] at hq
    simp [refSet, hq, he, hl2, setF, hh, hp]
   ·have hlt : Op.bytesLess nm y.name = true := by
     have := hq
     simp only [leqB, Bool.not_false, Bool.or_eq_true, decide_eq_true_eq] at this
     rcases this with h | h
     ·exact h
     ·exact absurd h.symm he
    have hl2 := refSet_laid (nm := nm) (x := x) (l := r) fun z hz e => by
     have := less_trans hlt (h2 z hz)
     rw [e, less_irr] at this; cases this
    have hh : hasV nm (y :: r) = false := by simp [hasV, hp, he]
    simp [refSet, hq, he, hl2, setF, hh, hp]
theorem alikeV_refl (a : Val) : alikeV a a = true := (alikeV_iff a a).2 rfl
theorem setF_mem {nm : List UInt8} {x : Val} {f : List Fld} {y : Fld} (h : y ∈ setF nm x f) : y = .mk nm x ∨ y ∈ f := by
 unfold setF at h
 split at h
 ·rcases List.mem_or_eq_of_mem_set h with h | h
  ·exact .inr h
  ·exact .inl h
 ·rcases List.mem_append.1 h with h | h
  ·exact .inr (List.mem_of_mem_take h)
  ·rcases List.mem_cons.1 h with h | h
   ·exact .inl h
   ·exact .inr (List.mem_of_mem_drop h)
/-! ### Fields put in, none of that name there -/
theorem getV_none {nm : List UInt8} : ∀ {l : List Fld}, (getV nm l).isSome = false → ∀ y ∈ l, y.name ≠ nm
 | [], _, y, hy => by simp at hy
 | x :: r, h, y, hy => by
  rw [getV] at h
  by_cases e : x.name = nm
  ·rw [if_pos e] at h; cases h
  ·rw [if_neg e] at h
   rcases List.mem_cons.1 hy with rfl | hy
   ·exact e
   ·exact getV_none h y hy
theorem hasV_none {nm : List UInt8} {l : List Fld} (h : ∀ y ∈ l, y.name ≠ nm) : hasV nm l = false := by
 unfold hasV
 cases hx : l[posV nm l]? with
 | none => rfl
 | some x => simpa using h x (List.mem_of_getElem? hx)
theorem setF_new {nm : List UInt8} {x : Val} {y : Fld} {r : List Fld} (h : ∀ z ∈ y :: r, z.name ≠ nm) :
  setF nm x (y :: r) = if Op.bytesLess y.name nm = true then y :: setF nm x r else .mk nm x :: y :: r := by
 have h1 := hasV_none h
 have h2 := hasV_none (l := r) fun z hz => h z (by simp [hz])
 simp only [setF, h1, h2, posV, Bool.false_eq_true, if_false]
 by_cases hl : Op.bytesLess y.name nm = true
 ·rw [if_pos hl, if_pos hl]; rfl
 ·rw [if_neg hl, if_neg hl]; rfl
theorem srt_cons {y : Fld} {r : List Fld} (h : srt r) (h2 : ∀ z ∈ r, Op.bytesLess y.name z.name = true) : srt (y :: r) := by
 intro i j a b hij ha hb
 cases j with
 | zero => omega
 | succ j =>
  simp only [List.getElem?_cons_succ] at hb
  cases i with
  | zero => simp only [List.getElem?_cons_zero, Option.some.injEq] at ha; subst ha; exact h2 b (List.mem_of_getElem? hb)
  | succ i => exact h i j a b (by omega) (by simpa using ha) hb
theorem srt_set {nm : List UInt8} {x : Val} : ∀ {l : List Fld}, srt l → (∀ z ∈ l, z.name ≠ nm) → srt (setF nm x l)
 | [], _, _ => by
  intro i j a b hij ha hb
  simp [setF, hasV, posV] at ha hb
  have := (List.getElem?_eq_some_iff.1 ha).1
  have := (List.getElem?_eq_some_iff.1 hb).1
  simp at *; omega
 | y :: r, hs, hn => by
  rw [setF_new hn]
  obtain ⟨h1, h2⟩ := srt_tail hs
  have hn' : ∀ z ∈ r, z.name ≠ nm := fun z hz => hn z (by simp [hz])
  by_cases hl : Op.bytesLess y.name nm = true
  ·rw [if_pos hl]
   refine srt_cons (srt_set h1 hn') fun z hz => ?_
   rcases setF_mem hz with rfl | hz
   ·exact hl
   ·exact h2 z hz
  ·rw [if_neg hl]
   have hlt : Op.bytesLess nm y.name = true := by
    have h3 := leqB_not nm y.name
    have h4 : Op.bytesLess y.name nm = false := by simpa using hl
    rw [h4] at h3
    simp only [leqB, Bool.not_false, Bool.or_eq_true, decide_eq_true_eq] at h3
    exact h3.resolve_right fun e => hn y (by simp) e.symm
   refine srt_cons hs fun z hz => ?_
   rcases List.mem_cons.1 hz with rfl | hz
   ·exact hlt
   ·exact less_trans hlt (h2 z hz)
theorem setF_pt {nm : List UInt8} {x : Val} : ∀ {l : List Fld}, (∀ z ∈ l, z.name ≠ nm) → (ptF (setF nm x l)).1 = (ptF l).1 + (ptV x).1 ∧ (setF nm x l).length = l.length + 1
 | [], _ => by simp [setF, hasV, posV, ptF]
 | y :: r, hn => by
  rw [setF_new hn]
  have ih := setF_pt (nm := nm) (x := x) (l := r) fun z hz => hn z (by simp [hz])
  split
  ·simp only [ptF_cons, List.length_cons]; omega
  ·rw [ptF_cons (.mk nm x)]
   simp only [List.length_cons, Fld.v]
   exact ⟨by omega, trivial⟩
theorem ptL_append : ∀ (a b : List Val), (ptL (a ++ b)).1 = (ptL a).1 + (ptL b).1
 | [], b => by simp [ptL]
 | v :: r, b => by simp only [List.cons_append, ptL, ptL_append r b]; omega
mutual
theorem Val.sm_mono {m m' : Nat} (h : m ≤ m') : ∀ v : Val, v.sm m = true → v.sm m' = true
 | .mk k n s l f, hv => by
  simp only [Val.sm, Bool.and_eq_true, decide_eq_true_eq] at hv ⊢
  exact ⟨by omega, by omega, by omega, smL_mono h l hv.2.2.2.1, smF_mono h f hv.2.2.2.2⟩
theorem smL_mono {m m' : Nat} (h : m ≤ m') : ∀ l : List Val, smL m l = true → smL m' l = true
 | [], _ => rfl
 | v :: r, hl => by
  simp only [smL, Bool.and_eq_true] at hl ⊢
  exact ⟨Val.sm_mono h v hl.1, smL_mono h r hl.2⟩
theorem smF_mono {m m' : Nat} (h : m ≤ m') : ∀ l : List Fld, smF m l = true → smF m' l = true
 | [], _ => rfl
 | .mk nm v :: r, hl => by
  simp only [smF, Fld.sm, Bool.and_eq_true, decide_eq_true_eq] at hl ⊢
  exact ⟨⟨by omega, Val.sm_mono h v hl.1.2⟩, smF_mono h r hl.2⟩
end
/-! ### Parts -/
theorem nameAt_good {s : List UInt8} {at_ k : Nat} {b : List UInt8} (ha : at_ < s.length) (h : nameAt s at_ = some (b, k)) : at_ < k ∧ k ≤ s.length ∧ b.length ≤ 200 ∧ nameMay b = true := by
 unfold nameAt at h
 have hw := wordP_len s (at_ + 1)
 split at h
 ·cases h
 ·rename_i b' hb
  split at h
  ·rename_i hm
   cases h
   refine ⟨by omega, by omega, ?_, hm⟩
   simp only [nameMay, Bool.and_eq_true, decide_eq_true_eq] at hm
   exact hm.2.1
  ·cases h
theorem gtEnd_le : ∀ t : List UInt8, gtEnd t ≤ t.length
 | [] => by simp [gtEnd]
 | c :: r => by unfold gtEnd; have := gtEnd_le r; split <;> simp <;> omega
theorem unhexF_code : ∀ (t : List UInt8) (h : Int) (b : List UInt8), (unhexF t h b).2 = 0 ∨ (unhexF t h b).2 = 4 ∨ (unhexF t h b).2 = 5
 | [], _, _ => by simp [unhexF]
 | c :: r, h, b => by
  unfold unhexF
  split
  ·simp
  ·split
   ·exact unhexF_code r _ _
   ·split
    ·simp
    ·split
     ·exact unhexF_code r _ _
     ·exact unhexF_code r _ _
theorem hexAt_good {s : List UInt8} {at_ : Nat} (ha : at_ ≤ s.length) : match hexAt s at_ with
  | .ok v k => at_ < k ∧ k ≤ s.length ∧ v.sm 300 = true ∧ (ptV v).1 = 1
  | .bad e => 1 ≤ e ∧ e ≤ 8 := by
 have hg := gtEnd_le (s.drop at_)
 rw [List.length_drop] at hg
 unfold hexAt
 have hc := unhexF_code (s.drop at_) (-1) []
 by_cases h0 : (unhexF (s.drop at_) (-1) []).2 = 0
 ·rw [if_pos h0]
  have hne : s.drop at_ ≠ [] := fun e => by rw [e] at h0; simp [unhexF] at h0
  have hpos : 1 ≤ gtEnd (s.drop at_) := by
   cases hd : s.drop at_ with
   | nil => exact absurd hd hne
   | cons c r => unfold gtEnd; split <;> omega
  split
  ·rename_i v k e
   split at e
   ·cases e
    rename_i hl
    refine ⟨by omega, by omega, Val.sm_iff.2 ⟨by simp only [strV, Val.s]; omega, by simp [strV, Val.l], by simp [strV, Val.f], by simp [strV, Val.l], by simp [strV, Val.f]⟩, by simp [strV, ptV, ptL, ptF]⟩
   ·cases e
  ·rename_i e' e
   split at e
   ·cases e
   ·cases e; omega
 ·rw [if_neg h0]
  simp only
  omega
theorem litF_end : ∀ (t : List UInt8) (k d : Nat) (b : List UInt8) (p : Nat) {q : List UInt8} {n : Nat}, litF k d t b p = some (q, n) → p < n ∧ n ≤ p + t.length
 | [], _, _, _, _, _, _, h => by simp [litF] at h
 | c :: r, 0, d, b, p, q, n, h => by
  unfold litF at h
  simp only [List.length_cons]
  split at h
  ·split at h
   ·cases h
   ·have := litF_end r _ _ _ _ h; omega
  ·split at h
   ·split at h
    ·cases h; omega
    ·have := litF_end r _ _ _ _ h; omega
   ·split at h
    ·have := litF_end r _ _ _ _ h; omega
    ·have := litF_end r _ _ _ _ h; omega
 | c :: r, k + 1, d, b, p, q, n, h => by
  unfold litF at h
  simp only [List.length_cons]
  have := litF_end r _ _ _ _ h; omega
theorem strV_good {b : List UInt8} (h : b.length ≤ 200) : (strV b).sm 300 = true ∧ (ptV (strV b)).1 = 1 :=
 ⟨Val.sm_iff.2 ⟨by simp only [strV, Val.s]; omega, by simp [strV, Val.l], by simp [strV, Val.f], by simp [strV, Val.l], by simp [strV, Val.f]⟩, by simp [strV, ptV, ptL, ptF]⟩
theorem litAt_good {s : List UInt8} {at_ : Nat} (ha : at_ ≤ s.length) : match litAt s at_ with
  | .ok v k => at_ < k ∧ k ≤ s.length ∧ v.sm 300 = true ∧ (ptV v).1 = 1
  | .bad e => 1 ≤ e ∧ e ≤ 8 := by
 unfold litAt
 cases h : litF 0 1 (s.drop at_) [] at_ with
 | none => simp
 | some p =>
  obtain ⟨b, k⟩ := p
  have := litF_end _ _ _ _ _ h
  rw [List.length_drop] at this
  simp only
  by_cases hb : b.length ≤ 200
  ·rw [if_pos hb]
   obtain ⟨h1, h2⟩ := strV_good hb
   exact ⟨by omega, by omega, h1, h2⟩
  ·rw [if_neg hb]; simp
theorem refAt_good {s : List UInt8} {at_ n k : Nat} (ha : at_ ≤ s.length) (h : refAt s at_ = some (n, k)) : at_ < k ∧ k ≤ s.length ∧ 1 ≤ n ∧ n ≤ 60 := by
 unfold refAt at h
 have hw := wordP_len s at_
 split at h
 ·cases h
 ·rename_i m hm
  have h1 := skipP_le (s := s) (k := at_ + (wordP s at_).length) (by omega)
  simp only at h
  split at h
  ·rename_i hq
   have hw2 := wordP_len s (skipP s (at_ + (wordP s at_).length))
   rw [hq] at hw2
   simp only [List.length_cons, List.length_nil] at hw2
   have h2 := skipP_le (s := s) (k := skipP s (at_ + (wordP s at_).length) + 1) (by omega)
   split at h
   ·rename_i hr
    have hw3 := wordP_len s (skipP s (skipP s (at_ + (wordP s at_).length) + 1))
    rw [hr] at hw3
    simp only [List.length_cons, List.length_nil] at hw3
    cases h
    have hb : 1 ≤ n ∧ n ≤ 60 := by
     unfold objF at hm
     split at hm
     ·cases hm
     ·rename_i hc
      generalize wordP s at_ = w at hm hc
      cases hd : digF w 0 with
      | none => rw [hd] at hm; cases hm
      | some z =>
       rw [hd] at hm
       simp only at hm
       split at hm
       ·rename_i hz
        cases hm
        refine ⟨?_, hz⟩
        cases w with
        | nil => simp at hc
        | cons a r =>
         have ha : a.toNat ≠ 48 := fun e => hc (.inr (.inr (by simp [e])))
         have mono : ∀ (t : List UInt8) (x y : Nat), digF t x = some y → x ≤ y := fun t => by
          induction t with
          | nil => intro x y e; simp only [digF, Option.some.injEq] at e; omega
          | cons c r ih =>
           intro x y e
           unfold digF at e
           split at e
           ·cases e
           ·have := ih _ _ e; omega
         unfold digF at hd
         split at hd
         ·cases hd
         ·have := mono _ _ _ hd; omega
       ·cases hm
    exact ⟨by omega, by omega, hb⟩
   ·cases h
  ·cases h
theorem parseF_code (w : List UInt8) : (parseF w).2 = 0 ∨ (parseF w).2 = 1 ∨ (parseF w).2 = 4 := by
 unfold parseF finP
 split
 ·simp
 ·split
  ·simp
  ·split <;> simp
theorem parseF_nil : (parseF []).2 = 4 := rfl
theorem wordV_good {s : List UInt8} {at_ : Nat} (ha : at_ ≤ s.length) : match wordV s at_ with
  | .ok v k => at_ < k ∧ k ≤ s.length ∧ v.sm 300 = true ∧ (ptV v).1 = 1
  | .bad e => 1 ≤ e ∧ e ≤ 8 := by
 have plain : ∀ (k n : Int), (Val.mk k n [] [] []).sm 300 = true ∧ (ptV (Val.mk k n [] [] [])).1 = 1 := fun k n => ⟨by simp [Val.sm, smL, smF], by simp [ptV, ptL, ptF]⟩
 have hw := wordP_len s at_
 unfold wordV
 by_cases h1 : wordP s at_ = [110, 117, 108, 108]
 ·rw [if_pos h1]
  rw [h1] at hw
  simp only [List.length_cons, List.length_nil] at hw
  exact ⟨by omega, by omega, plain 0 0⟩
 ·rw [if_neg h1]
  by_cases h2 : wordP s at_ = [116, 114, 117, 101]
  ·rw [if_pos h2]
   rw [h2] at hw
   simp only [List.length_cons, List.length_nil] at hw
   exact ⟨by omega, by omega, plain 1 1⟩
  ·rw [if_neg h2]
   by_cases h3 : wordP s at_ = [102, 97, 108, 115, 101]
   ·rw [if_pos h3]
    rw [h3] at hw
    simp only [List.length_cons, List.length_nil] at hw
    exact ⟨by omega, by omega, plain 1 0⟩
   ·rw [if_neg h3]
    cases hr : refAt s at_ with
    | some p =>
     obtain ⟨n, k⟩ := p
     have := refAt_good ha hr
     exact ⟨by omega, by omega, plain 7 n⟩
    | none =>
     simp only
     have hc := parseF_code (wordP s at_)
     by_cases h4 : (parseF (wordP s at_)).2 = 0
     ·rw [if_pos h4]
      have hne : (wordP s at_).length ≠ 0 := fun e => by
       rw [List.length_eq_zero_iff.1 e, parseF_nil] at h4; cases h4
      exact ⟨by omega, by omega, plain 2 _⟩
     ·rw [if_neg h4]
      simp only; omega
/-! ### Values -/
def goodR (s : List UInt8) (at_ : Nat) : RV → Prop
 | .ok v k => at_ < k ∧ k ≤ s.length ∧ v.sm 300 = true ∧ (ptV v).1 + at_ ≤ k
 | .bad e => 1 ≤ e ∧ e ≤ 8
theorem listF_good {rd : Nat → RV} {s : List UInt8} (hr : ∀ k, k ≤ s.length → goodR s k (rd k)) : ∀ (m : Nat) (acc : List Val) (at_ : Nat), acc.length + m = 301 → at_ ≤ s.length → (∀ x ∈ acc, x.sm 300 = true) →
  match listF rd s m acc at_ with
  | .ok v k => at_ < k ∧ k ≤ s.length ∧ v.sm 300 = true ∧ (ptV v).1 + at_ ≤ 1 + (ptL acc).1 + k ∧ ∃ l, v = lisV l
  | .bad e => 1 ≤ e ∧ e ≤ 8
 | 0, acc, at_, _, _, _ => by simp [listF]
 | m + 1, acc, at_, hm, ha, hacc => by
  have hsk := skipP_le ha
  unfold listF
  cases hc : s[skipP s at_]? with
  | none => simp
  | some c =>
   have hlt : skipP s at_ < s.length := (List.getElem?_eq_some_iff.1 hc).1
   simp only
   by_cases h93 : c.toNat = 93
   ·rw [if_pos h93]
    refine ⟨by omega, by omega, Val.sm_iff.2 ⟨by simp [lisV, Val.s], by simp only [lisV, Val.l]; omega, by simp [lisV, Val.f], hacc, by simp [lisV, Val.f]⟩, ?_, acc, rfl⟩
    simp only [lisV, ptV, ptF]; omega
   ·rw [if_neg h93]
    have hg := hr (skipP s at_) hsk.2
    cases hx : rd (skipP s at_) with
    | bad e => rw [hx] at hg; exact hg
    | ok x k =>
     rw [hx] at hg
     obtain ⟨g1, g2, g3, g4⟩ := hg
     have ih := listF_good hr m (acc ++ [x]) k (by simp; omega) g2 (fun y hy => by
      rcases List.mem_append.1 hy with h | h
      ·exact hacc y h
      ·simp at h; subst h; exact g3)
     simp only
     generalize listF rd s m (acc ++ [x]) k = R at *
     cases R with
     | bad e => exact ih
     | ok v q =>
      obtain ⟨i1, i2, i3, i4, i5⟩ := ih
      rw [ptL_append] at i4
      simp only [ptL] at i4
      exact ⟨by omega, i2, i3, by omega, i5⟩
theorem dictF_good {rd : Nat → RV} {s : List UInt8} (hr : ∀ k, k ≤ s.length → goodR s k (rd k)) : ∀ (m : Nat) (acc : List Fld) (at_ : Nat), acc.length + m = 301 → at_ ≤ s.length → (∀ x ∈ acc, x.sm 300 = true) →
  match dictF rd s m acc at_ with
  | .ok v k => at_ < k ∧ k ≤ s.length ∧ v.sm 300 = true ∧ (ptV v).1 + at_ ≤ 1 + (ptF acc).1 + k ∧ ∃ l, v = dicV l
  | .bad e => 1 ≤ e ∧ e ≤ 8
 | 0, acc, at_, _, _, _ => by simp [dictF]
 | m + 1, acc, at_, hm, ha, hacc => by
  have hsk := skipP_le ha
  unfold dictF
  cases hc : s[skipP s at_]? with
  | none => simp
  | some c =>
   have hlt : skipP s at_ < s.length := (List.getElem?_eq_some_iff.1 hc).1
   simp only
   by_cases h62 : c.toNat = 62 ∧ s[skipP s at_ + 1]? = some 62
   ·rw [if_pos h62]
    have := (List.getElem?_eq_some_iff.1 h62.2).1
    refine ⟨by omega, by omega, Val.sm_iff.2 ⟨by simp [dicV, Val.s], by simp [dicV, Val.l], by simp only [dicV, Val.f]; omega, by simp [dicV, Val.l], hacc⟩, ?_, acc, rfl⟩
    simp only [dicV, ptV, ptL]; omega
   ·rw [if_neg h62]
    by_cases h47 : c.toNat ≠ 47
    ·rw [if_pos h47]; simp
    ·rw [if_neg h47]
     cases hn : nameAt s (skipP s at_) with
     | none => simp
     | some p =>
      obtain ⟨nm, k⟩ := p
      obtain ⟨n1, n2, n3, _⟩ := nameAt_good hlt hn
      have hg := hr k n2
      simp only
      cases hx : rd k with
      | bad e => rw [hx] at hg; exact hg
      | ok x k' =>
       rw [hx] at hg
       obtain ⟨g1, g2, g3, g4⟩ := hg
       simp only
       by_cases hd : (getV nm acc).isSome = true
       ·rw [if_pos hd]; simp
       ·rw [if_neg hd]
        have hno := getV_none (by simpa using hd : (getV nm acc).isSome = false)
        obtain ⟨p1, p2⟩ := setF_pt (x := x) hno
        have ih := dictF_good hr m (setF nm x acc) k' (by omega) g2 (fun y hy => by
         rcases setF_mem hy with rfl | h
         ·exact Fld.sm_iff.2 ⟨by simp only [Fld.name]; omega, g3⟩
         ·exact hacc y h)
        generalize dictF rd s m (setF nm x acc) k' = R at *
        cases R with
        | bad e => exact ih
        | ok v q =>
         obtain ⟨i1, i2, i3, i4, i5⟩ := ih
         exact ⟨by omega, i2, i3, by omega, i5⟩
theorem readF_good (s : List UInt8) : ∀ (d at_ : Nat), at_ ≤ s.length → goodR s at_ (readF d s at_)
 | d, at_, ha => by
  have hsk := skipP_le ha
  unfold readF
  cases hc : s[skipP s at_]? with
  | none => exact ⟨by decide, by decide⟩
  | some c =>
   have hlt : skipP s at_ < s.length := (List.getElem?_eq_some_iff.1 hc).1
   cases d with
   | zero => exact ⟨by decide, by decide⟩
   | succ d =>
    have ih : ∀ k, k ≤ s.length → goodR s k (readF d s k) := fun k hk => readF_good s d k hk
    have one : ∀ {R : RV} {q : Nat}, at_ ≤ q → (match R with
      | .ok v k => q < k ∧ k ≤ s.length ∧ v.sm 300 = true ∧ (ptV v).1 = 1
      | .bad e => 1 ≤ e ∧ e ≤ 8) → goodR s at_ R := fun {R q} hq h => by
     cases R with
     | bad e => exact h
     | ok v k => obtain ⟨h1, h2, h3, h4⟩ := h; exact ⟨by omega, h2, h3, by omega⟩
    simp only
    by_cases c47 : c.toNat = 47
    ·rw [if_pos c47]
     cases hn : nameAt s (skipP s at_) with
     | none => exact ⟨by decide, by decide⟩
     | some p =>
      obtain ⟨b, k⟩ := p
      obtain ⟨n1, n2, n3, _⟩ := nameAt_good hlt hn
      exact ⟨by omega, n2, Val.sm_iff.2 ⟨by simp only [namV, Val.s]; omega, by simp [namV, Val.l], by simp [namV, Val.f], by simp [namV, Val.l], by simp [namV, Val.f]⟩, by simp only [namV, ptV, ptL, ptF]; omega⟩
    ·rw [if_neg c47]
     by_cases c40 : c.toNat = 40
     ·rw [if_pos c40]; exact one (by omega) (litAt_good (by omega))
     ·rw [if_neg c40]
      by_cases cd : c.toNat = 60 ∧ s[skipP s at_ + 1]? = some 60
      ·rw [if_pos cd]
       have := (List.getElem?_eq_some_iff.1 cd.2).1
       have hg := dictF_good ih 301 [] (skipP s at_ + 2) rfl (by omega) (by simp)
       generalize dictF (readF d s) s 301 [] (skipP s at_ + 2) = R at *
       cases R with
       | bad e => exact hg
       | ok v k => obtain ⟨g1, g2, g3, g4, _⟩ := hg; simp only [ptF] at g4; exact ⟨by omega, g2, g3, by omega⟩
      ·rw [if_neg cd]
       by_cases c60 : c.toNat = 60
       ·rw [if_pos c60]; exact one (by omega) (hexAt_good (by omega))
       ·rw [if_neg c60]
        by_cases c91 : c.toNat = 91
        ·rw [if_pos c91]
         have hg := listF_good ih 301 [] (skipP s at_ + 1) rfl (by omega) (by simp)
         generalize listF (readF d s) s 301 [] (skipP s at_ + 1) = R at *
         cases R with
         | bad e => exact hg
         | ok v k => obtain ⟨g1, g2, g3, g4, _⟩ := hg; simp only [ptL] at g4; exact ⟨by omega, g2, g3, by omega⟩
        ·rw [if_neg c91]
         by_cases hs : signB c = true
         ·rw [if_pos hs]; exact ⟨by decide, by decide⟩
         ·rw [if_neg hs]; exact one (by omega) (wordV_good (by omega))
def resRV : RV → Res → Prop
 | .ok v k, r => r = .tup [v.d, .int .i64 k, .int .i64 0]
 | .bad e, r => ∃ (v : Val) (n : Int), r = .tup [v.d, .int .i64 n, .int .i64 e]
theorem resRV_bad {e : Nat} (v : Val) (n : Int) {R : RV} (h : R = .bad e) : resRV R (.tup [v.d, .int .i64 n, .int .i64 e]) := by subst h; exact ⟨v, n, rfl⟩
theorem resRV_ok {v : Val} {k : Nat} {R : RV} (h : R = .ok v k) : resRV R (.tup [v.d, .int .i64 k, .int .i64 0]) := by subst h; rfl
def lrow (r : Ref) (off : Nat) : List Val → AV
 | [] => .ns
 | x :: l => .own (.c r off) 41 5 (valsD (x :: l))
theorem lrow_cases (r : Ref) (off : Nat) (l : List Val) : (lrow r off l = .ns ∧ l = []) ∨ lrow r off l = .own (.c r off) 41 5 (valsD l) := by
 cases l with
 | nil => exact .inl ⟨rfl, rfl⟩
 | cons x l => exact .inr rfl
theorem lrow_snoc (r : Ref) (off : Nat) (l : List Val) (x : Val) : lrow r off (l ++ [x]) = .own (.c r off) 41 5 (valsD l ++ [x.d]) := by
 cases l with
 | nil => rfl
 | cons y l => simp [lrow, valsD, valsD_append]
def L_foliowrightref_readList : LCode :=
 .seq (.reg [⟨some 6, .allo [.int .i64 0, .int .i64 0, .str [], .list [], .list []], none⟩, Qx 7 (Ki 0), Qx 8 (Ki 0)]) (.seq (.reg [Q 13 (.bld [(0, 1), (1, 1), (2, 1), (3, 1), (4, 
 1)] [.int .i64 0, .int .i64 0, .str [], .list [], .list []] [false, false, false, true, true] [(0, .k (.d (.int .i64 5)))]), ⟨some 9, .allo [.int .i64 0, .int .i64 0, .str [], 
 .list [], .list []], none⟩, ⟨none, .st 5 (.t 9) (.t 13), none⟩]) (.block 0 (.loop (.block 1 (.seq (.reg [Qc 14 0, Qc 15 1, ⟨some 16, .call 21 [.t 14, .t 15], none⟩, Qa 1 16]) 
 (.seq (.seq (.reg [Qc 17 1, Qc 18 0, Q 19 (.len true (.t 18)), Q 20 (.bin .eql (.t 17) (.t 19))]) (.cond (.t 20) (.seq (.reg [Q 21 (.ld true 5 (.t 9)), ⟨none, .st 5 (.t 6) (.t 
 21), none⟩, Qx 7 (Ki 0), Qx 8 (Ki 5)]) .ret) .skip)) (.seq (.seq (.reg [Qc 22 0, Qc 23 1, Q 24 (.idxS (.t 22) (.t 23)), Q 25 (.bin .eql (.t 24) (Kb 93))]) (.cond (.t 25) (.seq 
 (.reg [Q 26 (.ld true 5 (.t 9)), Qc 27 1, Q 28 (.bin .add (.t 27) (Ki 1)), ⟨none, .st 5 (.t 6) (.t 26), none⟩, Qa 7 28, Qx 8 (Ki 0)]) .ret) .skip)) (.seq (.reg [Qc 30 0, Qc 31 1, 
 Qc 32 2, Q 33 (.bin .add (.t 32) (Ki 1)), ⟨some 34, .call 42 [.t 30, .t 31, .t 33], none⟩, Qc 29 34, Q 35 (.ext 0 (.t 29)), Q 36 (.ext 1 (.t 29)), Q 37 (.ext 2 (.t 29)), ⟨some 
 10, .allo [.int .i64 0, .int .i64 0, .str [], .list [], .list []], none⟩, ⟨none, .st 5 (.t 10) (.t 35), none⟩, Qa 11 36, Qa 12 37]) (.seq (.seq (.reg [Qc 38 12, Q 39 (.bin .gtr 
 (.t 38) (Ki 0))]) (.cond (.t 39) (.seq (.reg [Q 40 (.ld true 5 (.t 9)), Qc 41 12, ⟨none, .st 5 (.t 6) (.t 40), none⟩, Qx 7 (Ki 0), Qa 8 41]) .ret) .skip)) (.seq (.reg [Q 42 (.fa 
 3 (.t 9)), Q 43 (.ld false 1 (.t 42)), Q 44 (.ld true 5 (.t 10)), ⟨some 45, .bsl 41 5 [.t 44], none⟩, ⟨some 46, .app 41 5 80 false (.t 43) (.t 45), none⟩, Q 47 (.fa 3 (.t 9)), 
 ⟨none, .st 1 (.t 47) (.t 46), none⟩]) (.seq (.seq (.reg [Q 48 (.fa 3 (.t 9)), Q 49 (.ld false 1 (.t 48)), Q 50 (.len false (.t 49)), Q 51 (.bin .gtr (.t 50) (Ki 300))]) (.cond 
 (.t 51) (.seq (.reg [Q 52 (.ld true 5 (.t 9)), ⟨none, .st 5 (.t 6) (.t 52), none⟩, Qx 7 (Ki 0), Qx 8 (Ki 2)]) .ret) .skip)) (.reg [Qc 53 11, Qa 1 53]))))))))))))
def R_foliowrightref_readList : List LRes := [.cell 6 true 5, .tmp 7, .tmp 8]
theorem lift_foliowrightref_readList : Lifts Tryz.prog 70 54 L_foliowrightref_readList R_foliowrightref_readList := ⟨_, _, Tryz.func70, rfl, by kernel_rfl, by kernel_rfl, rfl⟩
theorem readList_of (s : List UInt8) (hs : s.length ≤ 60000) (rd : Nat → RV) (deep : Int) (hd : 0 ≤ deep ∧ deep ≤ 8) (hg : ∀ k, k ≤ s.length → goodR s k (rd k))
  (ih : ∀ k, k ≤ s.length → PCall Tryz.prog 42 [.str s, .int .i64 k, .int .i64 (deep + 1)] (resRV (rd k))) (k : Nat) (hk : k ≤ s.length) :
  PCall Tryz.prog 70 [.str s, .int .i64 k, .int .i64 deep] (resRV (listF rd s 301 [] k)) := by
 refine lift_foliowrightref_readList.call rfl ?_
 generalize hR : listF rd s 301 [] k = R
 simp (maxSteps := 2000000) (disch := omega) only [go_sem, ↓reduceIte, L_foliowrightref_readList, R_foliowrightref_readList]
 refine run_loop (fun y : Nat × List Val => ⟨[(0, .d (.str s)), (1, .d (.int .i64 y.1)), (2, .d (.int .i64 deep)), (6, .ptr (.l 6) 0), (9, .ptr (.l 9) 0)],
   [(6, .cells [.d (.int .i64 0), .d (.int .i64 0), .d (.str []), .ns, .ns]), (9, .cells [.d (.int .i64 5), .d (.int .i64 0), .d (.str []), lrow (.l 9) 3 y.2, .ns])], []⟩)
  (fun y => y.1 ≤ s.length ∧ y.2.length ≤ 300 ∧ listF rd s (301 - y.2.length) y.2 y.1 = R) (fun y => s.length - y.1) (k, []) ?_ ?_ ?_
 ·refine Weak.mk ?_ ?_ ?_ <;> simp (maxSteps := 2000000) only [go_sem, ↓reduceIte, Sub, Int.natCast_add, Int.natCast_mul, lrow]
 ·exact ⟨hk, by simp, hR⟩
 ·rintro ⟨i, acc⟩ ⟨hi, ha, hF⟩
  simp only at hi ha hF
  obtain ⟨m, hm⟩ : ∃ m, 301 - acc.length = m + 1 := ⟨300 - acc.length, by omega⟩
  rw [hm, listF] at hF
  have hsk := skipP_le hi
  have hw := skipR_call s ((i : Nat) : Int) (by omega)
  rw [clamp_in hi] at hw
  generalize skipP s i = q at *
  have hal := valsD_length acc
  simp (maxSteps := 2000000) only [go_sem, ↓reduceIte]
  refine CallG.of hw ?_
  have lis : resRV R (.tup [D.agg [.int .i64 5, .int .i64 0, .str [], .list (valsD acc), .list []], .int .i64 (q + 1 : Nat), .int .i64 0]) ↔ resRV R (.tup [(lisV acc).d, .int .i64 (q + 1 : Nat), .int .i64 0]) := by
   rw [Val.d_eq]; rfl
  have bad : ∀ (e : Nat), R = .bad e → resRV R (.tup [D.agg [.int .i64 5, .int .i64 0, .str [], .list (valsD acc), .list []], .int .i64 0, .int .i64 e]) := fun e he => by
   have := resRV_bad (lisV acc) 0 he
   rwa [Val.d_eq] at this
  rcases lrow_cases (.l 9) 3 acc with ⟨hl, hnil⟩ | hl
  ·rw [hl]
   have hvn : valsD acc = [] := by rw [hnil]; rfl
   rw [hvn] at bad lis
   simp (maxSteps := 2000000) only [go_sem, ↓reduceIte]
   refine ⟨fun h1 => ?_, fun h1 => ?_⟩
   ·rw [List.getElem?_eq_none (by omega)] at hF
    exact bad 5 hF.symm
   ·obtain ⟨c, hc⟩ := get_some (l := s) (i := q) (by omega)
    have hc8 := u8_lt c
    rw [hc] at hF
    simp only at hF
    simp (maxSteps := 2000000) only [go_sem, ↓reduceIte, getI_nat, hc]
    refine ⟨fun h2 => ?_, fun h2 => ?_⟩
    ·rw [if_pos (by omega)] at hF
     simp (maxSteps := 2000000) (disch := omega) only [go_sem, ↓reduceIte]
     have := lis.2 (resRV_ok hF.symm)
     simpa using this
    ·rw [if_neg (by omega)] at hF
     have hgq := hg q hsk.2
     simp (disch := omega) only [IntWalk.i64_in, IntWalk.u8_in]
     refine CallG.post (ih q hsk.2) (fun r hr => ?_)
     cases hx : rd q with
     | bad e =>
      rw [hx] at hF hr hgq
      obtain ⟨v, n, rfl⟩ := hr
      rw [Val.d_eq v]
      simp (maxSteps := 2000000) only [go_sem, ↓reduceIte]
      refine ⟨fun h3 => bad e hF.symm, fun h3 => ?_⟩
      obtain ⟨g1, _⟩ := hgq
      omega
     | ok x k' =>
      rw [hx] at hF hr hgq
      simp only [resRV] at hr
      subst hr
      obtain ⟨g1, g2, g3, g4⟩ := hgq
      rw [Val.d_eq x]
      simp (maxSteps := 2000000) only [go_sem, ↓reduceIte]
      simp only at hF
      have hm0 : m = 301 - (acc ++ [x]).length := by simp; omega
      rw [hm0] at hF
      refine ⟨(k', acc ++ [x]), ?_, ⟨g2, by rw [hnil]; simp, hF⟩, by simp only; omega⟩
      have hrow : lrow (.l 9) 3 (acc ++ [x]) = .own (.c (.l 9) 3) 41 5 [D.agg [.int .i64 x.kind, .int .i64 x.n, .str x.s, .list (valsD x.l), .list (fldsD x.f)]] := by rw [lrow_snoc, hvn, Val.d_eq]; rfl
      refine Weak.mk ?_ ?_ ?_ <;> simp (maxSteps := 2000000) only [go_sem, ↓reduceIte, Sub, Int.natCast_add, Int.natCast_mul, hrow]
  ·rw [hl]
   simp (maxSteps := 2000000) only [go_sem, ↓reduceIte]
   refine ⟨fun h1 => ?_, fun h1 => ?_⟩
   ·rw [List.getElem?_eq_none (by omega)] at hF
    exact bad 5 hF.symm
   ·obtain ⟨c, hc⟩ := get_some (l := s) (i := q) (by omega)
    have hc8 := u8_lt c
    rw [hc] at hF
    simp only at hF
    simp (maxSteps := 2000000) only [go_sem, ↓reduceIte, getI_nat, hc]
    refine ⟨fun h2 => ?_, fun h2 => ?_⟩
    ·rw [if_pos (by omega)] at hF
     simp (maxSteps := 2000000) (disch := omega) only [go_sem, ↓reduceIte]
     have := lis.2 (resRV_ok hF.symm)
     simpa using this
    ·rw [if_neg (by omega)] at hF
     have hgq := hg q hsk.2
     simp (disch := omega) only [IntWalk.i64_in, IntWalk.u8_in]
     refine CallG.post (ih q hsk.2) (fun r hr => ?_)
     cases hx : rd q with
     | bad e =>
      rw [hx] at hF hr hgq
      obtain ⟨v, n, rfl⟩ := hr
      rw [Val.d_eq v]
      simp (maxSteps := 2000000) only [go_sem, ↓reduceIte]
      refine ⟨fun h3 => bad e hF.symm, fun h3 => ?_⟩
      obtain ⟨g1, _⟩ := hgq
      omega
     | ok x k' =>
      rw [hx] at hF hr hgq
      simp only [resRV] at hr
      subst hr
      obtain ⟨g1, g2, g3, g4⟩ := hgq
      rw [Val.d_eq x]
      simp (maxSteps := 2000000) only [go_sem, ↓reduceIte]
      simp only at hF
      have hrow : lrow (.l 9) 3 (acc ++ [x]) = .own (.c (.l 9) 3) 41 5 (valsD acc ++ [D.agg [.int .i64 x.kind, .int .i64 x.n, .str x.s, .list (valsD x.l), .list (fldsD x.f)]]) := by rw [lrow_snoc, Val.d_eq]
      have hsn : valsD acc ++ [D.agg [.int .i64 x.kind, .int .i64 x.n, .str x.s, .list (valsD x.l), .list (fldsD x.f)]] = valsD (acc ++ [x]) := by rw [valsD_append]; simp [valsD, Val.d_eq]
      have hsl := valsD_length (acc ++ [x])
      simp only [List.length_append, List.length_cons, List.length_nil] at hsl
      rw [hsn]
      refine ⟨by omega, fun h3 => ?_, fun h3 => ?_⟩
      ·have hm0 : m = 0 := by omega
       rw [hm0, listF] at hF
       have := resRV_bad (lisV (acc ++ [x])) 0 hF.symm
       rwa [Val.d_eq] at this
      ·have hm0 : m = 301 - (acc ++ [x]).length := by simp; omega
       rw [hm0] at hF
       refine ⟨(k', acc ++ [x]), ?_, ⟨g2, by simp; omega, hF⟩, by simp only; omega⟩
       rw [hsn] at hrow
       refine Weak.mk ?_ ?_ ?_ <;> simp (maxSteps := 2000000) only [go_sem, ↓reduceIte, Sub, Int.natCast_add, Int.natCast_mul, hrow]
def dobj : List Fld → AObj
 | [] => .cells [.d (.int .i64 6), .d (.int .i64 0), .d (.str []), .ns, .ns]
 | x :: l => .cells [.d (.int .i64 6), .d (.int .i64 0), .d (.str []), .d (.list []), .d (.list (fldsD (x :: l)))]
theorem dobj_cases (l : List Fld) : (dobj l = .cells [.d (.int .i64 6), .d (.int .i64 0), .d (.str []), .ns, .ns] ∧ l = []) ∨ dobj l = .cells [.d (.int .i64 6), .d (.int .i64 0), .d (.str []), .d (.list []), .d (.list (fldsD l))] := by
 cases l with
 | nil => exact .inl ⟨rfl, rfl⟩
 | cons x l => exact .inr rfl
theorem dobj_ne {l : List Fld} (h : l ≠ []) : dobj l = .cells [.d (.int .i64 6), .d (.int .i64 0), .d (.str []), .d (.list []), .d (.list (fldsD l))] := by
 cases l with
 | nil => exact absurd rfl h
 | cons x l => rfl
theorem setF_ne (nm : List UInt8) (x : Val) (l : List Fld) (h : ∀ z ∈ l, z.name ≠ nm) : setF nm x l ≠ [] := fun e => by
 have := (setF_pt (nm := nm) (x := x) h).2
 rw [e] at this; simp at this
def L_foliowrightref_readDict : LCode :=
 .seq (.reg [⟨some 6, .allo [.int .i64 0, .int .i64 0, .str [], .list [], .list []], none⟩, Qx 7 (Ki 0), Qx 8 (Ki 0)]) (.seq (.reg [Q 16 (.bld [(0, 1), (1, 1), (2, 1), (3, 1), (4, 
 1)] [.int .i64 0, .int .i64 0, .str [], .list [], .list []] [false, false, false, true, true] [(0, .k (.d (.int .i64 6)))]), ⟨some 9, .allo [.int .i64 0, .int .i64 0, .str [], 
 .list [], .list []], none⟩, ⟨none, .st 5 (.t 9) (.t 16), none⟩]) (.block 0 (.loop (.block 1 (.seq (.reg [Qc 17 0, Qc 18 1, ⟨some 19, .call 21 [.t 17, .t 18], none⟩, Qa 1 19]) 
 (.seq (.seq (.reg [Qc 20 1, Qc 21 0, Q 22 (.len true (.t 21)), Q 23 (.bin .eql (.t 20) (.t 22))]) (.cond (.t 23) (.seq (.reg [Q 24 (.ld true 5 (.t 9)), ⟨none, .st 5 (.t 6) (.t 
 24), none⟩, Qx 7 (Ki 0), Qx 8 (Ki 5)]) .ret) .skip)) (.seq (.seq (.reg [Qc 25 0, Qc 26 1, Q 27 (.idxS (.t 25) (.t 26)), Q 28 (.bin .eql (.t 27) (Kb 62)), Qc 29 28, Qd 30 1 29 
 true, Qg 31 (.bin .add (.t 30) (Ki 1)) 29 true, Qd 32 0 29 true, Qg 33 (.len true (.t 32)) 29 true, Qg 34 (.bin .lss (.t 31) (.t 33)) 29 true, Q 35 (.pick (.t 29) (.t 34) KF), Qc 
 36 35, Qd 37 0 36 true, Qd 38 1 36 true, Qg 39 (.bin .add (.t 38) (Ki 1)) 36 true, Qg 40 (.idxS (.t 37) (.t 39)) 36 true, Qg 41 (.bin .eql (.t 40) (Kb 62)) 36 true, Q 42 (.pick 
 (.t 36) (.t 41) KF)]) (.cond (.t 42) (.seq (.reg [Q 43 (.ld true 5 (.t 9)), Qc 44 1, Q 45 (.bin .add (.t 44) (Ki 2)), ⟨none, .st 5 (.t 6) (.t 43), none⟩, Qa 7 45, Qx 8 (Ki 0)]) 
 .ret) .skip)) (.seq (.seq (.reg [Qc 46 0, Qc 47 1, Q 48 (.idxS (.t 46) (.t 47)), Q 49 (.bin .neq (.t 48) (Kb 47))]) (.cond (.t 49) (.seq (.reg [Q 50 (.ld true 5 (.t 9)), ⟨none, 
 .st 5 (.t 6) (.t 50), none⟩, Qx 7 (Ki 0), Qx 8 (Ki 4)]) .ret) .skip)) (.seq (.reg [Qc 52 0, Qc 53 1, ⟨some 54, .call 66 [.t 52, .t 53], none⟩, Qc 51 54, Q 55 (.ext 0 (.t 51)), Q 
 56 (.ext 1 (.t 51)), Q 57 (.ext 2 (.t 51)), Qa 10 55, Qa 11 56, Qa 12 57]) (.seq (.seq (.reg [Qc 58 12, Q 59 (.bin .gtr (.t 58) (Ki 0))]) (.cond (.t 59) (.seq (.reg [Q 60 (.ld 
 true 5 (.t 9)), Qc 61 12, ⟨none, .st 5 (.t 6) (.t 60), none⟩, Qx 7 (Ki 0), Qa 8 61]) .ret) .skip)) (.seq (.reg [Qc 63 0, Qc 64 11, Qc 65 2, Q 66 (.bin .add (.t 65) (Ki 1)), ⟨some 
 67, .call 42 [.t 63, .t 64, .t 66], none⟩, Qc 62 67, Q 68 (.ext 0 (.t 62)), Q 69 (.ext 1 (.t 62)), Q 70 (.ext 2 (.t 62)), ⟨some 13, .allo [.int .i64 0, .int .i64 0, .str [], 
 .list [], .list []], none⟩, ⟨none, .st 5 (.t 13) (.t 68), none⟩, Qa 11 69, Qa 12 70]) (.seq (.seq (.reg [Qc 71 12, Q 72 (.bin .gtr (.t 71) (Ki 0))]) (.cond (.t 72) (.seq (.reg [Q 
 73 (.ld true 5 (.t 9)), Qc 74 12, ⟨none, .st 5 (.t 6) (.t 73), none⟩, Qx 7 (Ki 0), Qa 8 74]) .ret) .skip)) (.seq (.reg [Q 76 (.ld true 5 (.t 9)), Qc 77 10, ⟨some 78, .call 92 [.t 
 76, .t 77], none⟩, Qc 75 78, Q 79 (.ext 0 (.t 75)), Q 80 (.ext 1 (.t 75)), ⟨some 14, .allo [.int .i64 0, .int .i64 0, .str [], .list [], .list []], none⟩, ⟨none, .st 5 (.t 14) 
 (.t 79), none⟩, Qa 15 80]) (.seq (.seq (.reg [Qc 81 15]) (.cond (.t 81) (.seq (.reg [Q 82 (.ld true 5 (.t 9)), ⟨none, .st 5 (.t 6) (.t 82), none⟩, Qx 7 (Ki 0), Qx 8 (Ki 3)]) 
 .ret) .skip)) (.seq (.reg [Q 83 (.ld true 5 (.t 9)), Qc 84 10, Q 85 (.ld true 5 (.t 13)), ⟨some 86, .call 93 [.t 83, .t 84, .t 85], none⟩, ⟨none, .st 5 (.t 9) (.t 86), none⟩]) 
 (.seq (.seq (.reg [Q 87 (.fa 4 (.t 9)), Q 88 (.ld false 1 (.t 87)), Q 89 (.len false (.t 88)), Q 90 (.bin .gtr (.t 89) (Ki 300))]) (.cond (.t 90) (.seq (.reg [Q 91 (.ld true 5 
 (.t 9)), ⟨none, .st 5 (.t 6) (.t 91), none⟩, Qx 7 (Ki 0), Qx 8 (Ki 2)]) .ret) .skip)) (.reg [Qc 92 11, Qa 1 92])))))))))))))))))
def R_foliowrightref_readDict : List LRes := [.cell 6 true 5, .tmp 7, .tmp 8]
theorem lift_foliowrightref_readDict : Lifts Tryz.prog 68 93 L_foliowrightref_readDict R_foliowrightref_readDict := ⟨_, _, Tryz.func68, rfl, by kernel_rfl, by kernel_rfl, rfl⟩
theorem readDict_of (s : List UInt8) (hs : s.length ≤ 60000) (rd : Nat → RV) (deep : Int) (hd : 0 ≤ deep ∧ deep ≤ 8) (hg : ∀ k, k ≤ s.length → goodR s k (rd k))
  (ih : ∀ k, k ≤ s.length → PCall Tryz.prog 42 [.str s, .int .i64 k, .int .i64 (deep + 1)] (resRV (rd k))) (k : Nat) (hk : k ≤ s.length) :
  PCall Tryz.prog 68 [.str s, .int .i64 k, .int .i64 deep] (resRV (dictF rd s 301 [] k)) := by
 refine lift_foliowrightref_readDict.call rfl ?_
 generalize hR : dictF rd s 301 [] k = R
 simp (maxSteps := 2000000) (disch := omega) only [go_sem, ↓reduceIte, L_foliowrightref_readDict, R_foliowrightref_readDict]
 refine run_loop (fun y : Nat × List Fld => ⟨[(0, .d (.str s)), (1, .d (.int .i64 y.1)), (2, .d (.int .i64 deep)), (6, .ptr (.l 6) 0), (9, .ptr (.l 9) 0)],
   [(6, .cells [.d (.int .i64 0), .d (.int .i64 0), .d (.str []), .ns, .ns]), (9, dobj y.2)], []⟩)
  (fun y => y.1 ≤ s.length ∧ y.2.length ≤ 300 ∧ srt y.2 ∧ dictF rd s (301 - y.2.length) y.2 y.1 = R) (fun y => s.length - y.1) (k, []) ?_ ?_ ?_
 ·refine Weak.mk ?_ ?_ ?_ <;> simp (maxSteps := 2000000) only [go_sem, ↓reduceIte, Sub, Int.natCast_add, Int.natCast_mul, dobj]
 ·exact ⟨hk, by simp, srt_nil, hR⟩
 ·rintro ⟨i, acc⟩ ⟨hi, ha, hsrt, hF⟩
  simp only at hi ha hsrt hF
  obtain ⟨m, hm⟩ : ∃ m, 301 - acc.length = m + 1 := ⟨300 - acc.length, by omega⟩
  rw [hm, dictF] at hF
  have hsk := skipP_le hi
  have hw := skipR_call s ((i : Nat) : Int) (by omega)
  rw [clamp_in hi] at hw
  generalize skipP s i = q at *
  have hal := fldsD_length acc
  have dd : (dicV acc).d = D.agg [.int .i64 6, .int .i64 0, .str [], .list [], .list (fldsD acc)] := by rw [Val.d_eq]; rfl
  have lis : resRV R (.tup [(dicV acc).d, .int .i64 (q + 2 : Nat), .int .i64 0]) → resRV R (.tup [D.agg [.int .i64 6, .int .i64 0, .str [], .list [], .list (fldsD acc)], .int .i64 (q + 2 : Nat), .int .i64 0]) := fun h => by rwa [dd] at h
  have bad : ∀ (e : Nat), R = .bad e → resRV R (.tup [D.agg [.int .i64 6, .int .i64 0, .str [], .list [], .list (fldsD acc)], .int .i64 0, .int .i64 e]) := fun e he => by
   have := resRV_bad (dicV acc) 0 he
   rwa [dd] at this
  have hget := fun nm => getR_call (dicV acc) nm (by show acc.length ≤ _; omega)
  have hset := fun nm x => setR_call (dicV acc) x nm (by show acc.length ≤ _; omega)
  simp only [dd] at hget hset
  have hcs : (dobj acc = .cells [.d (.int .i64 6), .d (.int .i64 0), .d (.str []), .ns, .ns] ∧ fldsD acc = []) ∨ dobj acc = .cells [.d (.int .i64 6), .d (.int .i64 0), .d (.str []), .d (.list []), .d (.list (fldsD acc))] := by
   rcases dobj_cases acc with ⟨h, rfl⟩ | h
   ·exact .inl ⟨h, rfl⟩
   ·exact .inr h
  generalize fldsD acc = fd at bad lis hget hset hcs hal
  simp (maxSteps := 2000000) only [go_sem, ↓reduceIte]
  refine CallG.of hw ?_
  rcases hcs with ⟨hl, rfl⟩ | hl <;> rw [hl]
  all_goals
   simp (maxSteps := 2000000) only [go_sem, ↓reduceIte]
   refine ⟨fun h1 => ?_, fun h1 => ?_⟩
   ·rw [List.getElem?_eq_none (by omega)] at hF
    exact bad 5 hF.symm
   ·obtain ⟨c, hc⟩ := get_some (l := s) (i := q) (by omega)
    have hc8 := u8_lt c
    rw [hc] at hF
    simp only at hF
    by_cases c62 : c.toNat = 62
    ·have z1 : ((c.toNat : Int) = 62) = True := eq_true (by omega)
     have z2 : ((c.toNat : Int) = 47) = False := eq_false (by omega)
     have nodd : ¬ s[q + 1]? = some 62 → R = .bad 4 := fun h => by
      rw [if_neg (fun h' => h h'.2), if_pos (by omega)] at hF
      exact hF.symm
     simp (maxSteps := 2000000) (disch := omega) only [go_sem, ↓reduceIte, getI_nat, hc, z1]
     refine ⟨fun h2 => ?_, fun h2 => ?_⟩
     ·obtain ⟨e, he⟩ := get_some (l := s) (i := q + 1) (by omega)
      have g1 : getI s ((q : Int) + 1) = some e := by rw [getI_add1, he]
      simp (maxSteps := 2000000) (disch := omega) only [go_sem, ↓reduceIte, g1]
      refine ⟨fun h3 => ?_, fun h3 => ?_⟩
      ·have e62 : e = 62 := UInt8.toNat_inj.1 (by have : (62 : UInt8).toNat = 62 := rfl; omega)
       rw [if_pos ⟨c62, by rw [he, e62]⟩] at hF
       exact lis (resRV_ok hF.symm)
      ·simp (maxSteps := 2000000) (disch := omega) only [go_sem, ↓reduceIte, getI_nat, hc, z2]
       exact bad 4 (nodd (by rw [he]; intro e'; cases e'; exact h3 rfl))
     ·simp (maxSteps := 2000000) (disch := omega) only [go_sem, ↓reduceIte, getI_nat, hc, z2]
      exact bad 4 (nodd (by rw [List.getElem?_eq_none (by omega)]; simp))
    ·have z1 : ((c.toNat : Int) = 62) = False := eq_false (by omega)
     rw [if_neg (fun h => c62 h.1)] at hF
     simp (maxSteps := 2000000) (disch := omega) only [go_sem, ↓reduceIte, getI_nat, hc, z1]
     refine ⟨fun h2 => ?_, fun h2 => ?_⟩
     ·rw [if_pos (by omega)] at hF
      exact bad 4 hF.symm
     ·rw [if_neg (by omega)] at hF
      have hlt : q < s.length := (List.getElem?_eq_some_iff.1 hc).1
      refine CallG.of (readName_call s q (by omega) hlt) ?_
      cases hn : nameAt s q with
      | none =>
       rw [hn] at hF
       simp only [nameRes]
       simp (maxSteps := 2000000) only [go_sem, ↓reduceIte]
       exact bad 4 hF.symm
      | some p =>
       obtain ⟨nm, kn⟩ := p
       rw [hn] at hF
       simp only at hF
       obtain ⟨n1, n2, n3, n4⟩ := nameAt_good hlt hn
       simp only [nameRes]
       simp (maxSteps := 2000000) (disch := omega) only [go_sem, ↓reduceIte]
       have hgq := hg kn n2
       refine CallG.post (ih kn n2) (fun r hr => ?_)
       cases hx : rd kn with
       | bad e =>
        rw [hx] at hF hr hgq
        obtain ⟨v, n, rfl⟩ := hr
        rw [Val.d_eq v]
        simp (maxSteps := 2000000) only [go_sem, ↓reduceIte]
        refine ⟨fun h3 => bad e hF.symm, fun h3 => ?_⟩
        obtain ⟨g1, _⟩ := hgq
        omega
       | ok x k' =>
        rw [hx] at hF hr hgq
        simp only [resRV] at hr
        subst hr
        obtain ⟨g1, g2, g3, g4⟩ := hgq
        rw [Val.d_eq x]
        simp (maxSteps := 2000000) only [go_sem, ↓reduceIte]
        have hgt := hget nm
        have eg : getR (getV nm (dicV acc).f) = .tup [((getV nm acc).getD zeroV).d, .bool (getV nm acc).isSome] := rfl
        rw [eg] at hgt
        simp only at hF
        have hnone := getV_none (nm := nm) (l := acc)
        have hst := hset nm x
        rw [refSet_eq (l := (dicV acc).f) hsrt] at hst
        have es : (Val.mk (dicV acc).kind (dicV acc).n (dicV acc).s (dicV acc).l (setF nm x (dicV acc).f)).d = .agg [.int .i64 6, .int .i64 0, .str [], .list [], .list (fldsD (setF nm x acc))] := by rw [mk_d]; rfl
        rw [es, Val.d_eq x] at hst
        generalize (getV nm acc).getD zeroV = gv at hgt
        generalize (getV nm acc).isSome = gs at hgt hF hnone
        rw [Val.d_eq gv] at hgt
        refine CallG.of hgt ?_
        cases gs with
        | true =>
         rw [if_pos rfl] at hF
         simp (maxSteps := 2000000) only [go_sem, ↓reduceIte]
         exact bad 3 hF.symm
        | false =>
         rw [if_neg (by decide)] at hF
         have hno := hnone rfl
         simp (maxSteps := 2000000) only [go_sem, ↓reduceIte]
         refine CallG.of hst ?_
         obtain ⟨p1, p2⟩ := setF_pt (x := x) hno
         have hsl := fldsD_length (setF nm x acc)
         simp (maxSteps := 2000000) only [go_sem, ↓reduceIte, hsl]
         refine ⟨fun h3 => ?_, fun h3 => ?_⟩
         ·have hm0 : m = 0 := by omega
          rw [hm0, dictF] at hF
          have := resRV_bad (dicV (setF nm x acc)) 0 hF.symm
          rwa [Val.d_eq] at this
         ·have hm0 : m = 301 - (setF nm x acc).length := by omega
          rw [hm0] at hF
          refine ⟨(k', setF nm x acc), ?_, ⟨g2, by simp only; omega, srt_set hsrt hno, hF⟩, by simp only; omega⟩
          have hob := dobj_ne (setF_ne nm x acc hno)
          refine Weak.mk ?_ ?_ ?_ <;> simp (maxSteps := 2000000) only [go_sem, ↓reduceIte, Sub, Int.natCast_add, Int.natCast_mul, hob]
def Kp (p : Int) : Nat := if p ≤ 0 then 1000 else if p = 1 then 100 else if p = 2 then 10 else 1
theorem Kp_pow (p : Int) : 10 ^ (3 - p.toNat) = Kp p := by
 unfold Kp
 by_cases h : p ≤ 0
 ·rw [if_pos h, show p.toNat = 0 by omega]
 ·rw [if_neg h]
  by_cases h1 : p = 1
  ·subst h1; rfl
  ·rw [if_neg h1]
   by_cases h2 : p = 2
   ·subst h2; rfl
   ·rw [if_neg h2, show 3 - p.toNat = 0 by omega]
def Rel (n : Nat) (p : Int) (w r t : Nat) : Prop :=
 t = Kp p / 10 ∧ w ≤ 99999999 ∧ r + 10 * t ≤ 1000 ∧ (p < 0 → r = 0) ∧ (n * Kp p = 1000 * w + r ∨ (1000000000 < n * Kp p ∧ 1000000000 < 1000 * w + r))
theorem rel_point {n w r t : Nat} {p : Int} (h : Rel n p w r t) (hp : p < 0) : Rel n 0 w r t := by
 obtain ⟨h1, h2, h3, h4, h5⟩ := h
 have e : Kp p = Kp 0 := by unfold Kp; rw [if_pos (by omega), if_pos (by omega)]
 rw [e] at h1 h5
 exact ⟨h1, h2, h3, fun h => by omega, h5⟩
set_option maxRecDepth 10000 in
theorem rel_whole {n w r t k : Nat} {p : Int} (h : Rel n p w r t) (hp : p < 0) (hk : k ≤ 9) : Rel (if p < 3 ∧ n ≤ 1000000000 then 10 * n + k else n) (if 0 ≤ p then p + 1 else p) (if w < 10000000 then 10 * w + k else w) r t := by
 obtain ⟨h1, h2, h3, h4, h5⟩ := h
 have e : Kp p = 1000 := by unfold Kp; rw [if_pos (by omega)]
 have h4 := h4 hp
 rw [if_neg (by omega : ¬ 0 ≤ p)]
 unfold Rel
 rw [e] at h1 h5 ⊢
 refine ⟨h1, ?_, h3, fun _ => h4, ?_⟩
 ·split <;> omega
 ·split <;> split <;> omega
set_option maxRecDepth 10000 in
theorem rel_part {n w r t k : Nat} {p : Int} (h : Rel n p w r t) (hp : 0 ≤ p) (hk : k ≤ 9) : Rel (if p < 3 ∧ n ≤ 1000000000 then 10 * n + k else n) (if 0 ≤ p then p + 1 else p) w (r + t * k) (t / 10) := by
 obtain ⟨h1, h2, h3, h4, h5⟩ := h
 rw [if_pos hp]
 unfold Rel
 by_cases p0 : p = 0
 ·subst p0
  have e : Kp 0 = 1000 := rfl
  have e' : Kp (0 + 1) = 100 := rfl
  rw [e] at h1 h5
  rw [e']
  have ht : t = 100 := by omega
  subst ht
  refine ⟨by omega, h2, by omega, fun h => by omega, ?_⟩
  split <;> omega
 ·by_cases p1 : p = 1
  ·subst p1
   have e : Kp 1 = 100 := rfl
   have e' : Kp (1 + 1) = 10 := rfl
   rw [e] at h1 h5
   rw [e']
   have ht : t = 10 := by omega
   subst ht
   refine ⟨by omega, h2, by omega, fun h => by omega, ?_⟩
   split <;> omega
  ·by_cases p2 : p = 2
   ·subst p2
    have e : Kp 2 = 10 := rfl
    have e' : Kp (2 + 1) = 1 := rfl
    rw [e] at h1 h5
    rw [e']
    have ht : t = 1 := by omega
    subst ht
    refine ⟨by omega, h2, by omega, fun h => by omega, ?_⟩
    split <;> omega
   ·have e : Kp p = 1 := by unfold Kp; rw [if_neg (by omega), if_neg p1, if_neg p2]
    have e' : Kp (p + 1) = 1 := by unfold Kp; rw [if_neg (by omega), if_neg (by omega), if_neg (by omega)]
    rw [e] at h1 h5
    rw [e']
    have ht : t = 0 := by omega
    subst ht
    rw [Nat.zero_mul, if_neg (by omega)]
    exact ⟨by omega, h2, by omega, fun h => by omega, h5⟩
def resRN (p : Int × Nat) : Res := .tup [.int .i64 p.1, .int .i64 p.2]
def L_foliowrightref_ReadFix : LCode :=
 .seq (.reg [Qx 2 (Ki 0), Qx 3 (Ki 0)]) (.seq (.reg [Qx 4 (Ki 0)]) (.seq (.reg [Qx 5 (Ki 1)]) (.seq (.seq (.reg [Qc 14 0, Q 15 (.len true (.t 14)), Q 16 (.bin .gtr (.t 15) (Ki 0)), 
 Qc 17 16, Qd 18 0 17 true, Qg 19 (.idxS (.t 18) (Ki 0)) 17 true, Qg 20 (.bin .eql (.t 19) (Kb 45)) 17 true, Qd 21 20 17 true, Qd 22 0 21 false, Qg 23 (.idxS (.t 22) (Ki 0)) 21 
 false, Qg 24 (.bin .eql (.t 23) (Kb 43)) 21 false, Qg 25 (.pick (.t 21) KT (.t 24)) 17 true, Q 26 (.pick (.t 17) (.t 25) KF)]) (.cond (.t 26) (.seq (.reg [Qx 4 (Ki 1)]) (.seq 
 (.reg [Qc 27 0, Q 28 (.idxS (.t 27) (Ki 0)), Q 29 (.bin .eql (.t 28) (Kb 45))]) (.cond (.t 29) (.reg [Qx 5 (Ki (-1))]) .skip))) .skip)) (.seq (.reg [Qx 6 (Ki 0)]) (.seq (.reg [Qx 
 7 (Ki 0)]) (.seq (.reg [Qx 8 (Ki 100)]) (.seq (.reg [Qx 9 (Ki 0)]) (.seq (.reg [Qx 10 KF]) (.seq (.block 0 (.loop (.seq (.seq (.reg [Qc 30 4, Qc 31 0, Q 32 (.len true (.t 31)), Q 
 33 (.bin .lss (.t 30) (.t 32))]) (.cond (.t 33) .skip (.exit 0))) (.seq (.block 1 (.seq (.reg [Qc 36 0, Qc 37 4, Q 38 (.idxS (.t 36) (.t 37)), Qa 11 38]) (.seq (.seq (.reg [Qc 39 
 11, Q 40 (.bin .eql (.t 39) (Kb 46)), Qc 41 40, Qd 42 10 41 true, Qg 43 (.not (.t 42)) 41 true, Q 44 (.pick (.t 41) (.t 43) KF)]) (.cond (.t 44) (.seq (.reg [Qx 10 KT]) (.exit 
 1)) .skip)) (.seq (.seq (.reg [Qc 45 11, Q 46 (.bin .lss (.t 45) (Kb 48)), Qc 47 46, Qd 48 11 47 false, Qg 49 (.bin .gtr (.t 48) (Kb 57)) 47 false, Q 50 (.pick (.t 47) KT (.t 
 49))]) (.cond (.t 50) (.seq (.reg [Qx 2 (Ki 0), Qx 3 (Ki 4)]) .ret) .skip)) (.seq (.reg [Qc 51 9, Q 52 (.bin .add (.t 51) (Ki 1)), Qa 9 52]) (.seq (.reg [Qc 53 11, Q 54 (.bin 
 .sub (.t 53) (Kb 48)), Q 55 (.cvI .i64 (.t 54)), Qa 12 55]) (.seq (.reg [Qc 56 10]) (.cond (.t 56) (.seq (.reg [Qc 57 7, Qc 58 8, Qc 59 12, Q 60 (.bin .mul (.t 58) (.t 59)), Q 61 
 (.bin .add (.t 57) (.t 60)), Qa 7 61]) (.reg [Qc 62 8, Q 63 (.bin .quo (.t 62) (Ki 10)), Qa 8 63])) (.seq (.reg [Qc 64 6, Q 65 (.bin .lss (.t 64) (Ki 10000000))]) (.cond (.t 65) 
 (.reg [Qc 66 6, Q 67 (.bin .mul (Ki 10) (.t 66)), Qc 68 12, Q 69 (.bin .add (.t 67) (.t 68)), Qa 6 69]) .skip)))))))))) (.reg [Qc 34 4, Q 35 (.bin .add (.t 34) (Ki 1)), Qa 4 
 35]))))) (.seq (.seq (.reg [Qc 70 9, Q 71 (.bin .eql (.t 70) (Ki 0))]) (.cond (.t 71) (.seq (.reg [Qx 2 (Ki 0), Qx 3 (Ki 4)]) .ret) .skip)) (.seq (.reg [Qc 72 6, Q 73 (.bin .mul 
 (Ki 1000) (.t 72)), Qc 74 7, Q 75 (.bin .add (.t 73) (.t 74)), Qa 13 75]) (.seq (.seq (.reg [Qc 76 13, Q 77 (.bin .gtr (.t 76) (Ki 1000000000))]) (.cond (.t 77) (.seq (.reg [Qx 2 
 (Ki 0), Qx 3 (Ki 1)]) .ret) .skip)) (.seq (.reg [Qc 78 5, Qc 79 13, Q 80 (.bin .mul (.t 78) (.t 79)), Qa 2 80, Qx 3 (Ki 0)]) .ret)))))))))))))
def R_foliowrightref_ReadFix : List LRes := [.tmp 2, .tmp 3]
theorem lift_foliowrightref_ReadFix : Lifts Tryz.prog 72 81 L_foliowrightref_ReadFix R_foliowrightref_ReadFix := ⟨_, _, Tryz.func72, rfl, by kernel_rfl, by kernel_rfl, rfl⟩
theorem readFix_call (s : List UInt8) (hs : s.length ≤ 1000000) : PCall Tryz.prog 72 [.str s] (fun r => r = resRN (parseF s)) := by
 refine lift_foliowrightref_ReadFix.call rfl ?_
 unfold parseF
 cases s with
 | nil =>
  have hs0 : signP [] = (false, []) := rfl
  have hR : resRN (finP false (parseL [] 0 0 (-1))) = .tup [.int .i64 0, .int .i64 4] := rfl
  rw [hs0, hR]
  simp (maxSteps := 2000000) (disch := omega) only [go_sem, ↓reduceIte, L_foliowrightref_ReadFix, R_foliowrightref_ReadFix]
  refine run_unroll ?_
  simp (maxSteps := 2000000) (disch := omega) only [go_sem, ↓reduceIte]
 | cons c r =>
  have hc8 := u8_lt c
  have hg0 : getI (c :: r) 0 = some c := rfl
  have hlr : r.length + 1 ≤ 1000000 := by simpa using hs
  have hlI : 0 < ((r.length + 1 : Nat) : Int) := by omega
  generalize hst : signP (c :: r) = st
  dsimp only [signP] at hst
  obtain ⟨R, hR⟩ : ∃ R, finP st.1 (parseL st.2 0 0 (-1)) = R := ⟨_, rfl⟩
  rw [hR]
  have start : ∃ (A : Nat) (N : Bool) (G : Int), (if N = true then -1 else 1) = G ∧ A ≤ (c :: r).length ∧ finP N (parseL ((c :: r).drop A) 0 0 (-1)) = R ∧
    (c.toNat = 45 ∧ A = 1 ∧ N = true ∧ G = -1 ∨ c.toNat ≠ 45 ∧ c.toNat = 43 ∧ A = 1 ∧ N = false ∧ G = 1 ∨ c.toNat ≠ 45 ∧ c.toNat ≠ 43 ∧ A = 0 ∧ N = false ∧ G = 1) := by
   by_cases a1 : c.toNat = 45
   ·rw [if_pos a1] at hst; subst hst
    exact ⟨1, true, -1, rfl, by simp, hR, .inl ⟨a1, rfl, rfl, rfl⟩⟩
   ·rw [if_neg a1] at hst
    by_cases a2 : c.toNat = 43
    ·rw [if_pos a2] at hst; subst hst
     exact ⟨1, false, 1, rfl, by simp, hR, .inr (.inl ⟨a1, a2, rfl, rfl, rfl⟩)⟩
    ·rw [if_neg a2] at hst; subst hst
     exact ⟨0, false, 1, rfl, by simp, hR, .inr (.inr ⟨a1, a2, rfl, rfl, rfl⟩)⟩
  clear hst hR
  obtain ⟨A, N, G, hGN, hAl, hR, hc⟩ := start
  rcases hc with ⟨a1, hA, hN, hG⟩ | ⟨a1, a2, hA, hN, hG⟩ | ⟨a1, a2, hA, hN, hG⟩
  have a2 : c.toNat ≠ 43 := by omega
  skip
  all_goals
   have b1 : ((c.toNat : Int) = 45) = (c.toNat = 45) := by simp only [eq_iff_iff]; omega
   have b2 : ((c.toNat : Int) = 43) = (c.toNat = 43) := by simp only [eq_iff_iff]; omega
   simp (maxSteps := 2000000) (disch := omega) only [go_sem, ↓reduceIte, L_foliowrightref_ReadFix, R_foliowrightref_ReadFix, hg0, hlI, b1, b2, a1, a2]
   obtain ⟨T, hT⟩ : ∃ T, c :: r = T := ⟨_, rfl⟩
   rw [hT] at hR hAl hs ⊢
   refine run_loop (fun y : Nat × Nat × Nat × Int × Nat × Nat × Nat => ⟨[(0, .d (.str T)), (4, .d (.int .i64 (y.1 : Nat))), (5, .d (.int .i64 G)), (6, .d (.int .i64 (y.2.2.2.2.1 : Nat))), (7, .d (.int .i64 (y.2.2.2.2.2.1 : Nat))), (8, .d (.int .i64 (y.2.2.2.2.2.2 : Nat))), (9, .d (.int .i64 (y.2.2.1 : Nat))), (10, .d (.bool (decide (0 ≤ y.2.2.2.1))))], [], []⟩)
    (fun y => y.1 ≤ T.length ∧ y.2.2.1 ≤ y.1 ∧ Rel y.2.1 y.2.2.2.1 y.2.2.2.2.1 y.2.2.2.2.2.1 y.2.2.2.2.2.2 ∧ finP N (parseL (T.drop y.1) y.2.1 y.2.2.1 y.2.2.2.1) = R) (fun y => T.length - y.1) (A, 0, 0, -1, 0, 0, 100) ?_ ?_ ?_
   ·refine weak_mk ?_ trivial
    simp (maxSteps := 2000000) only [go_sem, ↓reduceIte, Sub, Int.natCast_add, Int.natCast_mul, hA, hG]
    try simp
   ·exact ⟨hAl, by simp, ⟨by simp [Kp], by simp, by simp, by simp, by simp⟩, hR⟩
   ·rintro ⟨i, n, d, p, w, q, t⟩ ⟨hi, hd, hr, hF⟩
    simp only at hi hd hr hF
    simp (maxSteps := 2000000) only [go_sem, ↓reduceIte]
    refine ⟨fun q1 => ?_, fun q1 => ?_⟩
    ·obtain ⟨x, hx⟩ := get_some (l := T) (i := i) (by omega)
     have hx8 := u8_lt x
     rw [drop_cons hx] at hF
     unfold parseL at hF
     by_cases e1 : x.toNat = 46 ∧ p < 0
     ·rw [if_pos e1] at hF
      have e1a : (x.toNat : Int) = 46 := by omega
      have e1b : ¬ (0 ≤ p) := by omega
      simp (maxSteps := 2000000) (disch := omega) only [go_sem, ↓reduceIte, getI_nat, hx, e1a, e1b]
      refine ⟨(i + 1, n, d, 0, w, q, t), ?_, ⟨by simp only; omega, by simp only; omega, rel_point hr e1.2, hF⟩, by simp only; omega⟩
      refine weak_mk ?_ trivial
      simp (maxSteps := 2000000) only [go_sem, ↓reduceIte, Sub, Int.natCast_add, Int.natCast_mul]
      try simp
     ·rw [if_neg e1] at hF
      by_cases e2 : x.toNat < 48 ∨ 57 < x.toNat
      ·rw [if_pos e2] at hF
       subst hF
       have hres : resRN (finP N none) = .tup [.int .i64 0, .int .i64 4] := rfl
       rw [hres]
       simp (maxSteps := 2000000) only [go_sem, ↓reduceIte, getI_nat, hx]
       refine ⟨fun a => ⟨fun b => by omega, fun b h1 h2 => by omega⟩, fun a h1 h2 => by omega⟩
      ·rw [if_neg e2] at hF
       have hne46 : ¬ ((x.toNat : Int) = 46) := by omega
       have h48 : ¬ ((x.toNat : Int) < 48) := by omega
       have h57 : ¬ (57 < (x.toNat : Int)) := by omega
       obtain ⟨k, hk⟩ : ∃ k, x.toNat - 48 = k := ⟨_, rfl⟩
       have hk' : (x.toNat : Int) - 48 = (k : Int) := by omega
       rw [hk] at hF
       have hk9 : k ≤ 9 := by omega
       have hr' := hr
       obtain ⟨r1, r2, r3, r4, r5⟩ := hr'
       have ht9 : t ≤ 100 := by omega
       have hm9 : t * k ≤ 900 := Nat.mul_le_mul ht9 hk9
       have hq9 : q ≤ 1000 := by omega
       have hti : Int.tdiv (t : Int) 10 = ((t / 10 : Nat) : Int) := rfl
       have hmi : (t : Int) * (k : Int) = ((t * k : Nat) : Int) := by rw [Int.natCast_mul]
       by_cases hp : 0 ≤ p
       ·simp (maxSteps := 2000000) (disch := omega) only [go_sem, ↓reduceIte, getI_nat, hx, hne46, h48, h57, hk', hp, hti, hmi]
        have hrp := rel_part hr hp hk9
        have hp1 : (if 0 ≤ p then p + 1 else p) = p + 1 := if_pos hp
        have hp2 : decide (0 ≤ p) = true := by simp; omega
        have hp3 : decide (0 ≤ p + 1) = true := by simp; omega
        rw [hp1] at hF hrp
        refine ⟨(i + 1, _, d + 1, p + 1, w, q + t * k, t / 10), ?_, ⟨by simp only; omega, by simp only; omega, hrp, hF⟩, by simp only; omega⟩
        simp only [hp2, hp3]
        refine weak_mk ?_ trivial
        simp (maxSteps := 2000000) only [go_sem, ↓reduceIte, Sub, Int.natCast_add, Int.natCast_mul]
       ·simp (maxSteps := 2000000) (disch := omega) only [go_sem, ↓reduceIte, getI_nat, hx, hne46, h48, h57, hk', hp, hti, hmi]
        have hp1 : (if 0 ≤ p then p + 1 else p) = p := if_neg hp
        have hp2 : decide (0 ≤ p) = false := by simp; omega
        have hw := rel_whole (k := k) hr (by omega) hk9
        rw [hp1] at hF hw
        refine ⟨fun c1 => ?_, fun c1 => ?_⟩
        ·rw [if_pos (by omega : w < 10000000)] at hw
         refine ⟨(i + 1, _, d + 1, p, 10 * w + k, q, t), ?_, ⟨by simp only; omega, by simp only; omega, hw, hF⟩, by simp only; omega⟩
         simp only [hp2]
         refine weak_mk ?_ trivial
         simp (maxSteps := 2000000) only [go_sem, ↓reduceIte, Sub, Int.natCast_add, Int.natCast_mul]
        ·rw [if_neg (by omega : ¬ w < 10000000)] at hw
         refine ⟨(i + 1, _, d + 1, p, w, q, t), ?_, ⟨by simp only; omega, by simp only; omega, hw, hF⟩, by simp only; omega⟩
         simp only [hp2]
         refine weak_mk ?_ trivial
         simp (maxSteps := 2000000) only [go_sem, ↓reduceIte, Sub, Int.natCast_add, Int.natCast_mul]
    ·rw [List.drop_eq_nil_of_le (by omega)] at hF
     unfold parseL at hF
     dsimp only [finP] at hF
     rw [Kp_pow] at hF
     obtain ⟨r1, r2, r3, r4, r5⟩ := hr
     refine ⟨fun c1 => ?_, fun c1 => ?_⟩
     ·rw [if_pos (by omega)] at hF
      subst hF
      simp [resRN]
     ·rw [if_neg (by omega)] at hF
      generalize n * Kp p = M at hF r5
      have hq9 : q ≤ 1000 := by omega
      simp (disch := omega) only [IntWalk.i64_in, IntWalk.u8_in]
      refine ⟨fun c3 => ?_, fun c3 => ?_⟩
      ·rw [if_pos (by omega)] at hF
       subst hF
       rfl
      ·rw [if_neg (by omega)] at hF
       have hM : M = 1000 * w + q := by omega
       subst hF
       subst hM
       rw [hG, hN]
       simp (disch := omega) only [IntWalk.i64_in, IntWalk.u8_in]
       simp [resRN]
theorem kmk (k n : Int) (s : List UInt8) : (Val.mk k n s [] []).d = .agg [.int .i64 k, .int .i64 n, .str s, .list [], .list []] := by rw [mk_d]; rfl
def L_foliowrightref_read : LCode :=
 .seq (.reg [⟨some 6, .allo [.int .i64 0, .int .i64 0, .str [], .list [], .list []], none⟩, Qx 7 (Ki 0), Qx 8 (Ki 0)]) (.seq (.reg [Qc 25 0, Qc 26 1, ⟨some 27, .call 21 [.t 25, .t 
 26], none⟩, Qa 1 27]) (.seq (.seq (.reg [Qc 28 1, Qc 29 0, Q 30 (.len true (.t 29)), Q 31 (.bin .eql (.t 28) (.t 30))]) (.cond (.t 31) (.seq (.reg [Q 32 (.bld [(0, 1), (1, 1), 
 (2, 1), (3, 1), (4, 1)] [.int .i64 0, .int .i64 0, .str [], .list [], .list []] [] []), ⟨none, .st 5 (.t 6) (.t 32), none⟩, Qx 7 (Ki 0), Qx 8 (Ki 5)]) .ret) .skip)) (.seq (.seq 
 (.reg [Qc 33 2, Q 34 (.bin .gtr (.t 33) (Ki 8))]) (.cond (.t 34) (.seq (.reg [Q 35 (.bld [(0, 1), (1, 1), (2, 1), (3, 1), (4, 1)] [.int .i64 0, .int .i64 0, .str [], .list [], 
 .list []] [] []), ⟨none, .st 5 (.t 6) (.t 35), none⟩, Qx 7 (Ki 0), Qx 8 (Ki 2)]) .ret) .skip)) (.seq (.reg [Qc 36 0, Qc 37 1, Q 38 (.idxS (.t 36) (.t 37)), Qa 9 38]) (.seq 
 (.block 0 (.seq (.reg [Qc 40 9, Q 41 (.bin .eql (.t 40) (Kb 47)), Qa 39 41]) (.cond (.t 39) (.seq (.reg [Qc 43 0, Qc 44 1, ⟨some 45, .call 66 [.t 43, .t 44], none⟩, Qc 42 45, Q 
 46 (.ext 0 (.t 42)), Q 47 (.ext 1 (.t 42)), Q 48 (.ext 2 (.t 42)), Qa 10 46, Qa 11 47, Qa 12 48]) (.seq (.reg [Qc 49 10, Q 50 (.bld [(0, 1), (1, 1), (2, 1), (3, 1), (4, 1)] [.int 
 .i64 0, .int .i64 0, .str [], .list [], .list []] [false, false, false, true, true] [(0, .k (.d (.int .i64 4))), (2, .t 49)]), Qc 51 11, Qc 52 12, ⟨none, .st 5 (.t 6) (.t 50), 
 none⟩, Qa 7 51, Qa 8 52]) .ret)) (.seq (.reg [Qc 54 9, Q 55 (.bin .eql (.t 54) (Kb 40)), Qa 53 55]) (.cond (.t 53) (.seq (.reg [Qc 57 0, Qc 58 1, Q 59 (.bin .add (.t 58) (Ki 1)), 
 ⟨some 60, .call 67 [.t 57, .t 59], none⟩, Qc 56 60, Q 61 (.ext 0 (.t 56)), Q 62 (.ext 1 (.t 56)), Q 63 (.ext 2 (.t 56)), Qa 13 61, Qa 14 62, Qa 15 63]) (.seq (.seq (.reg [Qc 64 
 15, Q 65 (.bin .eql (.t 64) (Ki 0)), Qc 66 65, Qd 67 13 66 true, Qg 68 (.len true (.t 67)) 66 true, Qg 69 (.bin .gtr (.t 68) (Ki 200)) 66 true, Q 70 (.pick (.t 66) (.t 69) KF)]) 
 (.cond (.t 70) (.reg [Qx 15 (Ki 2)]) .skip)) (.seq (.reg [Qc 71 13, Q 72 (.bld [(0, 1), (1, 1), (2, 1), (3, 1), (4, 1)] [.int .i64 0, .int .i64 0, .str [], .list [], .list []] 
 [false, false, false, true, true] [(0, .k (.d (.int .i64 3))), (2, .t 71)]), Qc 73 14, Qc 74 15, ⟨none, .st 5 (.t 6) (.t 72), none⟩, Qa 7 73, Qa 8 74]) .ret))) (.seq (.reg [Qc 76 
 9, Q 77 (.bin .eql (.t 76) (Kb 60)), Qc 78 77, Qd 79 1 78 true, Qg 80 (.bin .add (.t 79) (Ki 1)) 78 true, Qd 81 0 78 true, Qg 82 (.len true (.t 81)) 78 true, Qg 83 (.bin .lss (.t 
 80) (.t 82)) 78 true, Q 84 (.pick (.t 78) (.t 83) KF), Qc 85 84, Qd 86 0 85 true, Qd 87 1 85 true, Qg 88 (.bin .add (.t 87) (Ki 1)) 85 true, Qg 89 (.idxS (.t 86) (.t 88)) 85 
 true, Qg 90 (.bin .eql (.t 89) (Kb 60)) 85 true, Q 91 (.pick (.t 85) (.t 90) KF), Qa 75 91]) (.cond (.t 75) (.seq (.reg [Qc 92 0, Qc 93 1, Q 94 (.bin .add (.t 93) (Ki 2)), Qc 95 
 2, ⟨some 96, .call 68 [.t 92, .t 94, .t 95], none⟩, Q 97 (.ext 0 (.t 96)), Q 98 (.ext 1 (.t 96)), Q 99 (.ext 2 (.t 96)), ⟨none, .st 5 (.t 6) (.t 97), none⟩, Qa 7 98, Qa 8 99]) 
 .ret) (.seq (.reg [Qc 101 9, Q 102 (.bin .eql (.t 101) (Kb 60)), Qa 100 102]) (.cond (.t 100) (.seq (.reg [Qc 104 0, Qc 105 1, Q 106 (.bin .add (.t 105) (Ki 1)), ⟨some 107, .call 
 69 [.t 104, .t 106], none⟩, Qc 103 107, Q 108 (.ext 0 (.t 103)), Q 109 (.ext 1 (.t 103)), Q 110 (.ext 2 (.t 103)), Qa 16 108, Qa 17 109, Qa 18 110]) (.seq (.seq (.reg [Qc 111 18, 
 Q 112 (.bin .eql (.t 111) (Ki 0)), Qc 113 112, Qd 114 16 113 true, Qg 115 (.len true (.t 114)) 113 true, Qg 116 (.bin .gtr (.t 115) (Ki 200)) 113 true, Q 117 (.pick (.t 113) (.t 
 116) KF)]) (.cond (.t 117) (.reg [Qx 18 (Ki 2)]) .skip)) (.seq (.reg [Qc 118 16, Q 119 (.bld [(0, 1), (1, 1), (2, 1), (3, 1), (4, 1)] [.int .i64 0, .int .i64 0, .str [], .list 
 [], .list []] [false, false, false, true, true] [(0, .k (.d (.int .i64 3))), (2, .t 118)]), Qc 120 17, Qc 121 18, ⟨none, .st 5 (.t 6) (.t 119), none⟩, Qa 7 120, Qa 8 121]) 
 .ret))) (.seq (.reg [Qc 123 9, Q 124 (.bin .eql (.t 123) (Kb 91)), Qa 122 124]) (.cond (.t 122) (.seq (.reg [Qc 125 0, Qc 126 1, Q 127 (.bin .add (.t 126) (Ki 1)), Qc 128 2, 
 ⟨some 129, .call 70 [.t 125, .t 127, .t 128], none⟩, Q 130 (.ext 0 (.t 129)), Q 131 (.ext 1 (.t 129)), Q 132 (.ext 2 (.t 129)), ⟨none, .st 5 (.t 6) (.t 130), none⟩, Qa 7 131, Qa 
 8 132]) .ret) (.seq (.reg [Qc 134 9, ⟨some 135, .call 41 [.t 134], none⟩, Qa 133 135]) (.cond (.t 133) (.seq (.reg [Q 136 (.bld [(0, 1), (1, 1), (2, 1), (3, 1), (4, 1)] [.int 
 .i64 0, .int .i64 0, .str [], .list [], .list []] [] []), ⟨none, .st 5 (.t 6) (.t 136), none⟩, Qx 7 (Ki 0), Qx 8 (Ki 4)]) .ret) .skip))))))))))))) (.seq (.reg [Qc 137 0, Qc 138 
 1, ⟨some 139, .call 22 [.t 137, .t 138], none⟩, Qa 19 139]) (.seq (.reg [Qc 140 1, Qc 141 19, Q 142 (.len true (.t 141)), Q 143 (.bin .add (.t 140) (.t 142)), Qa 20 143]) (.seq 
 (.seq (.reg [Qc 144 19]) (.block 1 (.seq (.reg [Q 146 (.bin .eql (.t 144) (.k (.d (.str [110, 117, 108, 108])))), Qa 145 146]) (.cond (.t 145) (.seq (.reg [Q 147 (.bld [(0, 1), 
 (1, 1), (2, 1), (3, 1), (4, 1)] [.int .i64 0, .int .i64 0, .str [], .list [], .list []] [] []), Qc 148 20, ⟨none, .st 5 (.t 6) (.t 147), none⟩, Qa 7 148, Qx 8 (Ki 0)]) .ret) 
 (.seq (.reg [Q 150 (.bin .eql (.t 144) (.k (.d (.str [116, 114, 117, 101])))), Qa 149 150]) (.cond (.t 149) (.seq (.reg [Q 151 (.bld [(0, 1), (1, 1), (2, 1), (3, 1), (4, 1)] 
 [.int .i64 0, .int .i64 0, .str [], .list [], .list []] [false, false, false, true, true] [(0, .k (.d (.int .i64 1))), (1, .k (.d (.int .i64 1)))]), Qc 152 20, ⟨none, .st 5 (.t 
 6) (.t 151), none⟩, Qa 7 152, Qx 8 (Ki 0)]) .ret) (.seq (.reg [Q 154 (.bin .eql (.t 144) (.k (.d (.str [102, 97, 108, 115, 101])))), Qa 153 154]) (.cond (.t 153) (.seq (.reg [Q 
 155 (.bld [(0, 1), (1, 1), (2, 1), (3, 1), (4, 1)] [.int .i64 0, .int .i64 0, .str [], .list [], .list []] [false, false, false, true, true] [(0, .k (.d (.int .i64 1)))]), Qc 156 
 20, ⟨none, .st 5 (.t 6) (.t 155), none⟩, Qa 7 156, Qx 8 (Ki 0)]) .ret) .skip)))))))) (.seq (.reg [Qc 158 0, Qc 159 19, Qc 160 20, ⟨some 161, .call 71 [.t 158, .t 159, .t 160], 
 none⟩, Qc 157 161, Q 162 (.ext 0 (.t 157)), Q 163 (.ext 1 (.t 157)), Qa 21 162, Qa 22 163]) (.seq (.seq (.reg [Qc 164 22, Q 165 (.bin .gtr (.t 164) (Ki 0))]) (.cond (.t 165) 
 (.seq (.reg [Qc 166 21, Q 167 (.bld [(0, 1), (1, 1), (2, 1), (3, 1), (4, 1)] [.int .i64 0, .int .i64 0, .str [], .list [], .list []] [false, false, false, true, true] [(0, .k (.d 
 (.int .i64 7))), (1, .t 166)]), Qc 168 22, ⟨none, .st 5 (.t 6) (.t 167), none⟩, Qa 7 168, Qx 8 (Ki 0)]) .ret) .skip)) (.seq (.reg [Qc 170 19, ⟨some 171, .call 72 [.t 170], none⟩, 
 Qc 169 171, Q 172 (.ext 0 (.t 169)), Q 173 (.ext 1 (.t 169)), Qa 23 172, Qa 24 173]) (.seq (.reg [Qc 174 23, Q 175 (.bld [(0, 1), (1, 1), (2, 1), (3, 1), (4, 1)] [.int .i64 0, 
 .int .i64 0, .str [], .list [], .list []] [false, false, false, true, true] [(0, .k (.d (.int .i64 2))), (1, .t 174)]), Qc 176 20, Qc 177 24, ⟨none, .st 5 (.t 6) (.t 175), none⟩, 
 Qa 7 176, Qa 8 177]) .ret))))))))))))
def R_foliowrightref_read : List LRes := [.cell 6 true 5, .tmp 7, .tmp 8]
theorem lift_foliowrightref_read : Lifts Tryz.prog 42 178 L_foliowrightref_read R_foliowrightref_read := ⟨_, _, Tryz.func42, rfl, by kernel_rfl, by kernel_rfl, rfl⟩
theorem read_call (s : List UInt8) (hs : s.length ≤ 60000) : ∀ (d : Nat), d ≤ 8 → ∀ (k : Nat), k ≤ s.length →
  PCall Tryz.prog 42 [.str s, .int .i64 k, .int .i64 (9 - (d : Int))] (resRV (readF d s k)) := by
 intro d
 induction d with
 | zero =>
  intro _ k hk
  generalize hR : readF 0 s k = R
  rw [readF] at hR
  have hw := skipR_call s ((k : Nat) : Int) (by omega)
  rw [clamp_in hk] at hw
  have hsk := skipP_le hk
  generalize skipP s k = q at *
  refine lift_foliowrightref_read.call rfl ?_
  simp (maxSteps := 2000000) (disch := omega) only [go_sem, ↓reduceIte, L_foliowrightref_read, R_foliowrightref_read]
  refine CallG.of hw ?_
  simp (maxSteps := 2000000) only [go_sem, ↓reduceIte]
  have bad : ∀ (e : Nat), R = .bad e → resRV R (.tup [.agg [.int .i64 0, .int .i64 0, .str [], .list [], .list []], .int .i64 0, .int .i64 e]) := fun e he => by
   have := resRV_bad zeroV 0 he
   rwa [Val.d_eq] at this
  refine ⟨fun h1 => ?_, fun h1 => ?_⟩
  ·rw [List.getElem?_eq_none (by omega)] at hR
   exact bad 5 hR.symm
  ·obtain ⟨c, hc⟩ := get_some (l := s) (i := q) (by omega)
   rw [hc] at hR
   exact bad 2 hR.symm
 | succ d ihd =>
  intro hd k hk
  generalize hR : readF (d + 1) s k = R
  rw [readF] at hR
  have hw := skipR_call s ((k : Nat) : Int) (by omega)
  rw [clamp_in hk] at hw
  have hsk := skipP_le hk
  generalize skipP s k = q at *
  have ih := ihd (by omega)
  obtain ⟨deep, hde⟩ : ∃ deep : Int, 9 - ((d + 1 : Nat) : Int) = deep := ⟨_, rfl⟩
  have e1 : 9 - (d : Int) = deep + 1 := by omega
  have hdeep : 0 ≤ deep ∧ deep ≤ 8 := by omega
  rw [e1] at ih
  rw [hde]
  clear hde e1
  have pass : ∀ r, resRV R r → ∃ (v : Val) (n m : Int), r = .tup [.agg [.int .i64 v.kind, .int .i64 v.n, .str v.s, .list (valsD v.l), .list (fldsD v.f)], .int .i64 n, .int .i64 m] ∧ resRV R r := fun r h => by
   cases R with
   | bad e => obtain ⟨v, n, rfl⟩ := h; rw [Val.d_eq v]; exact ⟨v, n, e, rfl, v, n, by rw [Val.d_eq v]⟩
   | ok v k => simp only [resRV] at h; subst h; rw [Val.d_eq v]; exact ⟨v, k, 0, rfl, by simp only [resRV]; rw [Val.d_eq v]⟩
  have hg := fun k hk => readF_good s d k hk
  have bad : ∀ (e : Nat), R = .bad e → resRV R (.tup [.agg [.int .i64 0, .int .i64 0, .str [], .list [], .list []], .int .i64 0, .int .i64 e]) := fun e he => by
   have := resRV_bad zeroV 0 he
   rwa [Val.d_eq] at this
  have bad' : ∀ (e : Nat) (k n m : Int) (t : List UInt8), R = .bad e → resRV R (.tup [.agg [.int .i64 k, .int .i64 n, .str t, .list [], .list []], .int .i64 m, .int .i64 e]) := fun e k n m t he => by
   have := resRV_bad (Val.mk k n t [] []) m he
   rwa [kmk] at this
  have good : ∀ (k n : Int) (t : List UInt8) (m : Nat), R = .ok (Val.mk k n t [] []) m → resRV R (.tup [.agg [.int .i64 k, .int .i64 n, .str t, .list [], .list []], .int .i64 m, .int .i64 0]) := fun k n t m he => by
   have := resRV_ok he
   rwa [kmk] at this
  refine lift_foliowrightref_read.call rfl ?_
  simp (maxSteps := 2000000) (disch := omega) only [go_sem, ↓reduceIte, L_foliowrightref_read, R_foliowrightref_read]
  refine CallG.of hw ?_
  simp (maxSteps := 2000000) only [go_sem, ↓reduceIte]
  refine ⟨fun h1 => ?_, fun h1 => ?_⟩
  ·rw [List.getElem?_eq_none (by omega)] at hR
   exact bad 5 hR.symm
  ·obtain ⟨c, hc⟩ := get_some (l := s) (i := q) (by omega)
   have hc8 := u8_lt c
   have hlt : q < s.length := (List.getElem?_eq_some_iff.1 hc).1
   rw [hc] at hR
   simp only at hR
   refine ⟨fun h2 => by exfalso; omega, fun h2 => ?_⟩
   simp (maxSteps := 2000000) only [go_sem, ↓reduceIte, getI_nat, hc]
   refine ⟨fun h47 => ?_, fun h47 => ⟨fun h40 => ?_, fun h40 => ?_⟩⟩
   ·rw [if_pos (by omega)] at hR
    refine CallG.of (readName_call s q (by omega) hlt) ?_
    cases hn : nameAt s q with
    | none =>
     rw [hn] at hR
     simp only [nameRes]
     simp (maxSteps := 2000000) only [go_sem, ↓reduceIte]
     exact bad' 4 4 0 0 [] hR.symm
    | some p =>
     obtain ⟨nm, kn⟩ := p
     rw [hn] at hR
     simp only [nameRes]
     simp (maxSteps := 2000000) only [go_sem, ↓reduceIte]
     exact good 4 0 nm kn hR.symm
   ·rw [if_neg (by omega), if_pos (by omega)] at hR
    have hlit := literal_call s (q + 1) (by omega) (by omega)
    unfold litAt at hR
    rw [Int.natCast_add, Int.natCast_one] at hlit
    simp (disch := omega) only [IntWalk.i64_in, IntWalk.u8_in]
    refine CallG.of hlit ?_
    cases hl : litF 0 1 (s.drop (q + 1)) [] (q + 1) with
    | none =>
     rw [hl] at hR
     simp only [litRes]
     simp (maxSteps := 2000000) only [go_sem, ↓reduceIte]
     exact bad' 5 3 0 0 [] hR.symm
    | some p =>
     obtain ⟨b, kn⟩ := p
     rw [hl] at hR
     simp only at hR
     simp only [litRes]
     simp (maxSteps := 2000000) only [go_sem, ↓reduceIte]
     refine ⟨fun h3 => ?_, fun h3 => ?_⟩
     ·rw [if_neg (by omega)] at hR
      exact bad' 2 3 0 kn b hR.symm
     ·rw [if_pos (by omega)] at hR
      exact good 3 0 b kn hR.symm
   ·rw [if_neg (by omega), if_neg (by omega)] at hR
    by_cases c60 : c.toNat = 60
    ·have z1 : ((c.toNat : Int) = 60) = True := eq_true (by omega)
     have hex : ¬ s[q + 1]? = some 60 → R = hexAt s (q + 1) := fun h => by
      rw [if_neg (fun h' => h h'.2), if_pos c60] at hR; exact hR.symm
     have hxc := runhex_call s (q + 1) (by omega) (by omega)
     rw [Int.natCast_add, Int.natCast_one] at hxc
     simp (maxSteps := 2000000) (disch := omega) only [go_sem, ↓reduceIte, getI_nat, hc, z1]
     refine ⟨fun h2 => ?_, fun h2 => ?_⟩
     ·obtain ⟨e, he⟩ := get_some (l := s) (i := q + 1) (by omega)
      have g1 : getI s ((q : Int) + 1) = some e := by rw [getI_add1, he]
      simp (maxSteps := 2000000) (disch := omega) only [go_sem, ↓reduceIte, g1]
      refine ⟨fun h3 => ?_, fun h3 => ?_⟩
      ·have e60 : e = 60 := UInt8.toNat_inj.1 (by have : (60 : UInt8).toNat = 60 := rfl; omega)
       rw [if_pos ⟨c60, by rw [he, e60]⟩] at hR
       have hl := readDict_of s hs (readF d s) deep hdeep hg ih (q + 2) (by omega)
       rw [hR, show ((q + 2 : Nat) : Int) = (q : Int) + 2 by omega] at hl
       refine CallG.post hl (fun r hr => ?_)
       obtain ⟨v, n, m, rfl, hr⟩ := pass r hr
       simp (maxSteps := 2000000) only [go_sem, ↓reduceIte]
       exact hr
      ·simp (maxSteps := 2000000) (disch := omega) only [go_sem, ↓reduceIte, getI_nat, hc, z1]
       refine CallG.of hxc ?_
       have hR' := hex (by rw [he]; intro e'; cases e'; exact h3 rfl)
       unfold hexAt at hR'
       have hcode := unhexF_code (s.drop (q + 1)) (-1) []
       generalize unhexF (s.drop (q + 1)) (-1) [] = U at hR' hcode
       obtain ⟨ub, uc⟩ := U
       simp only at hR' hcode
       simp (maxSteps := 2000000) only [go_sem, ↓reduceIte]
       refine ⟨fun u1 => ⟨fun u2 => ?_, fun u2 => ?_⟩, fun u1 => ?_⟩
       ·rw [if_pos (by omega), if_neg (by omega)] at hR'
        rw [if_pos (by omega)]
        exact bad' 2 3 0 _ ub hR'
       ·rw [if_pos (by omega), if_pos (by omega)] at hR'
        rw [if_pos (by omega)]
        obtain rfl : uc = 0 := by omega
        exact good 3 0 ub _ hR'
       ·rw [if_neg (by omega)] at hR'
        exact bad' uc 3 0 _ ub hR'
     ·refine CallG.of hxc ?_
      have hR' := hex (by rw [List.getElem?_eq_none (by omega)]; simp)
      unfold hexAt at hR'
      have hcode := unhexF_code (s.drop (q + 1)) (-1) []
      generalize unhexF (s.drop (q + 1)) (-1) [] = U at hR' hcode
      obtain ⟨ub, uc⟩ := U
      simp only at hR' hcode
      simp (maxSteps := 2000000) only [go_sem, ↓reduceIte]
      refine ⟨fun u1 => ⟨fun u2 => ?_, fun u2 => ?_⟩, fun u1 => ?_⟩
      ·rw [if_pos (by omega), if_neg (by omega)] at hR'
       rw [if_pos (by omega)]
       exact bad' 2 3 0 _ ub hR'
      ·rw [if_pos (by omega), if_pos (by omega)] at hR'
       rw [if_pos (by omega)]
       obtain rfl : uc = 0 := by omega
       exact good 3 0 ub _ hR'
      ·rw [if_neg (by omega)] at hR'
       exact bad' uc 3 0 _ ub hR'
    ·rw [if_neg (fun h => c60 h.1), if_neg c60] at hR
     have z1 : ((c.toNat : Int) = 60) = False := eq_false (by omega)
     simp (maxSteps := 2000000) (disch := omega) only [go_sem, ↓reduceIte, getI_nat, hc, z1]
     refine ⟨fun h91 => ?_, fun h91 => ?_⟩
     ·rw [if_pos (by omega)] at hR
      have hl := readList_of s hs (readF d s) deep hdeep hg ih (q + 1) (by omega)
      rw [hR, Int.natCast_add, Int.natCast_one] at hl
      refine CallG.post hl (fun r hr => ?_)
      obtain ⟨v, n, m, rfl, hr⟩ := pass r hr
      simp (maxSteps := 2000000) only [go_sem, ↓reduceIte]
      exact hr
     ·rw [if_neg (by omega)] at hR
      refine CallG.of (special_call c) ?_
      simp (maxSteps := 2000000) only [go_sem, ↓reduceIte]
      refine ⟨fun hs1 => ?_, fun hs1 => ?_⟩
      ·rw [if_pos hs1] at hR
       exact bad 4 hR.symm
      ·rw [if_neg (by simp [hs1])] at hR
       unfold wordV at hR
       have hwd := wordR_call s ((q : Nat) : Int) (by omega)
       rw [clamp_in (by omega)] at hwd
       refine CallG.of hwd ?_
       simp (maxSteps := 2000000) (disch := omega) only [go_sem, ↓reduceIte]
       have hwl := wordP_len s q
       have hrr := readRef_call s q (by omega) (by omega)
       have hfx := readFix_call (wordP s q) (by omega)
       have hwr : IntKind.i64.wrap ((q : Int) + ((wordP s q).length : Int)) = ((q + (wordP s q).length : Nat) : Int) := by rw [IntWalk.i64_in _ (by omega)]; omega
       rw [hwr]
       refine ⟨fun w1 => ?_, fun w1 => ⟨fun w2 => ?_, fun w2 => ⟨fun w3 => ?_, fun w3 => ?_⟩⟩⟩
       ·rw [if_pos w1] at hR
        rw [w1]
        exact good 0 0 [] (q + 4) hR.symm
       ·rw [if_neg w1, if_pos w2] at hR
        rw [w2]
        exact good 1 1 [] (q + 4) hR.symm
       ·rw [if_neg w1, if_neg w2, if_pos w3] at hR
        rw [w3]
        exact good 1 0 [] (q + 5) hR.symm
       ·rw [if_neg w1, if_neg w2, if_neg w3] at hR
        refine CallG.of hrr ?_
        cases hra : refAt s q with
        | some p =>
         obtain ⟨n, kn⟩ := p
         rw [hra] at hR
         have := refAt_good (by omega) hra
         simp only [refRes]
         simp (maxSteps := 2000000) only [go_sem, ↓reduceIte]
         refine ⟨fun w4 => good 7 n [] kn hR.symm, fun w4 => by exfalso; omega⟩
        | none =>
         rw [hra] at hR
         simp only [refRes]
         simp (maxSteps := 2000000) only [go_sem, ↓reduceIte]
         refine CallG.of hfx ?_
         simp only [resRN]
         generalize parseF (wordP s q) = F at hR
         obtain ⟨fn, fc⟩ := F
         simp only at hR
         simp (maxSteps := 2000000) (disch := omega) only [go_sem, ↓reduceIte]
         by_cases f0 : fc = 0
         ·subst f0
          rw [if_pos rfl] at hR
          exact good 2 fn [] _ hR.symm
         ·rw [if_neg f0] at hR
          exact bad' fc 2 fn _ [] hR.symm
def topRes : RV → Res
 | .ok v k => .tup [v.d, .int .i64 k, .int .i64 0]
 | .bad e => .tup [zeroV.d, .int .i64 0, .int .i64 e]
def L_foliowrightref_Read : LCode :=
 .seq (.reg [⟨some 4, .allo [.int .i64 0, .int .i64 0, .str [], .list [], .list []], none⟩, Qx 5 (Ki 0), Qx 6 (Ki 0)]) (.seq (.seq (.reg [Qc 10 0, Q 11 (.len true (.t 10)), Q 12 
 (.bin .gtr (.t 11) (Ki 60000)), Qc 13 12, Qd 14 1 13 false, Qg 15 (.bin .lss (.t 14) (Ki 0)) 13 false, Q 16 (.pick (.t 13) KT (.t 15)), Qc 17 16, Qd 18 1 17 false, Qd 19 0 17 
 false, Qg 20 (.len true (.t 19)) 17 false, Qg 21 (.bin .gtr (.t 18) (.t 20)) 17 false, Q 22 (.pick (.t 17) KT (.t 21))]) (.cond (.t 22) (.seq (.reg [Q 23 (.bld [(0, 1), (1, 1), 
 (2, 1), (3, 1), (4, 1)] [.int .i64 0, .int .i64 0, .str [], .list [], .list []] [] []), ⟨none, .st 5 (.t 4) (.t 23), none⟩, Qx 5 (Ki 0), Qx 6 (Ki 1)]) .ret) .skip)) (.seq (.reg 
 [Qc 25 0, Qc 26 1, ⟨some 27, .call 42 [.t 25, .t 26, .k (.d (.int .i64 1))], none⟩, Qc 24 27, Q 28 (.ext 0 (.t 24)), Q 29 (.ext 1 (.t 24)), Q 30 (.ext 2 (.t 24)), ⟨some 7, .allo 
 [.int .i64 0, .int .i64 0, .str [], .list [], .list []], none⟩, ⟨none, .st 5 (.t 7) (.t 28), none⟩, Qa 8 29, Qa 9 30]) (.seq (.seq (.reg [Qc 31 9, Q 32 (.bin .eql (.t 31) (Ki 
 0))]) (.cond (.t 32) (.reg [Q 33 (.ld true 5 (.t 7)), ⟨some 34, .call 28 [.t 33], none⟩, Qa 9 34]) .skip)) (.seq (.seq (.reg [Qc 35 9, Q 36 (.bin .gtr (.t 35) (Ki 0))]) (.cond 
 (.t 36) (.seq (.reg [Q 37 (.bld [(0, 1), (1, 1), (2, 1), (3, 1), (4, 1)] [.int .i64 0, .int .i64 0, .str [], .list [], .list []] [] []), Qc 38 9, ⟨none, .st 5 (.t 4) (.t 37), 
 none⟩, Qx 5 (Ki 0), Qa 6 38]) .ret) .skip)) (.seq (.reg [Q 39 (.ld true 5 (.t 7)), Qc 40 8, ⟨none, .st 5 (.t 4) (.t 39), none⟩, Qa 5 40, Qx 6 (Ki 0)]) .ret)))))
def R_foliowrightref_Read : List LRes := [.cell 4 true 5, .tmp 5, .tmp 6]
theorem lift_foliowrightref_Read : Lifts Tryz.prog 24 41 L_foliowrightref_Read R_foliowrightref_Read := ⟨_, _, Tryz.func24, rfl, by kernel_rfl, by kernel_rfl, rfl⟩
theorem readTop_call (s : List UInt8) (k : Int) (hs : s.length ≤ 1000000000) : PCall Tryz.prog 24 [.str s, .int .i64 k] (fun r => r = topRes (valueP s k)) := by
 refine lift_foliowrightref_Read.call rfl ?_
 generalize hR : valueP s k = R
 unfold valueP at hR
 simp (maxSteps := 2000000) only [go_sem, ↓reduceIte, L_foliowrightref_Read, R_foliowrightref_Read]
 have bad : ∀ (e : Nat), R = .bad e → Res.tup [.agg [.int .i64 0, .int .i64 0, .str [], .list [], .list []], .int .i64 0, .int .i64 e] = topRes R := fun e he => by
  rw [he, topRes, Val.d_eq]; rfl
 refine ⟨fun h1 => ⟨fun h2 => ⟨fun h3 => ?_, fun h3 => ?_⟩, fun h2 => ?_⟩, fun h1 => ?_⟩
 ·rw [if_pos (by omega)] at hR; exact bad 1 hR.symm
 ·rw [if_neg (by omega)] at hR
  obtain ⟨q, rfl⟩ : ∃ q : Nat, k = q := ⟨k.toNat, by omega⟩
  rw [Int.toNat_natCast] at hR
  have hc := read_call s (by omega) 8 (by omega) q (by omega)
  have hg := readF_good s 8 q (by omega)
  refine CallG.post hc (fun r hr => ?_)
  cases hx : readF 8 s q with
  | bad e =>
   rw [hx] at hR hr hg
   obtain ⟨v, n, rfl⟩ := hr
   rw [Val.d_eq v]
   obtain ⟨g1, _⟩ := hg
   have e0 : ((e : Int) = 0) = False := eq_false (by omega)
   have e1 : (0 < (e : Int)) = True := eq_true (by omega)
   simp (maxSteps := 2000000) only [go_sem, ↓reduceIte, e0, e1]
   exact bad e hR.symm
  | ok v n =>
   rw [hx] at hR hr hg
   simp only [resRV] at hr
   subst hr
   simp only at hR
   obtain ⟨g1, g2, g3, g4⟩ := hg
   have hf := faultV_call v (Val.sm_mono (by omega) v g3) (by omega)
   rw [Val.d_eq v] at hf ⊢
   simp (maxSteps := 2000000) only [go_sem, ↓reduceIte]
   refine CallG.of hf ?_
   by_cases f0 : faultV v = 0
   ·rw [if_pos f0] at hR
    rw [f0]
    simp (maxSteps := 2000000) only [go_sem, ↓reduceIte]
    rw [← hR, topRes, Val.d_eq]
   ·rw [if_neg f0] at hR
    have e1 : (0 < (faultV v : Int)) = True := eq_true (by omega)
    simp (maxSteps := 2000000) only [go_sem, ↓reduceIte, e1]
    exact bad _ hR.symm
 ·rw [if_pos (by omega)] at hR; exact bad 1 hR.symm
 ·rw [if_pos (by omega)] at hR; exact bad 1 hR.symm
def robj (s : List UInt8) (k : Int) (n : Nat) : AObj := .cells [.d (.str s), .d (.int .i64 k), .d (errD n)]
theorem robj_0 (s : List UInt8) (k : Int) : robj s k 0 = .cells [.d (.str s), .d (.int .i64 k), .d .nil] := rfl
theorem robj_ne (s : List UInt8) (k : Int) {n : Nat} (h : n ≠ 0) : robj s k n = .cells [.d (.str s), .d (.int .i64 k), .d (.iface 50 (.int .i64 n))] := by rw [robj, errD_ne h]
theorem robj_2 (s : List UInt8) (k : Int) : robj s k 2 = .cells [.d (.str s), .d (.int .i64 k), .d (.iface 50 (.int .i64 2))] := rfl
theorem robj_3 (s : List UInt8) (k : Int) : robj s k 3 = .cells [.d (.str s), .d (.int .i64 k), .d (.iface 50 (.int .i64 3))] := rfl
theorem robj_4 (s : List UInt8) (k : Int) : robj s k 4 = .cells [.d (.str s), .d (.int .i64 k), .d (.iface 50 (.int .i64 4))] := rfl
theorem robj_5 (s : List UInt8) (k : Int) : robj s k 5 = .cells [.d (.str s), .d (.int .i64 k), .d (.iface 50 (.int .i64 5))] := rfl
theorem robj_lit : errD 2 = .iface 50 (.int .i64 2) ∧ errD 3 = .iface 50 (.int .i64 3) ∧ errD 4 = .iface 50 (.int .i64 4) ∧ errD 5 = .iface 50 (.int .i64 5) := ⟨rfl, rfl, rfl, rfl⟩
def L___parse_reader__fail : LCode :=
 .seq (.reg [Qc 4 0, Q 5 (.nck (.t 4)), Q 6 (.fa 2 (.t 5)), Q 7 (.ld false 1 (.t 6)), Q 8 (.eqN 0 false (.t 7))]) (.cond (.t 8) (.reg [Qc 9 0, Qc 10 1, Q 11 (.nck (.t 9)), Q 12 (.fa 
 2 (.t 11)), ⟨none, .st 1 (.t 12) (.t 10), none⟩]) .skip)
def R___parse_reader__fail : List LRes := []
theorem lift___parse_reader__fail : Lifts Tryz.prog 34 13 L___parse_reader__fail R___parse_reader__fail := ⟨_, _, Tryz.func34, rfl, by kernel_rfl, by kernel_rfl, rfl⟩
theorem fail_0 (s : List UInt8) (k : Int) (e : Nat) : MCallE Tryz.prog 34 [.ptr (.x 0) 0, .d (errD e)] [robj s k 0] (.tuple []) [robj s k e] := by
 rw [robj_0]
 by_cases h : e = 0
 ·subst h
  rw [robj_0, show errD 0 = .nil from rfl]
  refine lift___parse_reader__fail.mcall (by kernel_rfl) rfl ?_
  simp (maxSteps := 2000000) only [go_sem, ↓reduceIte, L___parse_reader__fail, R___parse_reader__fail]
 ·rw [robj_ne s k h, errD_ne h]
  refine lift___parse_reader__fail.mcall (by kernel_rfl) rfl ?_
  simp (maxSteps := 2000000) only [go_sem, ↓reduceIte, L___parse_reader__fail, R___parse_reader__fail]
theorem fail_ne (s : List UInt8) (k : Int) {n : Nat} (h : n ≠ 0) (E : D) : MCallE Tryz.prog 34 [.ptr (.x 0) 0, .d E] [robj s k n] (.tuple []) [robj s k n] := by
 rw [robj_ne s k h]
 refine lift___parse_reader__fail.mcall (by kernel_rfl) rfl ?_
 simp (maxSteps := 2000000) only [go_sem, ↓reduceIte, L___parse_reader__fail, R___parse_reader__fail]
def L_internal_stringslite_HasPrefix : LCode :=
 .seq (.reg [Qx 4 KF]) (.seq (.reg [Qc 5 0, Q 6 (.len true (.t 5)), Qc 7 1, Q 8 (.len true (.t 7)), Q 9 (.bin .geq (.t 6) (.t 8)), Qc 10 9, Qd 11 0 10 true, Qd 12 1 10 true, Qg 13 
 (.len true (.t 12)) 10 true, Qg 14 (.subS (.t 11) none (some (.t 13))) 10 true, Qd 15 1 10 true, Qg 16 (.bin .eql (.t 14) (.t 15)) 10 true, Q 17 (.pick (.t 10) (.t 16) KF), Qa 4 
 17]) .ret)
def R_internal_stringslite_HasPrefix : List LRes := [.tmp 4]
theorem lift_internal_stringslite_HasPrefix : Lifts Tryz.prog 102 18 L_internal_stringslite_HasPrefix R_internal_stringslite_HasPrefix := ⟨_, _, Tryz.func102, rfl, by kernel_rfl, by kernel_rfl, rfl⟩
def L_strings_HasPrefix : LCode :=
 .seq (.reg [Qx 4 KF]) (.seq (.reg [Qc 5 0, Qc 6 1, ⟨some 7, .call 102 [.t 5, .t 6], none⟩, Qa 4 7]) .ret)
def R_strings_HasPrefix : List LRes := [.tmp 4]
theorem lift_strings_HasPrefix : Lifts Tryz.prog 85 8 L_strings_HasPrefix R_strings_HasPrefix := ⟨_, _, Tryz.func85, rfl, by kernel_rfl, by kernel_rfl, rfl⟩
def hasPre (s t : List UInt8) : Bool := decide (s.take t.length = t)
theorem hasPrefix_call (s t : List UInt8) : PCall Tryz.prog 85 [.str s, .str t] (fun r => r = .one (.bool (hasPre s t))) := by
 have h : PCall Tryz.prog 102 [.str s, .str t] (fun r => r = .one (.bool (hasPre s t))) := by
  refine lift_internal_stringslite_HasPrefix.call rfl ?_
  simp (maxSteps := 2000000) only [go_sem, ↓reduceIte, L_internal_stringslite_HasPrefix, R_internal_stringslite_HasPrefix]
  refine ⟨fun h => ⟨by omega, ?_⟩, fun h => ?_⟩
  ·rw [show (0 : Int) = ((0 : Nat) : Int) from rfl, cutI_nat, List.drop_zero]; rfl
  ·have : hasPre s t = false := by
    simp only [hasPre, decide_eq_false_iff_not]
    intro e
    have := congrArg List.length e
    simp at this
    omega
   rw [this]
 refine lift_strings_HasPrefix.call rfl ?_
 simp (maxSteps := 2000000) only [go_sem, ↓reduceIte, L_strings_HasPrefix, R_strings_HasPrefix]
 refine CallG.of h ?_
 simp (maxSteps := 2000000) only [go_sem, ↓reduceIte]
def L___parse_reader__next : LCode :=
 .seq (.reg [Qx 2 (Kb 0)]) (.seq (.dreg [Qc 3 0, Qc 4 0, Q 5 (.nck (.t 4)), Q 6 (.fa 0 (.t 5)), Q 7 (.ld false 1 (.t 6)), Qc 8 0, Q 9 (.nck (.t 8)), Q 10 (.fa 1 (.t 9)), Q 11 (.ld 
 false 1 (.t 10)), ⟨some 12, .call 18 [.t 7, .t 11], none⟩, Q 13 (.nck (.t 3)), Q 14 (.fa 1 (.t 13)), ⟨none, .st 1 (.t 14) (.t 12), none⟩]) (.seq (.seq (.dreg [Qc 15 0, Q 16 (.nck 
 (.t 15)), Q 17 (.fa 1 (.t 16)), Q 18 (.ld false 1 (.t 17)), Qc 19 0, Q 20 (.nck (.t 19)), Q 21 (.fa 0 (.t 20)), Q 22 (.ld false 1 (.t 21)), Q 23 (.len true (.t 22)), Q 24 (.bin 
 .lss (.t 18) (.t 23))]) (.cond (.t 24) (.seq (.dreg [Qc 25 0, Q 26 (.nck (.t 25)), Q 27 (.fa 0 (.t 26)), Q 28 (.ld false 1 (.t 27)), Qc 29 0, Q 30 (.nck (.t 29)), Q 31 (.fa 1 (.t 
 30)), Q 32 (.ld false 1 (.t 31)), Q 33 (.idxS (.t 28) (.t 32)), Qa 2 33]) .ret) .skip)) (.seq (.reg [Qc 34 0, Q 35 (.mkI 50 (Ki 5)), ⟨some 36, .prim .call [.k (.fn (.func 34) [] 
 []), .t 34, .t 35] [], none⟩]) (.seq (.reg [Qx 2 (Kb 0)]) .ret))))
def R___parse_reader__next : List LRes := [.tmp 2]
theorem lift___parse_reader__next : Lifts Tryz.prog 56 37 L___parse_reader__next R___parse_reader__next := ⟨_, _, Tryz.func56, rfl, by kernel_rfl, by kernel_rfl, rfl⟩
theorem next_0 (s : List UInt8) (k : Nat) (hs : s.length ≤ 60000) (hk : k ≤ s.length) : MCallE Tryz.prog 56 [.ptr (.x 0) 0] [robj s k 0]
  (.d (.int .u8 (match s[skipP s k]? with | none => 0 | some c => c.toNat))) [robj s (skipP s k) (match s[skipP s k]? with | none => 5 | some _ => 0)] := by
 have hw := skip_call s ((k : Nat) : Int) (by omega)
 rw [clamp_in hk] at hw
 have hsk := skipP_le hk
 generalize skipP s k = q at *
 rw [robj_0]
 refine lift___parse_reader__next.mcall (by kernel_rfl) rfl ?_
 simp (maxSteps := 2000000) only [go_sem, ↓reduceIte, L___parse_reader__next, R___parse_reader__next]
 refine CallD.of hw ?_
 simp (maxSteps := 2000000) only [go_sem, ↓reduceIte]
 refine ⟨fun h1 => ?_, fun h1 => ?_⟩
 ·obtain ⟨c, hc⟩ := get_some (l := s) (i := q) (by omega)
  simp (maxSteps := 2000000) only [go_sem, ↓reduceIte, getI_nat, hc]
  rfl
 ·rw [List.getElem?_eq_none (by omega)]
  have hf := fail_0 s (q : Int) 5
  rw [robj_0, show errD 5 = .iface 50 (.int .i64 5) from rfl] at hf
  refine PrimG.mc1 (.x 0) rfl (hf) rfl rfl rfl rfl ⟨rfl, rfl⟩ ?_
  simp (maxSteps := 2000000) only [go_sem, ↓reduceIte, robj]
theorem next_ne (s : List UInt8) (k : Int) {n : Nat} (hn : n ≠ 0) (hs : s.length ≤ 60000) : ∃ c : Int, MCallE Tryz.prog 56 [.ptr (.x 0) 0] [robj s k n] (.d (.int .u8 c)) [robj s (skipP s (clampP s k)) n] := by
 have hw := skip_call s k (by omega)
 have hsk := skipP_le (clamp_le s k)
 generalize skipP s (clampP s k) = q at *
 rcases Nat.lt_or_ge q s.length with h | h
 ·obtain ⟨c, hc⟩ := get_some (l := s) (i := q) h
  refine ⟨c.toNat, ?_⟩
  rw [robj_ne s k hn, robj_ne s q hn]
  refine lift___parse_reader__next.mcall (by kernel_rfl) rfl ?_
  simp (maxSteps := 2000000) only [go_sem, ↓reduceIte, L___parse_reader__next, R___parse_reader__next]
  refine CallD.of hw ?_
  have e1 : ((q : Int) < s.length) = True := eq_true (by omega)
  simp (maxSteps := 2000000) only [go_sem, ↓reduceIte, getI_nat, hc, e1]
 ·refine ⟨0, ?_⟩
  have hf := fail_ne s (q : Int) hn (errD 5)
  rw [robj_ne s q hn, show errD 5 = .iface 50 (.int .i64 5) from rfl] at hf
  rw [robj_ne s k hn, robj_ne s q hn]
  refine lift___parse_reader__next.mcall (by kernel_rfl) rfl ?_
  simp (maxSteps := 2000000) only [go_sem, ↓reduceIte, L___parse_reader__next, R___parse_reader__next]
  refine CallD.of hw ?_
  have e1 : ((q : Int) < s.length) = False := eq_false (by omega)
  simp (maxSteps := 2000000) only [go_sem, ↓reduceIte, e1]
  refine PrimG.mc1 (.x 0) rfl (hf) rfl rfl rfl rfl ⟨rfl, rfl⟩ ?_
  simp (maxSteps := 2000000) only [go_sem, ↓reduceIte]
def L___parse_reader__eat : LCode :=
 .seq (.reg [Qx 4 KF]) (.seq (.dreg [Qc 6 0, Q 7 (.nck (.t 6)), Q 8 (.fa 2 (.t 7)), Q 9 (.ld false 1 (.t 8)), Q 10 (.eqN 0 false (.t 9)), Qc 11 10, Qd 12 0 11 true, Qg 13 (.nck (.t 
 12)) 11 true, Qg 14 (.fa 0 (.t 13)) 11 true, Qg 15 (.ld false 1 (.t 14)) 11 true, Qd 16 0 11 true, Qg 17 (.nck (.t 16)) 11 true, Qg 18 (.fa 1 (.t 17)) 11 true, Qg 19 (.ld false 1 
 (.t 18)) 11 true, Qg 20 (.subS (.t 15) (some (.t 19)) none) 11 true, Qd 21 1 11 true, ⟨some 22, .call 85 [.t 20, .t 21], some (11, true)⟩, Q 23 (.pick (.t 11) (.t 22) KF), Qa 5 
 23]) (.seq (.seq (.reg [Qc 24 5]) (.cond (.t 24) (.reg [Qc 25 0, Q 26 (.nck (.t 25)), Q 27 (.fa 1 (.t 26)), Q 28 (.ld false 1 (.t 27)), Qc 29 1, Q 30 (.len true (.t 29)), Q 31 
 (.bin .add (.t 28) (.t 30)), Q 32 (.nck (.t 25)), Q 33 (.fa 1 (.t 32)), ⟨none, .st 1 (.t 33) (.t 31), none⟩]) .skip)) (.seq (.reg [Qc 34 5, Qa 4 34]) .ret)))
def R___parse_reader__eat : List LRes := [.tmp 4]
theorem lift___parse_reader__eat : Lifts Tryz.prog 60 35 L___parse_reader__eat R___parse_reader__eat := ⟨_, _, Tryz.func60, rfl, by kernel_rfl, by kernel_rfl, rfl⟩
theorem eat_0 (s : List UInt8) (k : Nat) (t : List UInt8) (hs : s.length ≤ 60000) (hk : k ≤ s.length) (ht : t.length ≤ 10) : MCallE Tryz.prog 60 [.ptr (.x 0) 0, .d (.str t)] [robj s k 0]
  (.d (.bool (hasPre (s.drop k) t))) [robj s (if hasPre (s.drop k) t = true then (k : Int) + t.length else k) 0] := by
 have hp := hasPrefix_call (s.drop k) t
 generalize hasPre (s.drop k) t = b at *
 rw [robj_0]
 refine lift___parse_reader__eat.mcall (by kernel_rfl) rfl ?_
 simp (maxSteps := 2000000) only [go_sem, ↓reduceIte, L___parse_reader__eat, R___parse_reader__eat]
 rw [show (s.length : Int) = ((s.length : Nat) : Int) from rfl, cutI_nat, List.take_length]
 refine ⟨by omega, ?_⟩
 refine CallD.of hp ?_
 simp (maxSteps := 2000000) only [go_sem, ↓reduceIte]
 refine ⟨fun h => ?_, fun h => ?_⟩
 ·simp (disch := omega) only [IntWalk.i64_in, IntWalk.u8_in]
  rw [if_pos h]; rfl
 ·rw [if_neg (by simp [h])]; rfl
theorem eat_ne (s : List UInt8) (k : Int) (t : List UInt8) {n : Nat} (hn : n ≠ 0) : MCallE Tryz.prog 60 [.ptr (.x 0) 0, .d (.str t)] [robj s k n] (.d (.bool false)) [robj s k n] := by
 rw [robj_ne s k hn]
 refine lift___parse_reader__eat.mcall (by kernel_rfl) rfl ?_
 simp (maxSteps := 2000000) only [go_sem, ↓reduceIte, L___parse_reader__eat, R___parse_reader__eat]
def L___parse_reader__str : LCode :=
 .seq (.reg [⟨some 4, .allo [.int .i64 0, .int .i64 0, .str [], .list [], .list []], none⟩]) (.seq (.seq (.reg [Qc 5 1, Q 6 (.len true (.t 5)), Q 7 (.bin .gtr (.t 6) (Ki 200))]) 
 (.cond (.t 7) (.reg [Qc 8 0, Q 9 (.mkI 50 (Ki 2)), ⟨some 10, .prim .call [.k (.fn (.func 34) [] []), .t 8, .t 9] [], none⟩]) .skip)) (.seq (.reg [Qc 11 1, Q 12 (.bld [(0, 1), (1, 
 1), (2, 1), (3, 1), (4, 1)] [.int .i64 0, .int .i64 0, .str [], .list [], .list []] [false, false, false, true, true] [(0, .k (.d (.int .i64 3))), (2, .t 11)]), ⟨none, .st 5 (.t 
 4) (.t 12), none⟩]) .ret))
def R___parse_reader__str : List LRes := [.cell 4 true 5]
theorem lift___parse_reader__str : Lifts Tryz.prog 58 13 L___parse_reader__str R___parse_reader__str := ⟨_, _, Tryz.func58, rfl, by kernel_rfl, by kernel_rfl, rfl⟩
theorem str_0 (s : List UInt8) (k : Int) (t : List UInt8) : MCallE Tryz.prog 58 [.ptr (.x 0) 0, .d (.str t)] [robj s k 0] (.d (strV t).d) [robj s k (if t.length ≤ 200 then 0 else 2)] := by
 have hf := fail_0 s k 2
 rw [show errD 2 = .iface 50 (.int .i64 2) from rfl] at hf
 rw [robj_0] at hf ⊢
 refine lift___parse_reader__str.mcall (by kernel_rfl) rfl ?_
 simp (maxSteps := 2000000) only [go_sem, ↓reduceIte, L___parse_reader__str, R___parse_reader__str]
 refine ⟨fun h => ?_, fun h => ?_⟩
 ·refine PrimG.mc1 (.x 0) rfl (hf) rfl rfl rfl rfl ⟨rfl, rfl⟩ ?_
  simp (maxSteps := 2000000) only [go_sem, ↓reduceIte, robj]
  rw [if_neg (by omega), Val.d_eq]
  exact ⟨rfl, rfl⟩
 ·rw [if_pos (by omega), Val.d_eq]
  exact ⟨rfl, rfl⟩
theorem str_ne (s : List UInt8) (k : Int) (t : List UInt8) {n : Nat} (hn : n ≠ 0) : MCallE Tryz.prog 58 [.ptr (.x 0) 0, .d (.str t)] [robj s k n] (.d (strV t).d) [robj s k n] := by
 have hf := fail_ne s k hn (errD 2)
 rw [show errD 2 = .iface 50 (.int .i64 2) from rfl] at hf
 rw [robj_ne s k hn] at hf ⊢
 refine lift___parse_reader__str.mcall (by kernel_rfl) rfl ?_
 simp (maxSteps := 2000000) only [go_sem, ↓reduceIte, L___parse_reader__str, R___parse_reader__str]
 refine ⟨fun h => ?_, fun h => ?_⟩
 ·refine PrimG.mc1 (.x 0) rfl (hf) rfl rfl rfl rfl ⟨rfl, rfl⟩ ?_
  simp (maxSteps := 2000000) only [go_sem, ↓reduceIte]
  rw [Val.d_eq]; rfl
 ·rw [Val.d_eq]; rfl
end Go.Av.Tryz
