import Derived.Test.YtjmhecojjcjcaaaDoorWa
import Derived.Test.YtjmhecojjcjcaaaDoorAvF
import Derived.Shelf.Strings.Builder1
set_option linter.unusedSimpArgs false
set_option maxRecDepth 100000
namespace Go.Av.Tryd
open Go.Proofs
open Go.Lib (decodeL decodeN decodeN_shape decodeL_N)
def natsU (l : List Nat) : List D := l.map fun (n : Nat) => D.int .i64 (n : Int)
theorem natsU_length (l : List Nat) : (natsU l).length = l.length := by simp [natsU]
theorem natsU_append (a b : List Nat) : natsU (a ++ b) = natsU a ++ natsU b := by simp [natsU]
theorem natsU_get (l : List Nat) (j : Nat) : (natsU l)[j]? = (l[j]?).map fun (n : Nat) => D.int .i64 (n : Int) := by simp [natsU]
def cumR (l : List UInt8) (r0 : Nat) : Nat → Nat
 | 0 => r0
 | j + 1 => 64 * cumR l r0 j + (l.getD (j + 1) 0).toNat - 128
def contB (l : List UInt8) (j : Nat) : Prop := 128 ≤ (l.getD j 0).toNat ∧ (l.getD j 0).toNat ≤ 191
def leadR (c n r0 : Nat) : Prop := (c < 128 ∧ n = 0 ∧ r0 = c) ∨ (194 ≤ c ∧ c < 224 ∧ n = 1 ∧ r0 = c - 192) ∨ (224 ≤ c ∧ c < 240 ∧ n = 2 ∧ r0 = c - 224) ∨ (240 ≤ c ∧ c < 245 ∧ n = 3 ∧ r0 = c - 240)
theorem bad_N (l : List UInt8) (h : decodeN l.length (l.getD 0 0).toNat (l.getD 1 0).toNat (l.getD 2 0).toNat (l.getD 3 0).toNat = (65533, 1)) : bad l = true := by
 have e : decodeL l = (65533, 1) := (decodeL_N l).trans h
 simp only [bad, e, decide_true, Bool.and_self]
theorem lead_none {l : List UInt8} (hl : 0 < l.length) (h : ∀ n r0, ¬ leadR (l.getD 0 0).toNat n r0) : bad l = true := by
 refine bad_N l (Lib.decodeN_bad _ _ _ _ _ ?_)
 have k0 := (l.getD 0 0).toNat_lt
 by_cases a : (l.getD 0 0).toNat < 128
 ·exact absurd (.inl ⟨a, rfl, rfl⟩) (h 0 (l.getD 0 0).toNat)
 ·by_cases b : 194 ≤ (l.getD 0 0).toNat ∧ (l.getD 0 0).toNat < 224
  ·exact absurd (.inr (.inl ⟨b.1, b.2, rfl, rfl⟩)) (h 1 ((l.getD 0 0).toNat - 192))
  ·by_cases c : 224 ≤ (l.getD 0 0).toNat ∧ (l.getD 0 0).toNat < 240
   ·exact absurd (.inr (.inr (.inl ⟨c.1, c.2, rfl, rfl⟩))) (h 2 ((l.getD 0 0).toNat - 224))
   ·by_cases d : 240 ≤ (l.getD 0 0).toNat ∧ (l.getD 0 0).toNat < 245
    ·exact absurd (.inr (.inr (.inr ⟨d.1, d.2, rfl, rfl⟩))) (h 3 ((l.getD 0 0).toNat - 240))
    ·omega
theorem lead_short {l : List UInt8} {n r0 : Nat} (hl : 0 < l.length) (h : leadR (l.getD 0 0).toNat n r0) (hn : l.length ≤ n) : bad l = true := by
 refine bad_N l ?_
 unfold leadR at h
 rcases decodeN_shape l.length (l.getD 0 0).toNat (l.getD 1 0).toNat (l.getD 2 0).toNat (l.getD 3 0).toNat with ⟨c, e⟩ | ⟨c1, c2, c3, cv, e⟩ | ⟨c1, c2, c3, c4, cv, cs, e⟩ | ⟨c1, c2, c3, c4, c5, cv, cw, e⟩ | e
 all_goals first | exact e | (exfalso; omega)
theorem lead_cont {l : List UInt8} {n r0 j : Nat} (hl : 0 < l.length) (h : leadR (l.getD 0 0).toNat n r0) (h1 : 1 ≤ j) (hj : j ≤ n) (hc : ¬ contB l j) : bad l = true := by
 refine bad_N l ?_
 unfold leadR at h
 unfold contB at hc
 have k1 := (l.getD 1 0).toNat_lt
 have k2 := (l.getD 2 0).toNat_lt
 have k3 := (l.getD 3 0).toNat_lt
 have hj3 : j = 1 ∨ j = 2 ∨ j = 3 := by omega
 rcases decodeN_shape l.length (l.getD 0 0).toNat (l.getD 1 0).toNat (l.getD 2 0).toNat (l.getD 3 0).toNat with ⟨c, e⟩ | ⟨c1, c2, c3, cv, e⟩ | ⟨c1, c2, c3, c4, cv, cs, e⟩ | ⟨c1, c2, c3, c4, c5, cv, cw, e⟩ | e
 all_goals first
  | exact e
  | (exfalso; omega)
  | (exfalso; rcases hj3 with rfl | rfl | rfl <;> omega)
theorem lead_fin {l : List UInt8} {n r0 : Nat} (h : leadR (l.getD 0 0).toNat n r0) (hl : n < l.length) (hc : ∀ j, 1 ≤ j → j ≤ n → contB l j) :
  (((n = 2 ∧ cumR l r0 n < 2048) ∨ (n = 3 ∧ cumR l r0 n < 65536) ∨ 1114111 < cumR l r0 n ∨ (55295 < cumR l r0 n ∧ cumR l r0 n < 57344)) ∧ bad l = true) ∨
  (¬ ((n = 2 ∧ cumR l r0 n < 2048) ∨ (n = 3 ∧ cumR l r0 n < 65536) ∨ 1114111 < cumR l r0 n ∨ (55295 < cumR l r0 n ∧ cumR l r0 n < 57344)) ∧ bad l = false ∧ decodeL l = (cumR l r0 n, n + 1)) := by
 have hb : ∀ r k, decodeN l.length (l.getD 0 0).toNat (l.getD 1 0).toNat (l.getD 2 0).toNat (l.getD 3 0).toNat = (r, k) → (r ≠ 65533 ∨ k ≠ 1) → bad l = false ∧ decodeL l = (r, k) := fun r k e hk => by
  refine ⟨?_, by rw [decodeL_N, e]⟩
  rw [Bool.eq_false_iff]; intro hb
  rw [bad_iff, decodeL_N, e] at hb
  simp only at hb
  rcases hk with hk | hk
  ·exact hk hb.1
  ·exact hk hb.2
 have k0 := (l.getD 0 0).toNat_lt
 unfold leadR at h
 rcases h with ⟨a, rfl, rfl⟩ | ⟨a, b, rfl, rfl⟩ | ⟨a, b, rfl, rfl⟩ | ⟨a, b, rfl, rfl⟩
 ·right
  simp only [cumR]
  refine ⟨by omega, hb _ _ ?_ (.inl (by omega))⟩
  rw [decodeN, if_pos a]
 ·right
  obtain ⟨c1, c2⟩ := hc 1 (by omega) (by omega)
  have e : cumR l ((l.getD 0 0).toNat - 192) 1 = (l.getD 0 0).toNat % 32 * 64 + (l.getD 1 0).toNat % 64 := by simp only [cumR, Nat.zero_add, Nat.reduceAdd]; omega
  rw [e]
  refine ⟨by omega, hb _ _ ?_ (.inr (by omega))⟩
  rw [decodeN, if_neg (by omega), if_pos (by omega), if_pos (by omega)]
 ·obtain ⟨c1, c2⟩ := hc 1 (by omega) (by omega)
  obtain ⟨d1, d2⟩ := hc 2 (by omega) (by omega)
  have e : cumR l ((l.getD 0 0).toNat - 224) 2 = (l.getD 0 0).toNat % 16 * 4096 + (l.getD 1 0).toNat % 64 * 64 + (l.getD 2 0).toNat % 64 := by simp only [cumR, Nat.zero_add, Nat.reduceAdd]; omega
  rw [e]
  by_cases hx : (l.getD 0 0).toNat % 16 * 4096 + (l.getD 1 0).toNat % 64 * 64 + (l.getD 2 0).toNat % 64 < 2048 ∨ (55295 < (l.getD 0 0).toNat % 16 * 4096 + (l.getD 1 0).toNat % 64 * 64 + (l.getD 2 0).toNat % 64 ∧ (l.getD 0 0).toNat % 16 * 4096 + (l.getD 1 0).toNat % 64 * 64 + (l.getD 2 0).toNat % 64 < 57344)
  ·left
   refine ⟨by omega, bad_N l ?_⟩
   rw [decodeN, if_neg (by omega), if_neg (by omega), if_pos (by omega), if_neg (by omega)]
  ·right
   refine ⟨by omega, hb _ _ ?_ (.inr (by omega))⟩
   rw [decodeN, if_neg (by omega), if_neg (by omega), if_pos (by omega), if_pos (by omega)]
 ·obtain ⟨c1, c2⟩ := hc 1 (by omega) (by omega)
  obtain ⟨d1, d2⟩ := hc 2 (by omega) (by omega)
  obtain ⟨f1, f2⟩ := hc 3 (by omega) (by omega)
  have e : cumR l ((l.getD 0 0).toNat - 240) 3 = (l.getD 0 0).toNat % 8 * 262144 + (l.getD 1 0).toNat % 64 * 4096 + (l.getD 2 0).toNat % 64 * 64 + (l.getD 3 0).toNat % 64 := by simp only [cumR, Nat.zero_add, Nat.reduceAdd]; omega
  rw [e]
  by_cases hx : (l.getD 0 0).toNat % 8 * 262144 + (l.getD 1 0).toNat % 64 * 4096 + (l.getD 2 0).toNat % 64 * 64 + (l.getD 3 0).toNat % 64 < 65536 ∨ 1114111 < (l.getD 0 0).toNat % 8 * 262144 + (l.getD 1 0).toNat % 64 * 4096 + (l.getD 2 0).toNat % 64 * 64 + (l.getD 3 0).toNat % 64
  ·left
   refine ⟨by omega, bad_N l ?_⟩
   rw [decodeN, if_neg (by omega), if_neg (by omega), if_neg (by omega), if_pos (by omega), if_neg (by omega)]
  ·right
   refine ⟨by omega, hb _ _ ?_ (.inr (by omega))⟩
   rw [decodeN, if_neg (by omega), if_neg (by omega), if_neg (by omega), if_pos (by omega), if_pos (by omega)]
def runesRes (o : Option (List Nat)) : Res := match o with
 | some rs => .tup [.list (natsU rs), .bool true]
 | none => .tup [.list [], .bool false]
theorem lead_le {l : List UInt8} {n r0 : Nat} (h : leadR (l.getD 0 0).toNat n r0) : n ≤ 3 ∧ r0 < 128 := by unfold leadR at h; omega
theorem cum_le {l : List UInt8} {n r0 : Nat} (h : r0 < 128) : ∀ j, j ≤ 3 → cumR l r0 j < 50000000 := by
 intro j hj
 have k1 := (l.getD (0 + 1) 0).toNat_lt
 have k2 := (l.getD (1 + 1) 0).toNat_lt
 have k3 := (l.getD (2 + 1) 0).toNat_lt
 match j, hj with
 | 0, _ => simp only [cumR]; omega
 | 1, _ => simp only [cumR]; omega
 | 2, _ => simp only [cumR]; omega
 | 3, _ => simp only [cumR]; omega
 | j + 4, h => omega
def L_foliowrightref_Runes : LCode :=
 .seq (.reg [⟨some 2, .nils 3 1, none⟩, Qx 3 KF]) (.seq (.reg [⟨some 4, .nils 3 1, none⟩]) (.seq (.reg [Qx 5 (Ki 0)]) (.seq (.block 0 (.loop (.seq (.seq (.reg [Qc 11 5, Qc 12 0, Q 
 13 (.len true (.t 12)), Q 14 (.bin .lss (.t 11) (.t 13))]) (.cond (.t 14) .skip (.exit 0))) (.block 1 (.seq (.reg [Qc 15 0, Qc 16 5, Q 17 (.idxS (.t 15) (.t 16)), Q 18 (.cvI .i64 
 (.t 17)), Qa 6 18]) (.seq (.reg [Qx 7 (Ki 0)]) (.seq (.reg [Qc 19 6, Qa 8 19]) (.seq (.block 2 (.seq (.reg [Qc 21 6, Q 22 (.bin .lss (.t 21) (Ki 128)), Qa 20 22]) (.cond (.t 20) 
 .skip (.seq (.reg [Qc 24 6, Q 25 (.bin .geq (.t 24) (Ki 194)), Qc 26 25, Qd 27 6 26 true, Qg 28 (.bin .lss (.t 27) (Ki 224)) 26 true, Q 29 (.pick (.t 26) (.t 28) KF), Qa 23 29]) 
 (.cond (.t 23) (.seq (.reg [Qx 7 (Ki 1)]) (.reg [Qc 30 6, Q 31 (.bin .sub (.t 30) (Ki 192)), Qa 8 31])) (.seq (.reg [Qc 33 6, Q 34 (.bin .geq (.t 33) (Ki 224)), Qc 35 34, Qd 36 6 
 35 true, Qg 37 (.bin .lss (.t 36) (Ki 240)) 35 true, Q 38 (.pick (.t 35) (.t 37) KF), Qa 32 38]) (.cond (.t 32) (.seq (.reg [Qx 7 (Ki 2)]) (.reg [Qc 39 6, Q 40 (.bin .sub (.t 39) 
 (Ki 224)), Qa 8 40])) (.seq (.reg [Qc 42 6, Q 43 (.bin .geq (.t 42) (Ki 240)), Qc 44 43, Qd 45 6 44 true, Qg 46 (.bin .lss (.t 45) (Ki 245)) 44 true, Q 47 (.pick (.t 44) (.t 46) 
 KF), Qa 41 47]) (.cond (.t 41) (.seq (.reg [Qx 7 (Ki 3)]) (.reg [Qc 48 6, Q 49 (.bin .sub (.t 48) (Ki 240)), Qa 8 49])) (.seq (.reg [⟨some 2, .nils 3 1, none⟩, Qx 3 KF]) 
 .ret)))))))))) (.seq (.seq (.reg [Qc 50 5, Qc 51 7, Q 52 (.bin .add (.t 50) (.t 51)), Qc 53 0, Q 54 (.len true (.t 53)), Q 55 (.bin .geq (.t 52) (.t 54))]) (.cond (.t 55) (.seq 
 (.reg [⟨some 2, .nils 3 1, none⟩, Qx 3 KF]) .ret) .skip)) (.seq (.seq (.reg [Qx 9 (Ki 1)]) (.block 3 (.loop (.seq (.seq (.reg [Qc 56 9, Qc 57 7, Q 58 (.bin .leq (.t 56) (.t 
 57))]) (.cond (.t 58) .skip (.exit 3))) (.seq (.block 4 (.seq (.reg [Qc 61 0, Qc 62 5, Qc 63 9, Q 64 (.bin .add (.t 62) (.t 63)), Q 65 (.idxS (.t 61) (.t 64)), Q 66 (.cvI .i64 
 (.t 65)), Qa 10 66]) (.seq (.seq (.reg [Qc 67 10, Q 68 (.bin .lss (.t 67) (Ki 128)), Qc 69 68, Qd 70 10 69 false, Qg 71 (.bin .gtr (.t 70) (Ki 191)) 69 false, Q 72 (.pick (.t 69) 
 KT (.t 71))]) (.cond (.t 72) (.seq (.reg [⟨some 2, .nils 3 1, none⟩, Qx 3 KF]) .ret) .skip)) (.reg [Qc 73 8, Q 74 (.bin .mul (Ki 64) (.t 73)), Qc 75 10, Q 76 (.bin .add (.t 74) 
 (.t 75)), Q 77 (.bin .sub (.t 76) (Ki 128)), Qa 8 77])))) (.reg [Qc 59 9, Q 60 (.bin .add (.t 59) (Ki 1)), Qa 9 60])))))) (.seq (.seq (.reg [Qc 78 7, Q 79 (.bin .eql (.t 78) (Ki 
 2)), Qc 80 79, Qd 81 8 80 true, Qg 82 (.bin .lss (.t 81) (Ki 2048)) 80 true, Q 83 (.pick (.t 80) (.t 82) KF), Qc 84 83, Qd 85 7 84 false, Qg 86 (.bin .eql (.t 85) (Ki 3)) 84 
 false, Qd 87 86 84 false, Qd 88 8 87 true, Qg 89 (.bin .lss (.t 88) (Ki 65536)) 87 true, Qg 90 (.pick (.t 87) (.t 89) KF) 84 false, Q 91 (.pick (.t 84) KT (.t 90)), Qc 92 91, Qd 
 93 8 92 false, Qg 94 (.bin .gtr (.t 93) (Ki 1114111)) 92 false, Q 95 (.pick (.t 92) KT (.t 94)), Qc 96 95, Qd 97 8 96 false, Qg 98 (.bin .gtr (.t 97) (Ki 55295)) 96 false, Qd 99 
 98 96 false, Qd 100 8 99 true, Qg 101 (.bin .lss (.t 100) (Ki 57344)) 99 true, Qg 102 (.pick (.t 99) (.t 101) KF) 96 false, Q 103 (.pick (.t 96) KT (.t 102))]) (.cond (.t 103) 
 (.seq (.reg [⟨some 2, .nils 3 1, none⟩, Qx 3 KF]) .ret) .skip)) (.seq (.reg [Qc 104 4, Qc 105 8, ⟨some 106, .bsl 3 1 [.t 105], none⟩, ⟨some 107, .app 3 1 8 false (.t 104) (.t 
 106), none⟩, Qa 4 107]) (.reg [Qc 108 5, Qc 109 7, Q 110 (.bin .add (.t 108) (.t 109)), Q 111 (.bin .add (.t 110) (Ki 1)), Qa 5 111]))))))))))))) (.seq (.reg [Qc 112 4, Qa 2 112, 
 Qx 3 KT]) .ret))))
def R_foliowrightref_Runes : List LRes := [.tmp 2, .tmp 3]
theorem lift_foliowrightref_Runes : Lifts Tryd.prog 46 113 L_foliowrightref_Runes R_foliowrightref_Runes := ⟨_, _, Tryd.func46, rfl, by kernel_rfl, by kernel_rfl, rfl⟩
theorem runes_call (s : List UInt8) (hs : s.length ≤ 1000000000) : PCall Tryd.prog 46 [.str s] (fun r => r = runesRes (runesM s)) := by
 refine lift_foliowrightref_Runes.call rfl ?_
 simp (maxSteps := 2000000) only [go_sem, ↓reduceIte, L_foliowrightref_Runes, R_foliowrightref_Runes]
 refine run_loop (fun y : Nat × List Nat => ⟨[(0, .d (.str s)), (4, .own (.t 4) 3 1 (natsU y.2)), (5, .d (.int .i64 y.1))], [], []⟩)
  (fun y => y.1 ≤ s.length ∧ y.2.length ≤ y.1 ∧ (runesM (s.drop y.1)).map (y.2 ++ ·) = runesM s) (fun y => s.length - y.1) (0, []) ?_ ?_ ?_
 ·refine weak_mk ?_ trivial
  simp (maxSteps := 2000000) only [go_sem, ↓reduceIte, Sub, Int.natCast_add, Int.natCast_mul, natsU]
 ·exact ⟨Nat.zero_le _, Nat.le_refl _, by simp⟩
 ·rintro ⟨i, acc⟩ ⟨hi, ha, hF⟩
  simp only at hi ha hF
  have hacc := natsU_length acc
  simp (maxSteps := 2000000) only [go_sem, ↓reduceIte]
  refine ⟨fun hlt => ?_, fun hge => ?_⟩
  ·obtain ⟨c, hc⟩ := get_some (l := s) (i := i) (by omega)
   have hc8 := u8_lt c
   have hne : s.drop i ≠ [] := fun h => by have := List.drop_eq_nil_iff.1 h; omega
   have hlen : (s.drop i).length = s.length - i := List.length_drop
   have hg0 : (s.drop i).getD 0 0 = c := by rw [List.getD_eq_getElem?_getD, List.getElem?_drop]; simp [hc]
   rw [runesM_step hne] at hF
   have bad' : bad (s.drop i) = true → Res.tup [D.list [], D.bool false] = runesRes (runesM s) := fun h => by rw [if_pos h] at hF; rw [← hF]; rfl
   by_cases a : c.toNat < 128
   ·have z0 : ((c.toNat : Int) < 128) = True := eq_true (by omega)
    have hlead : leadR ((s.drop i).getD 0 0).toNat 0 (c.toNat) := by rw [hg0]; unfold leadR; omega
    obtain ⟨q1, q2⟩ := lead_le hlead
    have e0 : ((cumR (s.drop i) (c.toNat) 0 : Nat) : Int) = (c.toNat : Int) := by unfold cumR; omega
    simp (maxSteps := 2000000) (disch := omega) only [go_sem, ↓reduceIte, getI_nat, hc, z0]
    refine ⟨fun h => bad' (lead_short (by omega) hlead (by omega)), fun h => ?_⟩
    refine run_loop (fun j : Nat => ⟨[(0, .d (.str s)), (4, .own (.t 4) 3 1 (natsU acc)), (5, .d (.int .i64 i)), (7, .d (.int .i64 0)), (8, .d (.int .i64 (cumR (s.drop i) (c.toNat) j : Nat))), (9, .d (.int .i64 ((j : Int) + 1)))], [], []⟩)
     (fun j => j ≤ 0 ∧ ∀ k, 1 ≤ k → k ≤ j → contB (s.drop i) k) (fun j => 0 - j) 0 ?_ ?_ ?_
    ·refine weak_mk ?_ trivial
     simp (maxSteps := 2000000) only [go_sem, ↓reduceIte, Sub, Int.natCast_add, Int.natCast_mul, e0]
    ·exact ⟨by omega, fun k h1 h2 => by omega⟩
    ·rintro j ⟨hj, hcj⟩
     have hcum := cum_le (l := s.drop i) (n := 0) q2 j (by omega)
     have zj : (((j : Int) + 1 ≤ 0)) = (j < 0) := propext (by omega)
     simp (maxSteps := 2000000) (disch := omega) only [go_sem, ↓reduceIte, zj]
     refine ⟨fun hj1 => ?_, fun hj1 => ?_⟩
     ·obtain ⟨d, hd⟩ := get_some (l := s) (i := i + (j + 1)) (by omega)
      have hd8 := u8_lt d
      have hgd : getI s ((i : Int) + ((j : Int) + 1)) = some d := by rw [← hd, ← getI_nat]; congr 1
      have hgd' : (s.drop i).getD (j + 1) 0 = d := by rw [List.getD_eq_getElem?_getD, List.getElem?_drop]; simp [hd]
      have hbad : ¬ (128 ≤ d.toNat ∧ d.toNat ≤ 191) → bad (s.drop i) = true := fun h => lead_cont (by omega) hlead (j := j + 1) (by omega) (by omega) (by unfold contB; rw [hgd']; exact h)
      have hnext : 128 ≤ d.toNat → ((cumR (s.drop i) (c.toNat) (j + 1) : Nat) : Int) = 64 * (cumR (s.drop i) (c.toNat) j : Nat) + d.toNat - 128 := fun h => by simp only [cumR, hgd']; omega
      simp (maxSteps := 2000000) (disch := omega) only [go_sem, ↓reduceIte, hgd]
      refine ⟨fun h1 => ⟨fun h2 => bad' (hbad (by omega)), fun h2 => ⟨j + 1, ?_, ⟨by omega, fun k k1 k2 => ?_⟩, by omega⟩⟩, fun h1 => bad' (hbad (by omega))⟩
      ·have hn := hnext (by omega)
       refine weak_mk ?_ trivial
       simp (maxSteps := 2000000) only [go_sem, ↓reduceIte, Sub, Int.natCast_add, Int.natCast_mul, hn]
      ·by_cases hk : k = j + 1
       ·subst hk; unfold contB; rw [hgd']; omega
       ·exact hcj k k1 (by omega)
     ·have hjN : j = 0 := by omega
      subst hjN
      have hfin := lead_fin hlead (by omega) (fun k k1 k2 => hcj k k1 k2)
      generalize cumR (s.drop i) (c.toNat) 0 = R at *
      clear e0
      simp (maxSteps := 2000000) (disch := omega) only [go_sem, ↓reduceIte]
      have eN : ((i + 1 : Nat) : Int) = (i : Int) + 0 + 1 := by omega
      have zz : natsU acc ++ [D.int .i64 (R : Int)] = natsU (acc ++ [R]) := by rw [natsU_append]; rfl
      rcases hfin with ⟨hx, hb⟩ | ⟨hx, hb, hdec⟩
      ·repeat' (first | intro _ | apply And.intro)
       all_goals first | exact bad' hb | (exfalso; omega)
      ·rw [hb, if_neg (by decide), hdec] at hF
       simp only at hF
       have hF2 : (runesM (s.drop (i + 1))).map ((acc ++ [R]) ++ ·) = runesM s := by
        rw [List.drop_drop] at hF
        rw [← hF]
        cases runesM (s.drop (i + 1)) <;> simp
       repeat' (first | intro _ | apply And.intro)
       all_goals first | (exfalso; omega) | omega | skip
       all_goals refine ⟨(i + 1, acc ++ [R]), ?_, ⟨by simp only; omega, by simp only [List.length_append, List.length_cons, List.length_nil]; omega, hF2⟩, by simp only; omega⟩
       all_goals (refine weak_mk ?_ trivial; simp (maxSteps := 2000000) only [go_sem, ↓reduceIte, Sub, Int.natCast_add, Int.natCast_mul, zz, eN])
   by_cases b : 194 ≤ c.toNat ∧ c.toNat < 224
   ·have z0 : ((c.toNat : Int) < 128) = False := eq_false (by omega)
    have z1 : (194 ≤ (c.toNat : Int)) = True := eq_true (by omega)
    have z2 : ((c.toNat : Int) < 224) = True := eq_true (by omega)
    have hlead : leadR ((s.drop i).getD 0 0).toNat 1 (c.toNat - 192) := by rw [hg0]; unfold leadR; omega
    obtain ⟨q1, q2⟩ := lead_le hlead
    have e0 : ((cumR (s.drop i) (c.toNat - 192) 0 : Nat) : Int) = (c.toNat : Int) - 192 := by unfold cumR; omega
    simp (maxSteps := 2000000) (disch := omega) only [go_sem, ↓reduceIte, getI_nat, hc, z0, z1, z2]
    refine ⟨fun h => bad' (lead_short (by omega) hlead (by omega)), fun h => ?_⟩
    refine run_loop (fun j : Nat => ⟨[(0, .d (.str s)), (4, .own (.t 4) 3 1 (natsU acc)), (5, .d (.int .i64 i)), (7, .d (.int .i64 1)), (8, .d (.int .i64 (cumR (s.drop i) (c.toNat - 192) j : Nat))), (9, .d (.int .i64 ((j : Int) + 1)))], [], []⟩)
     (fun j => j ≤ 1 ∧ ∀ k, 1 ≤ k → k ≤ j → contB (s.drop i) k) (fun j => 1 - j) 0 ?_ ?_ ?_
    ·refine weak_mk ?_ trivial
     simp (maxSteps := 2000000) only [go_sem, ↓reduceIte, Sub, Int.natCast_add, Int.natCast_mul, e0]
    ·exact ⟨by omega, fun k h1 h2 => by omega⟩
    ·rintro j ⟨hj, hcj⟩
     have hcum := cum_le (l := s.drop i) (n := 1) q2 j (by omega)
     have zj : (((j : Int) + 1 ≤ 1)) = (j < 1) := propext (by omega)
     simp (maxSteps := 2000000) (disch := omega) only [go_sem, ↓reduceIte, zj]
     refine ⟨fun hj1 => ?_, fun hj1 => ?_⟩
     ·obtain ⟨d, hd⟩ := get_some (l := s) (i := i + (j + 1)) (by omega)
      have hd8 := u8_lt d
      have hgd : getI s ((i : Int) + ((j : Int) + 1)) = some d := by rw [← hd, ← getI_nat]; congr 1
      have hgd' : (s.drop i).getD (j + 1) 0 = d := by rw [List.getD_eq_getElem?_getD, List.getElem?_drop]; simp [hd]
      have hbad : ¬ (128 ≤ d.toNat ∧ d.toNat ≤ 191) → bad (s.drop i) = true := fun h => lead_cont (by omega) hlead (j := j + 1) (by omega) (by omega) (by unfold contB; rw [hgd']; exact h)
      have hnext : 128 ≤ d.toNat → ((cumR (s.drop i) (c.toNat - 192) (j + 1) : Nat) : Int) = 64 * (cumR (s.drop i) (c.toNat - 192) j : Nat) + d.toNat - 128 := fun h => by simp only [cumR, hgd']; omega
      simp (maxSteps := 2000000) (disch := omega) only [go_sem, ↓reduceIte, hgd]
      refine ⟨fun h1 => ⟨fun h2 => bad' (hbad (by omega)), fun h2 => ⟨j + 1, ?_, ⟨by omega, fun k k1 k2 => ?_⟩, by omega⟩⟩, fun h1 => bad' (hbad (by omega))⟩
      ·have hn := hnext (by omega)
       refine weak_mk ?_ trivial
       simp (maxSteps := 2000000) only [go_sem, ↓reduceIte, Sub, Int.natCast_add, Int.natCast_mul, hn]
      ·by_cases hk : k = j + 1
       ·subst hk; unfold contB; rw [hgd']; omega
       ·exact hcj k k1 (by omega)
     ·have hjN : j = 1 := by omega
      subst hjN
      have hfin := lead_fin hlead (by omega) (fun k k1 k2 => hcj k k1 k2)
      generalize cumR (s.drop i) (c.toNat - 192) 1 = R at *
      clear e0
      simp (maxSteps := 2000000) (disch := omega) only [go_sem, ↓reduceIte]
      have eN : ((i + 2 : Nat) : Int) = (i : Int) + 1 + 1 := by omega
      have zz : natsU acc ++ [D.int .i64 (R : Int)] = natsU (acc ++ [R]) := by rw [natsU_append]; rfl
      rcases hfin with ⟨hx, hb⟩ | ⟨hx, hb, hdec⟩
      ·repeat' (first | intro _ | apply And.intro)
       all_goals first | exact bad' hb | (exfalso; omega)
      ·rw [hb, if_neg (by decide), hdec] at hF
       simp only at hF
       have hF2 : (runesM (s.drop (i + 2))).map ((acc ++ [R]) ++ ·) = runesM s := by
        rw [List.drop_drop] at hF
        rw [← hF]
        cases runesM (s.drop (i + 2)) <;> simp
       repeat' (first | intro _ | apply And.intro)
       all_goals first | (exfalso; omega) | omega | skip
       all_goals refine ⟨(i + 2, acc ++ [R]), ?_, ⟨by simp only; omega, by simp only [List.length_append, List.length_cons, List.length_nil]; omega, hF2⟩, by simp only; omega⟩
       all_goals (refine weak_mk ?_ trivial; simp (maxSteps := 2000000) only [go_sem, ↓reduceIte, Sub, Int.natCast_add, Int.natCast_mul, zz, eN])
   by_cases b2 : 224 ≤ c.toNat ∧ c.toNat < 240
   ·have z0 : ((c.toNat : Int) < 128) = False := eq_false (by omega)
    have z1 : (194 ≤ (c.toNat : Int)) = True := eq_true (by omega)
    have z2 : ((c.toNat : Int) < 224) = False := eq_false (by omega)
    have z3 : (224 ≤ (c.toNat : Int)) = True := eq_true (by omega)
    have z4 : ((c.toNat : Int) < 240) = True := eq_true (by omega)
    have hlead : leadR ((s.drop i).getD 0 0).toNat 2 (c.toNat - 224) := by rw [hg0]; unfold leadR; omega
    obtain ⟨q1, q2⟩ := lead_le hlead
    have e0 : ((cumR (s.drop i) (c.toNat - 224) 0 : Nat) : Int) = (c.toNat : Int) - 224 := by unfold cumR; omega
    simp (maxSteps := 2000000) (disch := omega) only [go_sem, ↓reduceIte, getI_nat, hc, z0, z1, z2, z3, z4]
    refine ⟨fun h => bad' (lead_short (by omega) hlead (by omega)), fun h => ?_⟩
    refine run_loop (fun j : Nat => ⟨[(0, .d (.str s)), (4, .own (.t 4) 3 1 (natsU acc)), (5, .d (.int .i64 i)), (7, .d (.int .i64 2)), (8, .d (.int .i64 (cumR (s.drop i) (c.toNat - 224) j : Nat))), (9, .d (.int .i64 ((j : Int) + 1)))], [], []⟩)
     (fun j => j ≤ 2 ∧ ∀ k, 1 ≤ k → k ≤ j → contB (s.drop i) k) (fun j => 2 - j) 0 ?_ ?_ ?_
    ·refine weak_mk ?_ trivial
     simp (maxSteps := 2000000) only [go_sem, ↓reduceIte, Sub, Int.natCast_add, Int.natCast_mul, e0]
    ·exact ⟨by omega, fun k h1 h2 => by omega⟩
    ·rintro j ⟨hj, hcj⟩
     have hcum := cum_le (l := s.drop i) (n := 2) q2 j (by omega)
     have zj : (((j : Int) + 1 ≤ 2)) = (j < 2) := propext (by omega)
     simp (maxSteps := 2000000) (disch := omega) only [go_sem, ↓reduceIte, zj]
     refine ⟨fun hj1 => ?_, fun hj1 => ?_⟩
     ·obtain ⟨d, hd⟩ := get_some (l := s) (i := i + (j + 1)) (by omega)
      have hd8 := u8_lt d
      have hgd : getI s ((i : Int) + ((j : Int) + 1)) = some d := by rw [← hd, ← getI_nat]; congr 1
      have hgd' : (s.drop i).getD (j + 1) 0 = d := by rw [List.getD_eq_getElem?_getD, List.getElem?_drop]; simp [hd]
      have hbad : ¬ (128 ≤ d.toNat ∧ d.toNat ≤ 191) → bad (s.drop i) = true := fun h => lead_cont (by omega) hlead (j := j + 1) (by omega) (by omega) (by unfold contB; rw [hgd']; exact h)
      have hnext : 128 ≤ d.toNat → ((cumR (s.drop i) (c.toNat - 224) (j + 1) : Nat) : Int) = 64 * (cumR (s.drop i) (c.toNat - 224) j : Nat) + d.toNat - 128 := fun h => by simp only [cumR, hgd']; omega
      simp (maxSteps := 2000000) (disch := omega) only [go_sem, ↓reduceIte, hgd]
      refine ⟨fun h1 => ⟨fun h2 => bad' (hbad (by omega)), fun h2 => ⟨j + 1, ?_, ⟨by omega, fun k k1 k2 => ?_⟩, by omega⟩⟩, fun h1 => bad' (hbad (by omega))⟩
      ·have hn := hnext (by omega)
       refine weak_mk ?_ trivial
       simp (maxSteps := 2000000) only [go_sem, ↓reduceIte, Sub, Int.natCast_add, Int.natCast_mul, hn]
      ·by_cases hk : k = j + 1
       ·subst hk; unfold contB; rw [hgd']; omega
       ·exact hcj k k1 (by omega)
     ·have hjN : j = 2 := by omega
      subst hjN
      have hfin := lead_fin hlead (by omega) (fun k k1 k2 => hcj k k1 k2)
      generalize cumR (s.drop i) (c.toNat - 224) 2 = R at *
      clear e0
      simp (maxSteps := 2000000) (disch := omega) only [go_sem, ↓reduceIte]
      have eN : ((i + 3 : Nat) : Int) = (i : Int) + 2 + 1 := by omega
      have zz : natsU acc ++ [D.int .i64 (R : Int)] = natsU (acc ++ [R]) := by rw [natsU_append]; rfl
      rcases hfin with ⟨hx, hb⟩ | ⟨hx, hb, hdec⟩
      ·repeat' (first | intro _ | apply And.intro)
       all_goals first | exact bad' hb | (exfalso; omega)
      ·rw [hb, if_neg (by decide), hdec] at hF
       simp only at hF
       have hF2 : (runesM (s.drop (i + 3))).map ((acc ++ [R]) ++ ·) = runesM s := by
        rw [List.drop_drop] at hF
        rw [← hF]
        cases runesM (s.drop (i + 3)) <;> simp
       repeat' (first | intro _ | apply And.intro)
       all_goals first | (exfalso; omega) | omega | skip
       all_goals refine ⟨(i + 3, acc ++ [R]), ?_, ⟨by simp only; omega, by simp only [List.length_append, List.length_cons, List.length_nil]; omega, hF2⟩, by simp only; omega⟩
       all_goals (refine weak_mk ?_ trivial; simp (maxSteps := 2000000) only [go_sem, ↓reduceIte, Sub, Int.natCast_add, Int.natCast_mul, zz, eN])
   by_cases b3 : 240 ≤ c.toNat ∧ c.toNat < 245
   ·have z0 : ((c.toNat : Int) < 128) = False := eq_false (by omega)
    have z1 : (194 ≤ (c.toNat : Int)) = True := eq_true (by omega)
    have z2 : ((c.toNat : Int) < 224) = False := eq_false (by omega)
    have z3 : (224 ≤ (c.toNat : Int)) = True := eq_true (by omega)
    have z4 : ((c.toNat : Int) < 240) = False := eq_false (by omega)
    have z5 : (240 ≤ (c.toNat : Int)) = True := eq_true (by omega)
    have z6 : ((c.toNat : Int) < 245) = True := eq_true (by omega)
    have hlead : leadR ((s.drop i).getD 0 0).toNat 3 (c.toNat - 240) := by rw [hg0]; unfold leadR; omega
    obtain ⟨q1, q2⟩ := lead_le hlead
    have e0 : ((cumR (s.drop i) (c.toNat - 240) 0 : Nat) : Int) = (c.toNat : Int) - 240 := by unfold cumR; omega
    simp (maxSteps := 2000000) (disch := omega) only [go_sem, ↓reduceIte, getI_nat, hc, z0, z1, z2, z3, z4, z5, z6]
    refine ⟨fun h => bad' (lead_short (by omega) hlead (by omega)), fun h => ?_⟩
    refine run_loop (fun j : Nat => ⟨[(0, .d (.str s)), (4, .own (.t 4) 3 1 (natsU acc)), (5, .d (.int .i64 i)), (7, .d (.int .i64 3)), (8, .d (.int .i64 (cumR (s.drop i) (c.toNat - 240) j : Nat))), (9, .d (.int .i64 ((j : Int) + 1)))], [], []⟩)
     (fun j => j ≤ 3 ∧ ∀ k, 1 ≤ k → k ≤ j → contB (s.drop i) k) (fun j => 3 - j) 0 ?_ ?_ ?_
    ·refine weak_mk ?_ trivial
     simp (maxSteps := 2000000) only [go_sem, ↓reduceIte, Sub, Int.natCast_add, Int.natCast_mul, e0]
    ·exact ⟨by omega, fun k h1 h2 => by omega⟩
    ·rintro j ⟨hj, hcj⟩
     have hcum := cum_le (l := s.drop i) (n := 3) q2 j (by omega)
     have zj : (((j : Int) + 1 ≤ 3)) = (j < 3) := propext (by omega)
     simp (maxSteps := 2000000) (disch := omega) only [go_sem, ↓reduceIte, zj]
     refine ⟨fun hj1 => ?_, fun hj1 => ?_⟩
     ·obtain ⟨d, hd⟩ := get_some (l := s) (i := i + (j + 1)) (by omega)
      have hd8 := u8_lt d
      have hgd : getI s ((i : Int) + ((j : Int) + 1)) = some d := by rw [← hd, ← getI_nat]; congr 1
      have hgd' : (s.drop i).getD (j + 1) 0 = d := by rw [List.getD_eq_getElem?_getD, List.getElem?_drop]; simp [hd]
      have hbad : ¬ (128 ≤ d.toNat ∧ d.toNat ≤ 191) → bad (s.drop i) = true := fun h => lead_cont (by omega) hlead (j := j + 1) (by omega) (by omega) (by unfold contB; rw [hgd']; exact h)
      have hnext : 128 ≤ d.toNat → ((cumR (s.drop i) (c.toNat - 240) (j + 1) : Nat) : Int) = 64 * (cumR (s.drop i) (c.toNat - 240) j : Nat) + d.toNat - 128 := fun h => by simp only [cumR, hgd']; omega
      simp (maxSteps := 2000000) (disch := omega) only [go_sem, ↓reduceIte, hgd]
      refine ⟨fun h1 => ⟨fun h2 => bad' (hbad (by omega)), fun h2 => ⟨j + 1, ?_, ⟨by omega, fun k k1 k2 => ?_⟩, by omega⟩⟩, fun h1 => bad' (hbad (by omega))⟩
      ·have hn := hnext (by omega)
       refine weak_mk ?_ trivial
       simp (maxSteps := 2000000) only [go_sem, ↓reduceIte, Sub, Int.natCast_add, Int.natCast_mul, hn]
      ·by_cases hk : k = j + 1
       ·subst hk; unfold contB; rw [hgd']; omega
       ·exact hcj k k1 (by omega)
     ·have hjN : j = 3 := by omega
      subst hjN
      have hfin := lead_fin hlead (by omega) (fun k k1 k2 => hcj k k1 k2)
      generalize cumR (s.drop i) (c.toNat - 240) 3 = R at *
      clear e0
      simp (maxSteps := 2000000) (disch := omega) only [go_sem, ↓reduceIte]
      have eN : ((i + 4 : Nat) : Int) = (i : Int) + 3 + 1 := by omega
      have zz : natsU acc ++ [D.int .i64 (R : Int)] = natsU (acc ++ [R]) := by rw [natsU_append]; rfl
      rcases hfin with ⟨hx, hb⟩ | ⟨hx, hb, hdec⟩
      ·repeat' (first | intro _ | apply And.intro)
       all_goals first | exact bad' hb | (exfalso; omega)
      ·rw [hb, if_neg (by decide), hdec] at hF
       simp only at hF
       have hF2 : (runesM (s.drop (i + 4))).map ((acc ++ [R]) ++ ·) = runesM s := by
        rw [List.drop_drop] at hF
        rw [← hF]
        cases runesM (s.drop (i + 4)) <;> simp
       repeat' (first | intro _ | apply And.intro)
       all_goals first | (exfalso; omega) | omega | skip
       all_goals refine ⟨(i + 4, acc ++ [R]), ?_, ⟨by simp only; omega, by simp only [List.length_append, List.length_cons, List.length_nil]; omega, hF2⟩, by simp only; omega⟩
       all_goals (refine weak_mk ?_ trivial; simp (maxSteps := 2000000) only [go_sem, ↓reduceIte, Sub, Int.natCast_add, Int.natCast_mul, zz, eN])
   have hnone : bad (s.drop i) = true := lead_none (by omega) (by rw [hg0]; intro n r0 h; unfold leadR at h; omega)
   have z0 : ((c.toNat : Int) < 128) = False := eq_false (by omega)
   simp (maxSteps := 2000000) (disch := omega) only [go_sem, ↓reduceIte, getI_nat, hc, z0]
   repeat' (first | intro _ | apply And.intro)
   all_goals first | exact bad' hnone | (exfalso; omega)
  ·have : s.drop i = [] := List.drop_eq_nil_of_le (by omega)
   rw [this, runesM_nil] at hF
   rw [← hF]
   simp (maxSteps := 2000000) only [go_sem, ↓reduceIte]
   simp [runesRes]
end Go.Av.Tryd
set_option linter.unusedSimpArgs false
set_option maxRecDepth 100000
namespace Go.Av.Tryd
open Go.Proofs
theorem encM_append (a b : List Nat) : encM (a ++ b) = encM a ++ encM b := by simp [encM]
theorem encM_len : ∀ {l : List Nat}, (∀ r ∈ l, vrune r) → (encM l).length ≤ 4 * l.length
 | [], _ => by simp [encM]
 | r :: l, h => by
  have h1 := enc_len (h r (by simp))
  have ih := encM_len fun x hx => h x (List.mem_cons_of_mem _ hx)
  have : encM (r :: l) = enc r ++ encM l := rfl
  rw [this, List.length_append, List.length_cons]; omega
def L_foliowrightref_Signs : LCode :=
 .seq (.reg [Qx 2 (.k (.d (.str [])))]) (.seq (.reg [⟨some 3, .nils 5 1, none⟩]) (.seq (.seq (.reg [Qx 4 (Ki 0)]) (.block 0 (.loop (.seq (.seq (.reg [Qc 6 4, Qc 7 0, Q 8 (.len false 
 (.t 7)), Q 9 (.bin .lss (.t 6) (.t 8))]) (.cond (.t 9) .skip (.exit 0))) (.seq (.block 1 (.seq (.reg [Qc 12 0, Qc 13 4, Q 14 (.ia 1 (.t 12) (.t 13)), Q 15 (.ld false 1 (.t 14)), 
 Qa 5 15]) (.block 2 (.seq (.reg [Qc 38 5, Q 39 (.bin .lss (.t 38) (Ki 128)), Qa 37 39]) (.cond (.t 37) (.reg [Qc 40 3, Qc 41 5, Q 42 (.cvI .u8 (.t 41)), ⟨some 43, .bsl 5 1 [.t 
 42], none⟩, ⟨some 44, .app 5 1 1 false (.t 40) (.t 43), none⟩, Qa 3 44]) (.seq (.reg [Qc 46 5, Q 47 (.bin .lss (.t 46) (Ki 2048)), Qa 45 47]) (.cond (.t 45) (.reg [Qc 48 3, Qc 49 
 5, Q 50 (.bin .quo (.t 49) (Ki 64)), Q 51 (.bin .add (Ki 192) (.t 50)), Q 52 (.cvI .u8 (.t 51)), Qc 53 5, Q 54 (.bin .rem (.t 53) (Ki 64)), Q 55 (.bin .add (Ki 128) (.t 54)), Q 
 56 (.cvI .u8 (.t 55)), ⟨some 57, .bsl 5 1 [.t 52, .t 56], none⟩, ⟨some 58, .app 5 1 1 false (.t 48) (.t 57), none⟩, Qa 3 58]) (.seq (.reg [Qc 60 5, Q 61 (.bin .lss (.t 60) (Ki 
 65536)), Qa 59 61]) (.cond (.t 59) (.reg [Qc 62 3, Qc 63 5, Q 64 (.bin .quo (.t 63) (Ki 4096)), Q 65 (.bin .add (Ki 224) (.t 64)), Q 66 (.cvI .u8 (.t 65)), Qc 67 5, Q 68 (.bin 
 .quo (.t 67) (Ki 64)), Q 69 (.bin .rem (.t 68) (Ki 64)), Q 70 (.bin .add (Ki 128) (.t 69)), Q 71 (.cvI .u8 (.t 70)), Qc 72 5, Q 73 (.bin .rem (.t 72) (Ki 64)), Q 74 (.bin .add 
 (Ki 128) (.t 73)), Q 75 (.cvI .u8 (.t 74)), ⟨some 76, .bsl 5 1 [.t 66, .t 71, .t 75], none⟩, ⟨some 77, .app 5 1 1 false (.t 62) (.t 76), none⟩, Qa 3 77]) (.reg [Qc 16 3, Qc 17 5, 
 Q 18 (.bin .quo (.t 17) (Ki 262144)), Q 19 (.bin .add (Ki 240) (.t 18)), Q 20 (.cvI .u8 (.t 19)), Qc 21 5, Q 22 (.bin .quo (.t 21) (Ki 4096)), Q 23 (.bin .rem (.t 22) (Ki 64)), Q 
 24 (.bin .add (Ki 128) (.t 23)), Q 25 (.cvI .u8 (.t 24)), Qc 26 5, Q 27 (.bin .quo (.t 26) (Ki 64)), Q 28 (.bin .rem (.t 27) (Ki 64)), Q 29 (.bin .add (Ki 128) (.t 28)), Q 30 
 (.cvI .u8 (.t 29)), Qc 31 5, Q 32 (.bin .rem (.t 31) (Ki 64)), Q 33 (.bin .add (Ki 128) (.t 32)), Q 34 (.cvI .u8 (.t 33)), ⟨some 35, .bsl 5 1 [.t 20, .t 25, .t 30, .t 34], none⟩, 
 ⟨some 36, .app 5 1 1 false (.t 16) (.t 35), none⟩, Qa 3 36])))))))))) (.reg [Qc 10 4, Q 11 (.bin .add (.t 10) (Ki 1)), Qa 4 11])))))) (.seq (.reg [Qc 78 3, Q 79 (.b2s (.t 78)), 
 Qa 2 79]) .ret)))
def R_foliowrightref_Signs : List LRes := [.tmp 2]
theorem lift_foliowrightref_Signs : Lifts Tryd.prog 30 80 L_foliowrightref_Signs R_foliowrightref_Signs := ⟨_, _, Tryd.func30, rfl, by kernel_rfl, by kernel_rfl, rfl⟩
theorem signsR_call (l : List Nat) (hv : ∀ r ∈ l, vrune r) (hl : l.length ≤ 100000000) : PCall Tryd.prog 30 [.list (natsU l)] (fun r => r = .one (.str (encM l))) := by
 have hI : ((natsU l).length : Int) = (l.length : Int) := by rw [natsU_length]
 refine lift_foliowrightref_Signs.call rfl ?_
 simp (maxSteps := 2000000) only [go_sem, ↓reduceIte, L_foliowrightref_Signs, R_foliowrightref_Signs, hI]
 refine run_loop (fun i : Nat => ⟨[(0, .d (.list (natsU l))), (3, .own (.t 3) 5 1 (bytesD (encM (l.take i)))), (4, .d (.int .i64 i))], [], []⟩)
  (fun i => i ≤ l.length) (fun i => l.length - i) 0 ?_ ?_ ?_
 ·refine weak_mk ?_ trivial
  simp (maxSteps := 2000000) only [go_sem, ↓reduceIte, Sub, Int.natCast_add, Int.natCast_mul, bytesD, encM, List.flatMap_nil]
 ·omega
 ·intro i hi
  simp (maxSteps := 2000000) only [go_sem, ↓reduceIte, hI]
  refine ⟨fun hlt => ?_, fun hge => ?_⟩
  ·obtain ⟨r, hr⟩ := get_some (l := l) (i := i) (by omega)
   have hvr := hv r (List.mem_of_getElem? hr)
   have hvr' := hvr
   unfold vrune at hvr'
   have htake : l.take (i + 1) = l.take i ++ [r] := by rw [List.take_add_one, hr]; rfl
   have hle := encM_len (l := l.take i) fun x hx => hv x (List.mem_of_mem_take hx)
   have hti : (l.take i).length = i := by rw [List.length_take]; omega
   have hbl := bytesD_length (encM (l.take i))
   have hnext : bytesD (encM (l.take i)) ++ bytesD (enc r) = bytesD (encM (l.take (i + 1))) := by rw [htake, encM_append, bytesD_append]; simp [encM]
   have q1 : Int.tdiv (r : Int) 64 = ((r / 64 : Nat) : Int) := rfl
   have q2 : Int.tmod (r : Int) 64 = ((r % 64 : Nat) : Int) := rfl
   have q3 : Int.tdiv (r : Int) 4096 = ((r / 4096 : Nat) : Int) := rfl
   have q4 : Int.tdiv (r : Int) 262144 = ((r / 262144 : Nat) : Int) := rfl
   have q5 : Int.tmod ((r / 64 : Nat) : Int) 64 = ((r / 64 % 64 : Nat) : Int) := rfl
   have q6 : Int.tmod ((r / 4096 : Nat) : Int) 64 = ((r / 4096 % 64 : Nat) : Int) := rfl
   rcases enc_cases hvr with ⟨a, e⟩ | ⟨a, b, e⟩ | ⟨a, b, e⟩ | ⟨a, b, e⟩
   ·rw [e] at hnext
    have z0 : ((r : Int) < 128) = True := eq_true (by omega)
    have hz : bytesD (encM (l.take i)) ++ [.int .u8 ((r : Int))] = bytesD (encM (l.take (i + 1))) := by
     rw [← hnext]
     congr 1
     simp only [bytesD, List.map_cons, List.map_nil, ofNat_toNat (show r < 256 by omega), Int.natCast_add, Int.cast_ofNat_Int]
    simp (maxSteps := 2000000) (disch := omega) only [go_sem, ↓reduceIte, hI, getI_nat, natsU_get, hr, q1, q2, q3, q4, q5, q6, z0]
    refine ⟨by omega, i + 1, ?_, by omega, by omega⟩
    refine weak_mk ?_ trivial
    simp (maxSteps := 2000000) only [go_sem, ↓reduceIte, Sub, Int.natCast_add, Int.natCast_mul, hz]
   ·rw [e] at hnext
    have z0 : ((r : Int) < 128) = False := eq_false (by omega)
    have z1 : ((r : Int) < 2048) = True := eq_true (by omega)
    have hz : bytesD (encM (l.take i)) ++ [.int .u8 (192 + ((r / 64 : Nat) : Int)), .int .u8 (128 + ((r % 64 : Nat) : Int))] = bytesD (encM (l.take (i + 1))) := by
     rw [← hnext]
     congr 1
     simp only [bytesD, List.map_cons, List.map_nil, ofNat_toNat (show 192 + r / 64 < 256 by omega), ofNat_toNat (show 128 + r % 64 < 256 by omega), Int.natCast_add, Int.cast_ofNat_Int]
    simp (maxSteps := 2000000) (disch := omega) only [go_sem, ↓reduceIte, hI, getI_nat, natsU_get, hr, q1, q2, q3, q4, q5, q6, z0, z1]
    refine ⟨by omega, i + 1, ?_, by omega, by omega⟩
    refine weak_mk ?_ trivial
    simp (maxSteps := 2000000) only [go_sem, ↓reduceIte, Sub, Int.natCast_add, Int.natCast_mul, hz]
   ·rw [e] at hnext
    have z0 : ((r : Int) < 128) = False := eq_false (by omega)
    have z1 : ((r : Int) < 2048) = False := eq_false (by omega)
    have z2 : ((r : Int) < 65536) = True := eq_true (by omega)
    have hz : bytesD (encM (l.take i)) ++ [.int .u8 (224 + ((r / 4096 : Nat) : Int)), .int .u8 (128 + ((r / 64 % 64 : Nat) : Int)), .int .u8 (128 + ((r % 64 : Nat) : Int))] = bytesD (encM (l.take (i + 1))) := by
     rw [← hnext]
     congr 1
     simp only [bytesD, List.map_cons, List.map_nil, ofNat_toNat (show 224 + r / 4096 < 256 by omega), ofNat_toNat (show 128 + r / 64 % 64 < 256 by omega), ofNat_toNat (show 128 + r % 64 < 256 by omega), Int.natCast_add, Int.cast_ofNat_Int]
    simp (maxSteps := 2000000) (disch := omega) only [go_sem, ↓reduceIte, hI, getI_nat, natsU_get, hr, q1, q2, q3, q4, q5, q6, z0, z1, z2]
    refine ⟨by omega, i + 1, ?_, by omega, by omega⟩
    refine weak_mk ?_ trivial
    simp (maxSteps := 2000000) only [go_sem, ↓reduceIte, Sub, Int.natCast_add, Int.natCast_mul, hz]
   ·rw [e] at hnext
    have z0 : ((r : Int) < 128) = False := eq_false (by omega)
    have z1 : ((r : Int) < 2048) = False := eq_false (by omega)
    have z2 : ((r : Int) < 65536) = False := eq_false (by omega)
    have hz : bytesD (encM (l.take i)) ++ [.int .u8 (240 + ((r / 262144 : Nat) : Int)), .int .u8 (128 + ((r / 4096 % 64 : Nat) : Int)), .int .u8 (128 + ((r / 64 % 64 : Nat) : Int)), .int .u8 (128 + ((r % 64 : Nat) : Int))] = bytesD (encM (l.take (i + 1))) := by
     rw [← hnext]
     congr 1
     simp only [bytesD, List.map_cons, List.map_nil, ofNat_toNat (show 240 + r / 262144 < 256 by omega), ofNat_toNat (show 128 + r / 4096 % 64 < 256 by omega), ofNat_toNat (show 128 + r / 64 % 64 < 256 by omega), ofNat_toNat (show 128 + r % 64 < 256 by omega), Int.natCast_add, Int.cast_ofNat_Int]
    simp (maxSteps := 2000000) (disch := omega) only [go_sem, ↓reduceIte, hI, getI_nat, natsU_get, hr, q1, q2, q3, q4, q5, q6, z0, z1, z2]
    refine ⟨by omega, i + 1, ?_, by omega, by omega⟩
    refine weak_mk ?_ trivial
    simp (maxSteps := 2000000) only [go_sem, ↓reduceIte, Sub, Int.natCast_add, Int.natCast_mul, hz]
  ·have : i = l.length := by omega
   subst this
   simp (maxSteps := 2000000) only [go_sem, ↓reduceIte, bytesOf_bytesD, List.take_length]
end Go.Av.Tryd
set_option linter.unusedSimpArgs false
set_option maxRecDepth 100000
namespace Go.Av.Tryd
open Go.Proofs
def onM (s : List UInt8) (n : Nat) : Option (List UInt8) :=
 match runesM s with
 | none => none
 | some rs => if rs = [] then none else
  if 1114111 < rs.getLastD 0 + n ∨ (55295 < rs.getLastD 0 + n ∧ rs.getLastD 0 + n < 57344) ∨ (rs.getLastD 0 ≤ 55295 ∧ 57344 ≤ rs.getLastD 0 + n) then none
  else some (encM (rs.dropLast ++ [rs.getLastD 0 + n]))
def onRes (o : Option (List UInt8)) : Res := match o with
 | some t => .tup [.str t, .bool true]
 | none => .tup [.str [], .bool false]
theorem last_get {rs : List Nat} (h : rs ≠ []) : rs[rs.length - 1]? = some (rs.getLastD 0) := by
 rw [List.getLastD_eq_getLast?, List.getLast?_eq_getElem?]
 have : rs.length - 1 < rs.length := by have := List.length_pos_iff.2 h; omega
 rw [List.getElem?_eq_getElem this]; rfl
theorem set_last {rs : List Nat} (h : rs ≠ []) (x : Nat) : rs.set (rs.length - 1) x = rs.dropLast ++ [x] := by
 obtain ⟨a, b, rfl⟩ : ∃ a b, rs = a ++ [b] := ⟨rs.dropLast, rs.getLast h, (List.dropLast_concat_getLast h).symm⟩
 rw [List.dropLast_concat, List.length_append, List.set_append_right _ _ (by simp)]
 simp
theorem natsU_set (l : List Nat) (i x : Nat) : (natsU l).set i (.int .i64 x) = natsU (l.set i x) := by simp [natsU, List.map_set]
theorem natsU_one (l : List Nat) : ∀ y ∈ natsU l, y.cells = [y] := fun y hy => by
 simp only [natsU, List.mem_map] at hy
 obtain ⟨n, _, rfl⟩ := hy; rfl
theorem intRow : liftSl Tryd.prog 64 = some (3, 1, 8) := by kernel_rfl
theorem intZero : zeroOne Tryd.prog 3 = true := by kernel_rfl
theorem intSl : isSl Tryd.prog 64 = true := by kernel_rfl
def L_foliowrightref_on : LCode :=
 .seq (.reg [Qx 4 (.k (.d (.str []))), Qx 5 KF]) (.seq (.reg [Qc 12 0, ⟨some 13, .call 46 [.t 12], none⟩, Qc 11 13, Q 14 (.ext 0 (.t 11)), Q 15 (.ext 1 (.t 11)), Qa 6 14, Qa 7 15]) 
 (.seq (.seq (.reg [Qc 16 7, Q 17 (.not (.t 16)), Qc 18 17, Qd 19 6 18 false, Qg 20 (.len false (.t 19)) 18 false, Qg 21 (.bin .eql (.t 20) (Ki 0)) 18 false, Q 22 (.pick (.t 18) 
 KT (.t 21))]) (.cond (.t 22) (.seq (.reg [Qx 4 (.k (.d (.str []))), Qx 5 KF]) .ret) .skip)) (.seq (.reg [Qc 23 6, Qc 24 6, Q 25 (.len false (.t 24)), Q 26 (.bin .sub (.t 25) (Ki 
 1)), Q 27 (.ia 1 (.t 23) (.t 26)), Q 28 (.ld false 1 (.t 27)), Qa 8 28]) (.seq (.reg [Qc 29 8, Qc 30 1, Q 31 (.bin .add (.t 29) (.t 30)), Qa 9 31]) (.seq (.seq (.reg [Qc 32 9, Q 
 33 (.bin .gtr (.t 32) (Ki 1114111)), Qc 34 33, Qd 35 9 34 false, Qg 36 (.bin .gtr (.t 35) (Ki 55295)) 34 false, Qd 37 36 34 false, Qd 38 9 37 true, Qg 39 (.bin .lss (.t 38) (Ki 
 57344)) 37 true, Qg 40 (.pick (.t 37) (.t 39) KF) 34 false, Q 41 (.pick (.t 34) KT (.t 40)), Qc 42 41, Qd 43 8 42 false, Qg 44 (.bin .leq (.t 43) (Ki 55295)) 42 false, Qd 45 44 
 42 false, Qd 46 9 45 true, Qg 47 (.bin .geq (.t 46) (Ki 57344)) 45 true, Qg 48 (.pick (.t 45) (.t 47) KF) 42 false, Q 49 (.pick (.t 42) KT (.t 48))]) (.cond (.t 49) (.seq (.reg 
 [Qx 4 (.k (.d (.str []))), Qx 5 KF]) .ret) .skip)) (.seq (.reg [Qc 50 6, ⟨some 51, .prim (.bi .append [64, 64]) [.k (.d (.list [])), .t 50] [], none⟩, Qa 10 51]) (.seq (.reg [Qc 
 52 10, Qc 53 10, Q 54 (.len false (.t 53)), Q 55 (.bin .sub (.t 54) (Ki 1)), Qc 56 9, Q 57 (.ia 1 (.t 52) (.t 55)), ⟨none, .st 1 (.t 57) (.t 56), none⟩]) (.seq (.reg [Qc 58 10, 
 ⟨some 59, .call 30 [.t 58], none⟩, Qa 4 59, Qx 5 KT]) .ret))))))))
def R_foliowrightref_on : List LRes := [.tmp 4, .tmp 5]
theorem lift_foliowrightref_on : Lifts Tryd.prog 47 60 L_foliowrightref_on R_foliowrightref_on := ⟨_, _, Tryd.func47, rfl, by kernel_rfl, by kernel_rfl, rfl⟩
theorem onR_call (s : List UInt8) (n : Nat) (hs : s.length ≤ 1000000) (hn : n ≤ 1000000) : PCall Tryd.prog 47 [.str s, .int .i64 n] (fun r => r = onRes (onM s n)) := by
 refine lift_foliowrightref_on.call rfl ?_
 simp (maxSteps := 2000000) only [go_sem, ↓reduceIte, L_foliowrightref_on, R_foliowrightref_on]
 refine CallG.of (runes_call s (by omega)) ?_
 unfold onM
 cases hrs : runesM s with
 | none =>
  simp only [runesRes]
  simp (maxSteps := 2000000) only [go_sem, ↓reduceIte]
  simp [onRes]
 | some rs =>
  obtain ⟨e1, e2⟩ := runesM_enc s.length (Nat.le_refl _) hrs
  have hI : ((natsU rs).length : Int) = (rs.length : Int) := by rw [natsU_length]
  simp only [runesRes]
  by_cases h0 : rs = []
  ·subst h0
   simp (maxSteps := 2000000) only [go_sem, ↓reduceIte, natsU]
   simp [onRes]
  ·have hpos := List.length_pos_iff.2 h0
   have hlast := last_get h0
   have hlv := e2 _ (List.mem_of_getElem? hlast)
   have hle : rs.length ≤ s.length := by
    rw [← e1]
    have : ∀ l : List Nat, (∀ r ∈ l, vrune r) → l.length ≤ (encM l).length := fun l => by
     induction l with
     | nil => intro _; simp
     | cons a l ih =>
      intro h
      have h1 := (enc_len (h a (by simp))).1
      have h2 := ih fun x hx => h x (List.mem_cons_of_mem _ hx)
      have h3 : encM (a :: l) = enc a ++ encM l := rfl
      rw [h3, List.length_append, List.length_cons]; omega
    exact this rs e2
   rw [if_neg h0]
   have hd := set_last h0 (rs.getLastD 0 + n)
   generalize rs.getLastD 0 = k at *
   unfold vrune at hlv
   have z0 : ((rs.length : Int) = 0) = False := eq_false (by omega)
   have g1 : getI (natsU rs) ((rs.length : Int) - 1) = some (.int .i64 k) := by
    rw [show ((rs.length : Int) - 1) = ((rs.length - 1 : Nat) : Int) by omega, getI_nat, natsU_get, hlast]; rfl
   by_cases hb : 1114111 < k + n ∨ (55295 < k + n ∧ k + n < 57344) ∨ (k ≤ 55295 ∧ 57344 ≤ k + n)
   ·rw [if_pos hb]
    by_cases hA : 1114111 < k + n
    ·have zA : (1114111 < (k : Int) + n) = True := eq_true (by omega)
     simp (maxSteps := 2000000) (disch := omega) only [go_sem, ↓reduceIte, hI, z0, g1, zA]
     simp [onRes]
    ·by_cases hB : 55295 < k + n ∧ k + n < 57344
     ·have zA : (1114111 < (k : Int) + n) = False := eq_false (by omega)
      have zB : (55295 < (k : Int) + n) = True := eq_true (by omega)
      have zC : ((k : Int) + n < 57344) = True := eq_true (by omega)
      simp (maxSteps := 2000000) (disch := omega) only [go_sem, ↓reduceIte, hI, z0, g1, zA, zB, zC]
      simp [onRes]
     ·have zA : (1114111 < (k : Int) + n) = False := eq_false (by omega)
      have zB : (55295 < (k : Int) + n) = True := eq_true (by omega)
      have zC : ((k : Int) + n < 57344) = False := eq_false (by omega)
      have zD : ((k : Int) ≤ 55295) = True := eq_true (by omega)
      have zE : (57344 ≤ (k : Int) + n) = True := eq_true (by omega)
      simp (maxSteps := 2000000) (disch := omega) only [go_sem, ↓reduceIte, hI, z0, g1, zA, zB, zC, zD, zE]
      simp [onRes]
   ·rw [if_neg hb]
    have zA : (1114111 < (k : Int) + n) = False := eq_false (by omega)
    have hnl : (rs.dropLast ++ [k + n]).length = rs.length := by rw [← hd, List.length_set]
    have hvn : ∀ r ∈ rs.dropLast ++ [k + n], vrune r := fun r hr => by
     rcases List.mem_append.1 hr with hr | hr
     ·exact e2 r ((List.dropLast_subset _ hr))
     ·simp at hr; subst hr; unfold vrune; omega
    by_cases hB : 55295 < k + n
    ·have zB : (55295 < (k : Int) + n) = True := eq_true (by omega)
     have zC : ((k : Int) + n < 57344) = False := eq_false (by omega)
     have zE : (57344 ≤ (k : Int) + n) = True := eq_true (by omega)
     have zD : ((k : Int) ≤ 55295) = False := eq_false (by omega)
     simp (maxSteps := 2000000) (disch := omega) only [go_sem, ↓reduceIte, hI, z0, g1, zA, zB, zC, zE, zD]
     refine PrimG.appRow (fs := []) (ys := natsU rs) (c := 0) intRow intZero intSl (.inl ⟨.inr rfl, rfl⟩) rfl (by intro h; exact h0 (List.length_eq_zero_iff.1 (by rw [← natsU_length, h]; rfl))) (fun y hy => by rw [natsU_one _ y hy]; rfl) (by simp) (by simp only [List.length_nil, natsU_length, maxLen]; omega) (fun c' h1 h2 => ?_)
     have hrl : (rowC 1 (natsU rs) c').length = c' := by rw [rowC_len (fun y hy => by rw [natsU_one _ y hy]; rfl) (by simpa using h1)]; omega
     have hcl : rs.length ≤ c' := by simpa [natsU_length] using h1
     have hset : (rowC 1 (natsU rs) c').set (rs.length - 1) (.d (.int .i64 ((k : Int) + n))) = rowC 1 (natsU (rs.dropLast ++ [k + n])) c' := by
      rw [← Int.natCast_add, rowC_put (natsU_one rs) (by rw [natsU_length]; omega) rfl, natsU_set, hd]
     have hto : ((rs.length : Int) - 1).toNat = rs.length - 1 := by omega
     simp (maxSteps := 2000000) (disch := omega) only [go_sem, ↓reduceIte, hI, natsU_length, hrl, hto, Nat.mul_one, hset]
     refine ⟨by omega, by omega, CallG.cstep (CStep.frozen (k := 51) (sz := 1) (c := c') (fs := natsU (rs.dropLast ++ [k + n])) (by rw [natsU_length, hnl]; rfl) rfl (fun y hy => by rw [natsU_one _ y hy]; rfl) (by rw [natsU_length, hnl]; exact hcl) (signsR_call _ hvn (by rw [hnl]; omega)) ?_)⟩
     simp (maxSteps := 2000000) only [go_sem, ↓reduceIte]
     simp [onRes]
    ·have zB : (55295 < (k : Int) + n) = False := eq_false (by omega)
     have zE : (57344 ≤ (k : Int) + n) = False := eq_false (by omega)
     by_cases hD : k ≤ 55295
     ·have zD : ((k : Int) ≤ 55295) = True := eq_true (by omega)
      simp (maxSteps := 2000000) (disch := omega) only [go_sem, ↓reduceIte, hI, z0, g1, zA, zB, zE, zD]
      refine PrimG.appRow (fs := []) (ys := natsU rs) (c := 0) intRow intZero intSl (.inl ⟨.inr rfl, rfl⟩) rfl (by intro h; exact h0 (List.length_eq_zero_iff.1 (by rw [← natsU_length, h]; rfl))) (fun y hy => by rw [natsU_one _ y hy]; rfl) (by simp) (by simp only [List.length_nil, natsU_length, maxLen]; omega) (fun c' h1 h2 => ?_)
      have hrl : (rowC 1 (natsU rs) c').length = c' := by rw [rowC_len (fun y hy => by rw [natsU_one _ y hy]; rfl) (by simpa using h1)]; omega
      have hcl : rs.length ≤ c' := by simpa [natsU_length] using h1
      have hset : (rowC 1 (natsU rs) c').set (rs.length - 1) (.d (.int .i64 ((k : Int) + n))) = rowC 1 (natsU (rs.dropLast ++ [k + n])) c' := by
       rw [← Int.natCast_add, rowC_put (natsU_one rs) (by rw [natsU_length]; omega) rfl, natsU_set, hd]
      have hto : ((rs.length : Int) - 1).toNat = rs.length - 1 := by omega
      simp (maxSteps := 2000000) (disch := omega) only [go_sem, ↓reduceIte, hI, natsU_length, hrl, hto, Nat.mul_one, hset]
      refine ⟨by omega, by omega, CallG.cstep (CStep.frozen (k := 51) (sz := 1) (c := c') (fs := natsU (rs.dropLast ++ [k + n])) (by rw [natsU_length, hnl]; rfl) rfl (fun y hy => by rw [natsU_one _ y hy]; rfl) (by rw [natsU_length, hnl]; exact hcl) (signsR_call _ hvn (by rw [hnl]; omega)) ?_)⟩
      simp (maxSteps := 2000000) only [go_sem, ↓reduceIte]
      simp [onRes]
     ·exfalso; omega
end Go.Av.Tryd
set_option linter.unusedSimpArgs false
set_option maxRecDepth 100000
namespace Go.Av.Tryd
open Go.Proofs
structure Span where
 fr : Int
 «to» : Int
 tx : List UInt8
def Span.d (x : Span) : D := .agg [.int .i64 x.fr, .int .i64 x.to, .str x.tx]
def spansD (l : List Span) : List D := l.map Span.d
theorem spansD_length (l : List Span) : (spansD l).length = l.length := by simp [spansD]
theorem spansD_get (l : List Span) (j : Nat) : (spansD l)[j]? = (l[j]?).map Span.d := by simp [spansD]
def Span.wf (x : Span) : Prop := -9223372036854775808 ≤ x.fr ∧ x.fr ≤ 9223372036854775807 ∧ -9223372036854775808 ≤ x.to ∧ x.to ≤ 9223372036854775807 ∧ x.tx.length ≤ 1000000
def spanFault (most : Int) (prev : Option Int) (x : Span) : Nat :=
 if x.fr < 0 ∨ most < x.to then 1
 else if x.to < x.fr ∨ (∃ p, prev = some p ∧ x.fr ≤ p) ∨ runesM x.tx = none ∨ x.tx = [] ∨ 40 < x.tx.length then 3
 else if onM x.tx (x.to - x.fr).toNat = none then 3 else 0
instance (prev : Option Int) (f : Int) : Decidable (∃ p, prev = some p ∧ f ≤ p) := match prev with
 | none => .isFalse (by rintro ⟨p, h, _⟩; cases h)
 | some p => if h : f ≤ p then .isTrue ⟨p, rfl, h⟩ else .isFalse (by rintro ⟨q, h1, h2⟩; cases h1; exact h h2)
def faultsF (most : Int) : Option Int → List Span → Nat
 | _, [] => 0
 | prev, x :: r => if spanFault most prev x = 0 then faultsF most (some x.to) r else spanFault most prev x
def mostM (wide : Bool) : Int := if wide = true then 65535 else 255
def faultM (l : List Span) (wide : Bool) : Nat := if 300 < l.length then 2 else faultsF (mostM wide) none l
def prevM (l : List Span) (i : Nat) : Option Int := if i = 0 then none else (l[i - 1]?).map Span.to
theorem onR_call' (s : List UInt8) (m : Int) (hs : s.length ≤ 1000000) (h0 : 0 ≤ m) (h1 : m ≤ 1000000) : PCall Tryd.prog 47 [.str s, .int .i64 m] (fun r => r = onRes (onM s m.toNat)) := by
 obtain ⟨n, rfl⟩ := Int.eq_ofNat_of_zero_le h0
 exact onR_call s n hs (by omega)
def L_foliowrightref_SpansFault : LCode :=
 .seq (.reg [Qx 4 (Ki 0)]) (.seq (.seq (.reg [Qc 12 0, Q 13 (.len false (.t 12)), Q 14 (.bin .gtr (.t 13) (Ki 300))]) (.cond (.t 14) (.seq (.reg [Qx 4 (Ki 2)]) .ret) .skip)) (.seq 
 (.reg [Qx 5 (Ki 255)]) (.seq (.seq (.reg [Qc 15 1]) (.cond (.t 15) (.reg [Qx 5 (Ki 65535)]) .skip)) (.seq (.seq (.reg [Qx 6 (Ki 0)]) (.block 0 (.loop (.seq (.seq (.reg [Qc 16 6, 
 Qc 17 0, Q 18 (.len false (.t 17)), Q 19 (.bin .lss (.t 16) (.t 18))]) (.cond (.t 19) .skip (.exit 0))) (.seq (.block 1 (.seq (.reg [Qc 22 0, Qc 23 6, Q 24 (.ia 3 (.t 22) (.t 
 23)), Q 25 (.ld true 3 (.t 24)), ⟨some 7, .allo [.int .i64 0, .int .i64 0, .str []], none⟩, ⟨none, .st 3 (.t 7) (.t 25), none⟩]) (.seq (.seq (.reg [Q 26 (.fa 0 (.t 7)), Q 27 (.ld 
 false 1 (.t 26)), Q 28 (.bin .lss (.t 27) (Ki 0)), Qc 29 28, Qg 30 (.fa 1 (.t 7)) 29 false, Qg 31 (.ld false 1 (.t 30)) 29 false, Qd 32 5 29 false, Qg 33 (.bin .gtr (.t 31) (.t 
 32)) 29 false, Q 34 (.pick (.t 29) KT (.t 33))]) (.cond (.t 34) (.seq (.reg [Qx 4 (Ki 1)]) .ret) .skip)) (.seq (.reg [Q 36 (.fa 2 (.t 7)), Q 37 (.ld false 1 (.t 36)), ⟨some 38, 
 .call 46 [.t 37], none⟩, Qc 35 38, Q 39 (.ext 0 (.t 35)), Q 40 (.ext 1 (.t 35)), Qa 8 39, Qa 9 40]) (.seq (.seq (.dreg [Q 41 (.fa 0 (.t 7)), Q 42 (.ld false 1 (.t 41)), Q 43 (.fa 
 1 (.t 7)), Q 44 (.ld false 1 (.t 43)), Q 45 (.bin .gtr (.t 42) (.t 44)), Qc 46 45, Qd 47 6 46 false, Qg 48 (.bin .gtr (.t 47) (Ki 0)) 46 false, Qd 49 48 46 false, Qg 50 (.fa 0 
 (.t 7)) 49 true, Qg 51 (.ld false 1 (.t 50)) 49 true, Qd 52 0 49 true, Qd 53 6 49 true, Qg 54 (.bin .sub (.t 53) (Ki 1)) 49 true, Qg 55 (.ia 3 (.t 52) (.t 54)) 49 true, Qg 56 
 (.fa 1 (.t 55)) 49 true, Qg 57 (.ld false 1 (.t 56)) 49 true, Qg 58 (.bin .leq (.t 51) (.t 57)) 49 true, Qg 59 (.pick (.t 49) (.t 58) KF) 46 false, Q 60 (.pick (.t 46) KT (.t 
 59)), Qc 61 60, Qd 62 9 61 false, Qg 63 (.not (.t 62)) 61 false, Q 64 (.pick (.t 61) KT (.t 63)), Qc 65 64, Qg 66 (.fa 2 (.t 7)) 65 false, Qg 67 (.ld false 1 (.t 66)) 65 false, 
 Qg 68 (.bin .eql (.t 67) (.k (.d (.str [])))) 65 false, Q 69 (.pick (.t 65) KT (.t 68)), Qc 70 69, Qg 71 (.fa 2 (.t 7)) 70 false, Qg 72 (.ld false 1 (.t 71)) 70 false, Qg 73 
 (.len true (.t 72)) 70 false, Qg 74 (.bin .gtr (.t 73) (Ki 40)) 70 false, Q 75 (.pick (.t 70) KT (.t 74))]) (.cond (.t 75) (.seq (.reg [Qx 4 (Ki 3)]) .ret) .skip)) (.seq (.reg [Q 
 77 (.fa 2 (.t 7)), Q 78 (.ld false 1 (.t 77)), Q 79 (.fa 1 (.t 7)), Q 80 (.ld false 1 (.t 79)), Q 81 (.fa 0 (.t 7)), Q 82 (.ld false 1 (.t 81)), Q 83 (.bin .sub (.t 80) (.t 82)), 
 ⟨some 84, .call 47 [.t 78, .t 83], none⟩, Qc 76 84, Q 85 (.ext 0 (.t 76)), Q 86 (.ext 1 (.t 76)), Qa 10 85, Qa 11 86]) (.seq (.reg [Qc 87 11, Q 88 (.not (.t 87))]) (.cond (.t 88) 
 (.seq (.reg [Qx 4 (Ki 3)]) .ret) .skip)))))))) (.reg [Qc 20 6, Q 21 (.bin .add (.t 20) (Ki 1)), Qa 6 21])))))) (.seq (.reg [Qx 4 (Ki 0)]) .ret)))))
def R_foliowrightref_SpansFault : List LRes := [.tmp 4]
theorem lift_foliowrightref_SpansFault : Lifts Tryd.prog 21 89 L_foliowrightref_SpansFault R_foliowrightref_SpansFault := ⟨_, _, Tryd.func21, rfl, by kernel_rfl, by kernel_rfl, rfl⟩
theorem spansFault_call (l : List Span) (wide : Bool) (hw : ∀ x ∈ l, x.wf) : PCall Tryd.prog 21 [.list (spansD l), .bool wide] (fun r => r = .one (.int .i64 (faultM l wide))) := by
 have hI : ((spansD l).length : Int) = (l.length : Int) := by rw [spansD_length]
 refine lift_foliowrightref_SpansFault.call rfl ?_
 unfold faultM
 by_cases h300 : 300 < l.length
 ·rw [if_pos h300]
  have z : (300 < (l.length : Int)) = True := eq_true (by omega)
  simp (maxSteps := 2000000) only [go_sem, ↓reduceIte, L_foliowrightref_SpansFault, R_foliowrightref_SpansFault, hI, z]
 ·rw [if_neg h300]
  have z : (300 < (l.length : Int)) = False := eq_false (by omega)
  generalize hR : faultsF (mostM wide) none l = R
  simp (maxSteps := 2000000) only [go_sem, ↓reduceIte, L_foliowrightref_SpansFault, R_foliowrightref_SpansFault, hI, z]
  refine ⟨fun hwd => ?_, fun hwd => ?_⟩
  ·have e5 : mostM wide = 65535 := by rw [hwd]; rfl
   rw [e5] at hR
   refine run_loop (fun i : Nat => ⟨[(0, .d (.list (spansD l))), (5, .d (.int .i64 65535)), (6, .d (.int .i64 i))], [], []⟩)
    (fun i => i ≤ l.length ∧ faultsF 65535 (prevM l i) (l.drop i) = R) (fun i => l.length - i) 0 ?_ ?_ ?_
   ·refine weak_mk ?_ trivial
    simp (maxSteps := 2000000) only [go_sem, ↓reduceIte, Sub, Int.natCast_add, Int.natCast_mul]
   ·exact ⟨Nat.zero_le _, hR⟩
   ·rintro i ⟨hi, hF⟩
    simp (maxSteps := 2000000) only [go_sem, ↓reduceIte, hI]
    refine ⟨fun hlt => ?_, fun hge => ?_⟩
    ·obtain ⟨x, hx⟩ := get_some (l := l) (i := i) (by omega)
     obtain ⟨w1, w2, w3, w4, w5⟩ := hw x (List.mem_of_getElem? hx)
     rw [drop_at hx, faultsF] at hF
     have hprev : prevM l (i + 1) = some x.to := by unfold prevM; rw [if_neg (by omega), Nat.add_sub_cancel, hx]; rfl
     rw [← hprev] at hF
     have hbad : ∀ k : Nat, k ≠ 0 → spanFault 65535 (prevM l i) x = k → Res.one (.int .i64 (k : Int)) = Res.one (.int .i64 (R : Int)) := fun k h0 h => by rw [h, if_neg h0] at hF; rw [hF]
     unfold spanFault at hF hbad
     by_cases hA : x.fr < 0 ∨ 65535 < x.to
     ·have b1 := hbad 1 (by decide) (if_pos hA)
      by_cases hA1 : x.fr < 0
      ·have z1 := eq_true hA1
       simp (maxSteps := 2000000) (disch := omega) only [go_sem, ↓reduceIte, hI, getI_nat, spansD_get, hx, Span.d, z1]
       exact b1
      ·have z1 := eq_false hA1
       have z2 : (65535 < x.to) = True := eq_true (by omega)
       simp (maxSteps := 2000000) (disch := omega) only [go_sem, ↓reduceIte, hI, getI_nat, spansD_get, hx, Span.d, z1, z2]
       exact b1
     ·rw [if_neg hA] at hF
      simp only [if_neg hA] at hbad
      have z1 : (x.fr < 0) = False := eq_false (by omega)
      have z2 : (65535 < x.to) = False := eq_false (by omega)
      simp (maxSteps := 2000000) (disch := omega) only [go_sem, ↓reduceIte, hI, getI_nat, spansD_get, hx, Span.d, z1, z2]
      refine CallG.of (runes_call x.tx (by omega)) ?_
      by_cases hC : x.to < x.fr
      ·have b3 := hbad 3 (by decide) (if_pos (.inl hC))
       have z3 := eq_true hC
       cases hrs : runesM x.tx <;> (simp only [runesRes]; simp (maxSteps := 2000000) (disch := omega) only [go_sem, ↓reduceIte, z3]; exact b3)
      ·have z3 := eq_false hC
       by_cases hi0 : i = 0
       ·have z4 : (0 < (i : Int)) = False := eq_false (by omega)
        have hp : ¬ ∃ p, prevM l i = some p ∧ x.fr ≤ p := by rintro ⟨p, h1, _⟩; unfold prevM at h1; rw [if_pos hi0] at h1; cases h1
        cases hrs : runesM x.tx with
        | none =>
         have b3 := hbad 3 (by decide) (if_pos (.inr (.inr (.inl hrs))))
         simp only [runesRes]
         simp (maxSteps := 2000000) (disch := omega) only [go_sem, ↓reduceIte, hI, getI_nat, spansD_get, hx, Span.d, z3, z4]
         exact b3
        | some rs =>
         simp only [runesRes]
         by_cases h5 : x.tx = []
         ·have b3 := hbad 3 (by decide) (if_pos (.inr (.inr (.inr (.inl h5)))))
          simp (maxSteps := 2000000) (disch := omega) only [go_sem, ↓reduceIte, hI, getI_nat, spansD_get, hx, Span.d, z3, z4, h5]
          exact b3
         ·by_cases h6 : 40 < x.tx.length
          ·have b3 := hbad 3 (by decide) (if_pos (.inr (.inr (.inr (.inr h6)))))
           have z6 : (40 < (x.tx.length : Int)) = True := eq_true (by omega)
           simp (maxSteps := 2000000) (disch := omega) only [go_sem, ↓reduceIte, hI, getI_nat, spansD_get, hx, Span.d, z3, z4, h5, z6]
           exact b3
          ·have hgood : ¬ (x.to < x.fr ∨ (∃ p, prevM l i = some p ∧ x.fr ≤ p) ∨ runesM x.tx = none ∨ x.tx = [] ∨ 40 < x.tx.length) := by
            rintro (h | h | h | h | h)
            ·exact hC h
            ·exact hp h
            ·rw [hrs] at h; cases h
            ·exact h5 h
            ·exact h6 h
           rw [if_neg hgood] at hF
           simp only [if_neg hgood] at hbad
           have z6 : (40 < (x.tx.length : Int)) = False := eq_false (by omega)
           simp (maxSteps := 2000000) (disch := omega) only [go_sem, ↓reduceIte, hI, getI_nat, spansD_get, hx, Span.d, z3, z4, h5, z6]
           refine CallG.of (onR_call' x.tx (x.to - x.fr) (by omega) (by omega) (by omega)) ?_
           cases ho : onM x.tx (x.to - x.fr).toNat with
           | none =>
            have b3 := hbad 3 (by decide) (if_pos ho)
            simp only [onRes]
            simp (maxSteps := 2000000) (disch := omega) only [go_sem, ↓reduceIte]
            exact b3
           | some u =>
            simp only [onRes]
            simp only [ho, reduceCtorEq, if_false, if_true] at hF
            simp (maxSteps := 2000000) (disch := omega) only [go_sem, ↓reduceIte]
            refine ⟨i + 1, ?_, ⟨by omega, hF⟩, by omega⟩
            refine weak_mk ?_ trivial
            simp (maxSteps := 2000000) only [go_sem, ↓reduceIte, Sub, Int.natCast_add, Int.natCast_mul]
       ·have z4 : (0 < (i : Int)) = True := eq_true (by omega)
        obtain ⟨y, hy⟩ := get_some (l := l) (i := i - 1) (by omega)
        have gy : getI (spansD l) ((i : Int) - 1) = some (.agg [.int .i64 y.fr, .int .i64 y.to, .str y.tx]) := by
         rw [show ((i : Int) - 1) = ((i - 1 : Nat) : Int) by omega, getI_nat, spansD_get, hy]; rfl
        have hpv : prevM l i = some y.to := by unfold prevM; rw [if_neg hi0, hy]; rfl
        by_cases hq : x.fr ≤ y.to
        ·have b3 := hbad 3 (by decide) (if_pos (.inr (.inl ⟨y.to, hpv, hq⟩)))
         have z7 := eq_true hq
         cases hrs : runesM x.tx <;> (simp only [runesRes]; simp (maxSteps := 2000000) (disch := omega) only [go_sem, ↓reduceIte, z3, z4, gy, z7]; exact b3)
        ·have z7 := eq_false hq
         have hp : ¬ ∃ p, prevM l i = some p ∧ x.fr ≤ p := by rintro ⟨p, h1, h2⟩; rw [hpv] at h1; cases h1; exact hq h2
         cases hrs : runesM x.tx with
         | none =>
          have b3 := hbad 3 (by decide) (if_pos (.inr (.inr (.inl hrs))))
          simp only [runesRes]
          simp (maxSteps := 2000000) (disch := omega) only [go_sem, ↓reduceIte, hI, getI_nat, spansD_get, hx, Span.d, z3, z4, gy, z7]
          exact b3
         | some rs =>
          simp only [runesRes]
          by_cases h5 : x.tx = []
          ·have b3 := hbad 3 (by decide) (if_pos (.inr (.inr (.inr (.inl h5)))))
           simp (maxSteps := 2000000) (disch := omega) only [go_sem, ↓reduceIte, hI, getI_nat, spansD_get, hx, Span.d, z3, z4, gy, z7, h5]
           exact b3
          ·by_cases h6 : 40 < x.tx.length
           ·have b3 := hbad 3 (by decide) (if_pos (.inr (.inr (.inr (.inr h6)))))
            have z6 : (40 < (x.tx.length : Int)) = True := eq_true (by omega)
            simp (maxSteps := 2000000) (disch := omega) only [go_sem, ↓reduceIte, hI, getI_nat, spansD_get, hx, Span.d, z3, z4, gy, z7, h5, z6]
            exact b3
           ·have hgood : ¬ (x.to < x.fr ∨ (∃ p, prevM l i = some p ∧ x.fr ≤ p) ∨ runesM x.tx = none ∨ x.tx = [] ∨ 40 < x.tx.length) := by
             rintro (h | h | h | h | h)
             ·exact hC h
             ·exact hp h
             ·rw [hrs] at h; cases h
             ·exact h5 h
             ·exact h6 h
            rw [if_neg hgood] at hF
            simp only [if_neg hgood] at hbad
            have z6 : (40 < (x.tx.length : Int)) = False := eq_false (by omega)
            simp (maxSteps := 2000000) (disch := omega) only [go_sem, ↓reduceIte, hI, getI_nat, spansD_get, hx, Span.d, z3, z4, gy, z7, h5, z6]
            refine CallG.of (onR_call' x.tx (x.to - x.fr) (by omega) (by omega) (by omega)) ?_
            cases ho : onM x.tx (x.to - x.fr).toNat with
            | none =>
             have b3 := hbad 3 (by decide) (if_pos ho)
             simp only [onRes]
             simp (maxSteps := 2000000) (disch := omega) only [go_sem, ↓reduceIte]
             exact b3
            | some u =>
             simp only [onRes]
             simp only [ho, reduceCtorEq, if_false, if_true] at hF
             simp (maxSteps := 2000000) (disch := omega) only [go_sem, ↓reduceIte]
             refine ⟨i + 1, ?_, ⟨by omega, hF⟩, by omega⟩
             refine weak_mk ?_ trivial
             simp (maxSteps := 2000000) only [go_sem, ↓reduceIte, Sub, Int.natCast_add, Int.natCast_mul]
    ·have : l.drop i = [] := List.drop_eq_nil_of_le (by omega)
     rw [this] at hF
     simp only [faultsF] at hF
     subst hF
     rfl
  ·have e5 : mostM wide = 255 := by rw [hwd]; rfl
   rw [e5] at hR
   refine run_loop (fun i : Nat => ⟨[(0, .d (.list (spansD l))), (5, .d (.int .i64 255)), (6, .d (.int .i64 i))], [], []⟩)
    (fun i => i ≤ l.length ∧ faultsF 255 (prevM l i) (l.drop i) = R) (fun i => l.length - i) 0 ?_ ?_ ?_
   ·refine weak_mk ?_ trivial
    simp (maxSteps := 2000000) only [go_sem, ↓reduceIte, Sub, Int.natCast_add, Int.natCast_mul]
   ·exact ⟨Nat.zero_le _, hR⟩
   ·rintro i ⟨hi, hF⟩
    simp (maxSteps := 2000000) only [go_sem, ↓reduceIte, hI]
    refine ⟨fun hlt => ?_, fun hge => ?_⟩
    ·obtain ⟨x, hx⟩ := get_some (l := l) (i := i) (by omega)
     obtain ⟨w1, w2, w3, w4, w5⟩ := hw x (List.mem_of_getElem? hx)
     rw [drop_at hx, faultsF] at hF
     have hprev : prevM l (i + 1) = some x.to := by unfold prevM; rw [if_neg (by omega), Nat.add_sub_cancel, hx]; rfl
     rw [← hprev] at hF
     have hbad : ∀ k : Nat, k ≠ 0 → spanFault 255 (prevM l i) x = k → Res.one (.int .i64 (k : Int)) = Res.one (.int .i64 (R : Int)) := fun k h0 h => by rw [h, if_neg h0] at hF; rw [hF]
     unfold spanFault at hF hbad
     by_cases hA : x.fr < 0 ∨ 255 < x.to
     ·have b1 := hbad 1 (by decide) (if_pos hA)
      by_cases hA1 : x.fr < 0
      ·have z1 := eq_true hA1
       simp (maxSteps := 2000000) (disch := omega) only [go_sem, ↓reduceIte, hI, getI_nat, spansD_get, hx, Span.d, z1]
       exact b1
      ·have z1 := eq_false hA1
       have z2 : (255 < x.to) = True := eq_true (by omega)
       simp (maxSteps := 2000000) (disch := omega) only [go_sem, ↓reduceIte, hI, getI_nat, spansD_get, hx, Span.d, z1, z2]
       exact b1
     ·rw [if_neg hA] at hF
      simp only [if_neg hA] at hbad
      have z1 : (x.fr < 0) = False := eq_false (by omega)
      have z2 : (255 < x.to) = False := eq_false (by omega)
      simp (maxSteps := 2000000) (disch := omega) only [go_sem, ↓reduceIte, hI, getI_nat, spansD_get, hx, Span.d, z1, z2]
      refine CallG.of (runes_call x.tx (by omega)) ?_
      by_cases hC : x.to < x.fr
      ·have b3 := hbad 3 (by decide) (if_pos (.inl hC))
       have z3 := eq_true hC
       cases hrs : runesM x.tx <;> (simp only [runesRes]; simp (maxSteps := 2000000) (disch := omega) only [go_sem, ↓reduceIte, z3]; exact b3)
      ·have z3 := eq_false hC
       by_cases hi0 : i = 0
       ·have z4 : (0 < (i : Int)) = False := eq_false (by omega)
        have hp : ¬ ∃ p, prevM l i = some p ∧ x.fr ≤ p := by rintro ⟨p, h1, _⟩; unfold prevM at h1; rw [if_pos hi0] at h1; cases h1
        cases hrs : runesM x.tx with
        | none =>
         have b3 := hbad 3 (by decide) (if_pos (.inr (.inr (.inl hrs))))
         simp only [runesRes]
         simp (maxSteps := 2000000) (disch := omega) only [go_sem, ↓reduceIte, hI, getI_nat, spansD_get, hx, Span.d, z3, z4]
         exact b3
        | some rs =>
         simp only [runesRes]
         by_cases h5 : x.tx = []
         ·have b3 := hbad 3 (by decide) (if_pos (.inr (.inr (.inr (.inl h5)))))
          simp (maxSteps := 2000000) (disch := omega) only [go_sem, ↓reduceIte, hI, getI_nat, spansD_get, hx, Span.d, z3, z4, h5]
          exact b3
         ·by_cases h6 : 40 < x.tx.length
          ·have b3 := hbad 3 (by decide) (if_pos (.inr (.inr (.inr (.inr h6)))))
           have z6 : (40 < (x.tx.length : Int)) = True := eq_true (by omega)
           simp (maxSteps := 2000000) (disch := omega) only [go_sem, ↓reduceIte, hI, getI_nat, spansD_get, hx, Span.d, z3, z4, h5, z6]
           exact b3
          ·have hgood : ¬ (x.to < x.fr ∨ (∃ p, prevM l i = some p ∧ x.fr ≤ p) ∨ runesM x.tx = none ∨ x.tx = [] ∨ 40 < x.tx.length) := by
            rintro (h | h | h | h | h)
            ·exact hC h
            ·exact hp h
            ·rw [hrs] at h; cases h
            ·exact h5 h
            ·exact h6 h
           rw [if_neg hgood] at hF
           simp only [if_neg hgood] at hbad
           have z6 : (40 < (x.tx.length : Int)) = False := eq_false (by omega)
           simp (maxSteps := 2000000) (disch := omega) only [go_sem, ↓reduceIte, hI, getI_nat, spansD_get, hx, Span.d, z3, z4, h5, z6]
           refine CallG.of (onR_call' x.tx (x.to - x.fr) (by omega) (by omega) (by omega)) ?_
           cases ho : onM x.tx (x.to - x.fr).toNat with
           | none =>
            have b3 := hbad 3 (by decide) (if_pos ho)
            simp only [onRes]
            simp (maxSteps := 2000000) (disch := omega) only [go_sem, ↓reduceIte]
            exact b3
           | some u =>
            simp only [onRes]
            simp only [ho, reduceCtorEq, if_false, if_true] at hF
            simp (maxSteps := 2000000) (disch := omega) only [go_sem, ↓reduceIte]
            refine ⟨i + 1, ?_, ⟨by omega, hF⟩, by omega⟩
            refine weak_mk ?_ trivial
            simp (maxSteps := 2000000) only [go_sem, ↓reduceIte, Sub, Int.natCast_add, Int.natCast_mul]
       ·have z4 : (0 < (i : Int)) = True := eq_true (by omega)
        obtain ⟨y, hy⟩ := get_some (l := l) (i := i - 1) (by omega)
        have gy : getI (spansD l) ((i : Int) - 1) = some (.agg [.int .i64 y.fr, .int .i64 y.to, .str y.tx]) := by
         rw [show ((i : Int) - 1) = ((i - 1 : Nat) : Int) by omega, getI_nat, spansD_get, hy]; rfl
        have hpv : prevM l i = some y.to := by unfold prevM; rw [if_neg hi0, hy]; rfl
        by_cases hq : x.fr ≤ y.to
        ·have b3 := hbad 3 (by decide) (if_pos (.inr (.inl ⟨y.to, hpv, hq⟩)))
         have z7 := eq_true hq
         cases hrs : runesM x.tx <;> (simp only [runesRes]; simp (maxSteps := 2000000) (disch := omega) only [go_sem, ↓reduceIte, z3, z4, gy, z7]; exact b3)
        ·have z7 := eq_false hq
         have hp : ¬ ∃ p, prevM l i = some p ∧ x.fr ≤ p := by rintro ⟨p, h1, h2⟩; rw [hpv] at h1; cases h1; exact hq h2
         cases hrs : runesM x.tx with
         | none =>
          have b3 := hbad 3 (by decide) (if_pos (.inr (.inr (.inl hrs))))
          simp only [runesRes]
          simp (maxSteps := 2000000) (disch := omega) only [go_sem, ↓reduceIte, hI, getI_nat, spansD_get, hx, Span.d, z3, z4, gy, z7]
          exact b3
         | some rs =>
          simp only [runesRes]
          by_cases h5 : x.tx = []
          ·have b3 := hbad 3 (by decide) (if_pos (.inr (.inr (.inr (.inl h5)))))
           simp (maxSteps := 2000000) (disch := omega) only [go_sem, ↓reduceIte, hI, getI_nat, spansD_get, hx, Span.d, z3, z4, gy, z7, h5]
           exact b3
          ·by_cases h6 : 40 < x.tx.length
           ·have b3 := hbad 3 (by decide) (if_pos (.inr (.inr (.inr (.inr h6)))))
            have z6 : (40 < (x.tx.length : Int)) = True := eq_true (by omega)
            simp (maxSteps := 2000000) (disch := omega) only [go_sem, ↓reduceIte, hI, getI_nat, spansD_get, hx, Span.d, z3, z4, gy, z7, h5, z6]
            exact b3
           ·have hgood : ¬ (x.to < x.fr ∨ (∃ p, prevM l i = some p ∧ x.fr ≤ p) ∨ runesM x.tx = none ∨ x.tx = [] ∨ 40 < x.tx.length) := by
             rintro (h | h | h | h | h)
             ·exact hC h
             ·exact hp h
             ·rw [hrs] at h; cases h
             ·exact h5 h
             ·exact h6 h
            rw [if_neg hgood] at hF
            simp only [if_neg hgood] at hbad
            have z6 : (40 < (x.tx.length : Int)) = False := eq_false (by omega)
            simp (maxSteps := 2000000) (disch := omega) only [go_sem, ↓reduceIte, hI, getI_nat, spansD_get, hx, Span.d, z3, z4, gy, z7, h5, z6]
            refine CallG.of (onR_call' x.tx (x.to - x.fr) (by omega) (by omega) (by omega)) ?_
            cases ho : onM x.tx (x.to - x.fr).toNat with
            | none =>
             have b3 := hbad 3 (by decide) (if_pos ho)
             simp only [onRes]
             simp (maxSteps := 2000000) (disch := omega) only [go_sem, ↓reduceIte]
             exact b3
            | some u =>
             simp only [onRes]
             simp only [ho, reduceCtorEq, if_false, if_true] at hF
             simp (maxSteps := 2000000) (disch := omega) only [go_sem, ↓reduceIte]
             refine ⟨i + 1, ?_, ⟨by omega, hF⟩, by omega⟩
             refine weak_mk ?_ trivial
             simp (maxSteps := 2000000) only [go_sem, ↓reduceIte, Sub, Int.natCast_add, Int.natCast_mul]
    ·have : l.drop i = [] := List.drop_eq_nil_of_le (by omega)
     rw [this] at hF
     simp only [faultsF] at hF
     subst hF
     rfl
abbrev ROut := Option (List Span)
def ROut.v : ROut → AV
 | none => .ns
 | some l => .own (.c (.x 0) 4) 59 3 (spansD l)
def ROut.l : ROut → List Span
 | none => []
 | some l => l
attribute [go_sem] ROut.v
def rpg (T : List (List UInt8)) (ends : Bool) (j : Int) (b : Bool) (o : ROut) (n : Nat) : AObj := .cells [.d (.list (strsD T)), .d (.bool ends), .d (.int .i64 j), .d (.bool b), o.v, .d (.int .i64 n)]
def L___foliowrightref_program__fail : LCode :=
 .seq (.reg [Qc 4 0, Q 5 (.nck (.t 4)), Q 6 (.fa 5 (.t 5)), Q 7 (.ld false 1 (.t 6)), Q 8 (.bin .eql (.t 7) (Ki 0))]) (.cond (.t 8) (.reg [Qc 9 0, Qc 10 1, Q 11 (.nck (.t 9)), Q 12 
 (.fa 5 (.t 11)), ⟨none, .st 1 (.t 12) (.t 10), none⟩]) .skip)
def R___foliowrightref_program__fail : List LRes := []
theorem lift___foliowrightref_program__fail : Lifts Tryd.prog 44 13 L___foliowrightref_program__fail R___foliowrightref_program__fail := ⟨_, _, Tryd.func44, rfl, by kernel_rfl, by kernel_rfl, rfl⟩
theorem rfail (T : List (List UInt8)) (ends : Bool) (j : Int) (b : Bool) (o : ROut) (n e : Nat) : MCallE Tryd.prog 44 [.ptr (.x 0) 0, .d (.int .i64 e)] [rpg T ends j b o n] (.tuple []) [rpg T ends j b o (orE n e)] := by
 unfold orE
 rcases o with _ | l
 all_goals
  refine lift___foliowrightref_program__fail.mcall (by kernel_rfl) rfl ?_
  by_cases h : n = 0
  ·rw [if_pos h]
   subst h
   simp (maxSteps := 2000000) only [go_sem, ↓reduceIte, L___foliowrightref_program__fail, R___foliowrightref_program__fail, rpg]
  ·rw [if_neg h]
   have z : ((n : Int) = 0) = False := eq_false (by omega)
   simp (maxSteps := 2000000) only [go_sem, ↓reduceIte, L___foliowrightref_program__fail, R___foliowrightref_program__fail, rpg, z]
def rN (T : List (List UInt8)) (ends : Bool) (j n : Nat) : List UInt8 × Nat × Nat :=
 match T[j]? with
 | some w => (w, j + 1, n)
 | none => ([], j, if ends = true then n else orE n 5)
def L___foliowrightref_program__next : LCode :=
 .seq (.reg [Qx 2 (.k (.d (.str [])))]) (.seq (.seq (.dreg [Qc 3 0, Q 4 (.nck (.t 3)), Q 5 (.fa 2 (.t 4)), Q 6 (.ld false 1 (.t 5)), Qc 7 0, Q 8 (.nck (.t 7)), Q 9 (.fa 0 (.t 8)), Q 
 10 (.ld false 1 (.t 9)), Q 11 (.len false (.t 10)), Q 12 (.bin .lss (.t 6) (.t 11))]) (.cond (.t 12) (.seq (.reg [Qc 13 0, Q 14 (.nck (.t 13)), Q 15 (.fa 2 (.t 14)), Q 16 (.ld 
 false 1 (.t 15)), Q 17 (.bin .add (.t 16) (Ki 1)), Q 18 (.nck (.t 13)), Q 19 (.fa 2 (.t 18)), ⟨none, .st 1 (.t 19) (.t 17), none⟩]) (.seq (.dreg [Qc 20 0, Q 21 (.nck (.t 20)), Q 
 22 (.fa 0 (.t 21)), Q 23 (.ld false 1 (.t 22)), Qc 24 0, Q 25 (.nck (.t 24)), Q 26 (.fa 2 (.t 25)), Q 27 (.ld false 1 (.t 26)), Q 28 (.bin .sub (.t 27) (Ki 1)), Q 29 (.ia 1 (.t 
 23) (.t 28)), Q 30 (.ld false 1 (.t 29)), Qa 2 30]) .ret)) .skip)) (.seq (.seq (.reg [Qc 31 0, Q 32 (.nck (.t 31)), Q 33 (.fa 1 (.t 32)), Q 34 (.ld false 1 (.t 33)), Q 35 (.not 
 (.t 34))]) (.cond (.t 35) (.reg [Qc 36 0, ⟨some 37, .prim .call [.k (.fn (.func 44) [] []), .t 36, .k (.d (.int .i64 5))] [], none⟩]) .skip)) (.seq (.reg [Qx 2 (.k (.d (.str 
 [])))]) .ret)))
def R___foliowrightref_program__next : List LRes := [.tmp 2]
theorem lift___foliowrightref_program__next : Lifts Tryd.prog 43 38 L___foliowrightref_program__next R___foliowrightref_program__next := ⟨_, _, Tryd.func43, rfl, by kernel_rfl, by kernel_rfl, rfl⟩
theorem rnext (T : List (List UInt8)) (ends : Bool) (j : Nat) (b : Bool) (o : ROut) (n : Nat) (hT : T.length ≤ 60000) (hj : j ≤ T.length) : MCallE Tryd.prog 43 [.ptr (.x 0) 0] [rpg T ends j b o n] (.d (.str (rN T ends j n).1)) [rpg T ends (rN T ends j n).2.1 b o (rN T ends j n).2.2] := by
 have hf := rfail T ends j b o n 5
 have hsl := strsD_length T
 unfold rN
 rcases Nat.lt_or_ge j T.length with hlt | hge
 ·obtain ⟨w, hw⟩ := get_some (l := T) (i := j) hlt
  rw [hw]
  have z : ((j : Int) < (T.length : Int)) = True := eq_true (by omega)
  have g : getI (strsD T) ((j : Int) + 1 - 1) = some (.str w) := by rw [show (j : Int) + 1 - 1 = ((j : Nat) : Int) by omega, getI_nat, strsD_get, hw]; rfl
  rcases o with _ | l
  all_goals
   refine lift___foliowrightref_program__next.mcall (by kernel_rfl) rfl ?_
   simp (maxSteps := 2000000) (disch := omega) only [go_sem, ↓reduceIte, L___foliowrightref_program__next, R___foliowrightref_program__next, rpg, hsl, z, g]
   rfl
 ·rw [List.getElem?_eq_none hge]
  have z : ((j : Int) < (T.length : Int)) = False := eq_false (by omega)
  rcases o with _ | l
  all_goals
   refine lift___foliowrightref_program__next.mcall (by kernel_rfl) rfl ?_
   cases ends with
   | true => simp (maxSteps := 2000000) (disch := omega) only [go_sem, ↓reduceIte, L___foliowrightref_program__next, R___foliowrightref_program__next, rpg, hsl, z]
   | false =>
    simp (maxSteps := 2000000) (disch := omega) only [go_sem, ↓reduceIte, L___foliowrightref_program__next, R___foliowrightref_program__next, rpg, hsl, z]
    refine PrimG.mc1 (.x 0) rfl (hf) rfl rfl rfl rfl ⟨rfl, rfl⟩ ?_
    simp (maxSteps := 2000000) only [go_sem, ↓reduceIte, rpg]
theorem rN_le {T : List (List UInt8)} {ends : Bool} {j n : Nat} (hj : j ≤ T.length) : (rN T ends j n).2.1 ≤ T.length := by
 unfold rN
 cases h : T[j]? with
 | none => exact hj
 | some w => have := (List.getElem?_eq_some_iff.1 h).1; simp only; omega
def rB (T : List (List UInt8)) (ends : Bool) (j n : Nat) : List UInt8 × Nat × Nat :=
 if (rN T ends j n).2.2 = 0 then (cBl (rN T ends j n).1, (rN T ends j n).2.1, cBe (rN T ends j n).1) else ([], (rN T ends j n).2.1, (rN T ends j n).2.2)
def L___foliowrightref_program__bytes : LCode :=
 .seq (.reg [⟨some 2, .nils 5 1, none⟩]) (.seq (.reg [Qc 8 0, ⟨some 9, .prim .call [.k (.fn (.func 43) [] []), .t 8] [], none⟩, Qa 3 9]) (.seq (.seq (.reg [Qc 10 0, Q 11 (.nck (.t 
 10)), Q 12 (.fa 5 (.t 11)), Q 13 (.ld false 1 (.t 12)), Q 14 (.bin .gtr (.t 13) (Ki 0))]) (.cond (.t 14) (.seq (.reg [⟨some 2, .nils 5 1, none⟩]) .ret) .skip)) (.seq (.seq (.reg 
 [Qc 15 3, Q 16 (.len true (.t 15)), Q 17 (.bin .lss (.t 16) (Ki 2)), Qc 18 17, Qd 19 3 18 false, Qg 20 (.idxS (.t 19) (Ki 0)) 18 false, Qg 21 (.bin .neq (.t 20) (Kb 60)) 18 
 false, Q 22 (.pick (.t 18) KT (.t 21)), Qc 23 22, Qd 24 3 23 false, Qg 25 (.len true (.t 24)) 23 false, Qg 26 (.bin .rem (.t 25) (Ki 2)) 23 false, Qg 27 (.bin .eql (.t 26) (Ki 
 1)) 23 false, Q 28 (.pick (.t 23) KT (.t 27))]) (.cond (.t 28) (.seq (.reg [Qc 29 0, ⟨some 30, .prim .call [.k (.fn (.func 44) [] []), .t 29, .k (.d (.int .i64 4))] [], none⟩]) 
 (.seq (.reg [⟨some 2, .nils 5 1, none⟩]) .ret)) .skip)) (.seq (.reg [⟨some 4, .nils 5 1, none⟩]) (.seq (.seq (.reg [Qx 5 (Ki 1)]) (.block 0 (.loop (.seq (.seq (.reg [Qc 31 5, Q 
 32 (.bin .add (.t 31) (Ki 2)), Qc 33 3, Q 34 (.len true (.t 33)), Q 35 (.bin .lss (.t 32) (.t 34))]) (.cond (.t 35) .skip (.exit 0))) (.seq (.block 1 (.seq (.reg [Qc 38 3, Qc 39 
 5, Q 40 (.idxS (.t 38) (.t 39)), ⟨some 41, .call 29 [.t 40], none⟩, Qa 6 41]) (.seq (.reg [Qc 42 3, Qc 43 5, Q 44 (.bin .add (.t 43) (Ki 1)), Q 45 (.idxS (.t 42) (.t 44)), ⟨some 
 46, .call 29 [.t 45], none⟩, Qa 7 46]) (.seq (.seq (.reg [Qc 47 6, Q 48 (.bin .lss (.t 47) (Ki 0)), Qc 49 48, Qd 50 7 49 false, Qg 51 (.bin .lss (.t 50) (Ki 0)) 49 false, Q 52 
 (.pick (.t 49) KT (.t 51))]) (.cond (.t 52) (.seq (.reg [Qc 53 0, ⟨some 54, .prim .call [.k (.fn (.func 44) [] []), .t 53, .k (.d (.int .i64 4))] [], none⟩]) (.seq (.reg [⟨some 
 2, .nils 5 1, none⟩]) .ret)) .skip)) (.reg [Qc 55 4, Qc 56 6, Q 57 (.bin .mul (Ki 16) (.t 56)), Qc 58 7, Q 59 (.bin .add (.t 57) (.t 58)), Q 60 (.cvI .u8 (.t 59)), ⟨some 61, .bsl 
 5 1 [.t 60], none⟩, ⟨some 62, .app 5 1 1 false (.t 55) (.t 61), none⟩, Qa 4 62]))))) (.reg [Qc 36 5, Q 37 (.bin .add (.t 36) (Ki 2)), Qa 5 37])))))) (.seq (.reg [Qc 63 4, Qa 2 
 63]) .ret))))))
def R___foliowrightref_program__bytes : List LRes := [.tmp 2]
theorem lift___foliowrightref_program__bytes : Lifts Tryd.prog 63 64 L___foliowrightref_program__bytes R___foliowrightref_program__bytes := ⟨_, _, Tryd.func63, rfl, by kernel_rfl, by kernel_rfl, rfl⟩
theorem rbytes (T : List (List UInt8)) (ends : Bool) (j : Nat) (b : Bool) (o : ROut) (n : Nat) (hT : T.length ≤ 60000) (hj : j ≤ T.length) (hw : ∀ w ∈ T, w.length ≤ 60000) : MCallE Tryd.prog 63 [.ptr (.x 0) 0] [rpg T ends j b o n] (.own (.t 0) 5 1 (bytesD (rB T ends j n).1)) [rpg T ends (rB T ends j n).2.1 b o (rB T ends j n).2.2] := by
 have hnx := rnext T ends j b o n hT hj
 have hR : rB T ends j n = if (rN T ends j n).2.2 = 0 then (cBl (rN T ends j n).1, (rN T ends j n).2.1, cBe (rN T ends j n).1) else ([], (rN T ends j n).2.1, (rN T ends j n).2.2) := rfl
 have hwl : (rN T ends j n).1.length ≤ 60000 := by
  unfold rN
  cases h : T[j]? with
  | none => simp
  | some w => exact hw w (List.mem_of_getElem? h)
 generalize rB T ends j n = R at *
 generalize rN T ends j n = N at *
 obtain ⟨w, j', n1⟩ := N
 simp only at hnx hR hwl
 have hf := rfail T ends j' b o 0 4
 clear hw
 obtain ⟨S0, hS0⟩ : ∃ S0 : Nat → List UInt8 → List UInt8 → Nat → St, ∀ i acc w j', S0 i acc w j' = ⟨[(0, .ptr (.x 0) 0), (3, .d (.str w)), (4, .own (.t 4) 5 1 (bytesD acc)), (5, .d (.int .i64 i))], [], [(0, rpg T ends j' b o 0)]⟩ := ⟨_, fun _ _ _ _ => rfl⟩
 rcases o with _ | l
 all_goals
  refine lift___foliowrightref_program__bytes.mcall (by kernel_rfl) rfl ?_
  simp (maxSteps := 2000000) only [go_sem, ↓reduceIte, L___foliowrightref_program__bytes, R___foliowrightref_program__bytes, rpg]
  refine PrimG.mc1 (.x 0) rfl (hnx) rfl rfl rfl rfl ⟨rfl, rfl⟩ ?_
  rcases Nat.eq_zero_or_pos n1 with hn | hn
  ·subst hn
   rw [if_pos rfl] at hR
   simp (maxSteps := 2000000) only [go_sem, ↓reduceIte, rpg]
   refine ⟨fun h1 => ?_, fun h1 => ?_⟩
   ·obtain ⟨ch, hch⟩ := get_some (l := w) (i := 0) (by omega)
    have hg : getI w 0 = some ch := by rw [show (0 : Int) = ((0 : Nat) : Int) from rfl, getI_nat]; exact hch
    have hm : (w.length : Int).tmod 2 = ((w.length % 2 : Nat) : Int) := rfl
    simp (maxSteps := 2000000) only [go_sem, ↓reduceIte, hg, hm]
    refine ⟨fun h2 => ⟨fun h3 => ?_, fun h3 => ?_⟩, fun h2 => ?_⟩
    ·refine PrimG.mc1 (.x 0) rfl (hf) rfl rfl rfl rfl ⟨rfl, rfl⟩ ?_
     have e1 : cB w = none := cB_not (.inr (.inr (by omega)))
     subst hR
     simp (maxSteps := 2000000) only [go_sem, ↓reduceIte, rpg, cBl, cBe, e1, bytesD, orE]
    ·have e60 : w[0]? = some 60 := by rw [hch]; congr 1; rw [← UInt8.toNat_inj]; show ch.toNat = 60; omega
     have e1 : cB w = hexP (w.drop 1) := cB_yes (by rw [e60]; simp; omega)
     generalize hR2 : hexP (w.drop 1) = R2 at e1
     refine run_loop (fun y : Nat × List UInt8 => S0 y.1 y.2 w j') (fun y => 1 ≤ y.1 ∧ y.1 ≤ w.length ∧ y.2.length ≤ y.1 ∧ (hexP (w.drop y.1)).map (y.2 ++ ·) = R2) (fun y => w.length - y.1) (1, []) ?_ ?_ ?_
     ·rw [hS0]
      refine Weak.mk ?_ ?_ ?_ <;> simp (maxSteps := 2000000) only [go_sem, ↓reduceIte, Sub, Int.natCast_add, Int.natCast_mul, bytesD, rpg]
     ·refine ⟨Nat.le_refl _, by simp only; omega, by simp, ?_⟩
      simp only [List.nil_append]; rw [hR2]; cases R2 <;> rfl
     ·rintro ⟨i, acc⟩ ⟨hi1, hi2, hacc, hF⟩
      simp only at hi1 hi2 hacc hF
      rw [hS0]
      simp (maxSteps := 2000000) (disch := omega) only [go_sem, ↓reduceIte, rpg]
      refine ⟨fun hlt => ?_, fun hge => ?_⟩
      ·obtain ⟨x, hx⟩ := get_some (l := w) (i := i) (by omega)
       obtain ⟨y, hy⟩ := get_some (l := w) (i := i + 1) (by omega)
       obtain ⟨z, hz⟩ := get_some (l := w) (i := i + 1 + 1) (by omega)
       have hx8 := u8_lt x
       have hy8 := u8_lt y
       have bx := hexI_bounds x.toNat
       have byy := hexI_bounds y.toNat
       have hd : w.drop (i + 2) = z :: w.drop (i + 3) := dropW hz
       rw [dropW hx, dropW hy, hd, hexP, ← hd] at hF
       have gy : getI w ((i : Int) + 1) = some y := by rw [show (i : Int) + 1 = ((i + 1 : Nat) : Int) from rfl, getI_nat]; exact hy
       simp (maxSteps := 2000000) (disch := omega) only [go_sem, ↓reduceIte, getI_nat, hx, gy]
       refine CallG.of (hexOf_call x.toNat (by omega)) ?_
       simp (maxSteps := 2000000) (disch := omega) only [go_sem, ↓reduceIte, getI_nat, hx, gy]
       refine CallG.of (hexOf_call y.toNat (by omega)) ?_
       have bad : (hexI x.toNat < 0 ∨ hexI y.toNat < 0) → cB w = none := fun h => by rw [if_pos h] at hF; rw [e1, ← hF]; rfl
       by_cases h4 : hexI x.toNat < 0
       ·simp (maxSteps := 2000000) only [go_sem, ↓reduceIte, h4]
        refine PrimG.mc1 (.x 0) rfl (hf) rfl rfl rfl rfl ⟨rfl, rfl⟩ ?_
        have e2 := bad (.inl h4)
        subst hR
        simp (maxSteps := 2000000) only [go_sem, ↓reduceIte, rpg, cBl, cBe, e2, bytesD, orE]
       ·by_cases h5 : hexI y.toNat < 0
        ·simp (maxSteps := 2000000) only [go_sem, ↓reduceIte, h4, h5]
         refine PrimG.mc1 (.x 0) rfl (hf) rfl rfl rfl rfl ⟨rfl, rfl⟩ ?_
         have e2 := bad (.inr h5)
         subst hR
         simp (maxSteps := 2000000) only [go_sem, ↓reduceIte, rpg, cBl, cBe, e2, bytesD, orE]
        ·rw [if_neg (by omega)] at hF
         have hblen := bytesD_length acc
         simp (maxSteps := 2000000) (disch := omega) only [go_sem, ↓reduceIte, h4, h5, bytesD_snocI (b := acc) (n := 16 * hexI x.toNat + hexI y.toNat) (by omega) (by omega)]
         refine ⟨by omega, (i + 2, acc ++ [byteI (16 * hexI x.toNat + hexI y.toNat)]), ?_, ⟨by simp only; omega, by simp only; omega, by simp only [List.length_append, List.length_cons, List.length_nil]; omega, ?_⟩, by simp only; omega⟩
         ·rw [hS0]
          refine Weak.mk ?_ ?_ ?_ <;> simp (maxSteps := 2000000) only [go_sem, ↓reduceIte, Sub, Int.natCast_add, Int.natCast_mul, rpg]
         ·simp only
          rw [← hF]
          cases hexP (w.drop (i + 2)) <;> simp
      ·rw [hexP_short (by rw [List.length_drop]; omega)] at hF
       simp only [Option.map_some, List.append_nil] at hF
       subst hF
       subst hR
       simp (maxSteps := 2000000) only [go_sem, ↓reduceIte, rpg, cBl, cBe, e1, orE_0]
       first | done | rfl
    ·refine PrimG.mc1 (.x 0) rfl (hf) rfl rfl rfl rfl ⟨rfl, rfl⟩ ?_
     have e1 : cB w = none := cB_not (.inr (.inl (by rw [hch]; intro e; cases e; exact h2 rfl)))
     subst hR
     simp (maxSteps := 2000000) only [go_sem, ↓reduceIte, rpg, cBl, cBe, e1, bytesD, orE]
   ·refine PrimG.mc1 (.x 0) rfl (hf) rfl rfl rfl rfl ⟨rfl, rfl⟩ ?_
    have e1 : cB w = none := cB_not (.inl (by omega))
    subst hR
    simp (maxSteps := 2000000) only [go_sem, ↓reduceIte, rpg, cBl, cBe, e1, bytesD, orE]
  ·rw [if_neg (by omega)] at hR
   subst hR
   have z : (0 < (n1 : Int)) = True := eq_true (by omega)
   simp (maxSteps := 2000000) only [go_sem, ↓reduceIte, rpg, z, bytesD_nil]
inductive Bld where
 | new
 | nul
 | has (s : List UInt8)
def Bld.obj : Bld → AObj
 | .new => .cells [.nt 92, .ns]
 | .nul => .cells [.ptr (.x 0) 0, .ns]
 | .has s => .cells [.ptr (.x 0) 0, .own (.c (.x 0) 1) 5 1 (bytesD s)]
def Bld.bytes : Bld → List UInt8
 | .has s => s
 | _ => []
def L___strings_Builder__copyCheck : LCode :=
 .seq (.reg [Qc 2 0, Q 3 (.nck (.t 2)), Q 4 (.fa 0 (.t 3)), Q 5 (.ld false 1 (.t 4)), Q 6 (.eqN 1 false (.t 5))]) (.cond (.t 6) (.reg [Qc 7 0, Qc 8 0, ⟨some 9, .prim (.conv 90 118) 
 [.t 8] [], none⟩, ⟨some 10, .prim .call [.k (.fn (.func 81) [] []), .t 9] [], none⟩, ⟨some 11, .prim (.conv 118 90) [.t 10] [], none⟩, Q 12 (.nck (.t 7)), Q 13 (.fa 0 (.t 12)), 
 ⟨none, .st 1 (.t 13) (.t 11), none⟩]) (.seq (.reg [Qc 14 0, Q 15 (.nck (.t 14)), Q 16 (.fa 0 (.t 15)), Q 17 (.ld false 1 (.t 16)), Qc 18 0, ⟨some 19, .prim (.eq .neq 90) [.t 17, 
 .t 18] [], none⟩]) (.cond (.t 19) .bad .skip)))
def R___strings_Builder__copyCheck : List LRes := []
theorem lift___strings_Builder__copyCheck : Lifts Tryd.prog 67 20 L___strings_Builder__copyCheck R___strings_Builder__copyCheck := ⟨_, _, Tryd.func67, rfl, by kernel_rfl, by kernel_rfl, rfl⟩
theorem copyCheck_new : MCallE Tryd.prog 67 [.ptr (.x 0) 0] [.cells [.nt 92, .ns]] (.tuple []) [.cells [.ptr (.x 0) 0, .ns]] := by
 refine lift___strings_Builder__copyCheck.mcall (by kernel_rfl) rfl ?_
 simp (maxSteps := 2000000) only [go_sem, ↓reduceIte, L___strings_Builder__copyCheck, R___strings_Builder__copyCheck, AV.den]
 refine PrimG.toUnsafe (m := 1) rfl rfl (by decide) Tryd.underlying90 Tryd.underlying118 (by kernel_rfl) ?_
 simp (maxSteps := 2000000) only [go_sem, ↓reduceIte]
 refine PrimG.entry Tryd.func81 (by kernel_rfl) (by kernel_rfl) (by kernel_rfl) (e := Extern.AbiNoEscape.same) (by kernel_rfl) (.ptr (.x 0) 0) (fun G w vs hl hv => ?_) ?_
 ·match vs, hl with
  | [v], _ => exact ⟨v, Lib.run_noEscape w v, hv 0 _ rfl⟩
 simp (maxSteps := 2000000) only [go_sem, ↓reduceIte]
 refine PrimG.fromUnsafe (i := 0) rfl rfl rfl Tryd.underlying118 Tryd.underlying90 (m := 2) (by kernel_rfl) (by kernel_rfl) ?_
 simp (maxSteps := 2000000) only [go_sem, ↓reduceIte]
theorem info147 : ∃ j, Tryd.prog.info? 92 = some j := by
 have h : (Tryd.prog.info? 92).isSome = true := by kernel_rfl
 exact Option.isSome_iff_exists.1 h
theorem copyCheck_used (x : AV) (hx : x = .ns ∨ ∃ s, x = .own (.c (.x 0) 1) 5 1 (bytesD s)) : MCallE Tryd.prog 67 [.ptr (.x 0) 0] [.cells [.ptr (.x 0) 0, x]] (.tuple []) [.cells [.ptr (.x 0) 0, x]] := by
 obtain ⟨j, hj⟩ := info147
 have done : MCallE Tryd.prog 67 [.ptr (.x 0) 0] [.cells [.ptr (.x 0) 0, x]] (.tuple []) [.cells [.ptr (.x 0) 0, x]] := by
  refine lift___strings_Builder__copyCheck.mcall (by kernel_rfl) rfl ?_
  simp (maxSteps := 2000000) only [go_sem, ↓reduceIte, L___strings_Builder__copyCheck, R___strings_Builder__copyCheck, AV.den]
  refine PrimG.samePtr rfl rfl Tryd.underlying90 hj ?_
  simp (maxSteps := 2000000) only [go_sem, ↓reduceIte]
 exact done
/-! ### Builders, wherever they lie -/
def Bld.at (r : Ref) : Bld → AObj
 | .new => .cells [.nt 92, .ns]
 | .nul => .cells [.ptr r 0, .ns]
 | .has s => .cells [.ptr r 0, .own (.c r 1) 5 1 (bytesD s)]
theorem Bld.obj_at (b : Bld) : b.obj = b.at (.x 0) := by cases b <;> rfl
theorem Bld.at_ren (b : Bld) (r : Ref) : (b.at (.x 0)).ren [r] = b.at r := by cases b <;> rfl
theorem Bld.at_wf (b : Bld) : (b.at (.x 0)).wf 1 = true := by cases b <;> rfl
theorem Bld.at_loc (b : Bld) (i : Nat) : (b.at (.x i)).noLoc = true := by cases b <;> rfl
theorem Bld.bytes_has (s : List UInt8) : Bld.bytes (.has s) = s := rfl
theorem bldCall {dst : Option Nat} {f : LX} {args : List LX} {K : St → Prop} {σ : St} {g : FuncId} {first cap : List AV} {xs : List AV} {ret : AV} (r : Ref) {b b' : Bld} (hf : σ.ev f = .fn (.func g) first cap) (hc : MCallE Tryd.prog g xs [b.at (.x 0)] ret [b'.at (.x 0)])
  (hx : passQ [] 0 (first ++ (evL σ args ++ cap)) = renL [r] xs) (hwx : wfAL [] 1 0 xs = true) (ho : σ.obj r = some (b.at r)) (hr : retOK 1 ret = true)
  (hK : K (retO (({ σ with ρ := amap (AV.unown [r]) σ.ρ } : St).setObj r (b'.at r)) dst [r] ret)) : PrimG Tryd.prog dst .call (f :: args) K σ := by
 refine PrimG.mcall [r] [] hf hc hx hwx ?_ ?_ ?_ ?_ ⟨hr, ?_⟩ ?_
 ·exact ⟨by rw [Bld.at_ren]; exact ho, trivial⟩
 ·show (Bld.at (.x 0) b).wf 1 && true = true
  rw [Bld.at_wf]; rfl
 ·rfl
 ·rfl
 ·show ((Bld.at (.x 0) b').wf 1 && (isLocal r || ((Bld.at (.x 0) b').ren [r]).noLoc)) && true = true
  rw [Bld.at_wf, Bld.at_ren]
  cases r with
  | l s => rfl
  | x i => rw [Bld.at_loc]; rfl
 ·show K (retO (setObjs [r] { (eraseL σ []) with ρ := amap (AV.unown [r]) (eraseL σ []).ρ } [r] [Bld.at (.x 0) b']) dst [r] ret)
  simp only [setObjs, Bld.at_ren, eraseL]
  exact hK
def a63 (n : Int) : Int := IntKind.u8.wrap ((BitVec.ofInt IntKind.u8.bits n &&& BitVec.ofInt IntKind.u8.bits 63).toNat)
def oB (k n : Int) : Int := IntKind.u8.wrap ((BitVec.ofInt IntKind.u8.bits k ||| BitVec.ofInt IntKind.u8.bits n).toNat)
theorem and63 (n : Nat) (h : n < 256) : a63 (n : Int) = (n % 64 : Nat) := by
 have : ∀ n : Fin 256, a63 ((n.val : Nat) : Int) = (n.val % 64 : Nat) := by decide +kernel
 exact this ⟨n, h⟩
theorem or128 (n : Nat) (h : n < 64) : oB 128 (n : Int) = (128 + n : Nat) := by
 have : ∀ n : Fin 64, oB 128 ((n.val : Nat) : Int) = (128 + n.val : Nat) := by decide +kernel
 exact this ⟨n, h⟩
theorem or192 (n : Nat) (h : n < 32) : oB 192 (n : Int) = (192 + n : Nat) := by
 have : ∀ n : Fin 32, oB 192 ((n.val : Nat) : Int) = (192 + n.val : Nat) := by decide +kernel
 exact this ⟨n, h⟩
theorem or224 (n : Nat) (h : n < 16) : oB 224 (n : Int) = (224 + n : Nat) := by
 have : ∀ n : Fin 16, oB 224 ((n.val : Nat) : Int) = (224 + n.val : Nat) := by decide +kernel
 exact this ⟨n, h⟩
theorem or240 (n : Nat) (h : n < 8) : oB 240 (n : Int) = (240 + n : Nat) := by
 have : ∀ n : Fin 8, oB 240 ((n.val : Nat) : Int) = (240 + n.val : Nat) := by decide +kernel
 exact this ⟨n, h⟩
theorem w8 (n : Nat) : IntKind.u8.wrap (n : Int) = (n % 256 : Nat) := by rw [IntKind.wrap_u8]; omega
theorem fd6 (n : Nat) : (n : Int).fdiv (2 ^ min 6 32) = (n / 64 : Nat) := by rw [Int.fdiv_eq_ediv_of_nonneg _ (by decide)]; rfl
theorem fd12 (n : Nat) : (n : Int).fdiv (2 ^ min 12 32) = (n / 4096 : Nat) := by rw [Int.fdiv_eq_ediv_of_nonneg _ (by decide)]; rfl
theorem fd18 (n : Nat) : (n : Int).fdiv (2 ^ min 18 32) = (n / 262144 : Nat) := by rw [Int.fdiv_eq_ediv_of_nonneg _ (by decide)]; rfl
def L_unicode_utf8_appendRuneNonASCII : LCode :=
 .seq (.reg [⟨some 4, .nils 5 1, none⟩]) (.seq (.reg [Qc 6 1, Q 7 (.cvI .u32 (.t 6)), Qa 5 7]) (.block 0 (.seq (.reg [Qc 12 5, Q 13 (.bin .leq (.t 12) (.k (.d (.int .u32 2047)))), 
 Qa 11 13]) (.cond (.t 11) (.seq (.reg [Qc 14 0, Qc 15 1, Q 16 (.bin .shr (.t 15) (.k (.d (.int .u64 6)))), Q 17 (.cvI .u8 (.t 16)), Q 18 (.bin .or (Kb 192) (.t 17)), Qc 19 1, Q 
 20 (.cvI .u8 (.t 19)), Q 21 (.bin .and (.t 20) (Kb 63)), Q 22 (.bin .or (Kb 128) (.t 21)), ⟨some 23, .bsl 5 1 [.t 18, .t 22], none⟩, ⟨some 24, .app 5 1 1 false (.t 14) (.t 23), 
 none⟩, Qa 4 24]) .ret) (.seq (.seq (.reg [Qc 26 5, Q 27 (.bin .lss (.t 26) (.k (.d (.int .u32 55296)))), Qa 25 27]) (.cond (.t 25) .skip (.reg [Qc 28 5, Q 29 (.bin .lss (.k (.d 
 (.int .u32 57343))) (.t 28)), Qc 30 29, Qd 31 5 30 true, Qg 32 (.bin .leq (.t 31) (.k (.d (.int .u32 65535)))) 30 true, Q 33 (.pick (.t 30) (.t 32) KF), Qa 25 33]))) (.cond (.t 
 25) (.seq (.reg [Qc 34 0, Qc 35 1, Q 36 (.bin .shr (.t 35) (.k (.d (.int .u64 12)))), Q 37 (.cvI .u8 (.t 36)), Q 38 (.bin .or (Kb 224) (.t 37)), Qc 39 1, Q 40 (.bin .shr (.t 39) 
 (.k (.d (.int .u64 6)))), Q 41 (.cvI .u8 (.t 40)), Q 42 (.bin .and (.t 41) (Kb 63)), Q 43 (.bin .or (Kb 128) (.t 42)), Qc 44 1, Q 45 (.cvI .u8 (.t 44)), Q 46 (.bin .and (.t 45) 
 (Kb 63)), Q 47 (.bin .or (Kb 128) (.t 46)), ⟨some 48, .bsl 5 1 [.t 38, .t 43, .t 47], none⟩, ⟨some 49, .app 5 1 1 false (.t 34) (.t 48), none⟩, Qa 4 49]) .ret) (.seq (.reg [Qc 51 
 5, Q 52 (.bin .gtr (.t 51) (.k (.d (.int .u32 65535)))), Qc 53 52, Qd 54 5 53 true, Qg 55 (.bin .leq (.t 54) (.k (.d (.int .u32 1114111)))) 53 true, Q 56 (.pick (.t 53) (.t 55) 
 KF), Qa 50 56]) (.cond (.t 50) (.seq (.reg [Qc 57 0, Qc 58 1, Q 59 (.bin .shr (.t 58) (.k (.d (.int .u64 18)))), Q 60 (.cvI .u8 (.t 59)), Q 61 (.bin .or (Kb 240) (.t 60)), Qc 62 
 1, Q 63 (.bin .shr (.t 62) (.k (.d (.int .u64 12)))), Q 64 (.cvI .u8 (.t 63)), Q 65 (.bin .and (.t 64) (Kb 63)), Q 66 (.bin .or (Kb 128) (.t 65)), Qc 67 1, Q 68 (.bin .shr (.t 
 67) (.k (.d (.int .u64 6)))), Q 69 (.cvI .u8 (.t 68)), Q 70 (.bin .and (.t 69) (Kb 63)), Q 71 (.bin .or (Kb 128) (.t 70)), Qc 72 1, Q 73 (.cvI .u8 (.t 72)), Q 74 (.bin .and (.t 
 73) (Kb 63)), Q 75 (.bin .or (Kb 128) (.t 74)), ⟨some 76, .bsl 5 1 [.t 61, .t 66, .t 71, .t 75], none⟩, ⟨some 77, .app 5 1 1 false (.t 57) (.t 76), none⟩, Qa 4 77]) .ret) (.seq 
 (.reg [Qc 8 0, ⟨some 9, .bsl 5 1 [.k (.d (.int .u8 239)), .k (.d (.int .u8 191)), .k (.d (.int .u8 189))], none⟩, ⟨some 10, .app 5 1 1 false (.t 8) (.t 9), none⟩, Qa 4 10]) 
 .ret)))))))))
def R_unicode_utf8_appendRuneNonASCII : List LRes := [.tmp 4]
theorem lift_unicode_utf8_appendRuneNonASCII : Lifts Tryd.prog 91 78 L_unicode_utf8_appendRuneNonASCII R_unicode_utf8_appendRuneNonASCII := ⟨_, _, Tryd.func91, rfl, by kernel_rfl, by kernel_rfl, rfl⟩
def L_unicode_utf8_AppendRune : LCode :=
 .seq (.reg [⟨some 4, .nils 5 1, none⟩]) (.seq (.seq (.reg [Qc 5 1, Q 6 (.cvI .u32 (.t 5)), Q 7 (.bin .leq (.t 6) (.k (.d (.int .u32 127))))]) (.cond (.t 7) (.seq (.reg [Qc 8 0, Qc 
 9 1, Q 10 (.cvI .u8 (.t 9)), ⟨some 11, .bsl 5 1 [.t 10], none⟩, ⟨some 12, .app 5 1 1 false (.t 8) (.t 11), none⟩, Qa 4 12]) .ret) .skip)) (.seq (.reg [Qc 13 0, Qc 14 1, ⟨some 15, 
 .call 91 [.t 13, .t 14], none⟩, Qa 4 15]) .ret))
def R_unicode_utf8_AppendRune : List LRes := [.tmp 4]
theorem lift_unicode_utf8_AppendRune : Lifts Tryd.prog 87 16 L_unicode_utf8_AppendRune R_unicode_utf8_AppendRune := ⟨_, _, Tryd.func87, rfl, by kernel_rfl, by kernel_rfl, rfl⟩
theorem appendNon {c : Nat} (hc : vrune c) (hc2 : 128 ≤ c) (s : List UInt8) (hs : s.length ≤ 1000000000) : MCallE Tryd.prog 91 [.own (.t 0) 5 1 (bytesD s), .d (.int .i32 c)] [] (.own (.t 0) 5 1 (bytesD (s ++ enc c))) [] := by
 have hbl := bytesD_length s
 have w32 : IntKind.u32.wrap (c : Int) = c := by unfold vrune at hc; simp [IntKind.wrap, IntKind.bits]; omega
 rcases enc_cases hc with ⟨h, _⟩ | ⟨h1, h2, e⟩ | ⟨h1, h2, e⟩ | ⟨h1, h2, e⟩
 ·omega
 ·have z1 : ((c : Int) ≤ 2047) = True := eq_true (by omega)
  refine lift_unicode_utf8_appendRuneNonASCII.mcall (by kernel_rfl) rfl ?_
  simp (maxSteps := 2000000) only [go_sem, ↓reduceIte, L_unicode_utf8_appendRuneNonASCII, R_unicode_utf8_appendRuneNonASCII, w32, z1, hbl]
  have q0 : oB 192 (IntKind.u8.wrap ((c : Int).fdiv (2 ^ min 6 32))) = (192 + c / 64 : Nat) := by rw [fd6, w8, or192 _ (by omega), show c / 64 % 256 = c / 64 by omega]
  have q1 : oB 128 (a63 (IntKind.u8.wrap (c : Int))) = (128 + c % 64 : Nat) := by rw [w8, and63 _ (by omega), or128 _ (by omega), show c % 256 % 64 = c % 64 by omega]
  show _ ∧ AV.own (Lab.t 0) _ 1 (bytesD s ++ [D.int .u8 (oB 192 (IntKind.u8.wrap ((c : Int).fdiv (2 ^ min 6 32)))), D.int .u8 (oB 128 (a63 (IntKind.u8.wrap (c : Int))))]) = _
  rw [q0, q1, e, bytesD_append, bytesD_cons, bytesD_cons, bytesD_nil, ofNat_toNat (by omega), ofNat_toNat (by omega)]
  exact ⟨by omega, rfl⟩
 ·have z1 : ((c : Int) ≤ 2047) = False := eq_false (by omega)
  have z3 : ((c : Int) ≤ 65535) = True := eq_true (by omega)
  have z4 : ((c : Int) < 55296) = True ∨ ((57343 : Int) < (c : Int)) = True ∧ ((c : Int) < 55296) = False := by
   unfold vrune at hc
   rcases hc with h | h
   ·exact .inl (eq_true (by omega))
   ·exact .inr ⟨eq_true (by omega), eq_false (by omega)⟩
  rcases z4 with z2 | ⟨z2, z5⟩
  ·refine lift_unicode_utf8_appendRuneNonASCII.mcall (by kernel_rfl) rfl ?_
   simp (maxSteps := 2000000) only [go_sem, ↓reduceIte, L_unicode_utf8_appendRuneNonASCII, R_unicode_utf8_appendRuneNonASCII, w32, z1, z2, z3, hbl]
   have q0 : oB 224 (IntKind.u8.wrap ((c : Int).fdiv (2 ^ min 12 32))) = (224 + c / 4096 : Nat) := by rw [fd12, w8, or224 _ (by omega), show c / 4096 % 256 = c / 4096 by omega]
   have q1 : oB 128 (a63 (IntKind.u8.wrap ((c : Int).fdiv (2 ^ min 6 32)))) = (128 + c / 64 % 64 : Nat) := by rw [fd6, w8, and63 _ (by omega), or128 _ (by omega), show c / 64 % 256 % 64 = c / 64 % 64 by omega]
   have q2 : oB 128 (a63 (IntKind.u8.wrap (c : Int))) = (128 + c % 64 : Nat) := by rw [w8, and63 _ (by omega), or128 _ (by omega), show c % 256 % 64 = c % 64 by omega]
   show _ ∧ AV.own (Lab.t 0) _ 1 (bytesD s ++ [D.int .u8 (oB 224 (IntKind.u8.wrap ((c : Int).fdiv (2 ^ min 12 32)))), D.int .u8 (oB 128 (a63 (IntKind.u8.wrap ((c : Int).fdiv (2 ^ min 6 32))))), D.int .u8 (oB 128 (a63 (IntKind.u8.wrap (c : Int))))]) = _
   rw [q0, q1, q2, e, bytesD_append, bytesD_cons, bytesD_cons, bytesD_cons, bytesD_nil, ofNat_toNat (by omega), ofNat_toNat (by omega), ofNat_toNat (by omega)]
   exact ⟨by omega, rfl⟩
  ·refine lift_unicode_utf8_appendRuneNonASCII.mcall (by kernel_rfl) rfl ?_
   simp (maxSteps := 2000000) only [go_sem, ↓reduceIte, L_unicode_utf8_appendRuneNonASCII, R_unicode_utf8_appendRuneNonASCII, w32, z1, z2, z3, z5, hbl]
   have q0 : oB 224 (IntKind.u8.wrap ((c : Int).fdiv (2 ^ min 12 32))) = (224 + c / 4096 : Nat) := by rw [fd12, w8, or224 _ (by omega), show c / 4096 % 256 = c / 4096 by omega]
   have q1 : oB 128 (a63 (IntKind.u8.wrap ((c : Int).fdiv (2 ^ min 6 32)))) = (128 + c / 64 % 64 : Nat) := by rw [fd6, w8, and63 _ (by omega), or128 _ (by omega), show c / 64 % 256 % 64 = c / 64 % 64 by omega]
   have q2 : oB 128 (a63 (IntKind.u8.wrap (c : Int))) = (128 + c % 64 : Nat) := by rw [w8, and63 _ (by omega), or128 _ (by omega), show c % 256 % 64 = c % 64 by omega]
   show _ ∧ AV.own (Lab.t 0) _ 1 (bytesD s ++ [D.int .u8 (oB 224 (IntKind.u8.wrap ((c : Int).fdiv (2 ^ min 12 32)))), D.int .u8 (oB 128 (a63 (IntKind.u8.wrap ((c : Int).fdiv (2 ^ min 6 32))))), D.int .u8 (oB 128 (a63 (IntKind.u8.wrap (c : Int))))]) = _
   rw [q0, q1, q2, e, bytesD_append, bytesD_cons, bytesD_cons, bytesD_cons, bytesD_nil, ofNat_toNat (by omega), ofNat_toNat (by omega), ofNat_toNat (by omega)]
   exact ⟨by omega, rfl⟩
 ·have z1 : ((c : Int) ≤ 2047) = False := eq_false (by omega)
  have z2 : ((c : Int) < 55296) = False := eq_false (by omega)
  have z3 : ((c : Int) ≤ 65535) = False := eq_false (by omega)
  have z4 : ((57343 : Int) < (c : Int)) = True := eq_true (by omega)
  have z5 : ((65535 : Int) < (c : Int)) = True := eq_true (by omega)
  have z6 : ((c : Int) ≤ 1114111) = True := eq_true (by omega)
  refine lift_unicode_utf8_appendRuneNonASCII.mcall (by kernel_rfl) rfl ?_
  simp (maxSteps := 2000000) only [go_sem, ↓reduceIte, L_unicode_utf8_appendRuneNonASCII, R_unicode_utf8_appendRuneNonASCII, w32, z1, z2, z3, z4, z5, z6, hbl]
  have q0 : oB 240 (IntKind.u8.wrap ((c : Int).fdiv (2 ^ min 18 32))) = (240 + c / 262144 : Nat) := by rw [fd18, w8, or240 _ (by omega), show c / 262144 % 256 = c / 262144 by omega]
  have q1 : oB 128 (a63 (IntKind.u8.wrap ((c : Int).fdiv (2 ^ min 12 32)))) = (128 + c / 4096 % 64 : Nat) := by rw [fd12, w8, and63 _ (by omega), or128 _ (by omega), show c / 4096 % 256 % 64 = c / 4096 % 64 by omega]
  have q2 : oB 128 (a63 (IntKind.u8.wrap ((c : Int).fdiv (2 ^ min 6 32)))) = (128 + c / 64 % 64 : Nat) := by rw [fd6, w8, and63 _ (by omega), or128 _ (by omega), show c / 64 % 256 % 64 = c / 64 % 64 by omega]
  have q3 : oB 128 (a63 (IntKind.u8.wrap (c : Int))) = (128 + c % 64 : Nat) := by rw [w8, and63 _ (by omega), or128 _ (by omega), show c % 256 % 64 = c % 64 by omega]
  show _ ∧ AV.own (Lab.t 0) _ 1 (bytesD s ++ [D.int .u8 (oB 240 (IntKind.u8.wrap ((c : Int).fdiv (2 ^ min 18 32)))), D.int .u8 (oB 128 (a63 (IntKind.u8.wrap ((c : Int).fdiv (2 ^ min 12 32))))), D.int .u8 (oB 128 (a63 (IntKind.u8.wrap ((c : Int).fdiv (2 ^ min 6 32))))), D.int .u8 (oB 128 (a63 (IntKind.u8.wrap (c : Int))))]) = _
  rw [q0, q1, q2, q3, e, bytesD_append, bytesD_cons, bytesD_cons, bytesD_cons, bytesD_cons, bytesD_nil, ofNat_toNat (by omega), ofNat_toNat (by omega), ofNat_toNat (by omega), ofNat_toNat (by omega)]
  exact ⟨by omega, rfl⟩
theorem appendRune {c : Nat} (hc : vrune c) (s : List UInt8) (hs : s.length ≤ 1000000000) : MCallE Tryd.prog 87 [.own (.t 0) 5 1 (bytesD s), .d (.int .i32 c)] [] (.own (.t 0) 5 1 (bytesD (s ++ enc c))) [] := by
 have hbl := bytesD_length s
 have w32 : IntKind.u32.wrap (c : Int) = c := by unfold vrune at hc; simp [IntKind.wrap, IntKind.bits]; omega
 by_cases h : c < 128
 ·have z1 : ((c : Int) ≤ 127) = True := eq_true (by omega)
  have e : enc c = [UInt8.ofNat c] := by
   rcases enc_cases hc with ⟨_, e⟩ | ⟨h1, _⟩ | ⟨h1, _⟩ | ⟨h1, _⟩
   ·exact e
   ·omega
   ·omega
   ·omega
  refine lift_unicode_utf8_AppendRune.mcall (by kernel_rfl) rfl ?_
  simp (maxSteps := 2000000) only [go_sem, ↓reduceIte, L_unicode_utf8_AppendRune, R_unicode_utf8_AppendRune, w32, z1, hbl]
  rw [w8, e, bytesD_append, bytesD_cons, bytesD_nil, ofNat_toNat (by omega), show c % 256 = c by omega]
  exact ⟨by omega, rfl⟩
 ·have z1 : ((c : Int) ≤ 127) = False := eq_false (by omega)
  refine lift_unicode_utf8_AppendRune.mcall (by kernel_rfl) rfl ?_
  simp (maxSteps := 2000000) only [go_sem, ↓reduceIte, L_unicode_utf8_AppendRune, R_unicode_utf8_AppendRune, w32, z1, hbl]
  refine CallG.cstep (CStep.mcall [] [(0, .t 0)] (appendNon hc (by omega) s hs) rfl rfl trivial rfl rfl rfl (fun r hs' hr _ => ?_))
  obtain ⟨e1, e2⟩ := hr
  subst e1
  subst e2
  refine ⟨⟨rfl, rfl⟩, ?_⟩
  simp (maxSteps := 2000000) only [go_sem, ↓reduceIte]
theorem appendNon0 {c : Nat} (hc : vrune c) (hc2 : 128 ≤ c) : MCallE Tryd.prog 91 [.ns, .d (.int .i32 c)] [] (.own (.t 0) 5 1 (bytesD (enc c))) [] := by
 have w32 : IntKind.u32.wrap (c : Int) = c := by unfold vrune at hc; simp [IntKind.wrap, IntKind.bits]; omega
 rcases enc_cases hc with ⟨h, _⟩ | ⟨h1, h2, e⟩ | ⟨h1, h2, e⟩ | ⟨h1, h2, e⟩
 ·omega
 ·have z1 : ((c : Int) ≤ 2047) = True := eq_true (by omega)
  refine lift_unicode_utf8_appendRuneNonASCII.mcall (by kernel_rfl) rfl ?_
  simp (maxSteps := 2000000) only [go_sem, ↓reduceIte, L_unicode_utf8_appendRuneNonASCII, R_unicode_utf8_appendRuneNonASCII, w32, z1]
  have q0 : oB 192 (IntKind.u8.wrap ((c : Int).fdiv (2 ^ min 6 32))) = (192 + c / 64 : Nat) := by rw [fd6, w8, or192 _ (by omega), show c / 64 % 256 = c / 64 by omega]
  have q1 : oB 128 (a63 (IntKind.u8.wrap (c : Int))) = (128 + c % 64 : Nat) := by rw [w8, and63 _ (by omega), or128 _ (by omega), show c % 256 % 64 = c % 64 by omega]
  show AV.own (Lab.t 0) _ 1 ([D.int .u8 (oB 192 (IntKind.u8.wrap ((c : Int).fdiv (2 ^ min 6 32)))), D.int .u8 (oB 128 (a63 (IntKind.u8.wrap (c : Int))))]) = _
  rw [q0, q1, e, bytesD_cons, bytesD_cons, bytesD_nil, ofNat_toNat (by omega), ofNat_toNat (by omega)]
 ·have z1 : ((c : Int) ≤ 2047) = False := eq_false (by omega)
  have z3 : ((c : Int) ≤ 65535) = True := eq_true (by omega)
  have z4 : ((c : Int) < 55296) = True ∨ ((57343 : Int) < (c : Int)) = True ∧ ((c : Int) < 55296) = False := by
   unfold vrune at hc
   rcases hc with h | h
   ·exact .inl (eq_true (by omega))
   ·exact .inr ⟨eq_true (by omega), eq_false (by omega)⟩
  rcases z4 with z2 | ⟨z2, z5⟩
  ·refine lift_unicode_utf8_appendRuneNonASCII.mcall (by kernel_rfl) rfl ?_
   simp (maxSteps := 2000000) only [go_sem, ↓reduceIte, L_unicode_utf8_appendRuneNonASCII, R_unicode_utf8_appendRuneNonASCII, w32, z1, z2, z3]
   have q0 : oB 224 (IntKind.u8.wrap ((c : Int).fdiv (2 ^ min 12 32))) = (224 + c / 4096 : Nat) := by rw [fd12, w8, or224 _ (by omega), show c / 4096 % 256 = c / 4096 by omega]
   have q1 : oB 128 (a63 (IntKind.u8.wrap ((c : Int).fdiv (2 ^ min 6 32)))) = (128 + c / 64 % 64 : Nat) := by rw [fd6, w8, and63 _ (by omega), or128 _ (by omega), show c / 64 % 256 % 64 = c / 64 % 64 by omega]
   have q2 : oB 128 (a63 (IntKind.u8.wrap (c : Int))) = (128 + c % 64 : Nat) := by rw [w8, and63 _ (by omega), or128 _ (by omega), show c % 256 % 64 = c % 64 by omega]
   show AV.own (Lab.t 0) _ 1 ([D.int .u8 (oB 224 (IntKind.u8.wrap ((c : Int).fdiv (2 ^ min 12 32)))), D.int .u8 (oB 128 (a63 (IntKind.u8.wrap ((c : Int).fdiv (2 ^ min 6 32))))), D.int .u8 (oB 128 (a63 (IntKind.u8.wrap (c : Int))))]) = _
   rw [q0, q1, q2, e, bytesD_cons, bytesD_cons, bytesD_cons, bytesD_nil, ofNat_toNat (by omega), ofNat_toNat (by omega), ofNat_toNat (by omega)]
  ·refine lift_unicode_utf8_appendRuneNonASCII.mcall (by kernel_rfl) rfl ?_
   simp (maxSteps := 2000000) only [go_sem, ↓reduceIte, L_unicode_utf8_appendRuneNonASCII, R_unicode_utf8_appendRuneNonASCII, w32, z1, z2, z3, z5]
   have q0 : oB 224 (IntKind.u8.wrap ((c : Int).fdiv (2 ^ min 12 32))) = (224 + c / 4096 : Nat) := by rw [fd12, w8, or224 _ (by omega), show c / 4096 % 256 = c / 4096 by omega]
   have q1 : oB 128 (a63 (IntKind.u8.wrap ((c : Int).fdiv (2 ^ min 6 32)))) = (128 + c / 64 % 64 : Nat) := by rw [fd6, w8, and63 _ (by omega), or128 _ (by omega), show c / 64 % 256 % 64 = c / 64 % 64 by omega]
   have q2 : oB 128 (a63 (IntKind.u8.wrap (c : Int))) = (128 + c % 64 : Nat) := by rw [w8, and63 _ (by omega), or128 _ (by omega), show c % 256 % 64 = c % 64 by omega]
   show AV.own (Lab.t 0) _ 1 ([D.int .u8 (oB 224 (IntKind.u8.wrap ((c : Int).fdiv (2 ^ min 12 32)))), D.int .u8 (oB 128 (a63 (IntKind.u8.wrap ((c : Int).fdiv (2 ^ min 6 32))))), D.int .u8 (oB 128 (a63 (IntKind.u8.wrap (c : Int))))]) = _
   rw [q0, q1, q2, e, bytesD_cons, bytesD_cons, bytesD_cons, bytesD_nil, ofNat_toNat (by omega), ofNat_toNat (by omega), ofNat_toNat (by omega)]
 ·have z1 : ((c : Int) ≤ 2047) = False := eq_false (by omega)
  have z2 : ((c : Int) < 55296) = False := eq_false (by omega)
  have z3 : ((c : Int) ≤ 65535) = False := eq_false (by omega)
  have z4 : ((57343 : Int) < (c : Int)) = True := eq_true (by omega)
  have z5 : ((65535 : Int) < (c : Int)) = True := eq_true (by omega)
  have z6 : ((c : Int) ≤ 1114111) = True := eq_true (by omega)
  refine lift_unicode_utf8_appendRuneNonASCII.mcall (by kernel_rfl) rfl ?_
  simp (maxSteps := 2000000) only [go_sem, ↓reduceIte, L_unicode_utf8_appendRuneNonASCII, R_unicode_utf8_appendRuneNonASCII, w32, z1, z2, z3, z4, z5, z6]
  have q0 : oB 240 (IntKind.u8.wrap ((c : Int).fdiv (2 ^ min 18 32))) = (240 + c / 262144 : Nat) := by rw [fd18, w8, or240 _ (by omega), show c / 262144 % 256 = c / 262144 by omega]
  have q1 : oB 128 (a63 (IntKind.u8.wrap ((c : Int).fdiv (2 ^ min 12 32)))) = (128 + c / 4096 % 64 : Nat) := by rw [fd12, w8, and63 _ (by omega), or128 _ (by omega), show c / 4096 % 256 % 64 = c / 4096 % 64 by omega]
  have q2 : oB 128 (a63 (IntKind.u8.wrap ((c : Int).fdiv (2 ^ min 6 32)))) = (128 + c / 64 % 64 : Nat) := by rw [fd6, w8, and63 _ (by omega), or128 _ (by omega), show c / 64 % 256 % 64 = c / 64 % 64 by omega]
  have q3 : oB 128 (a63 (IntKind.u8.wrap (c : Int))) = (128 + c % 64 : Nat) := by rw [w8, and63 _ (by omega), or128 _ (by omega), show c % 256 % 64 = c % 64 by omega]
  show AV.own (Lab.t 0) _ 1 ([D.int .u8 (oB 240 (IntKind.u8.wrap ((c : Int).fdiv (2 ^ min 18 32)))), D.int .u8 (oB 128 (a63 (IntKind.u8.wrap ((c : Int).fdiv (2 ^ min 12 32))))), D.int .u8 (oB 128 (a63 (IntKind.u8.wrap ((c : Int).fdiv (2 ^ min 6 32))))), D.int .u8 (oB 128 (a63 (IntKind.u8.wrap (c : Int))))]) = _
  rw [q0, q1, q2, q3, e, bytesD_cons, bytesD_cons, bytesD_cons, bytesD_cons, bytesD_nil, ofNat_toNat (by omega), ofNat_toNat (by omega), ofNat_toNat (by omega), ofNat_toNat (by omega)]
theorem appendRune0 {c : Nat} (hc : vrune c) : MCallE Tryd.prog 87 [.ns, .d (.int .i32 c)] [] (.own (.t 0) 5 1 (bytesD (enc c))) [] := by
 have w32 : IntKind.u32.wrap (c : Int) = c := by unfold vrune at hc; simp [IntKind.wrap, IntKind.bits]; omega
 by_cases h : c < 128
 ·have z1 : ((c : Int) ≤ 127) = True := eq_true (by omega)
  have e : enc c = [UInt8.ofNat c] := by
   rcases enc_cases hc with ⟨_, e⟩ | ⟨h1, _⟩ | ⟨h1, _⟩ | ⟨h1, _⟩
   ·exact e
   ·omega
   ·omega
   ·omega
  refine lift_unicode_utf8_AppendRune.mcall (by kernel_rfl) rfl ?_
  simp (maxSteps := 2000000) only [go_sem, ↓reduceIte, L_unicode_utf8_AppendRune, R_unicode_utf8_AppendRune, w32, z1]
  rw [w8, e, bytesD_cons, bytesD_nil, ofNat_toNat (by omega), show c % 256 = c by omega]
 ·have z1 : ((c : Int) ≤ 127) = False := eq_false (by omega)
  refine lift_unicode_utf8_AppendRune.mcall (by kernel_rfl) rfl ?_
  simp (maxSteps := 2000000) only [go_sem, ↓reduceIte, L_unicode_utf8_AppendRune, R_unicode_utf8_AppendRune, w32, z1]
  refine CallG.cstep (CStep.mcall [] [] (appendNon0 hc (by omega)) rfl rfl trivial rfl rfl rfl (fun r hs' hr _ => ?_))
  obtain ⟨e1, e2⟩ := hr
  subst e1
  subst e2
  refine ⟨⟨rfl, rfl⟩, ?_⟩
  simp (maxSteps := 2000000) only [go_sem, ↓reduceIte]
def L___strings_Builder__WriteRune : LCode :=
 .seq (.reg [Qx 4 (Ki 0), Qx 5 (.k (.d .nil))]) (.seq (.reg [Qc 7 0, ⟨some 8, .prim .call [.k (.fn (.func 67) [] []), .t 7] [], none⟩]) (.seq (.reg [Qc 9 0, Q 10 (.nck (.t 9)), Q 11 
 (.fa 1 (.t 10)), Q 12 (.ld false 1 (.t 11)), Q 13 (.len false (.t 12)), Qa 6 13]) (.seq (.reg [Qc 14 0, Qc 15 0, Q 16 (.nck (.t 15)), Q 17 (.fa 1 (.t 16)), Q 18 (.ld false 1 (.t 
 17)), Qc 19 1, ⟨some 20, .call 87 [.t 18, .t 19], none⟩, Q 21 (.nck (.t 14)), Q 22 (.fa 1 (.t 21)), ⟨none, .st 1 (.t 22) (.t 20), none⟩]) (.seq (.reg [Qc 23 0, Q 24 (.nck (.t 
 23)), Q 25 (.fa 1 (.t 24)), Q 26 (.ld false 1 (.t 25)), Q 27 (.len false (.t 26)), Qc 28 6, Q 29 (.bin .sub (.t 27) (.t 28)), Qa 4 29, Qx 5 (.k (.d .nil))]) .ret))))
def R___strings_Builder__WriteRune : List LRes := [.tmp 4, .tmp 5]
theorem lift___strings_Builder__WriteRune : Lifts Tryd.prog 78 30 L___strings_Builder__WriteRune R___strings_Builder__WriteRune := ⟨_, _, Tryd.func78, rfl, by kernel_rfl, by kernel_rfl, rfl⟩
theorem writeRune_call (b : Bld) {c : Nat} (hc : vrune c) (hl : b.bytes.length ≤ 1000000000) : MCallE Tryd.prog 78 [.ptr (.x 0) 0, .d (.int .i32 c)] [b.obj] (.tuple [.d (.int .i64 (enc c).length), .d .nil]) [Bld.obj (.has (b.bytes ++ enc c))] := by
 have hel := (enc_len hc).2.1
 have hbe := bytesD_length (enc c)
 cases b with
 | new =>
  refine lift___strings_Builder__WriteRune.mcall (by kernel_rfl) rfl ?_
  simp (maxSteps := 2000000) only [go_sem, ↓reduceIte, L___strings_Builder__WriteRune, R___strings_Builder__WriteRune, AV.den, Bld.obj]
  refine PrimG.mc1 (.x 0) rfl (copyCheck_new) rfl rfl rfl rfl ⟨rfl, rfl⟩ ?_
  simp (maxSteps := 2000000) only [go_sem, ↓reduceIte, Bld.bytes, AV.den]
  refine CallG.cstep (CStep.mcall [] [] (appendRune0 hc) rfl rfl trivial rfl rfl rfl (fun r hs' hr _ => ?_))
  obtain ⟨e1, e2⟩ := hr
  subst e1
  subst e2
  refine ⟨⟨rfl, rfl⟩, ?_⟩
  simp (maxSteps := 2000000) (disch := omega) only [go_sem, ↓reduceIte, Bld.bytes, AV.den, hbe]
  rw [Int.sub_zero]
 | nul =>
  refine lift___strings_Builder__WriteRune.mcall (by kernel_rfl) rfl ?_
  simp (maxSteps := 2000000) only [go_sem, ↓reduceIte, L___strings_Builder__WriteRune, R___strings_Builder__WriteRune, AV.den, Bld.obj]
  refine PrimG.mc1 (.x 0) rfl (copyCheck_used _ (.inl rfl)) rfl rfl rfl rfl ⟨rfl, rfl⟩ ?_
  simp (maxSteps := 2000000) only [go_sem, ↓reduceIte, Bld.bytes, AV.den]
  refine CallG.cstep (CStep.mcall [] [] (appendRune0 hc) rfl rfl trivial rfl rfl rfl (fun r hs' hr _ => ?_))
  obtain ⟨e1, e2⟩ := hr
  subst e1
  subst e2
  refine ⟨⟨rfl, rfl⟩, ?_⟩
  simp (maxSteps := 2000000) (disch := omega) only [go_sem, ↓reduceIte, Bld.bytes, AV.den, hbe]
  rw [Int.sub_zero]
 | has s =>
  have hbs := bytesD_length s
  refine lift___strings_Builder__WriteRune.mcall (by kernel_rfl) rfl ?_
  simp (maxSteps := 2000000) only [go_sem, ↓reduceIte, L___strings_Builder__WriteRune, R___strings_Builder__WriteRune, AV.den, Bld.obj]
  refine PrimG.mc1 (.x 0) rfl (copyCheck_used _ (.inr ⟨s, rfl⟩)) rfl rfl rfl rfl ⟨rfl, rfl⟩ ?_
  simp only [Bld.bytes] at hl
  simp (maxSteps := 2000000) only [go_sem, ↓reduceIte, Bld.bytes, AV.den]
  refine CallG.cstep (CStep.mcall [] [(0, .c (.x 0) 1)] (appendRune hc s hl) rfl rfl trivial rfl rfl rfl (fun r hs' hr _ => ?_))
  obtain ⟨e1, e2⟩ := hr
  subst e1
  subst e2
  refine ⟨⟨rfl, rfl⟩, ?_⟩
  have hbse := bytesD_length (s ++ enc c)
  rw [List.length_append] at hbse
  simp (maxSteps := 2000000) (disch := omega) only [go_sem, ↓reduceIte, Bld.bytes, AV.den, hbe, hbse, hbs]
  rw [show (((s.length + (enc c).length : Nat) : Int) - s.length) = ((enc c).length : Int) by omega]
section
open Go.Shelf Go.RowKit
set_option maxHeartbeats 2000000
set_option maxRecDepth 100000
theorem bstr_row (b g cap : Nat) (p : Value) (cur : Array Value) (el : TypeId) (l : List UInt8) (w : World) (hbk : w.heap[b]? = some (.cells #[p, .slice (some ⟨g, 0, none⟩) l.length cap] el (0, 0))) (h0 : l ≠ [])
  (hg : w.heap[g]? = some (.cells cur 5 (0, 0))) (hnc : l.length ≤ cap) (hcm : cap ≤ maxLen) (hcs : cur.size = cap) (hcell : ∀ (j : Nat) (x : UInt8), l[j]? = some x → w.cell? ((⟨g, 0, none⟩ : Addr).add j) = some (.int .u8 x.toNat)) :
  Calls Tryd.prog 51 #[.pointer (some ⟨b, 0, none⟩)] w fun e w' => e = .returned (.string ⟨l.toArray⟩) ∧ w' = w.drew.freeze ⟨g, 0, none⟩ l.length := by
 have hl0 : l.length ≠ 0 := by simpa using h0
 have c1 : w.drew.cell? ⟨b, 1, none⟩ = some (.slice (some ⟨g, 0, none⟩) l.length cap) := by
  have : w.drew.heap[b]? = some (.cells #[p, .slice (some ⟨g, 0, none⟩) l.length cap] el (0, 0)) := hbk
  rw [Lib.cell_of_heap this]; rfl
 have hSD : (Builtin.unsafeSliceData_ #[68] 106 #[.slice (some ⟨g, 0, none⟩) l.length cap]).run Tryd.prog w.drew = .ok (.pointer (some ⟨g, 0, none⟩)) w.drew :=
  Lib.run_unsafeSliceData_row _ _ _ _ _ _ (by omega)
 have hUS : (Builtin.unsafeString_ #[106, 3] 9 #[.pointer (some ⟨g, 0, none⟩), .int .i64 l.length]).run Tryd.prog w.drew = .ok (.string ⟨l.toArray⟩) (w.drew.freeze ⟨g, 0, none⟩ l.length) := by
  refine Lib.run_unsafeString_row w.drew 106 3 9 5 Tryd.underlying106 (by kernel_rfl) g cur.size (by have hg' : w.drew.heap[g]? = some (.cells cur 5 (0, 0)) := hg; simp [World.shape?, hg']) l h0 (by omega) (by unfold maxLen at hcm; omega) ?_
  intro j x hx
  exact hcell j x hx
 go_enter Tryd.func51, Tryd.ntmps51
 go_wp2
 go_region
 all_goals (go_wp2; go_ret; exact ⟨rfl, rfl⟩)
theorem bstr_nil (b : Nat) (p : Value) (el : TypeId) (w : World) (hbk : w.heap[b]? = some (.cells #[p, .slice none 0 0] el (0, 0))) :
  Calls Tryd.prog 51 #[.pointer (some ⟨b, 0, none⟩)] w fun e w' => e = .returned (.string ⟨#[]⟩) ∧ w' = w.drew := by
 have hUS : ∀ (W : World) (q : Option Addr), (Builtin.unsafeString_ #[106, 3] 9 #[.pointer q, .int .i64 0]).run Tryd.prog W = .ok (.string .empty) W := fun W q => Lib.run_unsafeString_none W _ _ _ q
 have c1 : w.drew.cell? ⟨b, 1, none⟩ = some (.slice none 0 0) := by
  have : w.drew.heap[b]? = some (.cells #[p, .slice none 0 0] el (0, 0)) := hbk
  rw [Lib.cell_of_heap this]; rfl
 have hSD : (Builtin.unsafeSliceData_ #[68] 106 #[.slice none 0 0]).run Tryd.prog w.drew = .ok (.pointer none) w.drew := rfl
 go_enter Tryd.func51, Tryd.ntmps51
 go_wp2
 go_region
 all_goals (go_wp2; go_ret; exact ⟨rfl, rfl⟩)
theorem bstr_room (b g cap : Nat) (p : Value) (el : TypeId) (w : World) (hc0 : cap ≠ 0) (hbk : w.heap[b]? = some (.cells #[p, .slice (some ⟨g, 0, none⟩) 0 cap] el (0, 0))) :
  Calls Tryd.prog 51 #[.pointer (some ⟨b, 0, none⟩)] w fun e w' => e = .returned (.string ⟨#[]⟩) ∧ w' = w.drew := by
 have hUS : ∀ (W : World) (q : Option Addr), (Builtin.unsafeString_ #[106, 3] 9 #[.pointer q, .int .i64 0]).run Tryd.prog W = .ok (.string .empty) W := fun W q => Lib.run_unsafeString_none W _ _ _ q
 have c1 : w.drew.cell? ⟨b, 1, none⟩ = some (.slice (some ⟨g, 0, none⟩) 0 cap) := by
  have : w.drew.heap[b]? = some (.cells #[p, .slice (some ⟨g, 0, none⟩) 0 cap] el (0, 0)) := hbk
  rw [Lib.cell_of_heap this]; rfl
 have hSD : (Builtin.unsafeSliceData_ #[68] 106 #[.slice (some ⟨g, 0, none⟩) 0 cap]).run Tryd.prog w.drew = .ok (.pointer (some ⟨g, 0, none⟩)) w.drew :=
  Lib.run_unsafeSliceData_row _ _ _ _ _ _ hc0
 clear hc0
 go_enter Tryd.func51, Tryd.ntmps51
 go_wp2
 go_region
 all_goals (go_wp2; go_ret; exact ⟨rfl, rfl⟩)
theorem bstr_noroom (b g : Nat) (p : Value) (el : TypeId) (cur : Array Value) (w : World) (hbk : w.heap[b]? = some (.cells #[p, .slice (some ⟨g, 0, none⟩) 0 0] el (0, 0))) (hg : w.heap[g]? = some (.cells cur 5 (0, 0))) :
  Calls Tryd.prog 51 #[.pointer (some ⟨b, 0, none⟩)] w fun e w' => e = .returned (.string ⟨#[]⟩) ∧ w' = w.drew.alloc (.view ⟨g, 0, none⟩ 5) := by
 have hUS : ∀ (W : World) (q : Option Addr), (Builtin.unsafeString_ #[106, 3] 9 #[.pointer q, .int .i64 0]).run Tryd.prog W = .ok (.string .empty) W := fun W q => Lib.run_unsafeString_none W _ _ _ q
 have hlt : b < w.heap.size := by
  rcases Nat.lt_or_ge b w.heap.size with h' | h'
  ·exact h'
  ·simp [Array.getElem?_eq_none h'] at hbk
 have c1 : w.drew.cell? ⟨b, 1, none⟩ = some (.slice (some ⟨g, 0, none⟩) 0 0) := by
  have : w.drew.heap[b]? = some (.cells #[p, .slice (some ⟨g, 0, none⟩) 0 0] el (0, 0)) := hbk
  rw [Lib.cell_of_heap this]; rfl
 have hSD : (Builtin.unsafeSliceData_ #[68] 106 #[.slice (some ⟨g, 0, none⟩) 0 0]).run Tryd.prog w.drew = .ok (.pointer (some ⟨w.drew.heap.size, 0, none⟩)) (w.drew.alloc (.view ⟨g, 0, none⟩ 5)) :=
  Lib.run_unsafeSliceData_zero w.drew _ _ 5 Tryd.underlying106 ⟨g, 0, none⟩ 0 (5, cur.size) (by have hg' : w.drew.heap[g]? = some (.cells cur 5 (0, 0)) := hg; simp [World.shape?, hg'])
 have c2 : (w.drew.alloc (.view ⟨g, 0, none⟩ 5)).cell? ⟨b, 1, none⟩ = some (.slice (some ⟨g, 0, none⟩) 0 0) := by
  have : (w.drew.alloc (.view ⟨g, 0, none⟩ 5)).heap[b]? = _ := (Lib.alloc_old w.drew _ b hlt).trans hbk
  rw [Lib.cell_of_heap this]; rfl
 have c3 : (w.alloc (.view ⟨g, 0, none⟩ 5)).drew.cell? ⟨b, 1, none⟩ = some (.slice (some ⟨g, 0, none⟩) 0 0) := c2
 have c0 : w.cell? ⟨b, 1, none⟩ = some (.slice (some ⟨g, 0, none⟩) 0 0) := c1
 go_enter Tryd.func51, Tryd.ntmps51
 go_wp2
 go_region
 all_goals (go_wp2; go_ret; exact ⟨rfl, rfl⟩)
end
theorem heap_freeze_ne (w : World) (g n b : Nat) (h : b ≠ g) : (w.freeze ⟨g, 0, none⟩ n).heap[b]? = w.heap[b]? := by
 unfold World.freeze
 split
 ·rfl
 ·simp only [Array.getElem?_modify]
  rw [if_neg (fun e => h e.symm)]
theorem heap_freeze_at (w : World) (g n : Nat) {cur : Array Value} {e : TypeId} {fz : Nat × Nat} (h : w.heap[g]? = some (.cells cur e fz)) : ∃ fz', (w.freeze ⟨g, 0, none⟩ n).heap[g]? = some (.cells cur e fz') := by
 unfold World.freeze
 split
 ·exact ⟨fz, h⟩
 ·obtain ⟨lo, hi⟩ := fz
  simp only [Array.getElem?_modify, if_true, h, Option.map_some]
  exact ⟨_, rfl⟩
theorem freeze_size (w : World) (g n : Nat) : (w.freeze ⟨g, 0, none⟩ n).heap.size = w.heap.size := by
 unfold World.freeze
 split
 ·rfl
 ·simp
theorem freeze_rest (w : World) (g n : Nat) : (w.freeze ⟨g, 0, none⟩ n).os = w.os ∧ (w.freeze ⟨g, 0, none⟩ n).tape = w.tape ∧ (w.freeze ⟨g, 0, none⟩ n).output = w.output := by
 unfold World.freeze
 split <;> exact ⟨rfl, rfl, rfl⟩
theorem Ext.freeze {f : Nat → Nat} {w : World} {g n : Nat} {cur : Array Value} {e : TypeId} {fz : Nat × Nat} (h : w.heap[g]? = some (.cells cur e fz)) : Ext f w f (w.freeze ⟨g, 0, none⟩ n) := by
 refine ⟨by rw [freeze_size]; exact Nat.le_refl _, fun _ => Nat.le_refl _, fun b i _ => ?_, fun b es c _ hm => ?_⟩
 ·by_cases hb : b = g
  ·subst hb
   obtain ⟨fz', h'⟩ := heap_freeze_at w b n h
   simp [World.cell?, at_, h, h']
  ·simp only [World.cell?, at_]
   rw [heap_freeze_ne w g n b hb]
 ·by_cases hb : b = g
  ·subst hb; rw [h] at hm; cases hm
  ·rw [heap_freeze_ne w g n b hb]; exact hm
theorem one_final {E : Entry} {n : Nat} {G : Ghost} {σ : St} {ts : Array Value} {w : World} (h : SR E n G σ ts w) {x : D} {v : Value} (hr : RD G.f w x v) {o : AObj} (ho : σ.obj (.x 0) = some o) :
  ∃ G', SR E 1 G' ⟨[(0, .d x)], [], numO 0 [o]⟩ #[v] w :=
 ⟨_, h.final (q0 := none) (r := .d x) (v := v) (.d _ _ hr) (fun q hq => by simp [AV.lab?] at hq) (fun _ _ e => by cases e) (hs' := [o]) (fun i o' hi => by
  cases i with
  | zero => simp at hi; subst hi; exact ho
  | succ i => simp at hi)⟩
def Bld.said : Bld → AObj
 | .has s => .cells [.ptr (.x 0) 0, .d (.list (bytesD s))]
 | b => b.obj
theorem string_call (b : Bld) (hl : b.bytes.length ≤ 1000000000) : MCallE Tryd.prog 51 [.ptr (.x 0) 0] [b.obj] (.d (.str b.bytes)) [b.said] := by
 refine ⟨by kernel_rfl, fun G w vs hI hown hsr => ?_⟩
 have hv : vs = #[.pointer (some (at_ (G.b (.x 0)) 0))] := by
  have h1 := hsr.slot 0 (.ptr (.x 0) 0) rfl
  have h2 := hsr.size
  match vs, h2 with
  | ⟨[v]⟩, _ =>
   have h1 : AVR G w (.ptr (.x 0) 0) v := h1
   cases h1; rfl
 subst hv
 have hob : St.obj ⟨initA 0 [.ptr (.x 0) 0], [], numO 0 [b.obj]⟩ (.x 0) = some b.obj := rfl
 obtain ⟨a0, c1, hbo, hc1⟩ : ∃ a0 c1, b.obj = .cells [a0, c1] ∧ ((c1 = .ns ∧ b.bytes = [] ∧ b.said = b.obj) ∨ ∃ s, b = .has s ∧ c1 = .own (.c (.x 0) 1) 5 1 (bytesD s)) := by
  cases b with
  | new => exact ⟨_, _, rfl, .inl ⟨rfl, rfl, rfl⟩⟩
  | nul => exact ⟨_, _, rfl, .inl ⟨rfl, rfl, rfl⟩⟩
  | has s => exact ⟨_, _, rfl, .inr ⟨s, rfl, rfl⟩⟩
 have ho := hsr.obj _ _ hob
 rw [hbo] at ho
 obtain ⟨arr, el, g1, g2, g3⟩ := ho
 obtain ⟨p, v, rfl⟩ : ∃ p v, arr = #[p, v] := by
  match arr, g2 with
  | ⟨[p, v]⟩, _ => exact ⟨p, v, rfl⟩
 have hcell := (g3 1 c1 rfl).1
 have hcell : AVR G w c1 v := hcell
 rcases hc1 with ⟨rfl, hb0, hsd⟩ | ⟨s, rfl, rfl⟩
 ·cases hcell
  refine (bstr_nil _ p el w g1).mono fun e w' ⟨e1, e2⟩ => ?_
  subst e2
  obtain ⟨G', h5⟩ := one_final (hsr.drew) (x := .str b.bytes) (v := .string ⟨#[]⟩) (by rw [hb0]; exact .str []) hob
  exact ⟨_, _, G', _, ⟨rfl, rfl⟩, e1, rfl, by rw [hsd]; exact h5⟩
 ·cases hcell with
  | own _ _ _ _ _ hq hrd hsz =>
   have h1 := hsr.erase (.c (.x 0) 1)
   have hob1 : (St.erase ⟨initA 0 [.ptr (.x 0) 0], [], numO 0 [Bld.obj (.has s)]⟩ (.c (.x 0) 1)).obj (.x 0) = some (.cells [.ptr (.x 0) 0, .d (.list (bytesD s))]) := by
    rw [St.obj_erase, hob]
    simp [Bld.obj, eraseObj, amod, AV.erase]
   obtain ⟨k, xs, hown', hfb⟩ := hsr.lam _ _ _ _ hq
   have hk : k = s.length := by have := own_len hrd hown'; rwa [bytesD_length] at this
   subst hk
   rcases hown'.2 with ⟨rfl, h0⟩ | ⟨g, cap, cur, rfl, _, hg, hnc, hcm, hcs, htk⟩
   ·have hs0 : s = [] := by simpa using h0
    subst hs0
    refine (bstr_nil _ p el w g1).mono fun e w' ⟨e1, e2⟩ => ?_
    subst e2
    obtain ⟨G', h5⟩ := one_final (h1.drew) (x := .str []) (v := .string ⟨#[]⟩) (.str []) hob1
    exact ⟨_, _, G', _, ⟨rfl, rfl⟩, e1, rfl, h5⟩
   ·by_cases hs0 : s = []
    ·subst hs0
     by_cases hc0 : cap = 0
     ·subst hc0
      refine (bstr_noroom _ g p el cur w g1 hg).mono fun e w' ⟨e1, e2⟩ => ?_
      subst e2
      obtain ⟨G', h5⟩ := one_final ((h1.drew).alloc (.view ⟨g, 0, none⟩ 5) 0) (x := .str []) (v := .string ⟨#[]⟩) (.str []) hob1
      exact ⟨_, _, G', _, ⟨rfl, rfl⟩, e1, rfl, h5⟩
     ·refine (bstr_room _ g cap p el w hc0 g1).mono fun e w' ⟨e1, e2⟩ => ?_
      subst e2
      obtain ⟨G', h5⟩ := one_final (h1.drew) (x := .str []) (v := .string ⟨#[]⟩) (.str []) hob1
      exact ⟨_, _, G', _, ⟨rfl, rfl⟩, e1, rfl, h5⟩
    ·refine (bstr_row _ g cap p cur el s w g1 hs0 hg hnc hcm (by simpa using hcs) (fun j x hx => ?_)).mono fun e w' ⟨e1, e2⟩ => ?_
     ·have hlt : j < s.length := (List.getElem?_eq_some_iff.1 hx).1
      have hadd : (⟨g, 0, none⟩ : Addr).add j = at_ g j := add_zero_at g j
      rw [hadd]
      generalize hL : bytesD s = L at hrd
      have hLl : L.length = s.length := by rw [← hL, bytesD_length]
      have hLj : L[j]? = some (.int .u8 x.toNat) := by rw [← hL]; simp [bytesD, hx]
      generalize hvv : Value.slice (some ⟨g, 0, none⟩) s.length cap = vv at hrd
      cases hrd with
      | nils => cases hvv
      | emp a c => simp at hLj
      | list l b o cap' sz vs hcap hsz' hb' hc' hr' =>
       simp only [Value.slice.injEq, Option.some.injEq] at hvv
       obtain ⟨e0, _, _⟩ := hvv
       simp only [at_, Addr.mk.injEq] at e0
       obtain ⟨rfl, rfl, _⟩ := e0
       have hm := List.mem_of_getElem? hLj
       have hsz1 : sz = 1 := by have := (hsz' _ hm).1; simpa [D.cells] using this.symm
       subst hsz1
       have q1 := hc' j (by omega)
       have q2 := hr' j _ 0 _ hLj rfl
       rw [Nat.zero_add] at q1
       rw [q1]
       have e3 : j * 1 + 0 = j := by omega
       rw [e3] at q2
       cases hvs : vs j <;> rw [hvs] at q2 <;> cases q2
       rfl
     ·subst e2
      have hX := h1.drew.world' (w' := w.drew.freeze ⟨g, 0, none⟩ s.length) (f' := G.f) (fun b => b = g) (fun b hb => by
       subst hb
       refine ⟨fun r o hr e => ?_, fun q v' p' hq' hvb => ?_, ?_⟩
       ·have hr' : ∃ o', St.obj ⟨initA 0 [.ptr (.x 0) 0], [], numO 0 [Bld.obj (.has s)]⟩ r = some o' := by
         rw [St.obj_erase] at hr
         cases h0 : St.obj ⟨initA 0 [.ptr (.x 0) 0], [], numO 0 [Bld.obj (.has s)]⟩ r with
         | none => simp [h0] at hr
         | some o' => exact ⟨o', rfl⟩
        obtain ⟨o', hr'⟩ := hr'
        exact hsr.lamObj _ _ _ _ _ hq rfl r o' hr' e
       ·simp only [updf] at hq'
        split at hq'
        ·cases hq'
        ·rename_i hne
         exact hne (hsr.lamInj _ _ _ _ _ _ _ hq' hq hvb rfl)
       ·exact hsr.newLam _ _ _ _ _ hq rfl) (Ext.freeze (w := w.drew) hg) (fun b hb hne => ⟨heap_freeze_ne _ _ _ _ hne, rfl⟩) (fun b hb => h1.drew.top b (by rw [freeze_size] at hb; exact hb)) (freeze_rest _ _ _).1 (freeze_rest _ _ _).2.1 (freeze_rest _ _ _).2.2
      obtain ⟨G', h5⟩ := one_final hX (x := .str s) (v := .string ⟨s.toArray⟩) (.str s) hob1
      exact ⟨_, _, G', _, ⟨rfl, rfl⟩, e1, rfl, h5⟩
end Go.Av.Tryd
