import Derived.Test.YtbfljokjkcdbeaaGreatDoorWe
import Derived.Test.YtbfljokjkcdbeaaGreatDoorWb
import Derived.Test.YtbfljokjkcdbeaaGreatDoorWa
import Derived.Test.YtbfljokjkcdbeaaGreatDoorWd
import Derived.Test.YtbfljokjkcdbeaaGreatDoorWc
set_option linter.unusedSimpArgs false
namespace Go.Av.Tryz
open Go.Proofs
def namePost (s : List UInt8) : Option (List UInt8 × Nat) → AV → List AObj → Prop
 | some (b, k), r, hs => r = .d (.str b) ∧ hs = [robj s k 0]
 | none, r, hs => ∃ (b : List UInt8) (k : Int), r = .d (.str b) ∧ hs = [robj s k 4]
def L___parse_reader__name : LCode :=
 .seq (.reg [Qx 2 (.k (.d (.str [])))]) (.seq (.reg [Qc 6 0, Q 7 (.nck (.t 6)), Q 8 (.fa 1 (.t 7)), Q 9 (.ld false 1 (.t 8)), Q 10 (.bin .add (.t 9) (Ki 1)), Q 11 (.nck (.t 6)), Q 
 12 (.fa 1 (.t 11)), ⟨none, .st 1 (.t 12) (.t 10), none⟩]) (.seq (.dreg [Qc 13 0, Q 14 (.nck (.t 13)), Q 15 (.fa 0 (.t 14)), Q 16 (.ld false 1 (.t 15)), Qc 17 0, Q 18 (.nck (.t 
 17)), Q 19 (.fa 1 (.t 18)), Q 20 (.ld false 1 (.t 19)), ⟨some 21, .call 19 [.t 16, .t 20], none⟩, Qa 3 21]) (.seq (.reg [Qc 22 0, Q 23 (.nck (.t 22)), Q 24 (.fa 1 (.t 23)), Q 25 
 (.ld false 1 (.t 24)), Qc 26 3, Q 27 (.len true (.t 26)), Q 28 (.bin .add (.t 25) (.t 27)), Q 29 (.nck (.t 22)), Q 30 (.fa 1 (.t 29)), ⟨none, .st 1 (.t 30) (.t 28), none⟩]) (.seq 
 (.reg [⟨some 4, .nils 5 1, none⟩]) (.seq (.seq (.reg [Qx 5 (Ki 0)]) (.block 0 (.loop (.seq (.seq (.reg [Qc 31 5, Qc 32 3, Q 33 (.len true (.t 32)), Q 34 (.bin .lss (.t 31) (.t 
 33))]) (.cond (.t 34) .skip (.exit 0))) (.seq (.block 1 (.seq (.seq (.reg [Qc 37 3, Qc 38 5, Q 39 (.idxS (.t 37) (.t 38)), Q 40 (.bin .neq (.t 39) (Kb 35))]) (.cond (.t 40) (.seq 
 (.reg [Qc 41 4, Qc 42 3, Qc 43 5, Q 44 (.idxS (.t 42) (.t 43)), ⟨some 45, .bsl 5 1 [.t 44], none⟩, ⟨some 46, .app 5 1 1 false (.t 41) (.t 45), none⟩, Qa 4 46]) (.exit 1)) .skip)) 
 (.seq (.seq (.reg [Qc 47 5, Q 48 (.bin .add (.t 47) (Ki 2)), Qc 49 3, Q 50 (.len true (.t 49)), Q 51 (.bin .geq (.t 48) (.t 50)), Qc 52 51, Qd 53 3 52 false, Qd 54 5 52 false, Qg 
 55 (.bin .add (.t 54) (Ki 1)) 52 false, Qg 56 (.idxS (.t 53) (.t 55)) 52 false, ⟨some 57, .call 83 [.t 56], some (52, false)⟩, Qg 58 (.bin .lss (.t 57) (Ki 0)) 52 false, Q 59 
 (.pick (.t 52) KT (.t 58)), Qc 60 59, Qd 61 3 60 false, Qd 62 5 60 false, Qg 63 (.bin .add (.t 62) (Ki 2)) 60 false, Qg 64 (.idxS (.t 61) (.t 63)) 60 false, ⟨some 65, .call 83 
 [.t 64], some (60, false)⟩, Qg 66 (.bin .lss (.t 65) (Ki 0)) 60 false, Q 67 (.pick (.t 60) KT (.t 66))]) (.cond (.t 67) (.seq (.reg [Qc 68 0, Q 69 (.mkI 50 (Ki 4)), ⟨some 70, 
 .prim .call [.k (.fn (.func 34) [] []), .t 68, .t 69] [], none⟩]) (.seq (.reg [Qx 2 (.k (.d (.str [])))]) .ret)) .skip)) (.seq (.dreg [Qc 71 4, Qc 72 3, Qc 73 5, Q 74 (.bin .add 
 (.t 73) (Ki 1)), Q 75 (.idxS (.t 72) (.t 74)), ⟨some 76, .call 83 [.t 75], none⟩, Q 77 (.bin .mul (Ki 16) (.t 76)), Qc 78 3, Qc 79 5, Q 80 (.bin .add (.t 79) (Ki 2)), Q 81 (.idxS 
 (.t 78) (.t 80)), ⟨some 82, .call 83 [.t 81], none⟩, Q 83 (.bin .add (.t 77) (.t 82)), Q 84 (.cvI .u8 (.t 83)), ⟨some 85, .bsl 5 1 [.t 84], none⟩, ⟨some 86, .app 5 1 1 false (.t 
 71) (.t 85), none⟩, Qa 4 86]) (.reg [Qc 87 5, Q 88 (.bin .add (.t 87) (Ki 2)), Qa 5 88]))))) (.reg [Qc 35 5, Q 36 (.bin .add (.t 35) (Ki 1)), Qa 5 36])))))) (.seq (.seq (.reg [Qc 
 89 4, Q 90 (.b2s (.t 89)), ⟨some 91, .call 77 [.t 90], none⟩, Q 92 (.not (.t 91))]) (.cond (.t 92) (.reg [Qc 93 0, Q 94 (.mkI 50 (Ki 4)), ⟨some 95, .prim .call [.k (.fn (.func 
 34) [] []), .t 93, .t 94] [], none⟩]) .skip)) (.seq (.reg [Qc 96 4, Q 97 (.b2s (.t 96)), Qa 2 97]) .ret)))))))
def R___parse_reader__name : List LRes := [.tmp 2]
theorem lift___parse_reader__name : Lifts Tryz.prog 57 98 L___parse_reader__name R___parse_reader__name := ⟨_, _, Tryz.func57, rfl, by kernel_rfl, by kernel_rfl, rfl⟩
theorem name_call (s : List UInt8) (k : Nat) (hs : s.length ≤ 60000) (hk : k < s.length) : MCall Tryz.prog 57 [.ptr (.x 0) 0] [robj s k 0] (namePost s (nameAt s k)) := by
 have hw := word_call s ((k + 1 : Nat) : Int) (by omega)
 rw [clamp_in (by omega)] at hw
 have hwl := wordP_len s (k + 1)
 generalize hR : nameAt s k = R
 unfold nameAt at hR
 generalize wordP s (k + 1) = w at *
 rw [Int.natCast_add, Int.natCast_one] at hw
 rw [robj_0]
 refine lift___parse_reader__name.mcall (by kernel_rfl) rfl ?_
 simp (maxSteps := 2000000) (disch := omega) only [go_sem, ↓reduceIte, L___parse_reader__name, R___parse_reader__name]
 refine CallD.of hw ?_
 simp (maxSteps := 2000000) (disch := omega) only [go_sem, ↓reduceIte]
 refine run_loop (fun y : Nat × List UInt8 => ⟨[(0, .ptr (.x 0) 0), (3, .d (.str w)), (4, .own (.t 4) 5 1 (bytesD y.2)), (5, .d (.int .i64 y.1))], [], [(0, .cells [.d (.str s), .d (.int .i64 ((k : Int) + 1 + w.length)), .d .nil])]⟩)
  (fun y => y.1 ≤ w.length ∧ y.2.length ≤ y.1 ∧ nameF (w.drop y.1) y.2 = nameF w []) (fun y => w.length - y.1) (0, []) ?_ ?_ ?_
 ·refine Weak.mk ?_ ?_ ?_ <;> simp (maxSteps := 2000000) only [go_sem, ↓reduceIte, Sub, Int.natCast_add, Int.natCast_mul, bytesD]
 ·exact ⟨by simp, by simp, by simp⟩
 ·rintro ⟨i, b⟩ ⟨hi, hb, hF⟩
  simp only at hi hb hF
  have hblen := bytesD_length b
  have hf := fail_0 s ((k : Int) + 1 + w.length) 4
  rw [robj_0, show errD 4 = .iface 50 (.int .i64 4) from rfl] at hf
  simp (maxSteps := 2000000) only [go_sem, ↓reduceIte]
  refine ⟨fun hlt => ?_, fun hge => ?_⟩
  ·obtain ⟨c, hc⟩ := get_some (l := w) (i := i) (by omega)
   have hc8 := u8_lt c
   rw [drop_at hc] at hF
   have bad : R = none → namePost s R (.d (.str [])) [robj s ((k : Int) + 1 + w.length) 4] := fun e => by rw [e]; exact ⟨[], _, rfl, rfl⟩
   simp (maxSteps := 2000000) only [go_sem, ↓reduceIte, getI_nat, hc]
   refine ⟨fun h1 => ?_, fun h1 => ⟨fun h2 => ?_, fun h2 => ?_⟩⟩
   ·rw [nameF_one (by omega)] at hF
    simp (disch := omega) only [IntWalk.i64_in, IntWalk.u8_in]
    refine ⟨by omega, (i + 1, b ++ [c]), ?_, ⟨by simp only; omega, by simp only [List.length_append, List.length_cons, List.length_nil]; omega, hF⟩, by simp only; omega⟩
    refine Weak.mk ?_ ?_ ?_ <;> simp (maxSteps := 2000000) only [go_sem, ↓reduceIte, Sub, Int.natCast_add, Int.natCast_mul, bytesD_append, bytesD_cons, bytesD_nil]
   ·rw [IntWalk.i64_in _ (by omega)] at h2
    obtain ⟨x, hx⟩ := get_some (l := w) (i := i + 1) (by omega)
    obtain ⟨y, hy⟩ := get_some (l := w) (i := i + 2) (by omega)
    have hx8 := u8_lt x
    have hy8 := u8_lt y
    have hxb := hexI_bounds x.toNat
    have hyb := hexI_bounds y.toNat
    rw [drop_at hx, drop_at hy, nameF_hex (by omega)] at hF
    have g1 : getI w ((i : Int) + 1) = some x := by rw [getI_add1, hx]
    have g2 : getI w ((i : Int) + 2) = some y := by rw [show (i : Int) + 2 = ((i + 2 : Nat) : Int) by omega, getI_nat, hy]
    simp (maxSteps := 2000000) (disch := omega) only [go_sem, ↓reduceIte, g1]
    refine CallG.of (hex_call (n := x.toNat) (by omega)) ?_
    simp (maxSteps := 2000000) (disch := omega) only [go_sem, ↓reduceIte]
    refine ⟨fun h3 => ?_, fun h3 => ?_⟩
    ·simp (maxSteps := 2000000) (disch := omega) only [go_sem, ↓reduceIte, g2]
     refine CallG.of (hex_call (n := y.toNat) (by omega)) ?_
     simp (maxSteps := 2000000) (disch := omega) only [go_sem, ↓reduceIte]
     refine ⟨fun h4 => ?_, fun h4 => ?_⟩
     ·rw [if_pos (.inr h4)] at hF
      rw [← hF] at hR
      refine PrimG.mc1 (.x 0) rfl (hf) rfl rfl rfl rfl ⟨rfl, rfl⟩ ?_
      simp (maxSteps := 2000000) only [go_sem, ↓reduceIte, robj]
      exact bad hR.symm
     ·rw [if_neg (by omega)] at hF
      have hsn := bytesD_snocI (b := b) (n := 16 * hexI x.toNat + hexI y.toNat) (by omega) (by omega)
      simp (maxSteps := 2000000) (disch := omega) only [go_sem, ↓reduceIte, g1]
      refine CallD.of (hex_call (n := x.toNat) (by omega)) ?_
      simp (maxSteps := 2000000) (disch := omega) only [go_sem, ↓reduceIte, g2]
      refine CallD.of (hex_call (n := y.toNat) (by omega)) ?_
      simp (maxSteps := 2000000) (disch := omega) only [go_sem, ↓reduceIte]
      rw [hsn]
      refine ⟨by omega, (i + 3, b ++ [byteI (16 * hexI x.toNat + hexI y.toNat)]), ?_, ⟨by simp only; omega, by simp only [List.length_append, List.length_cons, List.length_nil]; omega, hF⟩, by simp only; omega⟩
      have e3 : ((i + 3 : Nat) : Int) = (i : Int) + 2 + 1 := by omega
      refine Weak.mk ?_ ?_ ?_ <;> simp (maxSteps := 2000000) only [go_sem, ↓reduceIte, Sub, Int.natCast_add, Int.natCast_mul, e3]
    ·rw [if_pos (.inl h3)] at hF
     rw [← hF] at hR
     refine PrimG.mc1 (.x 0) rfl (hf) rfl rfl rfl rfl ⟨rfl, rfl⟩ ?_
     simp (maxSteps := 2000000) only [go_sem, ↓reduceIte, robj]
     exact bad hR.symm
   ·rw [IntWalk.i64_in _ (by omega)] at h2
    rw [nameF_end (by omega) (by rw [List.length_drop]; omega)] at hF
    rw [← hF] at hR
    refine PrimG.mc1 (.x 0) rfl (hf) rfl rfl rfl rfl ⟨rfl, rfl⟩ ?_
    simp (maxSteps := 2000000) only [go_sem, ↓reduceIte, robj]
    exact bad hR.symm
  ·rw [List.drop_eq_nil_of_le (by omega), nameF] at hF
   rw [← hF] at hR
   simp (maxSteps := 2000000) only [go_sem, ↓reduceIte, bytesOf_bytesD]
   refine CallG.of (nameMay_call b) ?_
   simp (maxSteps := 2000000) only [go_sem, ↓reduceIte]
   refine ⟨fun h1 => ?_, fun h1 => ?_⟩
   ·refine PrimG.mc1 (.x 0) rfl (hf) rfl rfl rfl rfl ⟨rfl, rfl⟩ ?_
    simp (maxSteps := 2000000) only [go_sem, ↓reduceIte, robj, bytesOf_bytesD]
    rw [← hR]
    simp only [h1]
    exact ⟨b, _, rfl, rfl⟩
   ·simp (maxSteps := 2000000) only [go_sem, ↓reduceIte, bytesOf_bytesD]
    rw [← hR]
    simp only [h1, if_true]
    refine ⟨rfl, ?_⟩
    simp only [robj, Int.natCast_add, Int.natCast_one]; rfl
def L___parse_reader__hexed : LCode :=
 .seq (.reg [Qx 2 (.k (.d (.str [])))]) (.seq (.reg [Qc 7 0, Q 8 (.nck (.t 7)), Q 9 (.fa 1 (.t 8)), Q 10 (.ld false 1 (.t 9)), Q 11 (.bin .add (.t 10) (Ki 1)), Q 12 (.nck (.t 7)), Q 
 13 (.fa 1 (.t 12)), ⟨none, .st 1 (.t 13) (.t 11), none⟩]) (.seq (.reg [⟨some 3, .nils 5 1, none⟩]) (.seq (.reg [Qx 4 (Ki (-1))]) (.seq (.block 0 (.loop (.seq (.seq (.dreg [Qc 14 
 0, Q 15 (.nck (.t 14)), Q 16 (.fa 1 (.t 15)), Q 17 (.ld false 1 (.t 16)), Qc 18 0, Q 19 (.nck (.t 18)), Q 20 (.fa 0 (.t 19)), Q 21 (.ld false 1 (.t 20)), Q 22 (.len true (.t 
 21)), Q 23 (.bin .lss (.t 17) (.t 22))]) (.cond (.t 23) .skip (.exit 0))) (.seq (.block 1 (.seq (.dreg [Qc 31 0, Q 32 (.nck (.t 31)), Q 33 (.fa 0 (.t 32)), Q 34 (.ld false 1 (.t 
 33)), Qc 35 0, Q 36 (.nck (.t 35)), Q 37 (.fa 1 (.t 36)), Q 38 (.ld false 1 (.t 37)), Q 39 (.idxS (.t 34) (.t 38)), Qa 5 39]) (.seq (.reg [Qc 40 5, ⟨some 41, .call 83 [.t 40], 
 none⟩, Qa 6 41]) (.block 2 (.seq (.reg [Qc 51 5, Q 52 (.bin .eql (.t 51) (Kb 62)), Qa 50 52]) (.cond (.t 50) (.seq (.reg [Qc 53 0, Q 54 (.nck (.t 53)), Q 55 (.fa 1 (.t 54)), Q 56 
 (.ld false 1 (.t 55)), Q 57 (.bin .add (.t 56) (Ki 1)), Q 58 (.nck (.t 53)), Q 59 (.fa 1 (.t 58)), ⟨none, .st 1 (.t 59) (.t 57), none⟩]) (.seq (.seq (.reg [Qc 60 4, Q 61 (.bin 
 .geq (.t 60) (Ki 0))]) (.cond (.t 61) (.reg [Qc 62 3, Qc 63 4, Q 64 (.bin .mul (Ki 16) (.t 63)), Q 65 (.cvI .u8 (.t 64)), ⟨some 66, .bsl 5 1 [.t 65], none⟩, ⟨some 67, .app 5 1 1 
 false (.t 62) (.t 66), none⟩, Qa 3 67]) .skip)) (.seq (.reg [Qc 68 3, Q 69 (.b2s (.t 68)), Qa 2 69]) .ret))) (.seq (.reg [Qc 71 5, ⟨some 72, .call 38 [.t 71], none⟩, Qa 70 72]) 
 (.cond (.t 70) .skip (.seq (.reg [Qc 74 6, Q 75 (.bin .lss (.t 74) (Ki 0)), Qa 73 75]) (.cond (.t 73) (.seq (.reg [Qc 76 0, Q 77 (.mkI 50 (Ki 4)), ⟨some 78, .prim .call [.k (.fn 
 (.func 34) [] []), .t 76, .t 77] [], none⟩]) (.seq (.reg [Qx 2 (.k (.d (.str [])))]) .ret)) (.seq (.reg [Qc 80 4, Q 81 (.bin .lss (.t 80) (Ki 0)), Qa 79 81]) (.cond (.t 79) (.reg 
 [Qc 82 6, Qa 4 82]) (.reg [Qc 42 3, Qc 43 4, Q 44 (.bin .mul (Ki 16) (.t 43)), Qc 45 6, Q 46 (.bin .add (.t 44) (.t 45)), Q 47 (.cvI .u8 (.t 46)), ⟨some 48, .bsl 5 1 [.t 47], 
 none⟩, ⟨some 49, .app 5 1 1 false (.t 42) (.t 48), none⟩, Qa 3 49, Qx 4 (Ki (-1))]))))))))))))) (.reg [Qc 24 0, Q 25 (.nck (.t 24)), Q 26 (.fa 1 (.t 25)), Q 27 (.ld false 1 (.t 
 26)), Q 28 (.bin .add (.t 27) (Ki 1)), Q 29 (.nck (.t 24)), Q 30 (.fa 1 (.t 29)), ⟨none, .st 1 (.t 30) (.t 28), none⟩]))))) (.seq (.reg [Qc 83 0, Q 84 (.mkI 50 (Ki 5)), ⟨some 85, 
 .prim .call [.k (.fn (.func 34) [] []), .t 83, .t 84] [], none⟩]) (.seq (.reg [Qx 2 (.k (.d (.str [])))]) .ret))))))
def R___parse_reader__hexed : List LRes := [.tmp 2]
theorem lift___parse_reader__hexed : Lifts Tryz.prog 62 86 L___parse_reader__hexed R___parse_reader__hexed := ⟨_, _, Tryz.func62, rfl, by kernel_rfl, by kernel_rfl, rfl⟩
theorem hexed_call (s : List UInt8) (k : Nat) (hs : s.length ≤ 60000) (hk : k < s.length) : MCall Tryz.prog 62 [.ptr (.x 0) 0] [robj s k 0]
  (fun r hs' => r = .d (.str (unhexF (s.drop (k + 1)) (-1) []).1) ∧ ∃ k' : Int, hs' = [robj s k' (unhexF (s.drop (k + 1)) (-1) []).2] ∧ ((unhexF (s.drop (k + 1)) (-1) []).2 = 0 → k' = (k + 1 + gtEnd (s.drop (k + 1)) : Nat))) := by
 generalize hR : unhexF (s.drop (k + 1)) (-1) [] = R
 generalize hE : k + 1 + gtEnd (s.drop (k + 1)) = E
 rw [robj_0]
 refine lift___parse_reader__hexed.mcall (by kernel_rfl) rfl ?_
 simp (maxSteps := 2000000) (disch := omega) only [go_sem, ↓reduceIte, L___parse_reader__hexed, R___parse_reader__hexed]
 refine run_loop (fun y : Nat × List UInt8 × Int => ⟨[(0, .ptr (.x 0) 0), (3, .own (.t 3) 5 1 (bytesD y.2.1)), (4, .d (.int .i64 y.2.2))], [], [(0, .cells [.d (.str s), .d (.int .i64 y.1), .d .nil])]⟩)
  (fun y => k + 1 ≤ y.1 ∧ y.1 ≤ s.length ∧ y.2.1.length ≤ y.1 ∧ -1 ≤ y.2.2 ∧ y.2.2 ≤ 15 ∧ y.1 + gtEnd (s.drop y.1) = E ∧ unhexF (s.drop y.1) y.2.2 y.2.1 = R) (fun y => s.length - y.1) (k + 1, [], -1) ?_ ?_ ?_
 ·refine Weak.mk ?_ ?_ ?_ <;> simp (maxSteps := 2000000) only [go_sem, ↓reduceIte, Sub, Int.natCast_add, Int.natCast_mul, bytesD]
 ·exact ⟨Nat.le_refl _, hk, by simp, by simp, by simp, hE, hR⟩
 ·rintro ⟨i, b, h⟩ ⟨hki, hi, hb, hh1, hh2, hE', hF⟩
  simp only at hki hi hb hh1 hh2 hE' hF
  have hblen := bytesD_length b
  simp (maxSteps := 2000000) only [go_sem, ↓reduceIte]
  refine ⟨fun hlt => ?_, fun hge => ?_⟩
  ·obtain ⟨c, hc⟩ := get_some (l := s) (i := i) (by omega)
   have hc8 := u8_lt c
   have hxb := hexI_bounds c.toNat
   rw [drop_at hc] at hF hE'
   unfold unhexF at hF
   unfold gtEnd at hE'
   simp (maxSteps := 2000000) only [go_sem, ↓reduceIte, getI_nat, hc]
   refine CallG.of (hex_call (n := c.toNat) (by omega)) ?_
   simp (maxSteps := 2000000) only [go_sem, ↓reduceIte]
   refine ⟨fun h1 => ?_, fun h1 => ?_⟩
   ·rw [if_pos (by omega)] at hF hE'
    simp (maxSteps := 2000000) (disch := omega) only [go_sem, ↓reduceIte]
    refine ⟨fun h2 => ?_, fun h2 => ?_⟩
    ·rw [if_pos h2] at hF
     subst hF
     have hsn := bytesD_snocI (b := b) (n := 16 * h) (by omega) (by omega)
     simp (maxSteps := 2000000) (disch := omega) only [go_sem, ↓reduceIte, hsn, bytesOf_bytesD]
     exact ⟨by omega, _, rfl, by omega⟩
    ·rw [if_neg (by omega)] at hF
     subst hF
     simp (maxSteps := 2000000) (disch := omega) only [go_sem, ↓reduceIte, bytesOf_bytesD]
     exact ⟨_, rfl, by omega⟩
   ·rw [if_neg (by omega)] at hF hE'
    refine CallG.of (blank_call c.toNat) ?_
    simp (maxSteps := 2000000) only [go_sem, ↓reduceIte]
    refine ⟨fun h2 => ?_, fun h2 => ⟨fun h3 => ?_, fun h3 => ⟨fun h4 => ?_, fun h4 => ?_⟩⟩⟩
    ·rw [if_pos h2] at hF
     simp (disch := omega) only [IntWalk.i64_in, IntWalk.u8_in]
     refine ⟨(i + 1, b, h), ?_, ⟨by simp only; omega, by simp only; omega, by simp only; omega, hh1, hh2, by simp only; omega, hF⟩, by simp only; omega⟩
     refine Weak.mk ?_ ?_ ?_ <;> simp (maxSteps := 2000000) only [go_sem, ↓reduceIte, Sub, Int.natCast_add, Int.natCast_mul]
    ·rw [if_neg (by simp [h2]), if_pos h3] at hF
     subst hF
     have hf := fail_0 s (i : Int) 4
     rw [robj_0, show errD 4 = .iface 50 (.int .i64 4) from rfl] at hf
     refine PrimG.mc1 (.x 0) rfl (hf) rfl rfl rfl rfl ⟨rfl, rfl⟩ ?_
     simp (maxSteps := 2000000) only [go_sem, ↓reduceIte, robj]
     exact ⟨_, rfl⟩
    ·rw [if_neg (by simp [h2]), if_neg h3, if_pos h4] at hF
     simp (disch := omega) only [IntWalk.i64_in, IntWalk.u8_in]
     refine ⟨(i + 1, b, hexI c.toNat), ?_, ⟨by simp only; omega, by simp only; omega, by simp only; omega, by simp only; omega, by simp only; omega, by simp only; omega, hF⟩, by simp only; omega⟩
     refine Weak.mk ?_ ?_ ?_ <;> simp (maxSteps := 2000000) only [go_sem, ↓reduceIte, Sub, Int.natCast_add, Int.natCast_mul]
    ·rw [if_neg (by simp [h2]), if_neg h3, if_neg h4] at hF
     have hsn := bytesD_snocI (b := b) (n := 16 * h + hexI c.toNat) (by omega) (by omega)
     simp (maxSteps := 2000000) (disch := omega) only [go_sem, ↓reduceIte]
     rw [hsn]
     refine ⟨by omega, (i + 1, b ++ [byteI (16 * h + hexI c.toNat)], -1), ?_, ⟨by simp only; omega, by simp only; omega, by simp only [List.length_append, List.length_cons, List.length_nil]; omega, by simp, by simp, by simp only; omega, hF⟩, by simp only; omega⟩
     refine Weak.mk ?_ ?_ ?_ <;> simp (maxSteps := 2000000) only [go_sem, ↓reduceIte, Sub, Int.natCast_add, Int.natCast_mul]
  ·rw [List.drop_eq_nil_of_le (by omega), unhexF] at hF
   subst hF
   have hf := fail_0 s (i : Int) 5
   rw [robj_0, show errD 5 = .iface 50 (.int .i64 5) from rfl] at hf
   refine PrimG.mc1 (.x 0) rfl (hf) rfl rfl rfl rfl ⟨rfl, rfl⟩ ?_
   simp (maxSteps := 2000000) only [go_sem, ↓reduceIte, robj]
   exact ⟨_, rfl⟩
def escI (o : Option UInt8) : Int := match o with
 | none => -1
 | some b => b.toNat
theorem idx5 (e : UInt8) : Lib.indexByte [110, 114, 116, 98, 102] e = if e.toNat = 110 then 0 else if e.toNat = 114 then 1 else if e.toNat = 116 then 2 else if e.toNat = 98 then 3 else if e.toNat = 102 then 4 else -1 := by
 have h : ∀ i : Fin 256, Lib.indexByte [110, 114, 116, 98, 102] (UInt8.ofNat i.val) = if i.val = 110 then 0 else if i.val = 114 then 1 else if i.val = 116 then 2 else if i.val = 98 then 3 else if i.val = 102 then 4 else -1 := by decide +kernel
 have := h ⟨e.toNat, u8_lt e⟩
 simpa using this
theorem and255 {n : Int} (h : 0 ≤ n ∧ n ≤ 511) : IntKind.i64.wrap (((BitVec.ofInt IntKind.i64.bits n &&& BitVec.ofInt IntKind.i64.bits 255).toNat : Nat) : Int) = ((byteI n).toNat : Int) := by
 have hd : ∀ i : Fin 512, IntKind.i64.wrap (((BitVec.ofInt IntKind.i64.bits ((i.val : Nat) : Int) &&& BitVec.ofInt IntKind.i64.bits 255).toNat : Nat) : Int) = ((byteI ((i.val : Nat) : Int)).toNat : Int) := by decide +kernel
 have := hd ⟨n.toNat, by omega⟩
 simp only at this
 rwa [show ((n.toNat : Nat) : Int) = n by omega] at this
def L_parse_escaped : LCode :=
 .seq (.reg [Qx 4 (Ki 0), Qx 5 (Ki 0)]) (.seq (.reg [Qc 10 0, Qc 11 1, Q 12 (.idxS (.t 10) (.t 11)), Qa 6 12]) (.seq (.reg [Qc 13 6, ⟨some 14, .call 101 [.k (.d (.str [110, 114, 
 116, 98, 102])), .t 13], none⟩, Qa 7 14]) (.seq (.block 0 (.seq (.reg [Qc 16 7, Q 17 (.bin .geq (.t 16) (Ki 0)), Qa 15 17]) (.cond (.t 15) (.seq (.reg [Qc 18 7, Q 19 (.idxS (.k 
 (.d (.str [10, 13, 9, 8, 12]))) (.t 18)), Q 20 (.cvI .i64 (.t 19)), Qa 4 20, Qx 5 (Ki 1)]) .ret) (.seq (.reg [Qc 22 6, Q 23 (.bin .eql (.t 22) (Kb 10)), Qa 21 23]) (.cond (.t 21) 
 (.seq (.reg [Qx 4 (Ki (-1)), Qx 5 (Ki 1)]) .ret) (.seq (.reg [Qc 25 6, Q 26 (.bin .eql (.t 25) (Kb 13)), Qc 27 26, Qd 28 1 27 true, Qg 29 (.bin .add (.t 28) (Ki 1)) 27 true, Qd 
 30 0 27 true, Qg 31 (.len true (.t 30)) 27 true, Qg 32 (.bin .lss (.t 29) (.t 31)) 27 true, Q 33 (.pick (.t 27) (.t 32) KF), Qc 34 33, Qd 35 0 34 true, Qd 36 1 34 true, Qg 37 
 (.bin .add (.t 36) (Ki 1)) 34 true, Qg 38 (.idxS (.t 35) (.t 37)) 34 true, Qg 39 (.bin .eql (.t 38) (Kb 10)) 34 true, Q 40 (.pick (.t 34) (.t 39) KF), Qa 24 40]) (.cond (.t 24) 
 (.seq (.reg [Qx 4 (Ki (-1)), Qx 5 (Ki 2)]) .ret) (.seq (.reg [Qc 42 6, Q 43 (.bin .eql (.t 42) (Kb 13)), Qa 41 43]) (.cond (.t 41) (.seq (.reg [Qx 4 (Ki (-1)), Qx 5 (Ki 1)]) 
 .ret) (.seq (.reg [Qc 45 6, Q 46 (.bin .lss (.t 45) (Kb 48)), Qc 47 46, Qd 48 6 47 false, Qg 49 (.bin .gtr (.t 48) (Kb 55)) 47 false, Q 50 (.pick (.t 47) KT (.t 49)), Qa 44 50]) 
 (.cond (.t 44) (.seq (.reg [Qc 51 6, Q 52 (.cvI .i64 (.t 51)), Qa 4 52, Qx 5 (Ki 1)]) .ret) .skip))))))))))) (.seq (.reg [Qx 8 (Ki 0), Qx 9 (Ki 0)]) (.seq (.block 1 (.loop (.seq 
 (.seq (.reg [Qc 53 9, Q 54 (.bin .lss (.t 53) (Ki 3)), Qc 55 54, Qd 56 1 55 true, Qd 57 9 55 true, Qg 58 (.bin .add (.t 56) (.t 57)) 55 true, Qd 59 0 55 true, Qg 60 (.len true 
 (.t 59)) 55 true, Qg 61 (.bin .lss (.t 58) (.t 60)) 55 true, Q 62 (.pick (.t 55) (.t 61) KF), Qc 63 62, Qd 64 0 63 true, Qd 65 1 63 true, Qd 66 9 63 true, Qg 67 (.bin .add (.t 
 65) (.t 66)) 63 true, Qg 68 (.idxS (.t 64) (.t 67)) 63 true, Qg 69 (.bin .geq (.t 68) (Kb 48)) 63 true, Q 70 (.pick (.t 63) (.t 69) KF), Qc 71 70, Qd 72 0 71 true, Qd 73 1 71 
 true, Qd 74 9 71 true, Qg 75 (.bin .add (.t 73) (.t 74)) 71 true, Qg 76 (.idxS (.t 72) (.t 75)) 71 true, Qg 77 (.bin .leq (.t 76) (Kb 55)) 71 true, Q 78 (.pick (.t 71) (.t 77) 
 KF)]) (.cond (.t 78) .skip (.exit 1))) (.block 2 (.seq (.reg [Qc 79 8, Q 80 (.bin .mul (Ki 8) (.t 79)), Qc 81 0, Qc 82 1, Qc 83 9, Q 84 (.bin .add (.t 82) (.t 83)), Q 85 (.idxS 
 (.t 81) (.t 84)), Q 86 (.bin .sub (.t 85) (Kb 48)), Q 87 (.cvI .i64 (.t 86)), Q 88 (.bin .add (.t 80) (.t 87)), Qa 8 88]) (.reg [Qc 89 9, Q 90 (.bin .add (.t 89) (Ki 1)), Qa 9 
 90])))))) (.seq (.reg [Qc 91 8, Q 92 (.bin .and (.t 91) (Ki 255)), Qc 93 9, Qa 4 92, Qa 5 93]) .ret))))))
def R_parse_escaped : List LRes := [.tmp 4, .tmp 5]
theorem lift_parse_escaped : Lifts Tryz.prog 84 94 L_parse_escaped R_parse_escaped := ⟨_, _, Tryz.func84, rfl, by kernel_rfl, by kernel_rfl, rfl⟩
theorem escaped_call (s : List UInt8) (k : Nat) (hs : s.length ≤ 60000) (hk : k < s.length) : PCall Tryz.prog 84 [.str s, .int .i64 k] (fun r => r = .tup [.int .i64 (escI (escL (s.drop k)).1), .int .i64 (escL (s.drop k)).2]) := by
 obtain ⟨e, he⟩ := get_some (l := s) (i := k) hk
 have he8 := u8_lt e
 have hx := indexByte_call [110, 114, 116, 98, 102] e
 rw [idx5] at hx
 rw [drop_at he]
 generalize hR : escL (e :: s.drop (k + 1)) = R
 rw [escL] at hR
 refine lift_parse_escaped.call rfl ?_
 simp (maxSteps := 2000000) only [go_sem, ↓reduceIte, L_parse_escaped, R_parse_escaped, getI_nat, he]
 refine CallG.of hx ?_
 by_cases q0 : e.toNat = 110
 ·rw [if_pos q0] at hR ⊢
  subst hR
  have g : getI ([10, 13, 9, 8, 12] : List UInt8) 0 = some 10 := rfl
  simp (maxSteps := 2000000) only [go_sem, ↓reduceIte, g]
  rfl
 rw [if_neg q0] at hR ⊢
 by_cases q1 : e.toNat = 114
 ·rw [if_pos q1] at hR ⊢
  subst hR
  have g : getI ([10, 13, 9, 8, 12] : List UInt8) 1 = some 13 := rfl
  simp (maxSteps := 2000000) only [go_sem, ↓reduceIte, g]
  rfl
 rw [if_neg q1] at hR ⊢
 by_cases q2 : e.toNat = 116
 ·rw [if_pos q2] at hR ⊢
  subst hR
  have g : getI ([10, 13, 9, 8, 12] : List UInt8) 2 = some 9 := rfl
  simp (maxSteps := 2000000) only [go_sem, ↓reduceIte, g]
  rfl
 rw [if_neg q2] at hR ⊢
 by_cases q3 : e.toNat = 98
 ·rw [if_pos q3] at hR ⊢
  subst hR
  have g : getI ([10, 13, 9, 8, 12] : List UInt8) 3 = some 8 := rfl
  simp (maxSteps := 2000000) only [go_sem, ↓reduceIte, g]
  rfl
 rw [if_neg q3] at hR ⊢
 by_cases q4 : e.toNat = 102
 ·rw [if_pos q4] at hR ⊢
  subst hR
  have g : getI ([10, 13, 9, 8, 12] : List UInt8) 4 = some 12 := rfl
  simp (maxSteps := 2000000) only [go_sem, ↓reduceIte, g]
  rfl
 rw [if_neg q4] at hR ⊢
 by_cases q5 : e.toNat = 10
 ·rw [if_pos q5] at hR
  subst hR
  have z : ((e.toNat : Int) = 10) = True := eq_true (by omega)
  simp (maxSteps := 2000000) only [go_sem, ↓reduceIte, z]
  rfl
 rw [if_neg q5] at hR
 have z5 : ((e.toNat : Int) = 10) = False := eq_false (by omega)
 by_cases q6 : e.toNat = 13
 ·rw [if_pos q6] at hR
  have z : ((e.toNat : Int) = 13) = True := eq_true (by omega)
  simp (maxSteps := 2000000) (disch := omega) only [go_sem, ↓reduceIte, z5, z]
  refine ⟨fun h1 => ?_, fun h1 => ?_⟩
  ·obtain ⟨x, hx⟩ := get_some (l := s) (i := k + 1) (by omega)
   have hx8 := u8_lt x
   have g : getI s ((k : Int) + 1) = some x := by rw [getI_add1, hx]
   have hh : (s.drop (k + 1)).head? = some x := by rw [drop_at hx]; rfl
   rw [hh] at hR
   simp (maxSteps := 2000000) (disch := omega) only [go_sem, ↓reduceIte, g]
   refine ⟨fun h2 => ?_, fun h2 => ?_⟩
   ·rw [if_pos (by simp; omega)] at hR; subst hR; rfl
   ·rw [if_neg (by simp; omega)] at hR; subst hR; exact ⟨fun _ => rfl, fun h => absurd (show (e.toNat : Int) = 13 by omega) h⟩
  ·rw [List.drop_eq_nil_of_le (by omega)] at hR
   rw [if_neg (by simp)] at hR
   subst hR; rfl
 rw [if_neg q6] at hR
 have z6 : ((e.toNat : Int) = 13) = False := eq_false (by omega)
 by_cases q7 : octB e = true
 ·rw [if_neg (by simp [q7])] at hR
  have q7' := q7
  simp only [octB, Bool.and_eq_true, decide_eq_true_eq] at q7'
  have z7 : ((e.toNat : Int) < 48) = False := eq_false (by omega)
  have z8 : (55 < (e.toNat : Int)) = False := eq_false (by omega)
  simp (maxSteps := 2000000) only [go_sem, ↓reduceIte, z5, z6, z7, z8]
  have h0 : octG 3 0 (s.drop k) 0 = octG 2 (oct1 e) (s.drop (k + 1)) 1 := by
   rw [drop_at he, octG, if_pos q7]; congr 1; simp
  unfold octL at hR
  rw [← h0] at hR
  generalize hG : octG 3 0 (s.drop k) 0 = G at hR
  refine run_loop (fun y : Nat × Int => ⟨[(0, .d (.str s)), (1, .d (.int .i64 k)), (8, .d (.int .i64 y.2)), (9, .d (.int .i64 y.1))], [], []⟩)
   (fun y => y.1 ≤ 3 ∧ k + y.1 ≤ s.length ∧ 0 ≤ y.2 ∧ y.2 ≤ 511 ∧ (y.1 = 0 → y.2 = 0) ∧ (y.1 = 1 → y.2 ≤ 7) ∧ (y.1 = 2 → y.2 ≤ 63) ∧ octG (3 - y.1) y.2 (s.drop (k + y.1)) y.1 = G) (fun y => 3 - y.1) (0, 0) ?_ ?_ ?_
  ·refine weak_mk ?_ trivial
   simp (maxSteps := 2000000) only [go_sem, ↓reduceIte, Sub, Int.natCast_add, Int.natCast_mul]
  ·exact ⟨by simp, by simp only; omega, by simp, by simp, by simp, by simp, by simp, hG⟩
  ·rintro ⟨j, v⟩ ⟨hj, hjl, hv0, hv1, hv2, hv3, hv4, hF⟩
   simp only at hj hjl hv0 hv1 hv2 hv3 hv4 hF
   have stop : octG (3 - j) v (s.drop (k + j)) j = (v, j) → Res.tup [D.int .i64 (IntKind.i64.wrap (((BitVec.ofInt IntKind.i64.bits v &&& BitVec.ofInt IntKind.i64.bits 255).toNat : Nat) : Int)), D.int .i64 j] = Res.tup [D.int .i64 (escI R.1), D.int .i64 R.2] := fun h => by
    rw [h] at hF
    subst hF
    subst hR
    rw [and255 ⟨hv0, hv1⟩]; rfl
   have ej : (k : Int) + (j : Int) = ((k + j : Nat) : Int) := by omega
   simp (maxSteps := 2000000) (disch := omega) only [go_sem, ↓reduceIte]
   refine ⟨fun c1 => ⟨fun c2 => ?_, fun c2 => stop (octG_stop fun x q h => by rw [List.drop_eq_nil_of_le (by omega)] at h; cases h)⟩, fun c1 => stop (by rw [show 3 - j = 0 by omega]; rfl)⟩
   obtain ⟨x, hx⟩ := get_some (l := s) (i := k + j) (by omega)
   have hx8 := u8_lt x
   have stop2 := fun (h : octB x = false) => stop (octG_stop fun x' q h' => by rw [drop_at hx] at h'; cases h'; exact h)
   have gx : getI s ((k : Int) + (j : Int)) = some x := by rw [ej, getI_nat, hx]
   simp (maxSteps := 2000000) (disch := omega) only [go_sem, ↓reduceIte, gx]
   refine ⟨fun c3 => ⟨fun c4 => ?_, fun c4 => stop2 (by simp [octB]; omega)⟩, fun c3 => stop2 (by simp [octB]; omega)⟩
   have ox : octB x = true := by simp [octB]; omega
   rw [drop_at hx, show 3 - j = (3 - (j + 1)) + 1 by omega, octG, if_pos ox] at hF
   refine ⟨(j + 1, 8 * v + oct1 x), ?_, ⟨by simp only; omega, by simp only; omega, by simp only [oct1]; omega, by simp only [oct1]; omega, by simp only; omega, by simp only [oct1]; omega, by simp only [oct1]; omega, hF⟩, by simp only; omega⟩
   have zz : decide ((x.toNat : Int) ≤ 55) = true := by simpa using c4
   refine weak_mk ?_ trivial
   simp (maxSteps := 2000000) only [go_sem, ↓reduceIte, Sub, Int.natCast_add, Int.natCast_mul, oct1, zz]
   all_goals ((repeat' apply And.intro) <;> (congr 2 <;> omega))
 ·have q7 : octB e = false := by simpa using q7
  rw [if_pos q7] at hR
  subst hR
  simp (maxSteps := 2000000) only [go_sem, ↓reduceIte, z5, z6]
  rw [IntWalk.i64_in _ (by omega)]
  refine ⟨fun h1 => ?_, fun h1 => rfl⟩
  refine ⟨fun h2 => rfl, fun h2 => ?_⟩
  simp [octB] at q7
  exfalso; omega
theorem escL_n {t : List UInt8} (ht : t ≠ []) : 1 ≤ (escL t).2 ∧ (escL t).2 ≤ t.length := by
 cases t with
 | nil => exact absurd rfl ht
 | cons e r =>
  have g : ∀ (m : Nat) (v : Int) (q : List UInt8) (k : Nat), k ≤ (octG m v q k).2 ∧ (octG m v q k).2 ≤ k + q.length := fun m => by
   induction m with
   | zero => intro v q k; simp [octG]
   | succ m ih =>
    intro v q k
    cases q with
    | nil => simp [octG]
    | cons x q =>
     rw [octG]
     split
     ·have := ih (8 * v + oct1 x) q (k + 1); simp only [List.length_cons]; omega
     ·simp
  have h3 := g 2 (oct1 e) r 1
  rw [escL]
  simp only [List.length_cons]
  repeat' split
  all_goals first
   | (simp only [octL]; omega)
   | (simp only; omega)
   | skip
  all_goals
   rename_i h
   cases r with
   | nil => simp at h
   | cons x q => simp only [List.length_cons]; omega
def L___parse_reader__literal : LCode :=
 .seq (.reg [Qx 2 (.k (.d (.str [])))]) (.seq (.reg [Qc 8 0, Q 9 (.nck (.t 8)), Q 10 (.fa 1 (.t 9)), Q 11 (.ld false 1 (.t 10)), Q 12 (.bin .add (.t 11) (Ki 1)), Q 13 (.nck (.t 8)), 
 Q 14 (.fa 1 (.t 13)), ⟨none, .st 1 (.t 14) (.t 12), none⟩]) (.seq (.reg [⟨some 3, .nils 5 1, none⟩]) (.seq (.reg [Qx 4 (Ki 1)]) (.seq (.block 0 (.loop (.seq (.seq (.dreg [Qc 15 
 0, Q 16 (.nck (.t 15)), Q 17 (.fa 1 (.t 16)), Q 18 (.ld false 1 (.t 17)), Qc 19 0, Q 20 (.nck (.t 19)), Q 21 (.fa 0 (.t 20)), Q 22 (.ld false 1 (.t 21)), Q 23 (.len true (.t 
 22)), Q 24 (.bin .lss (.t 18) (.t 23))]) (.cond (.t 24) .skip (.exit 0))) (.block 1 (.seq (.dreg [Qc 25 0, Q 26 (.nck (.t 25)), Q 27 (.fa 0 (.t 26)), Q 28 (.ld false 1 (.t 27)), 
 Qc 29 0, Q 30 (.nck (.t 29)), Q 31 (.fa 1 (.t 30)), Q 32 (.ld false 1 (.t 31)), Q 33 (.idxS (.t 28) (.t 32)), Qa 5 33]) (.seq (.reg [Qc 34 0, Q 35 (.nck (.t 34)), Q 36 (.fa 1 (.t 
 35)), Q 37 (.ld false 1 (.t 36)), Q 38 (.bin .add (.t 37) (Ki 1)), Q 39 (.nck (.t 34)), Q 40 (.fa 1 (.t 39)), ⟨none, .st 1 (.t 40) (.t 38), none⟩]) (.seq (.seq (.reg [Qc 41 5]) 
 (.block 2 (.seq (.reg [Q 43 (.bin .eql (.t 41) (Kb 92)), Qa 42 43]) (.cond (.t 42) (.seq (.seq (.dreg [Qc 44 0, Q 45 (.nck (.t 44)), Q 46 (.fa 1 (.t 45)), Q 47 (.ld false 1 (.t 
 46)), Qc 48 0, Q 49 (.nck (.t 48)), Q 50 (.fa 0 (.t 49)), Q 51 (.ld false 1 (.t 50)), Q 52 (.len true (.t 51)), Q 53 (.bin .eql (.t 47) (.t 52))]) (.cond (.t 53) (.exit 1) 
 .skip)) (.seq (.dreg [Qc 55 0, Q 56 (.nck (.t 55)), Q 57 (.fa 0 (.t 56)), Q 58 (.ld false 1 (.t 57)), Qc 59 0, Q 60 (.nck (.t 59)), Q 61 (.fa 1 (.t 60)), Q 62 (.ld false 1 (.t 
 61)), ⟨some 63, .call 84 [.t 58, .t 62], none⟩, Qc 54 63, Q 64 (.ext 0 (.t 54)), Q 65 (.ext 1 (.t 54)), Qc 6 64, Qc 7 65]) (.seq (.reg [Qc 66 0, Q 67 (.nck (.t 66)), Q 68 (.fa 1 
 (.t 67)), Q 69 (.ld false 1 (.t 68)), Qc 70 7, Q 71 (.bin .add (.t 69) (.t 70)), Q 72 (.nck (.t 66)), Q 73 (.fa 1 (.t 72)), ⟨none, .st 1 (.t 73) (.t 71), none⟩]) (.seq (.seq 
 (.reg [Qc 74 6, Q 75 (.bin .geq (.t 74) (Ki 0))]) (.cond (.t 75) (.reg [Qc 76 3, Qc 77 6, Q 78 (.cvI .u8 (.t 77)), ⟨some 79, .bsl 5 1 [.t 78], none⟩, ⟨some 80, .app 5 1 1 false 
 (.t 76) (.t 79), none⟩, Qa 3 80]) .skip)) (.exit 1))))) (.seq (.reg [Q 82 (.bin .eql (.t 41) (Kb 40)), Qa 81 82]) (.cond (.t 81) (.reg [Qc 83 4, Q 84 (.bin .add (.t 83) (Ki 1)), 
 Qa 4 84]) (.seq (.reg [Q 86 (.bin .eql (.t 41) (Kb 41)), Qa 85 86]) (.cond (.t 85) (.seq (.reg [Qc 87 4, Q 88 (.bin .sub (.t 87) (Ki 1)), Qa 4 88]) (.seq (.reg [Qc 89 4, Q 90 
 (.bin .eql (.t 89) (Ki 0))]) (.cond (.t 90) (.seq (.reg [Qc 91 3, Q 92 (.b2s (.t 91)), Qa 2 92]) .ret) .skip))) .skip)))))))) (.reg [Qc 93 3, Qc 94 5, ⟨some 95, .bsl 5 1 [.t 94], 
 none⟩, ⟨some 96, .app 5 1 1 false (.t 93) (.t 95), none⟩, Qa 3 96])))))))) (.seq (.reg [Qc 97 0, Q 98 (.mkI 50 (Ki 5)), ⟨some 99, .prim .call [.k (.fn (.func 34) [] []), .t 97, 
 .t 98] [], none⟩]) (.seq (.reg [Qx 2 (.k (.d (.str [])))]) .ret))))))
def R___parse_reader__literal : List LRes := [.tmp 2]
theorem lift___parse_reader__literal : Lifts Tryz.prog 59 100 L___parse_reader__literal R___parse_reader__literal := ⟨_, _, Tryz.func59, rfl, by kernel_rfl, by kernel_rfl, rfl⟩
theorem litP_call (s : List UInt8) (k : Nat) (hs : s.length ≤ 60000) (hk : k < s.length) : MCall Tryz.prog 59 [.ptr (.x 0) 0] [robj s k 0]
  (fun r hs' => match litF 0 1 (s.drop (k + 1)) [] (k + 1) with
   | some (b, k') => r = .d (.str b) ∧ hs' = [robj s k' 0]
   | none => ∃ k' : Int, r = .d (.str []) ∧ hs' = [robj s k' 5]) := by
 generalize hR : litF 0 1 (s.drop (k + 1)) [] (k + 1) = R
 rw [robj_0]
 refine lift___parse_reader__literal.mcall (by kernel_rfl) rfl ?_
 simp (maxSteps := 2000000) (disch := omega) only [go_sem, ↓reduceIte, L___parse_reader__literal, R___parse_reader__literal]
 refine run_loop (fun y : Nat × Nat × List UInt8 => ⟨[(0, .ptr (.x 0) 0), (3, .own (.t 3) 5 1 (bytesD y.2.2)), (4, .d (.int .i64 y.2.1))], [], [(0, .cells [.d (.str s), .d (.int .i64 y.1), .d .nil])]⟩)
  (fun y => y.1 ≤ s.length ∧ y.2.2.length ≤ y.1 ∧ 1 ≤ y.2.1 ∧ y.2.1 ≤ y.1 + 1 ∧ litF 0 y.2.1 (s.drop y.1) y.2.2 y.1 = R) (fun y => s.length - y.1) (k + 1, 1, []) ?_ ?_ ?_
 ·refine Weak.mk ?_ ?_ ?_ <;> simp (maxSteps := 2000000) only [go_sem, ↓reduceIte, Sub, Int.natCast_add, Int.natCast_mul, bytesD]
 ·exact ⟨hk, by simp, by simp, by simp, hR⟩
 ·rintro ⟨i, d, b⟩ ⟨hi, hb, hd1, hd2, hF⟩
  simp only at hi hb hd1 hd2 hF
  have hblen := bytesD_length b
  simp (maxSteps := 2000000) only [go_sem, ↓reduceIte]
  refine ⟨fun hlt => ?_, fun hge => ?_⟩
  ·obtain ⟨c, hc⟩ := get_some (l := s) (i := i) (by omega)
   have hc8 := u8_lt c
   rw [drop_at hc, litF] at hF
   simp (maxSteps := 2000000) (disch := omega) only [go_sem, ↓reduceIte, getI_nat, hc]
   refine ⟨fun h92 => ?_, fun h92 => ⟨fun h40 => ?_, fun h40 => ⟨fun h41 => ⟨fun hd0 => ?_, fun hd0 => ?_⟩, fun h41 => ?_⟩⟩⟩
   ·rw [if_pos (by omega)] at hF
    refine ⟨fun he => ?_, fun he => ?_⟩
    ·rw [if_pos (List.drop_eq_nil_of_le (by omega))] at hF
     refine ⟨(i + 1, d, b), ?_, ⟨by simp only; omega, by simp only; omega, hd1, by simp only; omega, ?_⟩, by simp only; omega⟩
     ·refine Weak.mk ?_ ?_ ?_ <;> simp (maxSteps := 2000000) only [go_sem, ↓reduceIte, Sub, Int.natCast_add, Int.natCast_mul]
     ·simp only
      rw [List.drop_eq_nil_of_le (by omega), litF]; exact hF
    ·have hne : s.drop (i + 1) ≠ [] := fun e => by have := congrArg List.length e; simp at this; omega
     rw [if_neg hne] at hF
     have hesc := escaped_call s (i + 1) hs (by omega)
     have hen := escL_n hne
     rw [List.length_drop] at hen
     rw [litF_skip _ (by rw [List.length_drop]; omega), List.drop_drop] at hF
     generalize escL (s.drop (i + 1)) = X at hesc hen hF
     obtain ⟨xo, xn⟩ := X
     simp only at hesc hen hF
     rw [Int.natCast_add, Int.natCast_one] at hesc
     refine CallD.of hesc ?_
     cases xo with
     | none =>
      simp (maxSteps := 2000000) (disch := omega) only [go_sem, ↓reduceIte, escI]
      refine ⟨(i + 1 + xn, d, b), ?_, ⟨by simp only; omega, by simp only; omega, hd1, by simp only; omega, by simpa using hF⟩, by simp only; omega⟩
      refine Weak.mk ?_ ?_ ?_ <;> simp (maxSteps := 2000000) only [go_sem, ↓reduceIte, Sub, Int.natCast_add, Int.natCast_mul]
     | some x =>
      have hx8 := u8_lt x
      simp (maxSteps := 2000000) (disch := omega) only [go_sem, ↓reduceIte, escI]
      refine ⟨fun _ => ⟨by omega, (i + 1 + xn, d, b ++ [x]), ?_, ⟨by simp only; omega, by simp only [List.length_append, List.length_cons, List.length_nil]; omega, hd1, by simp only; omega, hF⟩, by simp only; omega⟩, fun h => by exfalso; omega⟩
      refine Weak.mk ?_ ?_ ?_ <;> simp (maxSteps := 2000000) only [go_sem, ↓reduceIte, Sub, Int.natCast_add, Int.natCast_mul, bytesD_append, bytesD_cons, bytesD_nil]
   ·rw [if_neg (by omega), if_neg (by omega), if_pos (by omega)] at hF
    refine ⟨by omega, (i + 1, d + 1, b ++ [c]), ?_, ⟨by simp only; omega, by simp only [List.length_append, List.length_cons, List.length_nil]; omega, by simp only; omega, by simp only; omega, hF⟩, by simp only; omega⟩
    refine Weak.mk ?_ ?_ ?_ <;> simp (maxSteps := 2000000) only [go_sem, ↓reduceIte, Sub, Int.natCast_add, Int.natCast_mul, bytesD_append, bytesD_cons, bytesD_nil]
   ·rw [if_neg (by omega), if_pos (by omega), if_pos (by omega)] at hF
    subst hF
    simp (maxSteps := 2000000) (disch := omega) only [go_sem, ↓reduceIte, bytesOf_bytesD]
    simp only [robj, Int.natCast_add, Int.natCast_one]; rfl
   ·rw [if_neg (by omega), if_pos (by omega), if_neg (by omega)] at hF
    refine ⟨by omega, (i + 1, d - 1, b ++ [c]), ?_, ⟨by simp only; omega, by simp only [List.length_append, List.length_cons, List.length_nil]; omega, by simp only; omega, by simp only; omega, hF⟩, by simp only; omega⟩
    have e1 : ((d - 1 : Nat) : Int) = (d : Int) - 1 := by omega
    refine Weak.mk ?_ ?_ ?_ <;> simp (maxSteps := 2000000) only [go_sem, ↓reduceIte, Sub, Int.natCast_add, Int.natCast_mul, bytesD_append, bytesD_cons, bytesD_nil, e1]
   ·rw [if_neg (by omega), if_neg (by omega), if_neg (by omega)] at hF
    refine ⟨by omega, (i + 1, d, b ++ [c]), ?_, ⟨by simp only; omega, by simp only [List.length_append, List.length_cons, List.length_nil]; omega, by simp only; omega, by simp only; omega, hF⟩, by simp only; omega⟩
    refine Weak.mk ?_ ?_ ?_ <;> simp (maxSteps := 2000000) only [go_sem, ↓reduceIte, Sub, Int.natCast_add, Int.natCast_mul, bytesD_append, bytesD_cons, bytesD_nil]
  ·rw [List.drop_eq_nil_of_le (by omega), litF] at hF
   subst hF
   have hf := fail_0 s (i : Int) 5
   rw [robj_0, show errD 5 = .iface 50 (.int .i64 5) from rfl] at hf
   refine PrimG.mc1 (.x 0) rfl (hf) rfl rfl rfl rfl ⟨rfl, rfl⟩ ?_
   simp (maxSteps := 2000000) only [go_sem, ↓reduceIte, robj]
   exact ⟨_, rfl⟩
def objPost : Option Nat → Res → Prop
 | some n, r => r = .tup [.int .i64 n, .bool true]
 | none, r => ∃ n : Int, r = .tup [.int .i64 n, .bool false]
def L_parse_object : LCode :=
 .seq (.reg [Qx 2 (Ki 0), Qx 3 KF]) (.seq (.seq (.reg [Qc 6 0, Q 7 (.bin .eql (.t 6) (.k (.d (.str [])))), Qc 8 7, Qd 9 0 8 false, Qg 10 (.len true (.t 9)) 8 false, Qg 11 (.bin .gtr 
 (.t 10) (Ki 2)) 8 false, Q 12 (.pick (.t 8) KT (.t 11)), Qc 13 12, Qd 14 0 13 false, Qg 15 (.idxS (.t 14) (Ki 0)) 13 false, Qg 16 (.bin .eql (.t 15) (Kb 48)) 13 false, Q 17 
 (.pick (.t 13) KT (.t 16))]) (.cond (.t 17) (.seq (.reg [Qx 2 (Ki 0), Qx 3 KF]) .ret) .skip)) (.seq (.reg [Qx 4 (Ki 0)]) (.seq (.seq (.reg [Qc 18 0, Q 19 (.len true (.t 18)), Q 
 20 (.cp (Ki 0))]) (.block 0 (.loop (.seq (.reg [Q 21 (.bin .lss (.t 20) (.t 19))]) (.seq (.cond (.t 21) .skip (.exit 0)) (.seq (.block 1 (.seq (.reg [Qc 22 20, Qa 5 22]) (.seq 
 (.seq (.reg [Qc 23 0, Qc 24 5, Q 25 (.idxS (.t 23) (.t 24)), Q 26 (.bin .lss (.t 25) (Kb 48)), Qc 27 26, Qd 28 0 27 false, Qd 29 5 27 false, Qg 30 (.idxS (.t 28) (.t 29)) 27 
 false, Qg 31 (.bin .gtr (.t 30) (Kb 57)) 27 false, Q 32 (.pick (.t 27) KT (.t 31))]) (.cond (.t 32) (.seq (.reg [Qx 2 (Ki 0), Qx 3 KF]) .ret) .skip)) (.reg [Qc 33 4, Q 34 (.bin 
 .mul (Ki 10) (.t 33)), Qc 35 0, Qc 36 5, Q 37 (.idxS (.t 35) (.t 36)), Q 38 (.bin .sub (.t 37) (Kb 48)), Q 39 (.cvI .i64 (.t 38)), Q 40 (.bin .add (.t 34) (.t 39)), Qa 4 40])))) 
 (.reg [Q 41 (.bin .add (.t 20) (Ki 1)), Qc 20 41]))))))) (.seq (.reg [Qc 42 4, Qc 43 4, Q 44 (.bin .leq (.t 43) (Ki 60)), Qa 2 42, Qa 3 44]) .ret))))
def R_parse_object : List LRes := [.tmp 2, .tmp 3]
theorem lift_parse_object : Lifts Tryz.prog 108 45 L_parse_object R_parse_object := ⟨_, _, Tryz.func108, rfl, by kernel_rfl, by kernel_rfl, rfl⟩
theorem object_call (w : List UInt8) (hw : w.length ≤ 60000) : PCall Tryz.prog 108 [.str w] (objPost (objF w)) := by
 generalize hR : objF w = R
 have bad : R = none → ∀ n : Int, objPost R (.tup [.int .i64 n, .bool false]) := fun e n => by subst e; exact ⟨n, rfl⟩
 refine lift_parse_object.call rfl ?_
 simp (maxSteps := 2000000) only [go_sem, ↓reduceIte, L_parse_object, R_parse_object]
 refine ⟨fun h1 => ⟨fun h2 => ?_, fun h2 => bad (by rw [← hR, objF, if_pos (by omega)]) 0⟩, fun h1 => bad (by rw [← hR, objF, if_pos (by rw [h1]; simp)]) 0⟩
 have hlen : 1 ≤ w.length := by cases w with | nil => exact absurd rfl h1 | cons a r => simp
 obtain ⟨c0, hc0⟩ := get_some (l := w) (i := 0) (by omega)
 have g0 : getI w 0 = some c0 := by rw [← hc0]; exact getI_nat w 0
 have hd0 : w.head? = some c0 := by rw [← hc0]; cases w <;> rfl
 simp (maxSteps := 2000000) only [go_sem, ↓reduceIte, g0]
 refine ⟨fun h3 => bad (by rw [← hR, objF, if_pos (.inr (.inr (by rw [hd0]; simp; omega)))]) 0, fun h3 => ?_⟩
 have ho : objF w = match digF w 0 with
  | none => none
  | some n => if n ≤ 60 then some n else none := by rw [objF, if_neg (by rw [hd0]; simp only [Option.map_some, Option.some.injEq]; omega)]; rfl
 rw [ho] at hR
 refine run_loop (fun y : Nat × Nat => ⟨[(0, .d (.str w)), (4, .d (.int .i64 y.2)), (19, .d (.int .i64 w.length)), (20, .d (.int .i64 y.1))], [], []⟩)
  (fun y => y.1 ≤ w.length ∧ (y.1 = 0 → y.2 = 0) ∧ (y.1 = 1 → y.2 ≤ 9) ∧ y.2 ≤ 99 ∧ digF (w.drop y.1) y.2 = digF w 0) (fun y => w.length - y.1) (0, 0) ?_ ?_ ?_
 ·refine weak_mk ?_ trivial
  simp (maxSteps := 2000000) only [go_sem, ↓reduceIte, Sub, Int.natCast_add, Int.natCast_mul]
 ·exact ⟨by simp, by simp, by simp, by simp, rfl⟩
 ·rintro ⟨i, n⟩ ⟨hi, hn0, hn1, hn2, hF⟩
  simp only at hi hn0 hn1 hn2 hF
  simp (maxSteps := 2000000) only [go_sem, ↓reduceIte]
  refine ⟨fun hlt => ?_, fun hge => ?_⟩
  ·obtain ⟨c, hc⟩ := get_some (l := w) (i := i) (by omega)
   have hc8 := u8_lt c
   rw [drop_at hc, digF] at hF
   have nodig : (c.toNat < 48 ∨ 57 < c.toNat) → R = none := fun h => by
    rw [if_pos h] at hF
    rw [← hF] at hR
    exact hR.symm
   simp (maxSteps := 2000000) only [go_sem, ↓reduceIte, getI_nat, hc]
   refine ⟨fun h4 => ⟨fun h5 => bad (nodig (by omega)) 0, fun h5 => ?_⟩, fun h4 => bad (nodig (by omega)) 0⟩
   simp (maxSteps := 2000000) (disch := omega) only [go_sem, ↓reduceIte, getI_nat, hc]
   rw [if_neg (by omega)] at hF
   refine ⟨(i + 1, 10 * n + (c.toNat - 48)), ?_, ⟨by simp only; omega, by simp only; omega, by simp only; omega, by simp only; omega, hF⟩, by simp only; omega⟩
   have zz : decide (57 < (c.toNat : Int)) = false := by simpa using h5
   refine weak_mk ?_ trivial
   simp (maxSteps := 2000000) only [go_sem, ↓reduceIte, Sub, Int.natCast_add, Int.natCast_mul, zz]
   all_goals ((repeat' apply And.intro) <;> (congr 2 <;> omega))
  ·rw [List.drop_eq_nil_of_le (by omega), digF] at hF
   rw [← hF] at hR
   simp only at hR
   by_cases h6 : n ≤ 60
   ·rw [if_pos h6] at hR
    subst hR
    have z : ((n : Int) ≤ 60) = True := eq_true (by omega)
    simp (maxSteps := 2000000) only [go_sem, ↓reduceIte, z]
    rfl
   ·rw [if_neg h6] at hR
    have z : ((n : Int) ≤ 60) = False := eq_false (by omega)
    simp (maxSteps := 2000000) only [go_sem, ↓reduceIte, z]
    exact bad hR.symm _
def refPost (s : List UInt8) (k : Nat) : Option (Nat × Nat) → AV → List AObj → Prop
 | some (n, k'), r, hs => r = .tuple [.d (.int .i64 n), .d (.bool true)] ∧ hs = [robj s k' 0]
 | none, r, hs => ∃ n : Int, r = .tuple [.d (.int .i64 n), .d (.bool false)] ∧ hs = [robj s k 0]
def L___parse_reader__ref : LCode :=
 .seq (.reg [Qx 2 (Ki 0), Qx 3 KF]) (.seq (.dreg [Qc 8 0, Q 9 (.nck (.t 8)), Q 10 (.fa 0 (.t 9)), Q 11 (.ld false 1 (.t 10)), Qc 12 0, Q 13 (.nck (.t 12)), Q 14 (.fa 1 (.t 13)), Q 
 15 (.ld false 1 (.t 14)), ⟨some 16, .call 19 [.t 11, .t 15], none⟩, Qa 4 16]) (.seq (.reg [Qc 18 4, ⟨some 19, .call 108 [.t 18], none⟩, Qc 17 19, Q 20 (.ext 0 (.t 17)), Q 21 
 (.ext 1 (.t 17)), Qa 5 20, Qa 6 21]) (.seq (.dreg [Qc 22 0, Q 23 (.nck (.t 22)), Q 24 (.fa 0 (.t 23)), Q 25 (.ld false 1 (.t 24)), Qc 26 0, Q 27 (.nck (.t 26)), Q 28 (.fa 1 (.t 
 27)), Q 29 (.ld false 1 (.t 28)), Qc 30 4, Q 31 (.len true (.t 30)), Q 32 (.bin .add (.t 29) (.t 31)), ⟨some 33, .call 18 [.t 25, .t 32], none⟩, Qa 7 33]) (.seq (.seq (.reg [Qc 
 34 6, Q 35 (.not (.t 34)), Qc 36 35, Qd 37 0 36 false, Qg 38 (.nck (.t 37)) 36 false, Qg 39 (.fa 0 (.t 38)) 36 false, Qg 40 (.ld false 1 (.t 39)) 36 false, Qd 41 7 36 false, 
 ⟨some 42, .call 19 [.t 40, .t 41], some (36, false)⟩, Qg 43 (.bin .neq (.t 42) (.k (.d (.str [48])))) 36 false, Q 44 (.pick (.t 36) KT (.t 43))]) (.cond (.t 44) (.seq (.reg [Qx 2 
 (Ki 0), Qx 3 KF]) .ret) .skip)) (.seq (.reg [Qc 45 0, Q 46 (.nck (.t 45)), Q 47 (.fa 0 (.t 46)), Q 48 (.ld false 1 (.t 47)), Qc 49 7, Q 50 (.bin .add (.t 49) (Ki 1)), ⟨some 51, 
 .call 18 [.t 48, .t 50], none⟩, Qa 7 51]) (.seq (.seq (.reg [Qc 52 0, Q 53 (.nck (.t 52)), Q 54 (.fa 0 (.t 53)), Q 55 (.ld false 1 (.t 54)), Qc 56 7, ⟨some 57, .call 19 [.t 55, 
 .t 56], none⟩, Q 58 (.bin .neq (.t 57) (.k (.d (.str [82]))))]) (.cond (.t 58) (.seq (.reg [Qx 2 (Ki 0), Qx 3 KF]) .ret) .skip)) (.seq (.reg [Qc 59 0, Qc 60 7, Q 61 (.bin .add 
 (.t 60) (Ki 1)), Q 62 (.nck (.t 59)), Q 63 (.fa 1 (.t 62)), ⟨none, .st 1 (.t 63) (.t 61), none⟩]) (.seq (.reg [Qc 64 5, Qa 2 64, Qx 3 KT]) .ret))))))))
def R___parse_reader__ref : List LRes := [.tmp 2, .tmp 3]
theorem lift___parse_reader__ref : Lifts Tryz.prog 88 65 L___parse_reader__ref R___parse_reader__ref := ⟨_, _, Tryz.func88, rfl, by kernel_rfl, by kernel_rfl, rfl⟩
theorem refP_call (s : List UInt8) (k : Nat) (hs : s.length ≤ 60000) (hk : k ≤ s.length) : MCall Tryz.prog 88 [.ptr (.x 0) 0] [robj s k 0] (refPost s k (refAt s k)) := by
 have hwl := wordP_len s k
 generalize hR : refAt s k = R
 unfold refAt at hR
 have hw := word_call s ((k : Nat) : Int) (by omega)
 rw [clamp_in hk] at hw
 generalize wordP s k = w at *
 have hob := object_call w (by omega)
 have bad : R = none → ∀ n : Int, refPost s k R (.tuple [.d (.int .i64 n), .d (.bool false)]) [robj s k 0] := fun e n => by rw [e]; exact ⟨n, rfl, rfl⟩
 have hw1 := skip_call s ((k : Int) + (w.length : Int)) (by omega)
 have hcl : clampP s ((k : Int) + (w.length : Int)) = k + w.length := by rw [show (k : Int) + (w.length : Int) = ((k + w.length : Nat) : Int) by omega, clamp_in (by omega)]
 rw [hcl] at hw1
 have hi1 := skipP_le (s := s) (k := k + w.length) (by omega)
 rw [robj_0]
 refine lift___parse_reader__ref.mcall (by kernel_rfl) rfl ?_
 simp (maxSteps := 2000000) only [go_sem, ↓reduceIte, L___parse_reader__ref, R___parse_reader__ref]
 refine CallD.of hw ?_
 simp (maxSteps := 2000000) only [go_sem, ↓reduceIte]
 refine CallG.post hob (fun r hr => ?_)
 cases ho : objF w with
 | none =>
  rw [ho] at hr hR
  obtain ⟨n, rfl⟩ := hr
  simp (maxSteps := 2000000) (disch := omega) only [go_sem, ↓reduceIte]
  refine CallD.of hw1 ?_
  simp (maxSteps := 2000000) only [go_sem, ↓reduceIte]
  exact bad hR.symm 0
 | some n =>
  rw [ho] at hr hR
  simp only [objPost] at hr
  subst hr
  simp (maxSteps := 2000000) (disch := omega) only [go_sem, ↓reduceIte]
  refine CallD.of hw1 ?_
  simp only at hR
  generalize skipP s (k + w.length) = q at *
  have hw2 := word_call s ((q : Nat) : Int) (by omega)
  rw [clamp_in (by omega)] at hw2
  simp (maxSteps := 2000000) only [go_sem, ↓reduceIte]
  refine CallG.of hw2 ?_
  simp (maxSteps := 2000000) only [go_sem, ↓reduceIte]
  refine ⟨fun h5 => bad (by rw [← hR, if_neg h5]) 0, fun h5 => ?_⟩
  rw [if_pos h5] at hR
  have hql : q < s.length := by
   rcases Nat.lt_or_ge q s.length with h | h
   ·exact h
   ·unfold wordP at h5; rw [List.drop_eq_nil_of_le h] at h5; cases h5
  have hw3 := skip_call s ((q : Int) + 1) (by omega)
  rw [show clampP s ((q : Int) + 1) = q + 1 by rw [show (q : Int) + 1 = ((q + 1 : Nat) : Int) by omega, clamp_in (by omega)]] at hw3
  have hj1 := skipP_le (s := s) (k := q + 1) (by omega)
  generalize skipP s (q + 1) = j at *
  have hw4 := word_call s ((j : Nat) : Int) (by omega)
  rw [clamp_in (by omega)] at hw4
  rw [IntWalk.i64_in _ (by omega)]
  refine CallG.of hw3 ?_
  simp (maxSteps := 2000000) only [go_sem, ↓reduceIte]
  refine CallG.of hw4 ?_
  simp (maxSteps := 2000000) only [go_sem, ↓reduceIte]
  refine ⟨fun h6 => bad (by rw [← hR, if_neg h6]) 0, fun h6 => ?_⟩
  rw [if_pos h6] at hR
  simp (disch := omega) only [IntWalk.i64_in, IntWalk.u8_in]
  subst hR
  exact ⟨rfl, by simp only [robj, Int.natCast_add, Int.natCast_one]; rfl⟩
/-! ### Words -/
def rdPost (s : List UInt8) : RV → AV → List AObj → Prop
 | .ok v k, r, hs => r = .d v.d ∧ hs = [robj s k 0]
 | .bad e, r, hs => ∃ (v : Val) (k : Int), r = .d v.d ∧ hs = [robj s k e]
theorem rdPost_ok {s : List UInt8} {v : Val} {k : Nat} {R : RV} (h : R = .ok v k) : rdPost s R (.d v.d) [robj s k 0] := by subst h; exact ⟨rfl, rfl⟩
theorem rdPost_bad {s : List UInt8} {e : Nat} (v : Val) (k : Int) {R : RV} (h : R = .bad e) : rdPost s R (.d v.d) [robj s k e] := by subst h; exact ⟨v, k, rfl, rfl⟩
def L___parse_reader__word : LCode :=
 .seq (.reg [⟨some 2, .allo [.int .i64 0, .int .i64 0, .str [], .list [], .list []], none⟩]) (.seq (.dreg [Qc 8 0, Q 9 (.nck (.t 8)), Q 10 (.fa 0 (.t 9)), Q 11 (.ld false 1 (.t 
 10)), Qc 12 0, Q 13 (.nck (.t 12)), Q 14 (.fa 1 (.t 13)), Q 15 (.ld false 1 (.t 14)), ⟨some 16, .call 19 [.t 11, .t 15], none⟩, Qa 3 16]) (.seq (.seq (.reg [Qc 17 3]) (.block 0 
 (.seq (.reg [Q 19 (.bin .eql (.t 17) (.k (.d (.str [110, 117, 108, 108])))), Qa 18 19]) (.cond (.t 18) (.seq (.reg [Qc 20 0, Q 21 (.nck (.t 20)), Q 22 (.fa 1 (.t 21)), Q 23 (.ld 
 false 1 (.t 22)), Q 24 (.bin .add (.t 23) (Ki 4)), Q 25 (.nck (.t 20)), Q 26 (.fa 1 (.t 25)), ⟨none, .st 1 (.t 26) (.t 24), none⟩]) (.seq (.reg [Q 27 (.bld [(0, 1), (1, 1), (2, 
 1), (3, 1), (4, 1)] [.int .i64 0, .int .i64 0, .str [], .list [], .list []] [] []), ⟨none, .st 5 (.t 2) (.t 27), none⟩]) .ret)) (.seq (.reg [Q 29 (.bin .eql (.t 17) (.k (.d (.str 
 [116, 114, 117, 101])))), Qa 28 29]) (.cond (.t 28) (.seq (.reg [Qc 30 0, Q 31 (.nck (.t 30)), Q 32 (.fa 1 (.t 31)), Q 33 (.ld false 1 (.t 32)), Q 34 (.bin .add (.t 33) (Ki 4)), 
 Q 35 (.nck (.t 30)), Q 36 (.fa 1 (.t 35)), ⟨none, .st 1 (.t 36) (.t 34), none⟩]) (.seq (.reg [Q 37 (.bld [(0, 1), (1, 1), (2, 1), (3, 1), (4, 1)] [.int .i64 0, .int .i64 0, .str 
 [], .list [], .list []] [false, false, false, true, true] [(0, .k (.d (.int .i64 1))), (1, .k (.d (.int .i64 1)))]), ⟨none, .st 5 (.t 2) (.t 37), none⟩]) .ret)) (.seq (.reg [Q 39 
 (.bin .eql (.t 17) (.k (.d (.str [102, 97, 108, 115, 101])))), Qa 38 39]) (.cond (.t 38) (.seq (.reg [Qc 40 0, Q 41 (.nck (.t 40)), Q 42 (.fa 1 (.t 41)), Q 43 (.ld false 1 (.t 
 42)), Q 44 (.bin .add (.t 43) (Ki 5)), Q 45 (.nck (.t 40)), Q 46 (.fa 1 (.t 45)), ⟨none, .st 1 (.t 46) (.t 44), none⟩]) (.seq (.reg [Q 47 (.bld [(0, 1), (1, 1), (2, 1), (3, 1), 
 (4, 1)] [.int .i64 0, .int .i64 0, .str [], .list [], .list []] [false, false, false, true, true] [(0, .k (.d (.int .i64 1)))]), ⟨none, .st 5 (.t 2) (.t 47), none⟩]) .ret)) 
 .skip)))))))) (.seq (.reg [Qc 49 0, ⟨some 50, .prim .call [.k (.fn (.func 88) [] []), .t 49] [], none⟩, Qc 48 50, Q 51 (.ext 0 (.t 48)), Q 52 (.ext 1 (.t 48)), Qa 4 51, Qa 5 52]) 
 (.seq (.seq (.reg [Qc 53 5]) (.cond (.t 53) (.seq (.reg [Qc 54 4, Q 55 (.bld [(0, 1), (1, 1), (2, 1), (3, 1), (4, 1)] [.int .i64 0, .int .i64 0, .str [], .list [], .list []] 
 [false, false, false, true, true] [(0, .k (.d (.int .i64 7))), (1, .t 54)]), ⟨none, .st 5 (.t 2) (.t 55), none⟩]) .ret) .skip)) (.seq (.reg [Qc 57 3, ⟨some 58, .call 89 [.t 57], 
 none⟩, Qc 56 58, Q 59 (.ext 0 (.t 56)), Q 60 (.ext 1 (.t 56)), Qa 6 59, Qa 7 60]) (.seq (.seq (.reg [Qc 61 7, Q 62 (.eqN 0 true (.t 61))]) (.cond (.t 62) (.seq (.reg [Qc 63 0, Qc 
 64 7, ⟨some 65, .prim .call [.k (.fn (.func 34) [] []), .t 63, .t 64] [], none⟩]) (.seq (.reg [Q 66 (.bld [(0, 1), (1, 1), (2, 1), (3, 1), (4, 1)] [.int .i64 0, .int .i64 0, .str 
 [], .list [], .list []] [] []), ⟨none, .st 5 (.t 2) (.t 66), none⟩]) .ret)) .skip)) (.seq (.reg [Qc 67 0, Q 68 (.nck (.t 67)), Q 69 (.fa 1 (.t 68)), Q 70 (.ld false 1 (.t 69)), 
 Qc 71 3, Q 72 (.len true (.t 71)), Q 73 (.bin .add (.t 70) (.t 72)), Q 74 (.nck (.t 67)), Q 75 (.fa 1 (.t 74)), ⟨none, .st 1 (.t 75) (.t 73), none⟩]) (.seq (.reg [Qc 76 6, Q 77 
 (.bld [(0, 1), (1, 1), (2, 1), (3, 1), (4, 1)] [.int .i64 0, .int .i64 0, .str [], .list [], .list []] [false, false, false, true, true] [(0, .k (.d (.int .i64 2))), (1, .t 
 76)]), ⟨none, .st 5 (.t 2) (.t 77), none⟩]) .ret))))))))
def R___parse_reader__word : List LRes := [.cell 2 true 5]
theorem lift___parse_reader__word : Lifts Tryz.prog 64 78 L___parse_reader__word R___parse_reader__word := ⟨_, _, Tryz.func64, rfl, by kernel_rfl, by kernel_rfl, rfl⟩
theorem wordV_call (s : List UInt8) (k : Nat) (hs : s.length ≤ 60000) (hk : k ≤ s.length) : MCall Tryz.prog 64 [.ptr (.x 0) 0] [robj s k 0] (rdPost s (wordV s k)) := by
 have hwl := wordP_len s k
 generalize hR : wordV s k = R
 unfold wordV at hR
 have hw := word_call s ((k : Nat) : Int) (by omega)
 rw [clamp_in hk] at hw
 have hrf := refP_call s k hs hk
 have hfx := parse_call (wordP s k) (by omega)
 have good : ∀ (a b : Int) (t : List UInt8) (m : Int), R = .ok (Val.mk a b t [] []) m.toNat → 0 ≤ m → rdPost s R (.d (.agg [.int .i64 a, .int .i64 b, .str t, .list [], .list []])) [.cells [.d (.str s), .d (.int .i64 m), .d .nil]] := fun a b t m he hm => by
  have := rdPost_ok (s := s) he
  rwa [kmk, robj_0, show ((m.toNat : Nat) : Int) = m by omega] at this
 generalize wordP s k = w at *
 rw [robj_0] at hrf ⊢
 refine lift___parse_reader__word.mcall (by kernel_rfl) rfl ?_
 simp (maxSteps := 2000000) only [go_sem, ↓reduceIte, L___parse_reader__word, R___parse_reader__word]
 refine CallD.of hw ?_
 simp (maxSteps := 2000000) (disch := omega) only [go_sem, ↓reduceIte]
 refine ⟨fun w1 => ?_, fun w1 => ⟨fun w2 => ?_, fun w2 => ⟨fun w3 => ?_, fun w3 => ?_⟩⟩⟩
 ·rw [if_pos w1] at hR
  exact good 0 0 [] (k + 4) (by rw [← hR]; congr 1) (by omega)
 ·rw [if_neg w1, if_pos w2] at hR
  exact good 1 1 [] (k + 4) (by rw [← hR]; congr 1) (by omega)
 ·rw [if_neg w1, if_neg w2, if_pos w3] at hR
  exact good 1 0 [] (k + 5) (by rw [← hR]; congr 1) (by omega)
 ·rw [if_neg w1, if_neg w2, if_neg w3] at hR
  refine PrimG.mp1 (.x 0) rfl (hrf) rfl rfl rfl rfl (fun r hs' hr => ?_)
  cases hra : refAt s k with
  | some p =>
   obtain ⟨n, kn⟩ := p
   rw [hra] at hR hr
   obtain ⟨rfl, rfl⟩ := hr
   refine ⟨⟨rfl, rfl⟩, ?_⟩
   simp (maxSteps := 2000000) only [go_sem, ↓reduceIte, robj, errD]
   exact good 7 n [] kn (by rw [← hR]; rfl) (by omega)
  | none =>
   rw [hra] at hR hr
   obtain ⟨n, rfl, rfl⟩ := hr
   refine ⟨⟨rfl, rfl⟩, ?_⟩
   simp (maxSteps := 2000000) only [go_sem, ↓reduceIte, robj, errD]
   refine CallG.of hfx ?_
   simp only [resP]
   generalize parseF w = F at hR
   obtain ⟨fn, fc⟩ := F
   simp only at hR
   by_cases f0 : fc = 0
   ·subst f0
    rw [if_pos rfl] at hR
    rw [show errD 0 = .nil from rfl]
    simp (maxSteps := 2000000) (disch := omega) only [go_sem, ↓reduceIte]
    exact good 2 fn [] _ (by rw [← hR]; congr 1) (by omega)
   ·rw [if_neg f0] at hR
    rw [errD_ne f0]
    have hf := fail_0 s (k : Int) fc
    rw [robj_0, errD_ne f0] at hf
    simp (maxSteps := 2000000) only [go_sem, ↓reduceIte]
    refine PrimG.mc1 (.x 0) rfl (hf) rfl rfl rfl rfl ⟨rfl, rfl⟩ ?_
    simp (maxSteps := 2000000) only [go_sem, ↓reduceIte, robj]
    have := rdPost_bad (s := s) zeroV (k : Int) hR.symm
    rwa [Val.d_eq] at this
def RdAt (s : List UInt8) (rd : Nat → RV) (deep : Int) : Prop := ∀ k : Nat, k ≤ s.length → MCall Tryz.prog 33 [.ptr (.x 0) 0, .d (.int .i64 deep)] [robj s k 0] (rdPost s (rd k))
theorem hasPre_one {s : List UInt8} {k : Nat} {c : UInt8} {x : UInt8} (h : s[k]? = some c) : hasPre (s.drop k) [x] = decide (c = x) := by
 rw [drop_at h]; simp [hasPre]
def ro (s : List UInt8) (i : Nat) : Option (Int × Nat) → AObj
 | none => .cells [.d (.str s), .d (.int .i64 i), .d .nil]
 | some (k, e) => robj s k e
def L___parse_reader__list : LCode :=
 .seq (.reg [⟨some 4, .allo [.int .i64 0, .int .i64 0, .str [], .list [], .list []], none⟩]) (.seq (.reg [Q 7 (.bld [(0, 1), (1, 1), (2, 1), (3, 1), (4, 1)] [.int .i64 0, .int .i64 
 0, .str [], .list [], .list []] [false, false, false, true, true] [(0, .k (.d (.int .i64 5)))]), ⟨some 5, .allo [.int .i64 0, .int .i64 0, .str [], .list [], .list []], none⟩, 
 ⟨none, .st 5 (.t 5) (.t 7), none⟩]) (.seq (.block 0 (.loop (.seq (.seq (.reg [Qc 8 0, Q 9 (.nck (.t 8)), Q 10 (.fa 2 (.t 9)), Q 11 (.ld false 1 (.t 10)), Q 12 (.eqN 0 false (.t 
 11)), Qc 13 12, Qd 14 0 13 true, ⟨some 15, .prim .call [.k (.fn (.func 56) [] []), .t 14] [], some (13, true)⟩, Qg 16 (.bin .neq (.t 15) (Kb 93)) 13 true, Q 17 (.pick (.t 13) (.t 
 16) KF), Qc 18 17, Qd 19 0 18 true, Qg 20 (.nck (.t 19)) 18 true, Qg 21 (.fa 2 (.t 20)) 18 true, Qg 22 (.ld false 1 (.t 21)) 18 true, Qg 23 (.eqN 0 false (.t 22)) 18 true, Q 24 
 (.pick (.t 18) (.t 23) KF)]) (.cond (.t 24) .skip (.exit 0))) (.block 1 (.seq (.reg [Qc 25 0, Qc 26 1, Q 27 (.bin .add (.t 26) (Ki 1)), ⟨some 28, .prim .call [.k (.fn (.func 33) 
 [] []), .t 25, .t 27] [], none⟩, ⟨some 6, .allo [.int .i64 0, .int .i64 0, .str [], .list [], .list []], none⟩, ⟨none, .st 5 (.t 6) (.t 28), none⟩]) (.seq (.reg [Q 29 (.fa 3 (.t 
 5)), Q 30 (.ld false 1 (.t 29)), Q 31 (.ld true 5 (.t 6)), ⟨some 32, .bsl 41 5 [.t 31], none⟩, ⟨some 33, .app 41 5 80 false (.t 30) (.t 32), none⟩, Q 34 (.fa 3 (.t 5)), ⟨none, 
 .st 1 (.t 34) (.t 33), none⟩]) (.seq (.reg [Q 35 (.fa 3 (.t 5)), Q 36 (.ld false 1 (.t 35)), Q 37 (.len false (.t 36)), Q 38 (.bin .gtr (.t 37) (Ki 300))]) (.cond (.t 38) (.reg 
 [Qc 39 0, Q 40 (.mkI 50 (Ki 2)), ⟨some 41, .prim .call [.k (.fn (.func 34) [] []), .t 39, .t 40] [], none⟩]) .skip)))))))) (.seq (.reg [Qc 42 0, ⟨some 43, .prim .call [.k (.fn 
 (.func 60) [] []), .t 42, .k (.d (.str [93]))] [], none⟩]) (.seq (.reg [Q 44 (.ld true 5 (.t 5)), ⟨none, .st 5 (.t 4) (.t 44), none⟩]) .ret))))
def R___parse_reader__list : List LRes := [.cell 4 true 5]
theorem lift___parse_reader__list : Lifts Tryz.prog 63 45 L___parse_reader__list R___parse_reader__list := ⟨_, _, Tryz.func63, rfl, by kernel_rfl, by kernel_rfl, rfl⟩
theorem listP_of (s : List UInt8) (hs : s.length ≤ 60000) (rd : Nat → RV) (deep : Int) (hd : 0 ≤ deep ∧ deep ≤ 8) (hg : ∀ k, k ≤ s.length → goodR s k (rd k)) (ih : RdAt s rd (deep + 1)) (k : Nat) (hk : k ≤ s.length) :
  MCall Tryz.prog 63 [.ptr (.x 0) 0, .d (.int .i64 deep)] [robj s k 0] (rdPost s (listF rd s 301 [] k)) := by
 generalize hR : listF rd s 301 [] k = R
 rw [robj_0]
 refine lift___parse_reader__list.mcall (by kernel_rfl) rfl ?_
 simp (maxSteps := 2000000) (disch := omega) only [go_sem, ↓reduceIte, L___parse_reader__list, R___parse_reader__list]
 refine run_loop (fun y : Nat × List Val × Option (Int × Nat) => ⟨[(0, .ptr (.x 0) 0), (1, .d (.int .i64 deep)), (4, .ptr (.l 4) 0), (5, .ptr (.l 5) 0)],
   [(4, .cells [.d (.int .i64 0), .d (.int .i64 0), .d (.str []), .ns, .ns]), (5, .cells [.d (.int .i64 5), .d (.int .i64 0), .d (.str []), lrow (.l 5) 3 y.2.1, .ns])], [(0, ro s y.1 y.2.2)]⟩)
  (fun y => y.1 ≤ s.length ∧ y.2.1.length ≤ 301 ∧ (y.2.2 = none → y.2.1.length ≤ 300 ∧ listF rd s (301 - y.2.1.length) y.2.1 y.1 = R) ∧ ∀ k e, y.2.2 = some (k, e) → e ≠ 0 ∧ R = .bad e) (fun y => 2 * (s.length - y.1) + (if y.2.2.isNone = true then 1 else 0)) (k, [], none) ?_ ?_ ?_
 ·refine Weak.mk ?_ ?_ ?_ <;> simp (maxSteps := 2000000) only [go_sem, ↓reduceIte, Sub, Int.natCast_add, Int.natCast_mul, lrow, ro]
 ·exact ⟨hk, by simp, fun _ => ⟨by simp, hR⟩, fun _ _ h => by cases h⟩
 ·rintro ⟨i, acc, o⟩ ⟨hi, ha, hF, hE⟩
  simp only at hi ha hF hE
  have hal := valsD_length acc
  have fin : (lrow (.l 5) 3 acc = .ns ∧ valsD acc = []) ∨ lrow (.l 5) 3 acc = .own (.c (.l 5) 3) 41 5 (valsD acc) := by
   rcases lrow_cases (.l 5) 3 acc with ⟨h, rfl⟩ | h
   ·exact .inl ⟨h, rfl⟩
   ·exact .inr h
  have dd : (lisV acc).d = D.agg [.int .i64 5, .int .i64 0, .str [], .list (valsD acc), .list []] := by rw [Val.d_eq]; rfl
  cases o with
  | some p =>
   obtain ⟨k', e⟩ := p
   obtain ⟨e0, rfl⟩ := hE k' e rfl
   have het := eat_ne s k' [93] e0
   have fb := rdPost_bad (s := s) (R := .bad e) (lisV acc) k' rfl
   rw [dd, robj_ne s k' e0] at fb
   simp only [ro]
   rw [robj_ne s k' e0] at het ⊢
   simp (maxSteps := 2000000) only [go_sem, ↓reduceIte]
   refine PrimG.mc1 (.x 0) rfl (het) rfl rfl rfl rfl ⟨rfl, rfl⟩ ?_
   rcases fin with ⟨h1, h2⟩ | h1 <;> rw [h1]
   all_goals
    simp (maxSteps := 2000000) only [go_sem, ↓reduceIte]
    first
    | exact fb
    | (rw [h2] at fb; exact fb)
  | none =>
   obtain ⟨ha', hF⟩ := hF rfl
   obtain ⟨m, hm⟩ : ∃ m, 301 - acc.length = m + 1 := ⟨300 - acc.length, by omega⟩
   rw [hm, listF] at hF
   have hsk := skipP_le hi
   have hnx := next_0 s i hs hi
   generalize skipP s i = q at *
   simp only [ro]
   rw [robj_0] at hnx
   simp (maxSteps := 2000000) only [go_sem, ↓reduceIte]
   refine PrimG.mc1 (.x 0) rfl (hnx) rfl rfl rfl rfl ⟨rfl, rfl⟩ ?_
   cases hc : s[q]? with
   | none =>
    rw [hc] at hF
    simp only at hF
    have het := eat_ne s (q : Int) [93] (n := 5) (by decide)
    have fb := rdPost_bad (s := s) (R := R) (lisV acc) (q : Int) hF.symm
    rw [dd, robj_5] at fb
    rw [robj_5] at het
    simp only
    rw [robj_5]
    simp (maxSteps := 2000000) only [go_sem, ↓reduceIte]
    refine PrimG.mc1 (.x 0) rfl (het) rfl rfl rfl rfl ⟨rfl, rfl⟩ ?_
    rcases fin with ⟨h1, h2⟩ | h1 <;> rw [h1]
    all_goals
     simp (maxSteps := 2000000) only [go_sem, ↓reduceIte]
     first
     | exact fb
     | (rw [h2] at fb; exact fb)
   | some c =>
    have hc8 := u8_lt c
    have hlt : q < s.length := (List.getElem?_eq_some_iff.1 hc).1
    rw [hc] at hF
    simp only at hF
    simp only
    rw [robj_0]
    simp (maxSteps := 2000000) only [go_sem, ↓reduceIte]
    refine ⟨fun h2 => ?_, fun h2 => ?_⟩
    ·rw [if_neg (by omega)] at hF
     have hv := ih q (by omega)
     have hgq := hg q (by omega)
     rw [robj_0] at hv
     simp (disch := omega) only [IntWalk.i64_in, IntWalk.u8_in]
     refine PrimG.mp1 (.x 0) rfl (hv) rfl rfl rfl rfl (fun r hs' hr => ?_)
     cases hx : rd q with
     | bad e =>
      rw [hx] at hF hr hgq
      obtain ⟨x, k', rfl, rfl⟩ := hr
      obtain ⟨g1, _⟩ := hgq
      have e0 : e ≠ 0 := by omega
      refine ⟨⟨rfl, rfl⟩, ?_⟩
      rw [Val.d_eq x, robj_ne s k' e0]
      have hrow : lrow (.l 5) 3 (acc ++ [x]) = .own (.c (.l 5) 3) 41 5 (valsD acc ++ [D.agg [.int .i64 x.kind, .int .i64 x.n, .str x.s, .list (valsD x.l), .list (fldsD x.f)]]) := by rw [lrow_snoc, Val.d_eq]
      have hfn := fail_ne s k' e0 (.iface 50 (.int .i64 2))
      rw [robj_ne s k' e0] at hfn
      have hnext : ∀ τ : St, τ = τ := fun _ => rfl
      have inv : i ≤ s.length ∧ (acc ++ [x]).length ≤ 301 ∧ (some (k', e) = none → (acc ++ [x]).length ≤ 300 ∧ listF rd s (301 - (acc ++ [x]).length) (acc ++ [x]) i = R) ∧ ∀ k e', some (k', e) = some (k, e') → e' ≠ 0 ∧ R = .bad e' :=
       ⟨hi, by simp; omega, fun h => (by cases h), fun k e' h => by cases h; exact ⟨e0, hF.symm⟩⟩
      have hsl := valsD_length (acc ++ [x])
      simp only [List.length_append, List.length_cons, List.length_nil] at hsl
      have hsn : valsD acc ++ [D.agg [.int .i64 x.kind, .int .i64 x.n, .str x.s, .list (valsD x.l), .list (fldsD x.f)]] = valsD (acc ++ [x]) := by rw [valsD_append]; simp [valsD, Val.d_eq]
      rw [hsn] at hrow
      rcases fin with ⟨h3, h4⟩ | h3 <;> rw [h3]
      ·rw [h4, List.nil_append] at hsn
       simp (maxSteps := 2000000) only [go_sem, ↓reduceIte]
       rw [hsn]
       refine ⟨(i, acc ++ [x], some (k', e)), ?_, inv, by simp⟩
       refine Weak.mk ?_ ?_ ?_ <;> simp (maxSteps := 2000000) only [go_sem, ↓reduceIte, Sub, Int.natCast_add, Int.natCast_mul, hrow, ro, robj_ne s k' e0]
      ·simp (maxSteps := 2000000) only [go_sem, ↓reduceIte]
       rw [hsn]
       refine ⟨by omega, fun h5 => ?_, fun h5 => ?_⟩
       ·refine PrimG.mc1 (.x 0) rfl (hfn) rfl rfl rfl rfl ⟨rfl, rfl⟩ ?_
        simp (maxSteps := 2000000) only [go_sem, ↓reduceIte]
        refine ⟨(i, acc ++ [x], some (k', e)), ?_, inv, by simp⟩
        refine Weak.mk ?_ ?_ ?_ <;> simp (maxSteps := 2000000) only [go_sem, ↓reduceIte, Sub, Int.natCast_add, Int.natCast_mul, hrow, ro, robj_ne s k' e0]
       ·refine ⟨(i, acc ++ [x], some (k', e)), ?_, inv, by simp⟩
        refine Weak.mk ?_ ?_ ?_ <;> simp (maxSteps := 2000000) only [go_sem, ↓reduceIte, Sub, Int.natCast_add, Int.natCast_mul, hrow, ro, robj_ne s k' e0]
     | ok x k' =>
      rw [hx] at hF hr hgq
      obtain ⟨rfl, rfl⟩ := hr
      obtain ⟨g1, g2, g3, g4⟩ := hgq
      refine ⟨⟨rfl, rfl⟩, ?_⟩
      simp only at hF
      rw [Val.d_eq x, robj_0]
      have hrow : lrow (.l 5) 3 (acc ++ [x]) = .own (.c (.l 5) 3) 41 5 (valsD acc ++ [D.agg [.int .i64 x.kind, .int .i64 x.n, .str x.s, .list (valsD x.l), .list (fldsD x.f)]]) := by rw [lrow_snoc, Val.d_eq]
      have hf0 := fail_0 s (k' : Int) 2
      rw [robj_0, robj_2, robj_lit.1] at hf0
      have hsl := valsD_length (acc ++ [x])
      have hlen : (acc ++ [x]).length = acc.length + 1 := by simp
      have hsn : valsD acc ++ [D.agg [.int .i64 x.kind, .int .i64 x.n, .str x.s, .list (valsD x.l), .list (fldsD x.f)]] = valsD (acc ++ [x]) := by rw [valsD_append]; simp [valsD, Val.d_eq]
      rw [hsn] at hrow
      have more : ¬ 300 < (valsD (acc ++ [x])).length → k' ≤ s.length ∧ (acc ++ [x]).length ≤ 301 ∧ ((none : Option (Int × Nat)) = none → (acc ++ [x]).length ≤ 300 ∧ listF rd s (301 - (acc ++ [x]).length) (acc ++ [x]) k' = R) ∧ ∀ k e', (none : Option (Int × Nat)) = some (k, e') → e' ≠ 0 ∧ R = .bad e' := fun h =>
       ⟨g2, by omega, fun _ => ⟨by omega, by rw [← hF]; congr 1; omega⟩, fun _ _ h => by cases h⟩
      have stop : 300 < (valsD (acc ++ [x])).length → k' ≤ s.length ∧ (acc ++ [x]).length ≤ 301 ∧ (some ((k' : Int), 2) = none → (acc ++ [x]).length ≤ 300 ∧ listF rd s (301 - (acc ++ [x]).length) (acc ++ [x]) k' = R) ∧ ∀ k e', some ((k' : Int), 2) = some (k, e') → e' ≠ 0 ∧ R = .bad e' := fun h =>
       ⟨g2, by omega, fun h => (by cases h), fun k e' h' => by
        cases h'
        have hm0 : m = 0 := by omega
        rw [hm0, listF] at hF
        exact ⟨by decide, hF.symm⟩⟩
      rcases fin with ⟨h3, h4⟩ | h3 <;> rw [h3]
      ·rw [h4, List.nil_append] at hsn
       simp (maxSteps := 2000000) only [go_sem, ↓reduceIte]
       rw [hsn]
       have h5 : ¬ 300 < (valsD (acc ++ [x])).length := by rw [← hsn]; simp
       refine ⟨(k', acc ++ [x], none), ?_, more h5, by simp; omega⟩
       refine Weak.mk ?_ ?_ ?_ <;> simp (maxSteps := 2000000) only [go_sem, ↓reduceIte, Sub, Int.natCast_add, Int.natCast_mul, hrow, ro]
      ·simp (maxSteps := 2000000) only [go_sem, ↓reduceIte]
       rw [hsn]
       refine ⟨by omega, fun h5 => ?_, fun h5 => ?_⟩
       ·refine PrimG.mc1 (.x 0) rfl (hf0) rfl rfl rfl rfl ⟨rfl, rfl⟩ ?_
        simp (maxSteps := 2000000) only [go_sem, ↓reduceIte]
        refine ⟨(k', acc ++ [x], some ((k' : Int), 2)), ?_, stop (by omega), by simp; omega⟩
        refine Weak.mk ?_ ?_ ?_ <;> simp (maxSteps := 2000000) only [go_sem, ↓reduceIte, Sub, Int.natCast_add, Int.natCast_mul, hrow, ro, robj_2]
       ·refine ⟨(k', acc ++ [x], none), ?_, more (by omega), by simp; omega⟩
        refine Weak.mk ?_ ?_ ?_ <;> simp (maxSteps := 2000000) only [go_sem, ↓reduceIte, Sub, Int.natCast_add, Int.natCast_mul, hrow, ro]
    ·rw [if_pos (by omega)] at hF
     have het := eat_0 s q [93] hs (by omega) (by simp)
     have hp : hasPre (s.drop q) [93] = true := by
      rw [hasPre_one hc]
      have : c = 93 := UInt8.toNat_inj.1 (by have : (93 : UInt8).toNat = 93 := rfl; omega)
      simp [this]
     rw [hp, if_pos rfl, robj_0, robj_0] at het
     have fb := rdPost_ok (s := s) hF.symm
     rw [dd, robj_0] at fb
     refine PrimG.mc1 (.x 0) rfl (het) rfl rfl rfl rfl ⟨rfl, rfl⟩ ?_
     rcases fin with ⟨h1, h3⟩ | h1 <;> rw [h1]
     all_goals
      simp (maxSteps := 2000000) only [go_sem, ↓reduceIte]
      first
      | exact fb
      | (rw [h3] at fb; exact fb)
def zD : D := .agg [.int .i64 0, .int .i64 0, .str [], .list [], .list []]
def L___parse_reader__value : LCode :=
 .seq (.reg [⟨some 4, .allo [.int .i64 0, .int .i64 0, .str [], .list [], .list []], none⟩]) (.seq (.reg [Qc 6 0, ⟨some 7, .prim .call [.k (.fn (.func 56) [] []), .t 6] [], none⟩, 
 Qa 5 7]) (.seq (.seq (.reg [Qc 8 1, Q 9 (.bin .gtr (.t 8) (Ki 8))]) (.cond (.t 9) (.reg [Qc 10 0, Q 11 (.mkI 50 (Ki 2)), ⟨some 12, .prim .call [.k (.fn (.func 34) [] []), .t 10, 
 .t 11] [], none⟩]) .skip)) (.seq (.seq (.reg [Qc 13 0, Q 14 (.nck (.t 13)), Q 15 (.fa 2 (.t 14)), Q 16 (.ld false 1 (.t 15)), Q 17 (.eqN 0 true (.t 16))]) (.cond (.t 17) (.seq 
 (.reg [Q 18 (.bld [(0, 1), (1, 1), (2, 1), (3, 1), (4, 1)] [.int .i64 0, .int .i64 0, .str [], .list [], .list []] [] []), ⟨none, .st 5 (.t 4) (.t 18), none⟩]) .ret) .skip)) 
 (.seq (.block 0 (.seq (.reg [Qc 20 5, Q 21 (.bin .eql (.t 20) (Kb 47)), Qa 19 21]) (.cond (.t 19) (.seq (.reg [Qc 22 0, ⟨some 23, .prim .call [.k (.fn (.func 57) [] []), .t 22] 
 [], none⟩, Q 24 (.bld [(0, 1), (1, 1), (2, 1), (3, 1), (4, 1)] [.int .i64 0, .int .i64 0, .str [], .list [], .list []] [false, false, false, true, true] [(0, .k (.d (.int .i64 
 4))), (2, .t 23)]), ⟨none, .st 5 (.t 4) (.t 24), none⟩]) .ret) (.seq (.reg [Qc 26 5, Q 27 (.bin .eql (.t 26) (Kb 40)), Qa 25 27]) (.cond (.t 25) (.seq (.reg [Qc 28 0, Qc 29 0, 
 ⟨some 30, .prim .call [.k (.fn (.func 59) [] []), .t 29] [], none⟩, ⟨some 31, .prim .call [.k (.fn (.func 58) [] []), .t 28, .t 30] [], none⟩, ⟨none, .st 5 (.t 4) (.t 31), 
 none⟩]) .ret) (.seq (.reg [Qc 33 0, ⟨some 34, .prim .call [.k (.fn (.func 60) [] []), .t 33, .k (.d (.str [60, 60]))] [], none⟩, Qa 32 34]) (.cond (.t 32) (.seq (.reg [Qc 35 0, 
 Qc 36 1, ⟨some 37, .prim .call [.k (.fn (.func 61) [] []), .t 35, .t 36] [], none⟩, ⟨none, .st 5 (.t 4) (.t 37), none⟩]) .ret) (.seq (.reg [Qc 39 5, Q 40 (.bin .eql (.t 39) (Kb 
 60)), Qa 38 40]) (.cond (.t 38) (.seq (.reg [Qc 41 0, Qc 42 0, ⟨some 43, .prim .call [.k (.fn (.func 62) [] []), .t 42] [], none⟩, ⟨some 44, .prim .call [.k (.fn (.func 58) [] 
 []), .t 41, .t 43] [], none⟩, ⟨none, .st 5 (.t 4) (.t 44), none⟩]) .ret) (.seq (.reg [Qc 46 0, ⟨some 47, .prim .call [.k (.fn (.func 60) [] []), .t 46, .k (.d (.str [91]))] [], 
 none⟩, Qa 45 47]) (.cond (.t 45) (.seq (.reg [Qc 48 0, Qc 49 1, ⟨some 50, .prim .call [.k (.fn (.func 63) [] []), .t 48, .t 49] [], none⟩, ⟨none, .st 5 (.t 4) (.t 50), none⟩]) 
 .ret) (.seq (.reg [Qc 52 5, ⟨some 53, .call 39 [.t 52], none⟩, Qa 51 53]) (.cond (.t 51) (.seq (.reg [Qc 54 0, Q 55 (.mkI 50 (Ki 4)), ⟨some 56, .prim .call [.k (.fn (.func 34) [] 
 []), .t 54, .t 55] [], none⟩]) (.seq (.reg [Q 57 (.bld [(0, 1), (1, 1), (2, 1), (3, 1), (4, 1)] [.int .i64 0, .int .i64 0, .str [], .list [], .list []] [] []), ⟨none, .st 5 (.t 
 4) (.t 57), none⟩]) .ret)) .skip))))))))))))) (.seq (.reg [Qc 58 0, ⟨some 59, .prim .call [.k (.fn (.func 64) [] []), .t 58] [], none⟩, ⟨none, .st 5 (.t 4) (.t 59), none⟩]) 
 .ret)))))
def R___parse_reader__value : List LRes := [.cell 4 true 5]
theorem lift___parse_reader__value : Lifts Tryz.prog 33 60 L___parse_reader__value R___parse_reader__value := ⟨_, _, Tryz.func33, rfl, by kernel_rfl, by kernel_rfl, rfl⟩
theorem value_ne (s : List UInt8) (k : Int) (deep : Int) {n : Nat} (hn : n ≠ 0) (hs : s.length ≤ 60000) : MCallE Tryz.prog 33 [.ptr (.x 0) 0, .d (.int .i64 deep)] [robj s k n] (.d zD) [robj s (skipP s (clampP s k)) n] := by
 obtain ⟨c, hnx⟩ := next_ne s k hn hs
 have hf := fail_ne s (skipP s (clampP s k) : Int) hn (.iface 50 (.int .i64 2))
 generalize (skipP s (clampP s k) : Int) = q at *
 rw [robj_ne s k hn, robj_ne s q hn] at *
 refine lift___parse_reader__value.mcall (by kernel_rfl) rfl ?_
 simp (maxSteps := 2000000) only [go_sem, ↓reduceIte, L___parse_reader__value, R___parse_reader__value]
 refine PrimG.mc1 (.x 0) rfl (hnx) rfl rfl rfl rfl ⟨rfl, rfl⟩ ?_
 simp (maxSteps := 2000000) only [go_sem, ↓reduceIte]
 refine ⟨fun h => ?_, fun h => rfl⟩
 refine PrimG.mc1 (.x 0) rfl (hf) rfl rfl rfl rfl ⟨rfl, rfl⟩ ?_
 simp (maxSteps := 2000000) only [go_sem, ↓reduceIte]
 rfl
theorem hasPre_two {s : List UInt8} {k : Nat} {c : UInt8} {x y : UInt8} (h : s[k]? = some c) : hasPre (s.drop k) [x, y] = (decide (c = x) && decide (s[k + 1]? = some y)) := by
 rw [drop_at h]
 simp only [hasPre, List.length_cons, List.length_nil, List.take_succ_cons]
 cases hd : s[k + 1]? with
 | none =>
  rw [List.drop_eq_nil_of_le (List.getElem?_eq_none_iff.1 hd)]
  simp
 | some d =>
  rw [drop_at hd]
  simp
theorem setV_dic (nm : List UInt8) (x : Val) (acc : List Fld) : setV nm x (dicV acc) = dicV (setF nm x acc) := rfl
theorem dicV_sm {acc : List Fld} (h : acc.length ≤ 1048576) (hm : ∀ y ∈ acc, y.sm 300 = true) : (dicV acc).sm 1048576 = true :=
 Val.sm_iff.2 ⟨by simp [dicV, Val.s], by simp [dicV, Val.l], h, by simp [dicV, Val.l], fun y hy => by
  have := hm y hy
  obtain ⟨h1, h2⟩ := Fld.sm_iff.1 this
  exact Fld.sm_iff.2 ⟨by omega, Val.sm_mono (by omega) _ h2⟩⟩
def L___parse_reader__dict : LCode :=
 .seq (.reg [⟨some 4, .allo [.int .i64 0, .int .i64 0, .str [], .list [], .list []], none⟩]) (.seq (.reg [Q 11 (.bld [(0, 1), (1, 1), (2, 1), (3, 1), (4, 1)] [.int .i64 0, .int .i64 
 0, .str [], .list [], .list []] [false, false, false, true, true] [(0, .k (.d (.int .i64 6)))]), ⟨some 5, .allo [.int .i64 0, .int .i64 0, .str [], .list [], .list []], none⟩, 
 ⟨none, .st 5 (.t 5) (.t 11), none⟩]) (.seq (.block 0 (.loop (.seq (.seq (.reg [Qc 12 0, Q 13 (.nck (.t 12)), Q 14 (.fa 2 (.t 13)), Q 15 (.ld false 1 (.t 14)), Q 16 (.eqN 0 false 
 (.t 15))]) (.cond (.t 16) .skip (.exit 0))) (.block 1 (.seq (.reg [Qc 17 0, ⟨some 18, .prim .call [.k (.fn (.func 56) [] []), .t 17] [], none⟩, Qa 6 18]) (.seq (.seq (.reg [Qc 19 
 0, ⟨some 20, .prim .call [.k (.fn (.func 60) [] []), .t 19, .k (.d (.str [62, 62]))] [], none⟩]) (.cond (.t 20) (.exit 0) .skip)) (.seq (.seq (.reg [Qc 21 0, Q 22 (.nck (.t 21)), 
 Q 23 (.fa 2 (.t 22)), Q 24 (.ld false 1 (.t 23)), Q 25 (.eqN 0 false (.t 24)), Qc 26 25, Qd 27 6 26 true, Qg 28 (.bin .neq (.t 27) (Kb 47)) 26 true, Q 29 (.pick (.t 26) (.t 28) 
 KF)]) (.cond (.t 29) (.reg [Qc 30 0, Q 31 (.mkI 50 (Ki 4)), ⟨some 32, .prim .call [.k (.fn (.func 34) [] []), .t 30, .t 31] [], none⟩]) .skip)) (.seq (.seq (.reg [Qc 33 0, Q 34 
 (.nck (.t 33)), Q 35 (.fa 2 (.t 34)), Q 36 (.ld false 1 (.t 35)), Q 37 (.eqN 0 true (.t 36))]) (.cond (.t 37) (.exit 0) .skip)) (.seq (.reg [Qc 38 0, ⟨some 39, .prim .call [.k 
 (.fn (.func 57) [] []), .t 38] [], none⟩, Qa 7 39]) (.seq (.reg [Qc 40 0, Qc 41 1, Q 42 (.bin .add (.t 41) (Ki 1)), ⟨some 43, .prim .call [.k (.fn (.func 33) [] []), .t 40, .t 
 42] [], none⟩, ⟨some 8, .allo [.int .i64 0, .int .i64 0, .str [], .list [], .list []], none⟩, ⟨none, .st 5 (.t 8) (.t 43), none⟩]) (.seq (.reg [Q 45 (.ld true 5 (.t 5)), Qc 46 7, 
 ⟨some 47, .call 86 [.t 45, .t 46], none⟩, Qc 44 47, Q 48 (.ext 0 (.t 44)), Q 49 (.ext 1 (.t 44)), ⟨some 9, .allo [.int .i64 0, .int .i64 0, .str [], .list [], .list []], none⟩, 
 ⟨none, .st 5 (.t 9) (.t 48), none⟩, Qa 10 49]) (.seq (.seq (.reg [Qc 50 10]) (.cond (.t 50) (.reg [Qc 51 0, Q 52 (.mkI 50 (Ki 3)), ⟨some 53, .prim .call [.k (.fn (.func 34) [] 
 []), .t 51, .t 52] [], none⟩]) .skip)) (.seq (.seq (.reg [Qc 54 0, Q 55 (.nck (.t 54)), Q 56 (.fa 2 (.t 55)), Q 57 (.ld false 1 (.t 56)), Q 58 (.eqN 0 false (.t 57))]) (.cond (.t 
 58) (.reg [Q 59 (.ld true 5 (.t 5)), Qc 60 7, Q 61 (.ld true 5 (.t 8)), ⟨some 62, .call 87 [.t 59, .t 60, .t 61], none⟩, ⟨none, .st 5 (.t 5) (.t 62), none⟩]) .skip)) (.seq (.reg 
 [Q 63 (.fa 4 (.t 5)), Q 64 (.ld false 1 (.t 63)), Q 65 (.len false (.t 64)), Q 66 (.bin .gtr (.t 65) (Ki 300))]) (.cond (.t 66) (.reg [Qc 67 0, Q 68 (.mkI 50 (Ki 2)), ⟨some 69, 
 .prim .call [.k (.fn (.func 34) [] []), .t 67, .t 68] [], none⟩]) .skip))))))))))))))) (.seq (.reg [Q 70 (.ld true 5 (.t 5)), ⟨none, .st 5 (.t 4) (.t 70), none⟩]) .ret)))
def R___parse_reader__dict : List LRes := [.cell 4 true 5]
theorem lift___parse_reader__dict : Lifts Tryz.prog 61 71 L___parse_reader__dict R___parse_reader__dict := ⟨_, _, Tryz.func61, rfl, by kernel_rfl, by kernel_rfl, rfl⟩
theorem dictP_of (s : List UInt8) (hs : s.length ≤ 60000) (rd : Nat → RV) (deep : Int) (hd : 0 ≤ deep ∧ deep ≤ 8) (hg : ∀ k, k ≤ s.length → goodR s k (rd k)) (ih : RdAt s rd (deep + 1)) (k : Nat) (hk : k ≤ s.length) :
  MCall Tryz.prog 61 [.ptr (.x 0) 0, .d (.int .i64 deep)] [robj s k 0] (rdPost s (dictF rd s 301 [] k)) := by
 generalize hR : dictF rd s 301 [] k = R
 rw [robj_0]
 refine lift___parse_reader__dict.mcall (by kernel_rfl) rfl ?_
 simp (maxSteps := 2000000) (disch := omega) only [go_sem, ↓reduceIte, L___parse_reader__dict, R___parse_reader__dict]
 refine run_loop (fun y : Nat × List Fld × Option (Int × Nat) => ⟨[(0, .ptr (.x 0) 0), (1, .d (.int .i64 deep)), (4, .ptr (.l 4) 0), (5, .ptr (.l 5) 0)],
   [(4, .cells [.d (.int .i64 0), .d (.int .i64 0), .d (.str []), .ns, .ns]), (5, dobj y.2.1)], [(0, ro s y.1 y.2.2)]⟩)
  (fun y => y.1 ≤ s.length ∧ y.2.1.length ≤ 301 ∧ srt y.2.1 ∧ (∀ z ∈ y.2.1, z.sm 300 = true) ∧ (y.2.2 = none → y.2.1.length ≤ 300 ∧ dictF rd s (301 - y.2.1.length) y.2.1 y.1 = R) ∧ ∀ k e, y.2.2 = some (k, e) → e ≠ 0 ∧ R = .bad e) (fun y => 2 * (s.length - y.1) + (if y.2.2.isNone = true then 1 else 0)) (k, [], none) ?_ ?_ ?_
 ·refine Weak.mk ?_ ?_ ?_ <;> simp (maxSteps := 2000000) only [go_sem, ↓reduceIte, Sub, Int.natCast_add, Int.natCast_mul, dobj, ro]
 ·exact ⟨hk, by simp, srt_nil, by simp, fun _ => ⟨by simp, hR⟩, fun _ _ h => by cases h⟩
 ·rintro ⟨i, acc, o⟩ ⟨hi, ha, hsrt, hsm, hF, hE⟩
  simp only at hi ha hsrt hsm hF hE
  have hal := fldsD_length acc
  have dd : (dicV acc).d = D.agg [.int .i64 6, .int .i64 0, .str [], .list [], .list (fldsD acc)] := by rw [Val.d_eq]; rfl
  have hcs : (dobj acc = .cells [.d (.int .i64 6), .d (.int .i64 0), .d (.str []), .ns, .ns] ∧ fldsD acc = []) ∨ dobj acc = .cells [.d (.int .i64 6), .d (.int .i64 0), .d (.str []), .d (.list []), .d (.list (fldsD acc))] := by
   rcases dobj_cases acc with ⟨h, rfl⟩ | h
   ·exact .inl ⟨h, rfl⟩
   ·exact .inr h
  have hget := fun nm => getP_call (dicV acc) nm (by show acc.length ≤ _; omega)
  have hset := fun nm x hx => setP_call (dicV acc) x nm hsrt (dicV_sm (by omega) hsm) hx
  simp only [dd] at hget hset
  have inv : ∀ (k' : Int) (e : Nat), e ≠ 0 → R = .bad e → i ≤ s.length ∧ acc.length ≤ 301 ∧ srt acc ∧ (∀ z ∈ acc, z.sm 300 = true) ∧ (some (k', e) = none → acc.length ≤ 300 ∧ dictF rd s (301 - acc.length) acc i = R) ∧ ∀ k e', some (k', e) = some (k, e') → e' ≠ 0 ∧ R = .bad e' := fun k' e e0 he =>
   ⟨hi, ha, hsrt, hsm, fun h => (by cases h), fun k e' h => by cases h; exact ⟨e0, he⟩⟩
  cases o with
  | some p =>
   obtain ⟨k', e⟩ := p
   obtain ⟨e0, rfl⟩ := hE k' e rfl
   have fb := rdPost_bad (s := s) (R := .bad e) (dicV acc) k' rfl
   rw [dd, robj_ne s k' e0] at fb
   simp only [ro]
   rw [robj_ne s k' e0]
   rcases hcs with ⟨h1, h2⟩ | h1 <;> rw [h1]
   all_goals
    simp (maxSteps := 2000000) only [go_sem, ↓reduceIte]
    first
    | exact fb
    | (rw [h2] at fb; exact fb)
  | none =>
   obtain ⟨ha', hF⟩ := hF rfl
   have hlen : (300 < (acc.length : Int)) = False := eq_false (by omega)
   obtain ⟨m, hm⟩ : ∃ m, 301 - acc.length = m + 1 := ⟨300 - acc.length, by omega⟩
   rw [hm, dictF] at hF
   have hsk := skipP_le hi
   have hnx := next_0 s i hs hi
   generalize skipP s i = q at *
   simp only [ro]
   rw [robj_0] at hnx
   simp (maxSteps := 2000000) only [go_sem, ↓reduceIte]
   refine PrimG.mc1 (.x 0) rfl (hnx) rfl rfl rfl rfl ⟨rfl, rfl⟩ ?_
   cases hc : s[q]? with
   | none =>
    rw [hc] at hF
    simp only at hF
    have het := eat_ne s (q : Int) [62, 62] (n := 5) (by decide)
    have fb := rdPost_bad (s := s) (R := R) (dicV acc) (q : Int) hF.symm
    rw [dd, robj_5] at fb
    rw [robj_5] at het
    simp only
    rw [robj_5]
    simp (maxSteps := 2000000) only [go_sem, ↓reduceIte]
    refine PrimG.mc1 (.x 0) rfl (het) rfl rfl rfl rfl ⟨rfl, rfl⟩ ?_
    rcases hcs with ⟨h1, h2⟩ | h1 <;> rw [h1]
    all_goals
     simp (maxSteps := 2000000) only [go_sem, ↓reduceIte]
     first
     | exact fb
     | (rw [h2] at fb; exact fb)
   | some c =>
    have hc8 := u8_lt c
    have hlt : q < s.length := (List.getElem?_eq_some_iff.1 hc).1
    rw [hc] at hF
    simp only at hF
    simp only
    rw [robj_0]
    simp (maxSteps := 2000000) only [go_sem, ↓reduceIte]
    have het := eat_0 s q [62, 62] hs (by omega) (by simp)
    rw [hasPre_two hc] at het
    by_cases c62 : c.toNat = 62 ∧ s[q + 1]? = some 62
    ·have e62 : c = 62 := UInt8.toNat_inj.1 (by have : (62 : UInt8).toNat = 62 := rfl; omega)
     rw [if_pos c62] at hF
     have hb : (decide (c = 62) && decide (s[q + 1]? = some 62)) = true := by simp [e62, c62.2]
     rw [hb, if_pos rfl, robj_0, robj_0] at het
     have fb := rdPost_ok (s := s) hF.symm
     rw [dd, robj_0] at fb
     refine PrimG.mc1 (.x 0) rfl (het) rfl rfl rfl rfl ⟨rfl, rfl⟩ ?_
     rcases hcs with ⟨h1, h3⟩ | h1 <;> rw [h1]
     all_goals
      simp (maxSteps := 2000000) only [go_sem, ↓reduceIte]
      first
      | exact fb
      | (rw [h3] at fb; exact fb)
    ·rw [if_neg c62] at hF
     have hb : (decide (c = 62) && decide (s[q + 1]? = some 62)) = false := by
      by_cases e62 : c = 62
      ·have : ¬ s[q + 1]? = some 62 := fun h => c62 ⟨by rw [e62]; rfl, h⟩
       simp [this]
      ·simp [e62]
     rw [hb, if_neg (by decide), robj_0] at het
     refine PrimG.mc1 (.x 0) rfl (het) rfl rfl rfl rfl ⟨rfl, rfl⟩ ?_
     simp (maxSteps := 2000000) only [go_sem, ↓reduceIte]
     refine ⟨fun h47 => ?_, fun h47 => ?_⟩
     ·rw [if_pos (by omega)] at hF
      have hf := fail_0 s (q : Int) 4
      rw [robj_0, robj_4, robj_lit.2.2.1] at hf
      have fb := rdPost_bad (s := s) (R := R) (dicV acc) (q : Int) hF.symm
      rw [dd, robj_4] at fb
      refine PrimG.mc1 (.x 0) rfl (hf) rfl rfl rfl rfl ⟨rfl, rfl⟩ ?_
      rcases hcs with ⟨h1, h3⟩ | h1 <;> rw [h1]
      all_goals
       simp (maxSteps := 2000000) only [go_sem, ↓reduceIte]
       first
       | exact fb
       | (rw [h3] at fb; exact fb)
     ·rw [if_neg (by omega)] at hF
      have hnm := name_call s q hs hlt
      rw [robj_0] at hnm
      refine PrimG.mp1 (.x 0) rfl (hnm) rfl rfl rfl rfl (fun r hs' hr => ?_)
      cases hn : nameAt s q with
      | none =>
       rw [hn] at hF hr
       simp only at hF
       obtain ⟨b, k2, rfl, rfl⟩ := hr
       refine ⟨⟨rfl, rfl⟩, ?_⟩
       have hv := value_ne s k2 (deep + 1) (n := 4) (by decide) hs
       have hgt := hget b
       have eg : getR (getV b (dicV acc).f) = .tup [((getV b acc).getD zeroV).d, .bool (getV b acc).isSome] := rfl
       rw [eg] at hgt
       generalize (getV b acc).getD zeroV = gv at hgt
       generalize (getV b acc).isSome = gs at hgt
       rw [Val.d_eq gv] at hgt
       generalize (skipP s (clampP s k2) : Int) = q2 at hv
       have hf3 := fail_ne s q2 (n := 4) (by decide) (.iface 50 (.int .i64 3))
       rw [robj_4] at hv hf3 ⊢
       rw [robj_4] at hv
       simp (maxSteps := 2000000) (disch := omega) only [go_sem, ↓reduceIte]
       refine PrimG.mc1 (.x 0) rfl (hv) rfl rfl rfl rfl ⟨rfl, rfl⟩ ?_
       have inv4 := inv q2 4 (by decide) hF.symm
       rcases hcs with ⟨h1, h3⟩ | h1 <;> rw [h1]
       all_goals
        try rw [h3] at hgt
        simp (maxSteps := 2000000) only [go_sem, ↓reduceIte, zD]
        refine CallG.of hgt ?_
        cases gs with
        | false =>
         simp (maxSteps := 2000000) only [go_sem, ↓reduceIte, hal, hlen]
         refine ⟨(i, acc, some (q2, 4)), ?_, inv4, by simp⟩
         refine Weak.mk ?_ ?_ ?_ <;> simp (maxSteps := 2000000) only [go_sem, ↓reduceIte, Sub, Int.natCast_add, Int.natCast_mul, h1, ro, robj_4]
        | true =>
         simp (maxSteps := 2000000) only [go_sem, ↓reduceIte]
         refine PrimG.mc1 (.x 0) rfl (hf3) rfl rfl rfl rfl ⟨rfl, rfl⟩ ?_
         simp (maxSteps := 2000000) only [go_sem, ↓reduceIte, hal, hlen]
         refine ⟨(i, acc, some (q2, 4)), ?_, inv4, by simp⟩
         refine Weak.mk ?_ ?_ ?_ <;> simp (maxSteps := 2000000) only [go_sem, ↓reduceIte, Sub, Int.natCast_add, Int.natCast_mul, h1, ro, robj_4]
      | some p =>
       obtain ⟨nm, kn⟩ := p
       rw [hn] at hF hr
       obtain ⟨rfl, rfl⟩ := hr
       refine ⟨⟨rfl, rfl⟩, ?_⟩
       simp only at hF
       obtain ⟨n1, n2, n3, n4⟩ := nameAt_good hlt hn
       have hv := ih kn n2
       have hgq := hg kn n2
       have hgt := hget nm
       have eg : getR (getV nm (dicV acc).f) = .tup [((getV nm acc).getD zeroV).d, .bool (getV nm acc).isSome] := rfl
       rw [eg] at hgt
       have hnone := getV_none (nm := nm) (l := acc)
       generalize (getV nm acc).getD zeroV = gv at hgt
       generalize (getV nm acc).isSome = gs at hgt hF hnone
       rw [Val.d_eq gv] at hgt
       rw [robj_0] at hv ⊢
       simp (maxSteps := 2000000) (disch := omega) only [go_sem, ↓reduceIte]
       refine PrimG.mp1 (.x 0) rfl (hv) rfl rfl rfl rfl (fun r hs' hr => ?_)
       cases hx : rd kn with
       | bad e =>
        rw [hx] at hF hr hgq
        obtain ⟨x, k', rfl, rfl⟩ := hr
        obtain ⟨g1, _⟩ := hgq
        have e0 : e ≠ 0 := by omega
        refine ⟨⟨rfl, rfl⟩, ?_⟩
        have hf3 := fail_ne s k' e0 (.iface 50 (.int .i64 3))
        rw [Val.d_eq x]
        rw [robj_ne s k' e0] at hf3 ⊢
        have inv4 := inv k' e e0 hF.symm
        rcases hcs with ⟨h1, h3⟩ | h1 <;> rw [h1]
        all_goals
         try rw [h3] at hgt
         simp (maxSteps := 2000000) only [go_sem, ↓reduceIte]
         refine CallG.of hgt ?_
         cases gs with
         | false =>
          simp (maxSteps := 2000000) only [go_sem, ↓reduceIte, hal, hlen]
          refine ⟨(i, acc, some (k', e)), ?_, inv4, by simp⟩
          refine Weak.mk ?_ ?_ ?_ <;> simp (maxSteps := 2000000) only [go_sem, ↓reduceIte, Sub, Int.natCast_add, Int.natCast_mul, h1, ro, robj_ne s k' e0]
         | true =>
          simp (maxSteps := 2000000) only [go_sem, ↓reduceIte]
          refine PrimG.mc1 (.x 0) rfl (hf3) rfl rfl rfl rfl ⟨rfl, rfl⟩ ?_
          simp (maxSteps := 2000000) only [go_sem, ↓reduceIte, hal, hlen]
          refine ⟨(i, acc, some (k', e)), ?_, inv4, by simp⟩
          refine Weak.mk ?_ ?_ ?_ <;> simp (maxSteps := 2000000) only [go_sem, ↓reduceIte, Sub, Int.natCast_add, Int.natCast_mul, h1, ro, robj_ne s k' e0]
       | ok x k' =>
        rw [hx] at hF hr hgq
        obtain ⟨rfl, rfl⟩ := hr
        obtain ⟨g1, g2, g3, g4⟩ := hgq
        refine ⟨⟨rfl, rfl⟩, ?_⟩
        simp only at hF
        have hf3 := fail_0 s (k' : Int) 3
        have hf2 := fail_0 s (k' : Int) 2
        rw [robj_0, robj_3, robj_lit.2.1] at hf3
        rw [robj_0, robj_2, robj_lit.1] at hf2
        have hst := hset nm x (Val.sm_mono (by omega) x g3)
        rw [setV_dic] at hst
        rw [show (dicV (setF nm x acc)).d = .agg [.int .i64 6, .int .i64 0, .str [], .list [], .list (fldsD (setF nm x acc))] by rw [Val.d_eq]; rfl, Val.d_eq x] at hst
        rw [Val.d_eq x, robj_0]
        cases gs with
        | true =>
         rw [if_pos rfl] at hF
         have inv4 := inv (k' : Int) 3 (by decide) hF.symm
         rcases hcs with ⟨h1, h3⟩ | h1 <;> rw [h1]
         all_goals
          try rw [h3] at hgt
          simp (maxSteps := 2000000) only [go_sem, ↓reduceIte]
          refine CallG.of hgt ?_
          simp (maxSteps := 2000000) only [go_sem, ↓reduceIte]
          refine PrimG.mc1 (.x 0) rfl (hf3) rfl rfl rfl rfl ⟨rfl, rfl⟩ ?_
          simp (maxSteps := 2000000) only [go_sem, ↓reduceIte, hal, hlen]
          refine ⟨(i, acc, some ((k' : Int), 3)), ?_, inv4, by simp⟩
          refine Weak.mk ?_ ?_ ?_ <;> simp (maxSteps := 2000000) only [go_sem, ↓reduceIte, Sub, Int.natCast_add, Int.natCast_mul, h1, ro, robj_3]
        | false =>
         rw [if_neg (by decide)] at hF
         have hno := hnone rfl
         obtain ⟨p1, p2⟩ := setF_pt (x := x) hno
         have hsl := fldsD_length (setF nm x acc)
         have hob := dobj_ne (setF_ne nm x acc hno)
         have hsm2 : ∀ z ∈ setF nm x acc, z.sm 300 = true := fun z hz => by
          rcases setF_mem hz with rfl | hz
          ·exact Fld.sm_iff.2 ⟨by simp only [Fld.name]; omega, g3⟩
          ·exact hsm z hz
         have hsr2 := srt_set (x := x) hsrt hno
         generalize setF nm x acc = acc2 at *
         have more : acc2.length ≤ 300 → k' ≤ s.length ∧ acc2.length ≤ 301 ∧ srt acc2 ∧ (∀ z ∈ acc2, z.sm 300 = true) ∧ ((none : Option (Int × Nat)) = none → acc2.length ≤ 300 ∧ dictF rd s (301 - acc2.length) acc2 k' = R) ∧ ∀ k e', (none : Option (Int × Nat)) = some (k, e') → e' ≠ 0 ∧ R = .bad e' := fun h =>
          ⟨g2, by omega, hsr2, hsm2, fun _ => ⟨by omega, by rw [← hF]; congr 1; omega⟩, fun _ _ h => by cases h⟩
         have stop : ¬ acc2.length ≤ 300 → k' ≤ s.length ∧ acc2.length ≤ 301 ∧ srt acc2 ∧ (∀ z ∈ acc2, z.sm 300 = true) ∧ (some ((k' : Int), 2) = none → acc2.length ≤ 300 ∧ dictF rd s (301 - acc2.length) acc2 k' = R) ∧ ∀ k e', some ((k' : Int), 2) = some (k, e') → e' ≠ 0 ∧ R = .bad e' := fun h =>
          ⟨g2, by omega, hsr2, hsm2, fun h => (by cases h), fun k e' h' => by
           cases h'
           have hm0 : m = 0 := by omega
           rw [hm0, dictF] at hF
           exact ⟨by decide, hF.symm⟩⟩
         rcases hcs with ⟨h1, h3⟩ | h1 <;> rw [h1]
         all_goals
          try rw [h3] at hgt hst
          simp (maxSteps := 2000000) only [go_sem, ↓reduceIte]
          refine CallG.of hgt ?_
          simp (maxSteps := 2000000) only [go_sem, ↓reduceIte]
          refine CallG.of hst ?_
          simp (maxSteps := 2000000) only [go_sem, ↓reduceIte, hsl]
          refine ⟨fun h5 => ?_, fun h5 => ?_⟩
          ·refine PrimG.mc1 (.x 0) rfl (hf2) rfl rfl rfl rfl ⟨rfl, rfl⟩ ?_
           simp (maxSteps := 2000000) only [go_sem, ↓reduceIte]
           refine ⟨(k', acc2, some ((k' : Int), 2)), ?_, stop (by omega), by simp; omega⟩
           refine Weak.mk ?_ ?_ ?_ <;> simp (maxSteps := 2000000) only [go_sem, ↓reduceIte, Sub, Int.natCast_add, Int.natCast_mul, hob, ro, robj_2]
          ·refine ⟨(k', acc2, none), ?_, more (by omega), by simp; omega⟩
           refine Weak.mk ?_ ?_ ?_ <;> simp (maxSteps := 2000000) only [go_sem, ↓reduceIte, Sub, Int.natCast_add, Int.natCast_mul, hob, ro]
theorem zeroV_d : zeroV.d = .agg [.int .i64 0, .int .i64 0, .str [], .list [], .list []] := by rw [Val.d_eq]; rfl
theorem rdPost_any {s : List UInt8} {R : RV} {r : AV} {hs : List AObj} (h : rdPost s R r hs) : ∃ (v : Val) (k : Int) (e : Nat), r = .d (.agg [.int .i64 v.kind, .int .i64 v.n, .str v.s, .list (valsD v.l), .list (fldsD v.f)]) ∧ hs = [.cells [.d (.str s), .d (.int .i64 k), .d (errD e)]] := by
 cases R with
 | ok v k => obtain ⟨rfl, rfl⟩ := h; exact ⟨v, k, 0, by rw [Val.d_eq], rfl⟩
 | bad e => obtain ⟨v, k, rfl, rfl⟩ := h; exact ⟨v, k, e, by rw [Val.d_eq], rfl⟩
theorem valueP_call (s : List UInt8) (hs : s.length ≤ 60000) : ∀ (d : Nat), d ≤ 8 → RdAt s (readF d s) (9 - (d : Int)) := by
 intro d
 induction d with
 | zero =>
  intro _ k hk
  generalize hR : readF 0 s k = R
  rw [readF] at hR
  have hnx := next_0 s k hs hk
  generalize skipP s k = q at *
  rw [robj_0] at hnx ⊢
  refine lift___parse_reader__value.mcall (by kernel_rfl) rfl ?_
  simp (maxSteps := 2000000) only [go_sem, ↓reduceIte, L___parse_reader__value, R___parse_reader__value]
  refine PrimG.mc1 (.x 0) rfl (hnx) rfl rfl rfl rfl ⟨rfl, rfl⟩ ?_
  cases hc : s[q]? with
  | none =>
   rw [hc] at hR
   have hf := fail_ne s (q : Int) (n := 5) (by decide) (.iface 50 (.int .i64 2))
   have fb := rdPost_bad (s := s) zeroV (q : Int) hR.symm
   rw [zeroV_d, robj_5] at fb
   rw [robj_5] at hf
   simp only
   rw [robj_5]
   simp (maxSteps := 2000000) only [go_sem, ↓reduceIte]
   refine PrimG.mc1 (.x 0) rfl (hf) rfl rfl rfl rfl ⟨rfl, rfl⟩ ?_
   simp (maxSteps := 2000000) only [go_sem, ↓reduceIte]
   exact fb
  | some c =>
   rw [hc] at hR
   have hf := fail_0 s (q : Int) 2
   have fb := rdPost_bad (s := s) zeroV (q : Int) hR.symm
   rw [zeroV_d, robj_2] at fb
   rw [robj_0, robj_2, robj_lit.1] at hf
   simp only
   rw [robj_0]
   simp (maxSteps := 2000000) only [go_sem, ↓reduceIte]
   refine PrimG.mc1 (.x 0) rfl (hf) rfl rfl rfl rfl ⟨rfl, rfl⟩ ?_
   simp (maxSteps := 2000000) only [go_sem, ↓reduceIte]
   exact fb
 | succ d ihd =>
  intro hd k hk
  generalize hR : readF (d + 1) s k = R
  rw [readF] at hR
  have hsk := skipP_le hk
  have hnx := next_0 s k hs hk
  generalize skipP s k = q at *
  have ih := ihd (by omega)
  obtain ⟨deep, hde⟩ : ∃ deep : Int, 9 - ((d + 1 : Nat) : Int) = deep := ⟨_, rfl⟩
  have e1 : 9 - (d : Int) = deep + 1 := by omega
  have hdeep : 0 ≤ deep ∧ deep ≤ 8 := by omega
  rw [e1] at ih
  rw [hde]
  clear hde e1
  have hg := fun k hk => readF_good s d k hk
  rw [robj_0] at hnx ⊢
  refine lift___parse_reader__value.mcall (by kernel_rfl) rfl ?_
  simp (maxSteps := 2000000) only [go_sem, ↓reduceIte, L___parse_reader__value, R___parse_reader__value]
  refine PrimG.mc1 (.x 0) rfl (hnx) rfl rfl rfl rfl ⟨rfl, rfl⟩ ?_
  have hd8 : (8 < deep) = False := eq_false (by omega)
  cases hc : s[q]? with
  | none =>
   rw [hc] at hR
   have fb := rdPost_bad (s := s) zeroV (q : Int) hR.symm
   rw [zeroV_d, robj_5] at fb
   simp only
   rw [robj_5]
   simp (maxSteps := 2000000) only [go_sem, ↓reduceIte, hd8]
   exact fb
  | some c =>
   have hc8 := u8_lt c
   have hlt : q < s.length := (List.getElem?_eq_some_iff.1 hc).1
   rw [hc] at hR
   simp only at hR
   simp only
   rw [robj_0]
   simp (maxSteps := 2000000) only [go_sem, ↓reduceIte, hd8]
   refine ⟨fun h47 => ?_, fun h47 => ⟨fun h40 => ?_, fun h40 => ?_⟩⟩
   ·rw [if_pos (by omega)] at hR
    have hnm := name_call s q hs hlt
    rw [robj_0] at hnm
    refine PrimG.mp1 (.x 0) rfl (hnm) rfl rfl rfl rfl (fun r hs' hr => ?_)
    cases hn : nameAt s q with
    | none =>
     rw [hn] at hR hr
     obtain ⟨b, k2, rfl, rfl⟩ := hr
     refine ⟨⟨rfl, rfl⟩, ?_⟩
     have fb := rdPost_bad (s := s) (namV b) k2 hR.symm
     rw [namV, kmk, robj_4] at fb
     rw [robj_4]
     simp (maxSteps := 2000000) only [go_sem, ↓reduceIte]
     exact fb
    | some p =>
     obtain ⟨b, kn⟩ := p
     rw [hn] at hR hr
     obtain ⟨rfl, rfl⟩ := hr
     refine ⟨⟨rfl, rfl⟩, ?_⟩
     have fb := rdPost_ok (s := s) hR.symm
     rw [namV, kmk, robj_0] at fb
     rw [robj_0]
     simp (maxSteps := 2000000) only [go_sem, ↓reduceIte]
     exact fb
   ·rw [if_neg (by omega), if_pos (by omega)] at hR
    have hl := litP_call s q hs hlt
    rw [robj_0] at hl
    unfold litAt at hR
    refine PrimG.mp1 (.x 0) rfl (hl) rfl rfl rfl rfl (fun r hs' hr => ?_)
    cases hx : litF 0 1 (s.drop (q + 1)) [] (q + 1) with
    | none =>
     rw [hx] at hR hr
     obtain ⟨k2, rfl, rfl⟩ := hr
     refine ⟨⟨rfl, rfl⟩, ?_⟩
     have fb := rdPost_bad (s := s) (strV []) k2 hR.symm
     have hst := str_ne s k2 [] (n := 5) (by decide)
     rw [strV, kmk, robj_5] at fb hst
     rw [robj_5]
     simp (maxSteps := 2000000) only [go_sem, ↓reduceIte]
     refine PrimG.mc1 (.x 0) rfl (hst) rfl rfl rfl rfl ⟨rfl, rfl⟩ ?_
     simp (maxSteps := 2000000) only [go_sem, ↓reduceIte]
     exact fb
    | some p =>
     obtain ⟨b, kn⟩ := p
     rw [hx] at hR hr
     obtain ⟨rfl, rfl⟩ := hr
     refine ⟨⟨rfl, rfl⟩, ?_⟩
     simp only at hR
     have hst := str_0 s (kn : Int) b
     rw [strV, kmk, robj_0] at hst
     rw [robj_0]
     simp (maxSteps := 2000000) only [go_sem, ↓reduceIte]
     refine PrimG.mc1 (.x 0) rfl (hst) rfl rfl rfl rfl ⟨rfl, rfl⟩ ?_
     by_cases hb : b.length ≤ 200
     ·rw [if_pos hb] at hR ⊢
      have fb := rdPost_ok (s := s) hR.symm
      rw [strV, kmk, robj_0] at fb
      rw [robj_0]
      simp (maxSteps := 2000000) only [go_sem, ↓reduceIte]
      exact fb
     ·rw [if_neg hb] at hR ⊢
      have fb := rdPost_bad (s := s) (strV b) (kn : Int) hR.symm
      rw [strV, kmk, robj_2] at fb
      rw [robj_2]
      simp (maxSteps := 2000000) only [go_sem, ↓reduceIte]
      exact fb
   ·rw [if_neg (by omega), if_neg (by omega)] at hR
    have het := eat_0 s q [60, 60] hs (by omega) (by simp)
    rw [hasPre_two hc] at het
    by_cases cd : c.toNat = 60 ∧ s[q + 1]? = some 60
    ·have e60 : c = 60 := UInt8.toNat_inj.1 (by have : (60 : UInt8).toNat = 60 := rfl; omega)
     have hq2 := (List.getElem?_eq_some_iff.1 cd.2).1
     rw [if_pos cd] at hR
     have hb : (decide (c = 60) && decide (s[q + 1]? = some 60)) = true := by simp [e60, cd.2]
     have e2 : (q : Int) + (([60, 60] : List UInt8).length : Int) = ((q + 2 : Nat) : Int) := by simp
     rw [hb, if_pos rfl, e2, robj_0, robj_0] at het
     refine PrimG.mc1 (.x 0) rfl (het) rfl rfl rfl rfl ⟨rfl, rfl⟩ ?_
     have hdc := dictP_of s hs (readF d s) deep hdeep hg ih (q + 2) (by omega)
     rw [hR, robj_0] at hdc
     simp (maxSteps := 2000000) only [go_sem, ↓reduceIte]
     refine PrimG.mp1 (.x 0) rfl (hdc) rfl rfl rfl rfl (fun r hs' hr => ?_)
     obtain ⟨v, k2, e, rfl, rfl⟩ := rdPost_any hr
     refine ⟨⟨rfl, rfl⟩, ?_⟩
     simp (maxSteps := 2000000) only [go_sem, ↓reduceIte]
     exact hr
    ·have hb : (decide (c = 60) && decide (s[q + 1]? = some 60)) = false := by
      by_cases e60 : c = 60
      ·have : ¬ s[q + 1]? = some 60 := fun h => cd ⟨by rw [e60]; rfl, h⟩
       simp [this]
      ·simp [e60]
     rw [if_neg cd] at hR
     rw [hb, if_neg (by decide), robj_0] at het
     refine PrimG.mc1 (.x 0) rfl (het) rfl rfl rfl rfl ⟨rfl, rfl⟩ ?_
     simp (maxSteps := 2000000) only [go_sem, ↓reduceIte]
     refine ⟨fun h60 => ?_, fun h60 => ?_⟩
     ·rw [if_pos (by omega)] at hR
      have hx := hexed_call s q hs hlt
      rw [robj_0] at hx
      unfold hexAt at hR
      have hcode := unhexF_code (s.drop (q + 1)) (-1) []
      refine PrimG.mp1 (.x 0) rfl (hx) rfl rfl rfl rfl (fun r hs' hr => ?_)
      generalize unhexF (s.drop (q + 1)) (-1) [] = U at hR hcode hr
      obtain ⟨ub, uc⟩ := U
      simp only at hR hcode hr
      obtain ⟨rfl, k2, rfl, hk2⟩ := hr
      refine ⟨⟨rfl, rfl⟩, ?_⟩
      by_cases u0 : uc = 0
      ·subst u0
       rw [if_pos rfl] at hR
       rw [hk2 rfl]
       have hst := str_0 s ((q + 1 + gtEnd (s.drop (q + 1)) : Nat) : Int) ub
       rw [strV, kmk, robj_0] at hst
       rw [robj_0]
       simp (maxSteps := 2000000) only [go_sem, ↓reduceIte]
       refine PrimG.mc1 (.x 0) rfl (hst) rfl rfl rfl rfl ⟨rfl, rfl⟩ ?_
       by_cases hb2 : ub.length ≤ 200
       ·rw [if_pos hb2] at hR ⊢
        have fb := rdPost_ok (s := s) hR.symm
        rw [strV, kmk, robj_0] at fb
        rw [robj_0]
        simp (maxSteps := 2000000) only [go_sem, ↓reduceIte]
        exact fb
       ·rw [if_neg hb2] at hR ⊢
        have fb := rdPost_bad (s := s) (strV ub) ((q + 1 + gtEnd (s.drop (q + 1)) : Nat) : Int) hR.symm
        rw [strV, kmk, robj_2] at fb
        rw [robj_2]
        simp (maxSteps := 2000000) only [go_sem, ↓reduceIte]
        exact fb
      ·rw [if_neg u0] at hR
       have fb := rdPost_bad (s := s) (strV ub) k2 hR.symm
       have hst := str_ne s k2 ub u0
       rw [strV, kmk, robj_ne s k2 u0] at fb hst
       rw [robj_ne s k2 u0]
       simp (maxSteps := 2000000) only [go_sem, ↓reduceIte]
       refine PrimG.mc1 (.x 0) rfl (hst) rfl rfl rfl rfl ⟨rfl, rfl⟩ ?_
       simp (maxSteps := 2000000) only [go_sem, ↓reduceIte]
       exact fb
     ·rw [if_neg (by omega)] at hR
      have het2 := eat_0 s q [91] hs (by omega) (by simp)
      rw [hasPre_one hc] at het2
      by_cases h91 : c.toNat = 91
      ·rw [if_pos h91] at hR
       have e91 : c = 91 := UInt8.toNat_inj.1 (by have : (91 : UInt8).toNat = 91 := rfl; omega)
       have e2 : (q : Int) + (([91] : List UInt8).length : Int) = ((q + 1 : Nat) : Int) := by simp
       rw [decide_eq_true e91, if_pos rfl, e2, robj_0, robj_0] at het2
       refine PrimG.mc1 (.x 0) rfl (het2) rfl rfl rfl rfl ⟨rfl, rfl⟩ ?_
       have hls := listP_of s hs (readF d s) deep hdeep hg ih (q + 1) (by omega)
       rw [hR, robj_0] at hls
       simp (maxSteps := 2000000) only [go_sem, ↓reduceIte]
       refine PrimG.mp1 (.x 0) rfl (hls) rfl rfl rfl rfl (fun r hs' hr => ?_)
       obtain ⟨v, k2, e, rfl, rfl⟩ := rdPost_any hr
       refine ⟨⟨rfl, rfl⟩, ?_⟩
       simp (maxSteps := 2000000) only [go_sem, ↓reduceIte]
       exact hr
      ·rw [if_neg h91] at hR
       have e91 : ¬ c = 91 := fun e => h91 (by rw [e]; rfl)
       rw [decide_eq_false e91, if_neg (by decide), robj_0] at het2
       refine PrimG.mc1 (.x 0) rfl (het2) rfl rfl rfl rfl ⟨rfl, rfl⟩ ?_
       simp (maxSteps := 2000000) only [go_sem, ↓reduceIte]
       refine CallG.of (sign_call c) ?_
       simp (maxSteps := 2000000) only [go_sem, ↓reduceIte]
       refine ⟨fun hs1 => ?_, fun hs1 => ?_⟩
       ·rw [if_pos hs1] at hR
        have hf := fail_0 s (q : Int) 4
        have fb := rdPost_bad (s := s) zeroV (q : Int) hR.symm
        rw [zeroV_d, robj_4] at fb
        rw [robj_0, robj_4, robj_lit.2.2.1] at hf
        refine PrimG.mc1 (.x 0) rfl (hf) rfl rfl rfl rfl ⟨rfl, rfl⟩ ?_
        simp (maxSteps := 2000000) only [go_sem, ↓reduceIte]
        exact fb
       ·rw [if_neg (by simp [hs1])] at hR
        have hwv := wordV_call s q hs (by omega)
        rw [hR, robj_0] at hwv
        refine PrimG.mp1 (.x 0) rfl (hwv) rfl rfl rfl rfl (fun r hs' hr => ?_)
        obtain ⟨v, k2, e, rfl, rfl⟩ := rdPost_any hr
        refine ⟨⟨rfl, rfl⟩, ?_⟩
        simp (maxSteps := 2000000) only [go_sem, ↓reduceIte]
        exact hr
def topP : RV → Res
 | .ok v k => .tup [v.d, .int .i64 k, .nil]
 | .bad e => .tup [zeroV.d, .int .i64 0, errD e]
def L_parse_Value : LCode :=
 .seq (.reg [⟨some 4, .allo [.int .i64 0, .int .i64 0, .str [], .list [], .list []], none⟩, Qx 5 (Ki 0), Qx 6 (.k (.d .nil))]) (.seq (.seq (.reg [Qc 9 0, Q 10 (.len true (.t 9)), Q 
 11 (.bin .gtr (.t 10) (Ki 60000)), Qc 12 11, Qd 13 1 12 false, Qg 14 (.bin .lss (.t 13) (Ki 0)) 12 false, Q 15 (.pick (.t 12) KT (.t 14)), Qc 16 15, Qd 17 1 16 false, Qd 18 0 16 
 false, Qg 19 (.len true (.t 18)) 16 false, Qg 20 (.bin .gtr (.t 17) (.t 19)) 16 false, Q 21 (.pick (.t 16) KT (.t 20))]) (.cond (.t 21) (.seq (.reg [Q 22 (.bld [(0, 1), (1, 1), 
 (2, 1), (3, 1), (4, 1)] [.int .i64 0, .int .i64 0, .str [], .list [], .list []] [] []), Q 23 (.mkI 50 (Ki 1)), ⟨none, .st 5 (.t 4) (.t 22), none⟩, Qx 5 (Ki 0), Qa 6 23]) .ret) 
 .skip)) (.seq (.reg [Qc 24 0, Qc 25 1, Q 26 (.bld [(0, 1), (1, 1), (2, 1)] [.str [], .int .i64 0, .nil] [] [(0, .t 24), (1, .t 25)]), ⟨some 27, .box (.t 26), none⟩, Qa 7 27]) 
 (.seq (.reg [Qc 28 7, ⟨some 29, .prim .call [.k (.fn (.func 33) [] []), .t 28, .k (.d (.int .i64 1))] [], none⟩, ⟨some 8, .allo [.int .i64 0, .int .i64 0, .str [], .list [], 
 .list []], none⟩, ⟨none, .st 5 (.t 8) (.t 29), none⟩]) (.seq (.seq (.reg [Qc 30 7, Q 31 (.nck (.t 30)), Q 32 (.fa 2 (.t 31)), Q 33 (.ld false 1 (.t 32)), Q 34 (.eqN 0 false (.t 
 33))]) (.cond (.t 34) (.reg [Qc 35 7, Q 36 (.ld true 5 (.t 8)), ⟨some 37, .call 31 [.t 36], none⟩, ⟨some 38, .prim .call [.k (.fn (.func 34) [] []), .t 35, .t 37] [], none⟩]) 
 .skip)) (.seq (.seq (.reg [Qc 39 7, Q 40 (.nck (.t 39)), Q 41 (.fa 2 (.t 40)), Q 42 (.ld false 1 (.t 41)), Q 43 (.eqN 0 true (.t 42))]) (.cond (.t 43) (.seq (.dreg [Q 44 (.bld 
 [(0, 1), (1, 1), (2, 1), (3, 1), (4, 1)] [.int .i64 0, .int .i64 0, .str [], .list [], .list []] [] []), Qc 45 7, Q 46 (.nck (.t 45)), Q 47 (.fa 2 (.t 46)), Q 48 (.ld false 1 (.t 
 47)), ⟨none, .stC 5 (.t 4) (.t 44) [(45, .cp (.t 7)), (46, .nck (.t 45)), (47, .fa 2 (.t 46)), (48, .ld false 1 (.t 47))], none⟩, Q 5 (.cp (Ki 0)), Qc 6 48]) .ret) .skip)) (.seq 
 (.dreg [Q 49 (.ld true 5 (.t 8)), Qc 50 7, Q 51 (.nck (.t 50)), Q 52 (.fa 1 (.t 51)), Q 53 (.ld false 1 (.t 52)), ⟨none, .stC 5 (.t 4) (.t 49) [(50, .cp (.t 7)), (51, .nck (.t 
 50)), (52, .fa 1 (.t 51)), (53, .ld false 1 (.t 52))], none⟩, Qc 5 53, Q 6 (.cp (.k (.d .nil)))]) .ret))))))
def R_parse_Value : List LRes := [.cell 4 true 5, .tmp 5, .tmp 6]
theorem lift_parse_Value : Lifts Tryz.prog 15 54 L_parse_Value R_parse_Value := ⟨_, _, Tryz.func15, rfl, by kernel_rfl, by kernel_rfl, rfl⟩
theorem valueTop_call (s : List UInt8) (k : Int) (hs : s.length ≤ 1000000000) : PCall Tryz.prog 15 [.str s, .int .i64 k] (fun r => r = topP (valueP s k)) := by
 refine lift_parse_Value.call rfl ?_
 generalize hR : valueP s k = R
 unfold valueP at hR
 simp (maxSteps := 2000000) only [go_sem, ↓reduceIte, L_parse_Value, R_parse_Value]
 have bad : ∀ (e : Nat), R = .bad e → Res.tup [.agg [.int .i64 0, .int .i64 0, .str [], .list [], .list []], .int .i64 0, errD e] = topP R := fun e he => by
  rw [he, topP, zeroV_d]
 have b1 := bad 1
 rw [errD_ne (by decide)] at b1
 refine ⟨fun h1 => ⟨fun h2 => ⟨fun h3 => ?_, fun h3 => ?_⟩, fun h2 => ?_⟩, fun h1 => ?_⟩
 ·rw [if_pos (by omega)] at hR; exact b1 hR.symm
 ·rw [if_neg (by omega)] at hR
  obtain ⟨q, rfl⟩ : ∃ q : Nat, k = q := ⟨k.toNat, by omega⟩
  rw [Int.toNat_natCast] at hR
  have hc := valueP_call s (by omega) 8 (by omega) q (by omega)
  have hg := readF_good s 8 q (by omega)
  rw [robj_0] at hc
  refine PrimG.mp1 (.l 27) rfl (hc) rfl rfl rfl rfl (fun r hs' hr => ?_)
  cases hx : readF 8 s q with
  | bad e =>
   rw [hx] at hR hr hg
   obtain ⟨v, k2, rfl, rfl⟩ := hr
   refine ⟨⟨rfl, rfl⟩, ?_⟩
   have he : e ≠ 0 := by obtain ⟨g1, _⟩ := hg; omega
   rw [robj_ne s k2 he, Val.d_eq v]
   have b2 := bad e hR.symm
   rw [errD_ne he] at b2
   simp (maxSteps := 2000000) only [go_sem, ↓reduceIte]
   exact b2
  | ok v n =>
   rw [hx] at hR hr hg
   obtain ⟨rfl, rfl⟩ := hr
   refine ⟨⟨rfl, rfl⟩, ?_⟩
   simp only at hR
   obtain ⟨g1, g2, g3, g4⟩ := hg
   have hf := checkV_call v (Val.sm_mono (by omega) v g3)
   have hfl := fail_0 s (n : Int) (faultV v)
   rw [robj_0] at hfl ⊢
   rw [Val.d_eq v] at hf ⊢
   simp (maxSteps := 2000000) only [go_sem, ↓reduceIte]
   refine CallG.of hf ?_
   simp (maxSteps := 2000000) only [go_sem, ↓reduceIte]
   refine PrimG.mc1 (.l 27) rfl (hfl) rfl rfl rfl rfl ⟨rfl, rfl⟩ ?_
   by_cases f0 : faultV v = 0
   ·rw [if_pos f0] at hR
    rw [f0, robj_0]
    simp (maxSteps := 2000000) only [go_sem, ↓reduceIte]
    rw [← hR, topP, Val.d_eq]
   ·rw [if_neg f0] at hR
    have b2 := bad _ hR.symm
    rw [errD_ne f0] at b2
    rw [robj_ne s n f0]
    simp (maxSteps := 2000000) only [go_sem, ↓reduceIte]
    exact b2
 ·rw [if_pos (by omega)] at hR; exact b1 hR.symm
 ·rw [if_pos (by omega)] at hR; exact b1 hR.symm
structure OpV where
 nm : List UInt8
 args : List Val
def OpV.d (o : OpV) : D := .agg [.str o.nm, .list (valsD o.args)]
def opsD (l : List OpV) : List D := l.map OpV.d
theorem opsD_length (l : List OpV) : (opsD l).length = l.length := by simp [opsD]
theorem opsD_snoc (l : List OpV) (o : OpV) : opsD (l ++ [o]) = opsD l ++ [.agg [.str o.nm, .list (valsD o.args)]] := by simp [opsD, OpV.d]
theorem valsD_snoc (l : List Val) (v : Val) : valsD (l ++ [v]) = valsD l ++ [v.d] := by simp [valsD_eq]
inductive RO where
 | ok (l : List OpV)
 | bad (e : Nat)
def opsF (s : List UInt8) : Nat → List OpV → List Val → Nat → RO
 | 0, _, _, _ => .bad 0
 | m + 1, l, args, at_ =>
  if s.length ≤ at_ then (if args = [] then .ok l else .bad 5)
  else if opMay (wordP s at_) = true then (if l.length = 2000 then .bad 2 else opsF s m (l ++ [⟨wordP s at_, args⟩]) [] (skipP s (at_ + (wordP s at_).length)))
  else match valueP s at_ with
   | .bad e => .bad e
   | .ok v k => if args.length = 8 then .bad 10 else opsF s m l (args ++ [v]) (skipP s k)
def opsP (s : List UInt8) : RO := if 20000 < s.length then .bad 2 else opsF s (s.length + 1) [] [] (skipP s 0)
def resOP : RO → Res
 | .ok l => .tup [.list (opsD l), .nil]
 | .bad e => .tup [.list [], errD e]
def resON : RO → Res
 | .ok l => .tup [.list (opsD l), .int .i64 0]
 | .bad e => .tup [.list [], .int .i64 e]
theorem valueP_in {s : List UInt8} {a n : Nat} {v : Val} (h : valueP s a = .ok v n) : a < n ∧ n ≤ s.length ∧ v.sm 1048576 = true := by
 unfold valueP at h
 split at h
 ·cases h
 ·rename_i hc
  have hg := readF_good s 8 (a : Int).toNat (by omega)
  split at h
  ·cases h
  ·rename_i x k hx
   rw [hx] at hg
   split at h
   ·cases h
    exact ⟨by have := hg.1; omega, hg.2.1, Val.sm_mono (by omega) v hg.2.2.1⟩
   ·cases h
theorem valueP_ne0 {s : List UInt8} {k : Int} {e : Nat} (h : valueP s k = .bad e) : 1 ≤ e := by
 unfold valueP at h
 split at h
 ·cases h; decide
 ·rename_i hc
  have hg := readF_good s 8 k.toNat (by omega)
  split at h
  ·rename_i e' hx
   cases h
   rw [hx] at hg
   exact hg.1
  ·split at h
   ·cases h
   ·rename_i hf; cases h; omega
theorem opMay_len {w : List UInt8} (h : opMay w = true) : 1 ≤ w.length ∧ w.length ≤ 8 := by
 unfold opMay at h
 simp only [Bool.and_eq_true, decide_eq_true_eq] at h
 exact ⟨by have := List.length_pos_iff.2 h.1; omega, h.2.1⟩
def L_ops_Parse : LCode :=
 .seq (.reg [⟨some 2, .nils 48 2, none⟩, Qx 3 (.k (.d .nil))]) (.seq (.seq (.reg [Qc 11 0, Q 12 (.len true (.t 11)), Q 13 (.bin .gtr (.t 12) (Ki 20000))]) (.cond (.t 13) (.seq (.reg 
 [Q 14 (.mkI 50 (Ki 2)), ⟨some 2, .nils 48 2, none⟩, Qa 3 14]) .ret) .skip)) (.seq (.reg [⟨some 4, .nils 48 2, none⟩]) (.seq (.reg [⟨some 5, .nils 41 5, none⟩]) (.seq (.seq (.reg 
 [Qc 15 0, ⟨some 16, .call 18 [.t 15, .k (.d (.int .i64 0))], none⟩, Qa 6 16]) (.block 0 (.loop (.seq (.seq (.reg [Qc 17 6, Qc 18 0, Q 19 (.len true (.t 18)), Q 20 (.bin .lss (.t 
 17) (.t 19))]) (.cond (.t 20) .skip (.exit 0))) (.seq (.block 1 (.seq (.reg [Qc 24 0, Qc 25 6, ⟨some 26, .call 19 [.t 24, .t 25], none⟩, Qa 7 26]) (.seq (.seq (.reg [Qc 27 7, 
 ⟨some 28, .call 20 [.t 27], none⟩]) (.cond (.t 28) (.seq (.seq (.reg [Qc 29 4, Q 30 (.len false (.t 29)), Q 31 (.bin .eql (.t 30) (Ki 2000))]) (.cond (.t 31) (.seq (.reg [Q 32 
 (.mkI 50 (Ki 2)), ⟨some 2, .nils 48 2, none⟩, Qa 3 32]) .ret) .skip)) (.seq (.reg [Qc 33 4, Qc 34 7, Qc 35 5, Q 36 (.bld [(0, 1), (1, 1)] [.str [], .list []] [] [(0, .t 34), (1, 
 .t 35)]), ⟨some 37, .bsl 48 2 [.t 36], none⟩, ⟨some 38, .app 48 2 40 false (.t 33) (.t 37), none⟩, Qa 4 38]) (.seq (.reg [⟨some 5, .nils 41 5, none⟩]) (.seq (.reg [Qc 39 6, Qc 40 
 7, Q 41 (.len true (.t 40)), Q 42 (.bin .add (.t 39) (.t 41)), Qa 6 42]) (.exit 1))))) .skip)) (.seq (.reg [Qc 44 0, Qc 45 6, ⟨some 46, .call 15 [.t 44, .t 45], none⟩, Qc 43 46, 
 Q 47 (.ext 0 (.t 43)), Q 48 (.ext 1 (.t 43)), Q 49 (.ext 2 (.t 43)), ⟨some 8, .allo [.int .i64 0, .int .i64 0, .str [], .list [], .list []], none⟩, ⟨none, .st 5 (.t 8) (.t 47), 
 none⟩, Qa 9 48, Qa 10 49]) (.seq (.seq (.reg [Qc 50 10, Q 51 (.eqN 0 true (.t 50))]) (.cond (.t 51) (.seq (.reg [Qc 52 10, ⟨some 2, .nils 48 2, none⟩, Qa 3 52]) .ret) .skip)) 
 (.seq (.seq (.reg [Qc 53 5, Q 54 (.len false (.t 53)), Q 55 (.bin .eql (.t 54) (Ki 8))]) (.cond (.t 55) (.seq (.reg [Q 56 (.mkI 50 (Ki 10)), ⟨some 2, .nils 48 2, none⟩, Qa 3 56]) 
 .ret) .skip)) (.seq (.reg [Qc 57 5, Q 58 (.ld true 5 (.t 8)), ⟨some 59, .bsl 41 5 [.t 58], none⟩, ⟨some 60, .app 41 5 80 false (.t 57) (.t 59), none⟩, Qa 5 60]) (.reg [Qc 61 9, 
 Qa 6 61])))))))) (.reg [Qc 21 0, Qc 22 6, ⟨some 23, .call 18 [.t 21, .t 22], none⟩, Qa 6 23])))))) (.seq (.seq (.reg [Qc 62 5, Q 63 (.len false (.t 62)), Q 64 (.bin .gtr (.t 63) 
 (Ki 0))]) (.cond (.t 64) (.seq (.reg [Q 65 (.mkI 50 (Ki 5)), ⟨some 2, .nils 48 2, none⟩, Qa 3 65]) .ret) .skip)) (.seq (.reg [Qc 66 4, Qa 2 66, Qx 3 (.k (.d .nil))]) .ret))))))
def R_ops_Parse : List LRes := [.tmp 2, .tmp 3]
theorem lift_ops_Parse : Lifts Tryz.prog 7 67 L_ops_Parse R_ops_Parse := ⟨_, _, Tryz.func7, rfl, by kernel_rfl, by kernel_rfl, rfl⟩
theorem opsParse_call (s : List UInt8) (hs : s.length ≤ 1000000000) : PCall Tryz.prog 7 [.str s] (fun r => r = resOP (opsP s)) := by
 generalize hR : opsP s = R
 unfold opsP at hR
 have bad : ∀ (e : Nat), R = .bad e → e ≠ 0 → Res.tup [.list [], .iface 50 (.int .i64 e)] = resOP R := fun e he h0 => by rw [he, resOP, errD_ne h0]
 refine lift_ops_Parse.call rfl ?_
 simp (maxSteps := 2000000) only [go_sem, ↓reduceIte, L_ops_Parse, R_ops_Parse]
 refine ⟨fun h1 => ?_, fun h1 => ?_⟩
 ·rw [if_pos (by omega)] at hR
  exact bad 2 hR.symm (by decide)
 ·have hsk := skip_call s 0 hs
  have hc0 : clampP s 0 = 0 := by unfold clampP; omega
  rw [hc0] at hsk
  rw [if_neg (by omega)] at hR
  refine CallG.of hsk ?_
  simp (maxSteps := 2000000) only [go_sem, ↓reduceIte]
  refine run_loop (fun y : Nat × List OpV × List Val => ⟨[(0, .d (.str s)), (4, .own (.t 4) 48 2 (opsD y.2.1)), (5, .own (.t 5) 41 5 (valsD y.2.2)), (6, .d (.int .i64 y.1))], [], []⟩)
   (fun y => y.1 ≤ s.length ∧ y.2.1.length ≤ 2000 ∧ y.2.2.length ≤ 8 ∧ (∀ v ∈ y.2.2, v.sm 1048576 = true) ∧ ∃ m, s.length - y.1 < m ∧ opsF s m y.2.1 y.2.2 y.1 = R) (fun y => s.length - y.1) (skipP s 0, [], []) ?_ ?_ ?_
  ·refine weak_mk ?_ trivial
   simp (maxSteps := 2000000) only [go_sem, ↓reduceIte, Sub, Int.natCast_add, Int.natCast_mul, opsD, valsD, List.map_nil]
  ·have := skipP_le (s := s) (k := 0) (by omega)
   exact ⟨this.2, by simp, by simp, by simp, s.length + 1, by simp; omega, hR⟩
  ·rintro ⟨at_, l, args⟩ ⟨g1, g2, g3, g4, m, g5, g6⟩
   simp only at g1 g2 g3 g4 g5 g6
   obtain ⟨m, rfl⟩ : ∃ k, m = k + 1 := ⟨m - 1, by omega⟩
   rw [opsF] at g6
   have hll := opsD_length l
   have hal : (valsD args).length = args.length := by simp [valsD_eq]
   have hw := word_call s (at_ : Int) hs
   rw [clamp_in g1] at hw
   have hwl := wordP_len s at_
   simp (maxSteps := 2000000) only [go_sem, ↓reduceIte]
   refine ⟨fun q1 => ?_, fun q1 => ?_⟩
   ·rw [if_neg (by omega)] at g6
    refine CallG.of hw ?_
    simp (maxSteps := 2000000) only [go_sem, ↓reduceIte]
    refine CallG.of (operator_call _) ?_
    simp (maxSteps := 2000000) (disch := omega) only [go_sem, ↓reduceIte]
    refine ⟨fun q2 => ⟨fun q3 => ?_, fun q3 => ⟨⟨by omega, by omega⟩, ?_⟩⟩, fun q2 => ?_⟩
    ·rw [if_pos q2, if_pos (by omega)] at g6
     exact bad 2 g6.symm (by decide)
    ·rw [if_pos q2, if_neg (by omega)] at g6
     have hml := opMay_len q2
     have hsk2 := skip_call s ((at_ + (wordP s at_).length : Nat) : Int) hs
     rw [clamp_in (by omega), Int.natCast_add] at hsk2
     refine CallG.of hsk2 ?_
     simp (maxSteps := 2000000) only [go_sem, ↓reduceIte]
     have hle := skipP_le (s := s) (k := at_ + (wordP s at_).length) (by omega)
     refine ⟨(skipP s (at_ + (wordP s at_).length), l ++ [⟨wordP s at_, args⟩], []), ?_, ⟨hle.2, by simp; omega, by simp, by simp, m, by simp only; omega, g6⟩, by simp only; omega⟩
     refine weak_mk ?_ trivial
     simp (maxSteps := 2000000) only [go_sem, ↓reduceIte, Sub, Int.natCast_add, Int.natCast_mul, opsD_snoc, valsD, List.map_nil]
    ·rw [if_neg (by simp [q2])] at g6
     have hv := valueTop_call s (at_ : Int) hs
     cases hx : valueP s (at_ : Int) with
     | bad e =>
      rw [hx] at g6 hv
      have he := valueP_ne0 hx
      rw [topP, zeroV_d, errD_ne (by omega)] at hv
      refine CallG.of hv ?_
      simp (maxSteps := 2000000) only [go_sem, ↓reduceIte]
      exact bad e g6.symm (by omega)
     | ok v k =>
      rw [hx] at g6 hv
      obtain ⟨e1, e2, e3⟩ := valueP_in hx
      rw [topP, Val.d_eq v] at hv
      refine CallG.of hv ?_
      simp (maxSteps := 2000000) (disch := omega) only [go_sem, ↓reduceIte]
      simp only at g6
      refine ⟨fun q3 => ?_, fun q3 => ⟨⟨by omega, by omega⟩, ?_⟩⟩
      ·rw [if_pos (by omega)] at g6
       exact bad 10 g6.symm (by decide)
      ·rw [if_neg (by omega)] at g6
       have hsk2 := skip_call s (k : Int) hs
       rw [clamp_in e2] at hsk2
       refine CallG.of hsk2 ?_
       simp (maxSteps := 2000000) only [go_sem, ↓reduceIte]
       have hle := skipP_le e2
       refine ⟨(skipP s k, l, args ++ [v]), ?_, ⟨hle.2, g2, by simp; omega, fun x hx => by
        rcases List.mem_append.1 hx with h | h
        ·exact g4 x h
        ·simp only [List.mem_singleton] at h; subst h; exact e3, m, by simp only; omega, g6⟩, by simp only; omega⟩
       refine weak_mk ?_ trivial
       simp (maxSteps := 2000000) only [go_sem, ↓reduceIte, Sub, Int.natCast_add, Int.natCast_mul, valsD_snoc, Val.d_eq v]
   ·rw [if_pos (by omega)] at g6
    refine ⟨fun q2 => ?_, fun q2 => ?_⟩
    ·rw [if_neg (fun e => by subst e; simp [valsD] at q2)] at g6
     exact bad 5 g6.symm (by decide)
    ·have : args = [] := List.length_eq_zero_iff.1 (by omega)
     rw [if_pos this] at g6
     rw [← g6, resOP]
mutual
def wtV (most : Int) : Val → Int
 | .mk _ _ s l f => wtF most f (wtL most l (IntKind.i64.wrap (1 + (s.length : Int))))
def wtL (most : Int) : List Val → Int → Int
 | [], n => n
 | v :: r, n => if n ≤ most then wtL most r (IntKind.i64.wrap (n + wtV most v)) else n
def wtF (most : Int) : List Fld → Int → Int
 | [], n => n
 | .mk nm v :: r, n => if n ≤ most then wtF most r (IntKind.i64.wrap (IntKind.i64.wrap (n + (nm.length : Int)) + wtV most v)) else n
end
theorem wtV_eq (most : Int) (v : Val) : wtV most v = wtF most v.f (wtL most v.l (IntKind.i64.wrap (1 + (v.s.length : Int)))) := by cases v; simp only [wtV, Val.s, Val.l, Val.f]
theorem wtF_cons (most : Int) (y : Fld) (r : List Fld) (n : Int) : wtF most (y :: r) n = if n ≤ most then wtF most r (IntKind.i64.wrap (IntKind.i64.wrap (n + (y.name.length : Int)) + wtV most y.v)) else n := by cases y; simp only [wtF, Fld.name, Fld.v]
theorem wtL_stop {most n : Int} (h : ¬ n ≤ most) : ∀ l, wtL most l n = n
 | [] => by simp only [wtL]
 | v :: r => by simp only [wtL, if_neg h]
theorem wtF_stop {most n : Int} (h : ¬ n ≤ most) (l : List Fld) : wtF most l n = n := by
 cases l with
 | nil => simp only [wtF]
 | cons y r => rw [wtF_cons, if_neg h]
def L_foliowrightlaw_weight : LCode :=
 .seq (.reg [⟨some 2, .box (.t 0), none⟩, Qx 4 (Ki 0)]) (.seq (.reg [Q 8 (.fa 2 (.t 2)), Q 9 (.ld false 1 (.t 8)), Q 10 (.len true (.t 9)), Q 11 (.bin .add (Ki 1) (.t 10)), Qa 5 
 11]) (.seq (.seq (.reg [Qx 6 (Ki 0)]) (.block 0 (.loop (.seq (.seq (.reg [Qc 12 6, Q 13 (.fa 3 (.t 2)), Q 14 (.ld false 1 (.t 13)), Q 15 (.len false (.t 14)), Q 16 (.bin .lss (.t 
 12) (.t 15)), Qc 17 16, Qd 18 5 17 true, Qd 19 1 17 true, Qg 20 (.bin .leq (.t 18) (.t 19)) 17 true, Q 21 (.pick (.t 17) (.t 20) KF)]) (.cond (.t 21) .skip (.exit 0))) (.seq 
 (.block 1 (.reg [Qc 24 5, Q 25 (.fa 3 (.t 2)), Q 26 (.ld false 1 (.t 25)), Qc 27 6, Q 28 (.ia 5 (.t 26) (.t 27)), Q 29 (.ld true 5 (.t 28)), Qc 30 1, ⟨some 31, .call 17 [.t 29, 
 .t 30], none⟩, Q 32 (.bin .add (.t 24) (.t 31)), Qa 5 32])) (.reg [Qc 22 6, Q 23 (.bin .add (.t 22) (Ki 1)), Qa 6 23])))))) (.seq (.seq (.reg [Qx 7 (Ki 0)]) (.block 2 (.loop 
 (.seq (.seq (.reg [Qc 33 7, Q 34 (.fa 4 (.t 2)), Q 35 (.ld false 1 (.t 34)), Q 36 (.len false (.t 35)), Q 37 (.bin .lss (.t 33) (.t 36)), Qc 38 37, Qd 39 5 38 true, Qd 40 1 38 
 true, Qg 41 (.bin .leq (.t 39) (.t 40)) 38 true, Q 42 (.pick (.t 38) (.t 41) KF)]) (.cond (.t 42) .skip (.exit 2))) (.seq (.block 3 (.dreg [Qc 45 5, Q 46 (.fa 4 (.t 2)), Q 47 
 (.ld false 1 (.t 46)), Qc 48 7, Q 49 (.ia 6 (.t 47) (.t 48)), Q 50 (.fa 0 (.t 49)), Q 51 (.ld false 1 (.t 50)), Q 52 (.len true (.t 51)), Q 53 (.bin .add (.t 45) (.t 52)), Q 54 
 (.fa 4 (.t 2)), Q 55 (.ld false 1 (.t 54)), Qc 56 7, Q 57 (.ia 6 (.t 55) (.t 56)), Q 58 (.fa 1 (.t 57)), Q 59 (.ld true 5 (.t 58)), Qc 60 1, ⟨some 61, .call 17 [.t 59, .t 60], 
 none⟩, Q 62 (.bin .add (.t 53) (.t 61)), Qa 5 62])) (.reg [Qc 43 7, Q 44 (.bin .add (.t 43) (Ki 1)), Qa 7 44])))))) (.seq (.reg [Qc 63 5, Qa 4 63]) .ret))))
def R_foliowrightlaw_weight : List LRes := [.tmp 4]
theorem lift_foliowrightlaw_weight : Lifts Tryz.prog 17 64 L_foliowrightlaw_weight R_foliowrightlaw_weight := ⟨_, _, Tryz.func17, rfl, by kernel_rfl, by kernel_rfl, rfl⟩
theorem weight_call : ∀ (m : Nat) (v : Val) (most : Int), SizeOf.sizeOf v ≤ m → v.sm 1048576 = true → PCall Tryz.prog 17 [v.d, .int .i64 most] (fun r => r = .one (.int .i64 (wtV most v))) := by
 intro m
 induction m with
 | zero => intro v most h; cases v; simp at h
 | succ m ih =>
  intro v most hv hsm
  obtain ⟨_, hll, hfl, hsl, hsf⟩ := Val.sm_iff.1 hsm
  have hvl := valsD_length v.l
  have hfl' := fldsD_length v.f
  generalize hR : wtV most v = R
  rw [wtV_eq] at hR
  rw [Val.d_eq]
  refine lift_foliowrightlaw_weight.call rfl ?_
  simp (maxSteps := 2000000) only [go_sem, ↓reduceIte, L_foliowrightlaw_weight, R_foliowrightlaw_weight]
  generalize IntKind.i64.wrap (1 + (v.s.length : Int)) = n0 at hR ⊢
  refine run_loop (fun y : Nat × Int => ⟨[(1, .d (.int .i64 most)), (2, .ptr (.l 2) 0), (5, .d (.int .i64 y.2)), (6, .d (.int .i64 y.1))],
    [(2, .cells [.d (.int .i64 v.kind), .d (.int .i64 v.n), .d (.str v.s), .d (.list (valsD v.l)), .d (.list (fldsD v.f))])], []⟩) (fun y => y.1 ≤ v.l.length ∧ wtF most v.f (wtL most (v.l.drop y.1) y.2) = R) (fun y => v.l.length - y.1) (0, n0) ?_ ⟨by simp, hR⟩ ?_
  ·refine Weak.mk ?_ ?_ ?_ <;> simp (maxSteps := 2000000) only [go_sem, ↓reduceIte, Sub, Int.natCast_add, Int.natCast_mul]
  ·rintro ⟨i, n⟩ ⟨hi, hF⟩
   simp only at hi hF
   simp (maxSteps := 2000000) only [go_sem, ↓reduceIte, hvl]
   refine ⟨fun hlt => ⟨fun hle => ?_, fun hgt => ?_⟩, fun hge => ?_⟩
   ·obtain ⟨x, hx⟩ := get_some (l := v.l) (i := i) (by omega)
    have hm := List.mem_of_getElem? hx
    have hc := ih x most (by have := size_l hm; omega) (hsl x hm)
    rw [Val.d_eq x] at hc
    rw [drop_at hx, wtL, if_pos hle] at hF
    simp (maxSteps := 2000000) (disch := omega) only [go_sem, ↓reduceIte, getI_nat, valsD_get, hx, Val.d_eq]
    first | refine CallG.of hc ?_ | refine CallD.of hc ?_
    simp (maxSteps := 2000000) (disch := omega) only [go_sem, ↓reduceIte]
    refine ⟨(i + 1, IntKind.i64.wrap (n + wtV most x)), ?_, ⟨by simp only; omega, hF⟩, by simp only; omega⟩
    refine Weak.mk ?_ ?_ ?_ <;> simp (maxSteps := 2000000) only [go_sem, ↓reduceIte, Sub, Int.natCast_add, Int.natCast_mul, hvl]
   ·rw [wtL_stop hgt] at hF
    refine run_loop (fun y : Nat × Int => ⟨[(1, .d (.int .i64 most)), (2, .ptr (.l 2) 0), (5, .d (.int .i64 y.2)), (7, .d (.int .i64 y.1))],
      [(2, .cells [.d (.int .i64 v.kind), .d (.int .i64 v.n), .d (.str v.s), .d (.list (valsD v.l)), .d (.list (fldsD v.f))])], []⟩) (fun y => y.1 ≤ v.f.length ∧ wtF most (v.f.drop y.1) y.2 = R) (fun y => v.f.length - y.1) (0, n) ?_ ⟨by simp, hF⟩ ?_
    ·refine Weak.mk ?_ ?_ ?_ <;> simp (maxSteps := 2000000) only [go_sem, ↓reduceIte, Sub, Int.natCast_add, Int.natCast_mul]
    ·rintro ⟨j, n2⟩ ⟨hj, hG⟩
     simp only at hj hG
     simp (maxSteps := 2000000) only [go_sem, ↓reduceIte, hfl']
     refine ⟨fun hlt2 => ⟨fun hle2 => ?_, fun hgt2 => ?_⟩, fun hge2 => ?_⟩
     ·obtain ⟨y, hy⟩ := get_some (l := v.f) (i := j) (by omega)
      have hm := List.mem_of_getElem? hy
      have hc := ih y.v most (by have := size_f hm; omega) (Fld.sm_iff.1 (hsf y hm)).2
      rw [Val.d_eq y.v] at hc
      rw [drop_at hy, wtF_cons, if_pos hle2] at hG
      simp (maxSteps := 2000000) (disch := omega) only [go_sem, ↓reduceIte, getI_nat, fldsD_get, hy, Fld.d_eq]
      refine CallD.of hc ?_
      simp (maxSteps := 2000000) (disch := omega) only [go_sem, ↓reduceIte, getI_nat, fldsD_get, hy, Fld.d_eq]
      refine ⟨(j + 1, IntKind.i64.wrap (IntKind.i64.wrap (n2 + (y.name.length : Int)) + wtV most y.v)), ?_, ⟨by simp only; omega, hG⟩, by simp only; omega⟩
      refine Weak.mk ?_ ?_ ?_ <;> simp (maxSteps := 2000000) only [go_sem, ↓reduceIte, Sub, Int.natCast_add, Int.natCast_mul]
     ·rw [wtF_stop hgt2] at hG; rw [hG]
     ·rw [List.drop_eq_nil_of_le (by omega), wtF] at hG; rw [hG]
   ·rw [List.drop_eq_nil_of_le (by omega), wtL] at hF
    refine run_loop (fun y : Nat × Int => ⟨[(1, .d (.int .i64 most)), (2, .ptr (.l 2) 0), (5, .d (.int .i64 y.2)), (7, .d (.int .i64 y.1))],
      [(2, .cells [.d (.int .i64 v.kind), .d (.int .i64 v.n), .d (.str v.s), .d (.list (valsD v.l)), .d (.list (fldsD v.f))])], []⟩) (fun y => y.1 ≤ v.f.length ∧ wtF most (v.f.drop y.1) y.2 = R) (fun y => v.f.length - y.1) (0, n) ?_ ⟨by simp, hF⟩ ?_
    ·refine Weak.mk ?_ ?_ ?_ <;> simp (maxSteps := 2000000) only [go_sem, ↓reduceIte, Sub, Int.natCast_add, Int.natCast_mul]
    ·rintro ⟨j, n2⟩ ⟨hj, hG⟩
     simp only at hj hG
     simp (maxSteps := 2000000) only [go_sem, ↓reduceIte, hfl']
     refine ⟨fun hlt2 => ⟨fun hle2 => ?_, fun hgt2 => ?_⟩, fun hge2 => ?_⟩
     ·obtain ⟨y, hy⟩ := get_some (l := v.f) (i := j) (by omega)
      have hm := List.mem_of_getElem? hy
      have hc := ih y.v most (by have := size_f hm; omega) (Fld.sm_iff.1 (hsf y hm)).2
      rw [Val.d_eq y.v] at hc
      rw [drop_at hy, wtF_cons, if_pos hle2] at hG
      simp (maxSteps := 2000000) (disch := omega) only [go_sem, ↓reduceIte, getI_nat, fldsD_get, hy, Fld.d_eq]
      refine CallD.of hc ?_
      simp (maxSteps := 2000000) (disch := omega) only [go_sem, ↓reduceIte, getI_nat, fldsD_get, hy, Fld.d_eq]
      refine ⟨(j + 1, IntKind.i64.wrap (IntKind.i64.wrap (n2 + (y.name.length : Int)) + wtV most y.v)), ?_, ⟨by simp only; omega, hG⟩, by simp only; omega⟩
      refine Weak.mk ?_ ?_ ?_ <;> simp (maxSteps := 2000000) only [go_sem, ↓reduceIte, Sub, Int.natCast_add, Int.natCast_mul]
     ·rw [wtF_stop hgt2] at hG; rw [hG]
     ·rw [List.drop_eq_nil_of_le (by omega), wtF] at hG; rw [hG]
section
variable {p s : List UInt8}
end
theorem readF_skip {s : List UInt8} {a b : Nat} (h : skipP s a = skipP s b) : ∀ d, readF d s a = readF d s b
 | 0 => by rw [readF, readF, h]
 | d + 1 => by rw [readF, readF, h]
end Go.Av.Tryz
