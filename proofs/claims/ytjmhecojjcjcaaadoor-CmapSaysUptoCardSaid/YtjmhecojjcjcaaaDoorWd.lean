import Derived.Test.YtjmhecojjcjcaaaDoorWc
import Derived.Test.YtjmhecojjcjcaaaDoorWa
import Derived.Test.YtjmhecojjcjcaaaDoorWb
import Derived.Test.YtjmhecojjcjcaaaDoorAvG
set_option linter.unusedSimpArgs false
set_option maxRecDepth 100000
namespace Go.Av.Tryd
open Go.Proofs
def mapsS : List UInt8 := [98, 101, 103, 105, 110, 99, 111, 100, 101, 115, 112, 97, 99, 101, 114, 97, 110, 103, 101, 32, 60, 48, 48, 62, 32, 60, 70, 70, 62, 32, 101, 110, 100, 99, 111, 100, 101, 115, 112, 97, 99, 101, 114, 97, 110, 103, 101, 32, 98, 101, 103, 105, 110, 98, 102, 99, 104, 97, 114, 32, 60, 52, 49, 62, 32, 60, 48, 48, 52, 50, 62, 32, 101, 110, 100, 98, 102, 99, 104, 97, 114]
theorem mapsR : spansD (parseF mapsS).1 = [.agg [.int .i64 65, .int .i64 65, .str [66]]] ∧ (parseF mapsS).2 = (false, 0) := by
 constructor <;> kernel_rfl
def L_foliowrightlaw_maps : LCode :=
 .seq (.reg [Qx 0 KF]) (.seq (.reg [⟨some 5, .call 17 [.k (.d (.str [98, 101, 103, 105, 110, 99, 111, 100, 101, 115, 112, 97, 99, 101, 114, 97, 110, 103, 101, 32, 60, 48, 48, 62, 
 32, 60, 70, 70, 62, 32, 101, 110, 100, 99, 111, 100, 101, 115, 112, 97, 99, 101, 114, 97, 110, 103, 101, 32, 98, 101, 103, 105, 110, 98, 102, 99, 104, 97, 114, 32, 60, 52, 49, 
 62, 32, 60, 48, 48, 52, 50, 62, 32, 101, 110, 100, 98, 102, 99, 104, 97, 114]))], none⟩, Qc 4 5, Q 6 (.ext 0 (.t 4)), Q 7 (.ext 1 (.t 4)), Q 8 (.ext 2 (.t 4)), Qa 1 6, Qa 2 7, Qa 
 3 8]) (.seq (.reg [Qc 9 3, ⟨some 10, .call 14 [.t 9, .k (.d (.int .i64 0))], none⟩, Qc 11 10, Qd 12 2 11 true, Qg 13 (.not (.t 12)) 11 true, Q 14 (.pick (.t 11) (.t 13) KF), Qc 
 15 14, Qd 16 1 15 true, Qg 17 (.len false (.t 16)) 15 true, Qg 18 (.bin .eql (.t 17) (Ki 1)) 15 true, Q 19 (.pick (.t 15) (.t 18) KF), Qc 20 19, Qd 21 1 20 true, Qg 22 (.ia 3 (.t 
 21) (Ki 0)) 20 true, Qg 23 (.ld true 3 (.t 22)) 20 true, Qg 24 (.bld [(0, 1), (1, 1), (2, 1)] [.int .i64 0, .int .i64 0, .str []] [] [(0, .k (.d (.int .i64 65))), (1, .k (.d 
 (.int .i64 65))), (2, .k (.d (.str [66])))]) 20 true, Qg 25 (.eqS false [0, 0, 2] (.t 23) (.t 24)) 20 true, Q 26 (.pick (.t 20) (.t 25) KF), Qa 0 26]) .ret))
def R_foliowrightlaw_maps : List LRes := [.tmp 0]
theorem lift_foliowrightlaw_maps : Lifts Tryd.prog 16 27 L_foliowrightlaw_maps R_foliowrightlaw_maps := ⟨_, _, Tryd.func16, rfl, by kernel_rfl, by kernel_rfl, rfl⟩
theorem maps_call : PCall Tryd.prog 16 [] (fun r => r = .one (.bool true)) := by
 have h := parse_call mapsS (by decide)
 rw [mapsR.1, mapsR.2] at h
 have hs := same_law 0 0
 refine lift_foliowrightlaw_maps.call rfl ?_
 simp (maxSteps := 2000000) only [go_sem, ↓reduceIte, L_foliowrightlaw_maps, R_foliowrightlaw_maps]
 refine CallG.of h ?_
 simp (maxSteps := 2000000) only [go_sem, ↓reduceIte]
 refine CallG.of hs ?_
 have g0 : getI [D.agg [D.int .i64 65, D.int .i64 65, D.str [66]]] 0 = some (.agg [D.int .i64 65, D.int .i64 65, D.str [66]]) := rfl
 simp (maxSteps := 2000000) only [go_sem, ↓reduceIte, g0]
def sixteenL : List UInt8 := [48, 49, 50, 51, 52, 53, 54, 55, 56, 57, 65, 66, 67, 68, 69, 70]
def dig (n : Nat) : UInt8 := sixteenL.getD (n % 16) 48
def hexN : Nat → Nat → List UInt8
 | 0, _ => []
 | d + 1, n => hexN d (n / 16) ++ [dig n]
theorem hexN_length : ∀ (d n : Nat), (hexN d n).length = d
 | 0, _ => rfl
 | d + 1, n => by rw [hexN, List.length_append, hexN_length d]; rfl
theorem hexN_cons : ∀ (i n : Nat), hexN (i + 1) n = dig (n / 16 ^ i) :: hexN i n
 | 0, n => by simp [hexN]
 | i + 1, n => by
  rw [hexN, hexN_cons i, Nat.div_div_eq_div_mul, Nat.mul_comm, ← Nat.pow_succ]
  rfl
theorem dig_get (n : Nat) : sixteenL[n % 16]? = some (dig n) := by
 have h : n % 16 < sixteenL.length := Nat.mod_lt _ (by decide)
 rw [List.getElem?_eq_getElem h, dig, List.getD_eq_getElem?_getD, List.getElem?_eq_getElem h]; rfl
theorem dig_asc (n : Nat) : (dig n).toNat < 128 := by
 have : ∀ k : Fin 16, (sixteenL.getD k.val 48).toNat < 128 := by decide
 exact this ⟨n % 16, Nat.mod_lt _ (by decide)⟩
theorem and15 (n : Nat) (h : n ≤ 1048575) : IntKind.i64.wrap (((BitVec.ofInt IntKind.i64.bits (n : Int) &&& BitVec.ofInt IntKind.i64.bits 15).toNat : Nat) : Int) = ((n % 16 : Nat) : Int) := by
 have e : (BitVec.ofInt IntKind.i64.bits (n : Int) &&& BitVec.ofInt IntKind.i64.bits 15).toNat = n % 16 := by
  show (BitVec.ofInt 64 (n : Int) &&& BitVec.ofInt 64 15).toNat = n % 16
  rw [BitVec.toNat_and, show (BitVec.ofInt 64 15).toNat = 2 ^ 4 - 1 from rfl, Nat.and_two_pow_sub_one_eq_mod]
  rw [show (BitVec.ofInt 64 (n : Int)).toNat = n by
   rw [BitVec.toNat_ofInt]
   omega]
 rw [e, IntKind.wrap_i64]
 omega
theorem fdk (n k : Nat) : (n : Int).fdiv ((2 ^ k : Nat) : Int) = ((n / 2 ^ k : Nat) : Int) := by rw [Int.fdiv_eq_ediv_of_nonneg _ (by exact Int.natCast_nonneg _)]; rfl
def L_cmap_hexed : LCode :=
 .seq (.reg [Qx 4 (.k (.d (.str [])))]) (.seq (.reg [Qx 5 (.k (.d (.str [])))]) (.seq (.seq (.reg [Qc 7 1, Q 8 (.bin .mul (Ki 2) (.t 7)), Q 9 (.bin .sub (.t 8) (Ki 1)), Qa 6 9]) 
 (.block 0 (.loop (.seq (.seq (.reg [Qc 10 6, Q 11 (.bin .geq (.t 10) (Ki 0))]) (.cond (.t 11) .skip (.exit 0))) (.seq (.block 1 (.reg [Qc 14 5, Qc 15 0, Qc 16 6, Q 17 (.bin .mul 
 (Ki 4) (.t 16)), Q 18 (.bin .shr (.t 15) (.t 17)), Q 19 (.bin .and (.t 18) (Ki 15)), Q 20 (.idxS (.k (.d (.str [48, 49, 50, 51, 52, 53, 54, 55, 56, 57, 65, 66, 67, 68, 69, 70]))) 
 (.t 19)), Q 21 (.cvI .i32 (.t 20)), Q 22 (.i2s (.t 21)), Q 23 (.bin .add (.t 14) (.t 22)), Qa 5 23])) (.reg [Qc 12 6, Q 13 (.bin .sub (.t 12) (Ki 1)), Qa 6 13])))))) (.seq (.reg 
 [Qc 24 5, Q 25 (.bin .add (.k (.d (.str [60]))) (.t 24)), Q 26 (.bin .add (.t 25) (.k (.d (.str [62])))), Qa 4 26]) .ret)))
def R_cmap_hexed : List LRes := [.tmp 4]
theorem lift_cmap_hexed : Lifts Tryd.prog 49 27 L_cmap_hexed R_cmap_hexed := ⟨_, _, Tryd.func49, rfl, by kernel_rfl, by kernel_rfl, rfl⟩
theorem hexedP (n b : Nat) (h : n ≤ 65535) (hb : b ≤ 2) : PCall Tryd.prog 49 [.int .i64 n, .int .i64 b] (fun r => r = .one (.str (60 :: hexN (2 * b) n ++ [62]))) := by
 refine lift_cmap_hexed.call rfl ?_
 simp (maxSteps := 2000000) (disch := omega) only [go_sem, ↓reduceIte, L_cmap_hexed, R_cmap_hexed]
 refine run_loop (fun m : Nat => ⟨[(0, .d (.int .i64 n)), (4, .d (.str [])), (5, .d (.str (hexN (2 * b - m) (n / 16 ^ m)))), (6, .d (.int .i64 ((m : Int) - 1)))], [], []⟩) (fun m => m ≤ 2 * b) (fun m => m) (2 * b) ?_ (Nat.le_refl _) ?_
 ·refine Weak.mk ?_ ?_ ?_ <;> simp (maxSteps := 2000000) only [go_sem, ↓reduceIte, Sub, Int.natCast_add, Int.natCast_mul, Nat.sub_self, hexN]
  all_goals first | done | rfl
 ·intro m hm
  rcases Nat.eq_zero_or_pos m with h0 | h0
  ·subst h0
   have hl := hexN_length (2 * b - 0) (n / 16 ^ 0)
   simp (maxSteps := 2000000) only [go_sem, ↓reduceIte]
   refine ⟨by omega, by omega, ?_⟩
   simp
  ·have zc : (0 ≤ (m : Int) - 1) = True := eq_true (by omega)
   obtain ⟨k, rfl⟩ : ∃ k, m = k + 1 := ⟨m - 1, by omega⟩
   have hk : ((k + 1 : Nat) : Int) - 1 = (k : Int) := by omega
   have hn : n / 16 ^ k ≤ 1048575 := Nat.le_trans (Nat.div_le_self _ _) (by omega)
   have zs : (4 * (k : Int) < 0) = False := eq_false (by omega)
   have hsh : (n : Int).fdiv (2 ^ min (4 * (k : Int)).toNat 64) = ((n / 16 ^ k : Nat) : Int) := by
    have e : min (4 * (k : Int)).toNat 64 = 4 * k := by omega
    rw [e, show (16 : Nat) ^ k = 2 ^ (4 * k) by rw [Nat.pow_mul], ← fdk]
    rfl
   have hd := dig_get (n / 16 ^ k)
   have hgi : getI [48, 49, 50, 51, 52, 53, 54, 55, 56, 57, 65, 66, 67, 68, 69, 70] ((n / 16 ^ k % 16 : Nat) : Int) = some (dig (n / 16 ^ k)) := by rw [getI_nat]; exact hd
   have ha := dig_asc (n / 16 ^ k)
   have hen := encode_asc ha
   have hl := hexN_length (2 * b - (k + 1)) (n / 16 ^ (k + 1))
   have hst : hexN (2 * b - (k + 1)) (n / 16 ^ (k + 1)) ++ [dig (n / 16 ^ k)] = hexN (2 * b - k) (n / 16 ^ k) := by
    rw [show 2 * b - k = (2 * b - (k + 1)) + 1 by omega, hexN, Nat.div_div_eq_div_mul, ← Nat.pow_succ]
   have h32 : IntKind.i32.wrap ((dig (n / 16 ^ k)).toNat : Int) = ((dig (n / 16 ^ k)).toNat : Int) := by rw [IntWalk.i32_in _ (by omega)]
   rw [hk] at zc ⊢
   have h15 := and15 _ hn
   simp only [IntKind.bits] at h15
   simp (maxSteps := 2000000) (disch := omega) only [go_sem, ↓reduceIte, zc, zs, hsh, h15, hgi, h32, hen, hst]
   refine ⟨by omega, k, ?_, by omega, by omega⟩
   refine Weak.mk ?_ ?_ ?_ <;> simp (maxSteps := 2000000) only [go_sem, ↓reduceIte, Sub, Int.natCast_add, Int.natCast_mul]
def L_foliowrightref_hexed : LCode :=
 .seq (.reg [Qx 4 (.k (.d (.str [])))]) (.seq (.reg [Qx 5 (.k (.d (.str [])))]) (.seq (.seq (.reg [Qx 6 (Ki 0)]) (.block 0 (.loop (.seq (.seq (.reg [Qc 7 6, Qc 8 1, Q 9 (.bin .mul 
 (Ki 2) (.t 8)), Q 10 (.bin .lss (.t 7) (.t 9))]) (.cond (.t 10) .skip (.exit 0))) (.seq (.block 1 (.seq (.reg [Qc 13 0, Q 14 (.bin .rem (.t 13) (Ki 16)), Q 15 (.idxS (.k (.d 
 (.str [48, 49, 50, 51, 52, 53, 54, 55, 56, 57, 65, 66, 67, 68, 69, 70]))) (.t 14)), ⟨some 16, .bsl 5 1 [.t 15], none⟩, Q 17 (.b2s (.t 16)), Qc 18 5, Q 19 (.bin .add (.t 17) (.t 
 18)), Qa 5 19]) (.reg [Qc 20 0, Q 21 (.bin .quo (.t 20) (Ki 16)), Qa 0 21]))) (.reg [Qc 11 6, Q 12 (.bin .add (.t 11) (Ki 1)), Qa 6 12])))))) (.seq (.reg [Qc 22 5, Qa 4 22]) 
 .ret)))
def R_foliowrightref_hexed : List LRes := [.tmp 4]
theorem lift_foliowrightref_hexed : Lifts Tryd.prog 54 23 L_foliowrightref_hexed R_foliowrightref_hexed := ⟨_, _, Tryd.func54, rfl, by kernel_rfl, by kernel_rfl, rfl⟩
theorem hexedR (n b : Nat) (h : n ≤ 65535) (hb : b ≤ 2) : PCall Tryd.prog 54 [.int .i64 n, .int .i64 b] (fun r => r = .one (.str (hexN (2 * b) n))) := by
 refine lift_foliowrightref_hexed.call rfl ?_
 simp (maxSteps := 2000000) only [go_sem, ↓reduceIte, L_foliowrightref_hexed, R_foliowrightref_hexed]
 refine run_loop (fun i : Nat => ⟨[(0, .d (.int .i64 (n / 16 ^ i : Nat))), (1, .d (.int .i64 b)), (4, .d (.str [])), (5, .d (.str (hexN i n))), (6, .d (.int .i64 i))], [], []⟩) (fun i => i ≤ 2 * b) (fun i => 2 * b - i) 0 ?_ (Nat.zero_le _) ?_
 ·refine Weak.mk ?_ ?_ ?_ <;> simp (maxSteps := 2000000) only [go_sem, ↓reduceIte, Sub, Int.natCast_add, Int.natCast_mul, hexN]
  all_goals first | done | simp
 ·intro i hi
  have hd := dig_get (n / 16 ^ i)
  have hgi : getI [48, 49, 50, 51, 52, 53, 54, 55, 56, 57, 65, 66, 67, 68, 69, 70] (((n / 16 ^ i : Nat) : Int).tmod 16) = some (dig (n / 16 ^ i)) := by rw [show ((n / 16 ^ i : Nat) : Int).tmod 16 = ((n / 16 ^ i % 16 : Nat) : Int) from rfl, getI_nat]; exact hd
  have hdd : ((n / 16 ^ i : Nat) : Int).tdiv 16 = ((n / 16 ^ (i + 1) : Nat) : Int) := by
   rw [show n / 16 ^ (i + 1) = n / 16 ^ i / 16 by rw [Nat.div_div_eq_div_mul, ← Nat.pow_succ]]; rfl
  have hn : n / 16 ^ (i + 1) ≤ 65535 := Nat.le_trans (Nat.div_le_self _ _) h
  have hl := hexN_length i n
  have hbo : bytesOf [D.int .u8 ((dig (n / 16 ^ i)).toNat : Int)] = some [dig (n / 16 ^ i)] := bytesOf_bytesD [dig (n / 16 ^ i)]
  have hst : dig (n / 16 ^ i) :: hexN i n = hexN (i + 1) n := (hexN_cons i n).symm
  have hw : IntKind.i64.wrap ((n / 16 ^ (i + 1) : Nat) : Int) = ((n / 16 ^ (i + 1) : Nat) : Int) := by
   generalize n / 16 ^ (i + 1) = x at *
   rw [IntKind.wrap_i64]; omega
  simp (maxSteps := 2000000) (disch := omega) only [go_sem, ↓reduceIte, hgi, hdd, hbo, hst]
  refine ⟨fun hlt => ?_, fun hge => ?_⟩
  ·refine ⟨by omega, i + 1, ?_, by omega, by omega⟩
   refine Weak.mk ?_ ?_ ?_ <;> simp (maxSteps := 2000000) only [go_sem, ↓reduceIte, Sub, Int.natCast_add, Int.natCast_mul]
   rw [hw]
  ·rw [show i = 2 * b by omega]
end Go.Av.Tryd
set_option linter.unusedSimpArgs false
set_option maxRecDepth 100000
set_option maxHeartbeats 2000000
namespace Go.Av.Tryd
open Go.Proofs
def unitsL (c : Nat) : List Nat := if c < 65536 then [c] else [55296 + (c - 65536) / 1024, 56320 + (c - 65536) % 1024]
def unitsH (rs : List Nat) : List UInt8 := rs.flatMap fun c => (unitsL c).flatMap (hexN 4)
theorem unitsL_le {c : Nat} (h : vrune c) : ∀ u ∈ unitsL c, u ≤ 65535 := by
 unfold vrune at h
 unfold unitsL
 split
 ·intro u hu; rw [List.mem_singleton.1 hu]; omega
 ·intro u hu
  simp only [List.mem_cons, List.not_mem_nil, or_false] at hu
  rcases hu with hu | hu <;> (rw [hu]; omega)
theorem unitsL_len (c : Nat) : (unitsL c).length ≤ 2 := by unfold unitsL; split <;> simp
theorem hexs_len : ∀ (l : List Nat), (l.flatMap (hexN 4)).length = 4 * l.length
 | [] => rfl
 | a :: l => by rw [List.flatMap_cons, List.length_append, hexN_length, hexs_len l, List.length_cons]; omega
theorem unitsH_len : ∀ (rs : List Nat), (unitsH rs).length ≤ 8 * rs.length
 | [] => by simp [unitsH]
 | c :: rs => by
  have h1 := unitsH_len rs
  have h2 := unitsL_len c
  have e : unitsH (c :: rs) = (unitsL c).flatMap (hexN 4) ++ unitsH rs := rfl
  rw [e, List.length_append, hexs_len, List.length_cons]; omega
theorem and1023 (n : Nat) (h : n ≤ 1048575) : IntKind.i64.wrap (((BitVec.ofInt IntKind.i64.bits (n : Int) &&& BitVec.ofInt IntKind.i64.bits 1023).toNat : Nat) : Int) = ((n % 1024 : Nat) : Int) := by
 have e : (BitVec.ofInt IntKind.i64.bits (n : Int) &&& BitVec.ofInt IntKind.i64.bits 1023).toNat = n % 1024 := by
  show (BitVec.ofInt 64 (n : Int) &&& BitVec.ofInt 64 1023).toNat = n % 1024
  rw [BitVec.toNat_and, show (BitVec.ofInt 64 1023).toNat = 2 ^ 10 - 1 from rfl, Nat.and_two_pow_sub_one_eq_mod]
  rw [show (BitVec.ofInt 64 (n : Int)).toNat = n by
   rw [BitVec.toNat_ofInt]
   omega]
 rw [e, IntKind.wrap_i64]
 omega
def L_cmap_unitsOf : LCode :=
 .seq (.reg [⟨some 2, .nils 3 1, none⟩]) (.seq (.reg [Qc 4 0, Q 5 (.cvI .i64 (.t 4)), Qa 3 5]) (.seq (.seq (.reg [Qc 6 3, Q 7 (.bin .lss (.t 6) (Ki 65536))]) (.cond (.t 7) (.seq 
 (.reg [Qc 8 3, ⟨some 9, .bsl 3 1 [.t 8], none⟩, Qa 2 9]) .ret) .skip)) (.seq (.reg [Qc 10 3, Q 11 (.bin .sub (.t 10) (Ki 65536)), Qa 3 11]) (.seq (.reg [Qc 12 3, Q 13 (.bin .shr 
 (.t 12) (.k (.d (.int .u64 10)))), Q 14 (.bin .add (Ki 55296) (.t 13)), Qc 15 3, Q 16 (.bin .and (.t 15) (Ki 1023)), Q 17 (.bin .add (Ki 56320) (.t 16)), ⟨some 18, .bsl 3 1 [.t 
 14, .t 17], none⟩, Qa 2 18]) .ret))))
def R_cmap_unitsOf : List LRes := [.tmp 2]
theorem lift_cmap_unitsOf : Lifts Tryd.prog 69 19 L_cmap_unitsOf R_cmap_unitsOf := ⟨_, _, Tryd.func69, rfl, by kernel_rfl, by kernel_rfl, rfl⟩
theorem unitsOf_call {c : Nat} (h : vrune c) : PCall Tryd.prog 69 [.int .i32 c] (fun r => r = .one (.list (natsU (unitsL c)))) := by
 have hv := h
 unfold vrune at h
 unfold unitsL
 refine lift_cmap_unitsOf.call rfl ?_
 by_cases h1 : c < 65536
 ·rw [if_pos h1]
  have z : ((c : Int) < 65536) = True := eq_true (by omega)
  simp (maxSteps := 2000000) (disch := omega) only [go_sem, ↓reduceIte, L_cmap_unitsOf, R_cmap_unitsOf, z, natsU]
  first | done | rfl
 ·rw [if_neg h1]
  obtain ⟨n, rfl⟩ : ∃ n, c = n + 65536 := ⟨c - 65536, by omega⟩
  have z : (((n + 65536 : Nat) : Int) < 65536) = False := eq_false (by omega)
  have hs : ((n + 65536 : Nat) : Int) - 65536 = (n : Int) := by omega
  have hsh : (n : Int).fdiv (2 ^ min 10 64) = ((n / 1024 : Nat) : Int) := fdk n 10
  have h10 := and1023 n (by omega)
  simp only [IntKind.bits] at h10
  simp (maxSteps := 2000000) (disch := omega) only [go_sem, ↓reduceIte, L_cmap_unitsOf, R_cmap_unitsOf, z, hs, hsh, h10, natsU]
  rfl
theorem encM_ge : ∀ {l : List Nat}, (∀ r ∈ l, vrune r) → l.length ≤ (encM l).length
 | [], _ => by simp [encM]
 | r :: l, h => by
  have h1 := encM_ge (l := l) (fun x hx => h x (by simp [hx]))
  have h2 := (enc_len (h r (by simp))).1
  have e : encM (r :: l) = enc r ++ encM l := rfl
  rw [e, List.length_append, List.length_cons]; omega
theorem runeAt_enc {c : Nat} (h : vrune c) (a b : List UInt8) : runeAt (a ++ (enc c ++ b)) a.length = (c, (enc c).length) := by
 have h1 := Lib.decodeL_drop ⟨(a ++ (enc c ++ b)).toArray⟩ a.length
 unfold runeAt
 rw [← h1]
 show Lib.decodeL ((a ++ (enc c ++ b)).drop a.length) = _
 rw [List.drop_left, decode_enc h]
def L_cmap_units : LCode :=
 .seq (.reg [Qx 2 (.k (.d (.str [])))]) (.seq (.reg [⟨some 3, .allo [.nilpT 92, .list []], none⟩]) (.seq (.reg [⟨some 9, .prim .call [.k (.fn (.func 68) [] []), .t 3, .k (.d (.int 
 .u8 60))] [], none⟩]) (.seq (.seq (.reg [Qc 10 0, ⟨some 11, .prim (.range 9) [.t 10] [], none⟩]) (.block 0 (.loop (.seq (.reg [⟨some 12, .prim (.next true 0) [.t 11] [], none⟩, Q 
 13 (.ext 0 (.t 12))]) (.seq (.cond (.t 13) .skip (.exit 0)) (.block 1 (.seq (.reg [Q 14 (.ext 2 (.t 12)), Qa 5 14]) (.seq (.reg [Qc 15 5, ⟨some 16, .call 69 [.t 15], none⟩, Q 17 
 (.len false (.t 16)), Q 18 (.cp (Ki 0))]) (.block 2 (.loop (.seq (.reg [Q 19 (.bin .lss (.t 18) (.t 17))]) (.seq (.cond (.t 19) .skip (.exit 2)) (.seq (.block 3 (.seq (.reg [Q 20 
 (.ia 1 (.t 16) (.t 18)), Q 21 (.ld false 1 (.t 20)), Qa 7 21]) (.seq (.reg [Qc 22 7, ⟨some 23, .call 49 [.t 22, .k (.d (.int .i64 2))], none⟩, Qa 8 23]) (.reg [Qc 24 8, Q 25 
 (.subS (.t 24) (some (Ki 1)) (some (Ki 5))), ⟨some 26, .prim .call [.k (.fn (.func 48) [] []), .t 3, .t 25] [], none⟩])))) (.reg [Q 27 (.bin .add (.t 18) (Ki 1)), Qc 18 
 27])))))))))))))) (.seq (.reg [⟨some 28, .prim .call [.k (.fn (.func 68) [] []), .t 3, .k (.d (.int .u8 62))] [], none⟩]) (.seq (.reg [⟨some 29, .prim .call [.k (.fn (.func 51) 
 [] []), .t 3] [], none⟩, Qa 2 29]) .ret)))))
def R_cmap_units : List LRes := [.tmp 2]
theorem lift_cmap_units : Lifts Tryd.prog 50 30 L_cmap_units R_cmap_units := ⟨_, _, Tryd.func50, rfl, by kernel_rfl, by kernel_rfl, rfl⟩
theorem units_call (s : List UInt8) {rs : List Nat} (hrs : runesM s = some rs) (hs : s.length ≤ 1000000) : PCall Tryd.prog 50 [.str s] (fun r => r = .one (.str (60 :: unitsH rs ++ [62]))) := by
 obtain ⟨e1, e2⟩ := runesM_enc s.length (Nat.le_refl _) hrs
 refine lift_cmap_units.call rfl ?_
 simp (maxSteps := 2000000) only [go_sem, ↓reduceIte, L_cmap_units, R_cmap_units]
 have h1 := writeByte_at .new 60 (by simp [Bld.bytes])
 refine bldCall (.l 3) rfl (h1) rfl rfl rfl rfl ?_
 simp (maxSteps := 2000000) only [go_sem, ↓reduceIte]
 refine PrimG.rangeStr rfl (by kernel_rfl) ?_
 simp (maxSteps := 2000000) only [go_sem, ↓reduceIte, Bld.at, Bld.bytes]
 refine run_loop (fun y : List Nat × List Nat => ⟨[(3, .ptr (.l 3) 0), (11, .ptr (.l 11) 0)], [(3, .cells [.ptr (.l 3) 0, .own (.c (.l 3) 1) 5 1 (bytesD (60 :: unitsH y.1))]), (11, .siter s (encM y.1).length)], []⟩)
  (fun y => y.1 ++ y.2 = rs) (fun y => y.2.length) ([], rs) ?_ rfl ?_
 ·refine Weak.mk ?_ ?_ ?_ <;> simp (maxSteps := 2000000) only [go_sem, ↓reduceIte, Sub, Int.natCast_add, Int.natCast_mul, unitsH, encM]
  exact ⟨rfl, rfl⟩
 ·rintro ⟨pre, rest⟩ hpr
  simp only at hpr
  have hul := unitsH_len pre
  have hrl : rs.length ≤ s.length := by
   rw [← e1]
   exact encM_ge e2
  have hpl : pre.length ≤ rs.length := by rw [← hpr, List.length_append]; omega
  have hs2 : s = encM pre ++ encM rest := by rw [← e1, ← hpr, encM_append]
  simp (maxSteps := 2000000) only [go_sem, ↓reduceIte]
  refine PrimG.nextStr rfl rfl (fun hle => ?_) (fun hlt => ?_)
  ·have hr0 : rest = [] := by
    cases rest with
    | nil => rfl
    | cons c r =>
     exfalso
     have hc := e2 c (by rw [← hpr]; simp)
     have := (enc_len hc).1
     rw [hs2, List.length_append, show encM (c :: r) = enc c ++ encM r from rfl, List.length_append] at hle
     omega
   subst hr0
   rw [List.append_nil] at hpr
   subst hpr
   simp (maxSteps := 2000000) only [go_sem, ↓reduceIte]
   have h2 := writeByte_at (.has (60 :: unitsH pre)) 62 (by simp only [Bld.bytes, List.length_cons]; omega)
   refine bldCall (.l 3) rfl (h2) rfl rfl rfl rfl ?_
   simp (maxSteps := 2000000) only [go_sem, ↓reduceIte, Bld.at, Bld.bytes]
   have h3 := string_call (.has (60 :: unitsH pre ++ [62])) (by simp only [Bld.bytes, List.length_cons, List.length_append, List.length_nil]; omega)
   simp only [Bld.obj, Bld.said, Bld.bytes] at h3
   refine PrimG.mc1 (.l 3) rfl (h3) rfl rfl rfl rfl ⟨rfl, rfl⟩ ?_
   simp (maxSteps := 2000000) only [go_sem, ↓reduceIte]
  ·cases rest with
   | nil =>
    exfalso
    rw [hs2, show encM [] = [] from rfl, List.append_nil] at hlt
    omega
   | cons c r =>
    have hc := e2 c (by rw [← hpr]; simp)
    have hra : runeAt s (encM pre).length = (c, (enc c).length) := by rw [hs2, show encM (c :: r) = enc c ++ encM r from rfl]; exact runeAt_enc hc _ _
    rw [hra]
    simp (maxSteps := 2000000) only [go_sem, ↓reduceIte]
    refine CallG.of (unitsOf_call hc) ?_
    simp (maxSteps := 2000000) only [go_sem, ↓reduceIte, natsU_length]
    refine run_loop (fun i : Nat => ⟨[(3, .ptr (.l 3) 0), (11, .ptr (.l 11) 0), (16, .d (.list (natsU (unitsL c)))), (17, .d (.int .i64 (unitsL c).length)), (18, .d (.int .i64 i))], [(3, .cells [.ptr (.l 3) 0, .own (.c (.l 3) 1) 5 1 (bytesD (60 :: unitsH pre ++ ((unitsL c).take i).flatMap (hexN 4)))]), (11, .siter s ((encM pre).length + (enc c).length))], []⟩)
     (fun i => i ≤ (unitsL c).length) (fun i => (unitsL c).length - i) 0 ?_ (Nat.zero_le _) ?_
    ·refine Weak.mk ?_ ?_ ?_ <;> simp (maxSteps := 2000000) only [go_sem, ↓reduceIte, Sub, Int.natCast_add, Int.natCast_mul]
     all_goals first | done | simp
    ·intro i hi
     have hlen := unitsL_len c
     rcases Nat.lt_or_ge i (unitsL c).length with hlt2 | hge2
     ·have zl : ((i : Int) < ((unitsL c).length : Int)) = True := eq_true (by omega)
      obtain ⟨u, hu⟩ := get_some (l := unitsL c) (i := i) hlt2
      have hu16 := unitsL_le hc u (List.mem_of_getElem? hu)
      have hx := hexedP u 2 hu16 (by omega)
      have hh := hexN_length 4 u
      have hcut : cutI (60 :: (hexN (2 * 2) u ++ [62])) 1 5 = hexN 4 u := by
       show ((60 :: (hexN 4 u ++ [62])).take 5).drop 1 = hexN 4 u
       rw [List.take_succ_cons, List.drop_succ_cons, List.drop_zero, List.take_append_of_le_length (by omega), List.take_of_length_le (by omega)]
      have hfl := hexs_len ((unitsL c).take i)
      rw [List.length_take] at hfl
      have h2 := writeString_at (.has (60 :: unitsH pre ++ ((unitsL c).take i).flatMap (hexN 4))) (hexN 4 u) (by simp only [Bld.bytes, List.length_append, List.length_cons]; omega)
      simp (maxSteps := 2000000) (disch := omega) only [go_sem, ↓reduceIte, zl, getI_nat, natsU_get, hu]
      refine CallG.of hx ?_
      have hx2 : (60 :: (hexN (2 * 2) u ++ [62])).length = 6 := by
       show (60 :: (hexN 4 u ++ [62])).length = 6
       simp [hh]
      simp (maxSteps := 2000000) (disch := omega) only [go_sem, ↓reduceIte, hx2, hcut]
      refine bldCall (.l 3) rfl (h2) rfl rfl rfl rfl ?_
      simp (maxSteps := 2000000) (disch := omega) only [go_sem, ↓reduceIte, Bld.at, Bld.bytes]
      refine ⟨i + 1, ?_, by omega, by omega⟩
      have hst : unitsH pre ++ ((unitsL c).take (i + 1)).flatMap (hexN 4) = unitsH pre ++ ((unitsL c).take i).flatMap (hexN 4) ++ hexN 4 u := by
       rw [List.take_add_one, hu]
       simp
      rw [hst]
      refine Weak.mk ?_ ?_ ?_ <;> simp (maxSteps := 2000000) only [go_sem, ↓reduceIte, Sub, Int.natCast_add, Int.natCast_mul]
      all_goals first | done | simp
     ·have zl : ((i : Int) < ((unitsL c).length : Int)) = False := eq_false (by omega)
      simp (maxSteps := 2000000) only [go_sem, ↓reduceIte, zl]
      refine ⟨(pre ++ [c], r), ?_, by simp only; rw [List.append_assoc]; exact hpr, by simp⟩
      rw [List.take_of_length_le hge2]
      refine Weak.mk ?_ ?_ ?_ <;> simp (maxSteps := 2000000) only [go_sem, ↓reduceIte, Sub, Int.natCast_add, Int.natCast_mul]
      refine ⟨?_, ?_⟩
      ·have e : unitsH (pre ++ [c]) = unitsH pre ++ (unitsL c).flatMap (hexN 4) := by simp [unitsH]
       rw [e]
      ·have e : encM (pre ++ [c]) = encM pre ++ enc c := by simp [encM]
       rw [e, List.length_append]
end Go.Av.Tryd
set_option linter.unusedSimpArgs false
set_option maxRecDepth 100000
set_option maxHeartbeats 2000000
namespace Go.Av.Tryd
open Go.Proofs
/-! ### What spans are that may be -/
theorem spanFault_0 {most : Int} {prev : Option Int} {x : Span} (h : spanFault most prev x = 0) : 0 ≤ x.fr ∧ x.fr ≤ x.to ∧ x.to ≤ most ∧ (∀ p, prev = some p → p < x.fr) ∧ (∃ rs, runesM x.tx = some rs ∧ rs ≠ []) ∧ x.tx ≠ [] ∧ x.tx.length ≤ 40 ∧ ∃ u, onM x.tx (x.to - x.fr).toNat = some u := by
 unfold spanFault at h
 split at h
 ·cases h
 ·rename_i h1
  split at h
  ·cases h
  ·rename_i h2
   split at h
   ·cases h
   ·rename_i h3
    have a1 : x.tx ≠ [] := fun e => h2 (.inr (.inr (.inr (.inl e))))
    refine ⟨by omega, ?_, by omega, fun p hp => ?_, ?_, a1, ?_, ?_⟩
    ·have : ¬ x.to < x.fr := fun e => h2 (.inl e)
     omega
    ·have : ¬ x.fr ≤ p := fun e => h2 (.inr (.inl ⟨p, hp, e⟩))
     omega
    ·cases hr : runesM x.tx with
     | none => exact absurd (.inr (.inr (.inl hr))) h2
     | some rs =>
      refine ⟨rs, rfl, fun e => ?_⟩
      subst e
      exact a1 (runesM_enc _ (Nat.le_refl _) hr).1.symm
    ·have : ¬ 40 < x.tx.length := fun e => h2 (.inr (.inr (.inr (.inr e))))
     omega
    ·cases ho : onM x.tx (x.to - x.fr).toNat with
     | none => exact absurd ho h3
     | some u => exact ⟨u, rfl⟩
theorem faultsF_0 {most : Int} : ∀ {l : List Span} {prev : Option Int}, faultsF most prev l = 0 → ∀ x ∈ l, ∃ q, spanFault most q x = 0
 | [], _, _, _, hx => by simp at hx
 | y :: l, prev, h, x, hx => by
  simp only [faultsF] at h
  split at h
  ·rename_i h0
   rcases List.mem_cons.1 hx with rfl | hx
   ·exact ⟨prev, h0⟩
   ·exact faultsF_0 h x hx
  ·rename_i h0
   exact absurd h h0
theorem mostM_le (b : Bool) : mostM b ≤ 65535 := by cases b <;> simp [mostM]
theorem faultM_0 {l : List Span} {b : Bool} (h : faultM l b = 0) : l.length ≤ 300 ∧ ∀ x ∈ l, ∃ fr te : Nat, ∃ rs, x.fr = fr ∧ x.to = te ∧ fr ≤ te ∧ te ≤ 65535 ∧ (te : Int) ≤ mostM b ∧ runesM x.tx = some rs ∧ rs ≠ [] ∧ x.tx.length ≤ 40 := by
 unfold faultM at h
 split at h
 ·cases h
 ·refine ⟨by omega, fun x hx => ?_⟩
  obtain ⟨q, hq⟩ := faultsF_0 h x hx
  obtain ⟨a1, a2, a3, a4, ⟨rs, a5, a6⟩, a7, a8, a9⟩ := spanFault_0 hq
  have hm := mostM_le b
  exact ⟨x.fr.toNat, x.to.toNat, rs, by omega, by omega, by omega, by omega, by omega, a5, a6, a8⟩
/-! ### The text -/
def bytesN (b : Bool) : Nat := if b = true then 2 else 1
def wHead (b : Bool) : List UInt8 := [49, 32, 98, 101, 103, 105, 110, 99, 111, 100, 101, 115, 112, 97, 99, 101, 114, 97, 110, 103, 101, 10] ++ (60 :: hexN (2 * bytesN b) 0 ++ [62]) ++ [32] ++ (60 :: hexN (2 * bytesN b) (if b = true then 65535 else 255) ++ [62]) ++ [10, 101, 110, 100, 99, 111, 100, 101, 115, 112, 97, 99, 101, 114, 97, 110, 103, 101, 10]
def wSpan (b : Bool) (x : Span) : List UInt8 := [49, 32, 98, 101, 103, 105, 110, 98, 102, 114, 97, 110, 103, 101, 10] ++ (60 :: hexN (2 * bytesN b) x.fr.toNat ++ [62]) ++ [32] ++ (60 :: hexN (2 * bytesN b) x.to.toNat ++ [62]) ++ [32] ++ (60 :: unitsH ((runesM x.tx).getD []) ++ [62]) ++ [10, 101, 110, 100, 98, 102, 114, 97, 110, 103, 101, 10]
def wText (b : Bool) (l : List Span) : List UInt8 := wHead b ++ l.flatMap (wSpan b)
theorem wSpan_len (b : Bool) {x : Span} {rs : List Nat} (h : runesM x.tx = some rs) (hl : x.tx.length ≤ 40) : (wSpan b x).length ≤ 1000 := by
 obtain ⟨e1, e2⟩ := runesM_enc _ (Nat.le_refl _) h
 have h1 := encM_ge e2
 rw [e1] at h1
 have h2 := unitsH_len rs
 have h3 : 2 * bytesN b ≤ 4 := by cases b <;> simp [bytesN]
 unfold wSpan
 rw [h]
 simp only [List.length_append, List.length_cons, List.length_nil, hexN_length, Option.getD_some]
 omega
theorem wSpans_len (l : List Span) (b : Bool) (hx : ∀ x ∈ l, ∃ fr te : Nat, ∃ rs, x.fr = fr ∧ x.to = te ∧ fr ≤ te ∧ te ≤ 65535 ∧ (te : Int) ≤ mostM b ∧ runesM x.tx = some rs ∧ rs ≠ [] ∧ x.tx.length ≤ 40) : ∀ k, ((l.take k).flatMap (wSpan b)).length ≤ 1000 * k
 | 0 => by simp
 | k + 1 => by
  have ih := wSpans_len l b hx k
  rw [List.take_add_one, List.flatMap_append, List.length_append]
  cases hq : l[k]? with
  | none => simp only [Option.toList_none, List.flatMap_nil, List.length_nil]; omega
  | some x =>
   obtain ⟨fr, te, rs, a1, a2, a3, a4, a5, a6, a7, a8⟩ := hx x (List.mem_of_getElem? hq)
   have := wSpan_len b a6 a8
   simp only [Option.toList_some, List.flatMap_cons, List.flatMap_nil, List.append_nil]
   omega
def L_cmap_Write : LCode :=
 .seq (.reg [Qx 4 (.k (.d (.str []))), Qx 5 (.k (.d .nil))]) (.seq (.reg [Qc 11 0, Qc 12 1, ⟨some 13, .call 23 [.t 11, .t 12], none⟩, Qa 6 13]) (.seq (.seq (.reg [Qc 14 6, Q 15 
 (.eqN 0 true (.t 14))]) (.cond (.t 15) (.seq (.reg [Qc 16 6, Qx 4 (.k (.d (.str []))), Qa 5 16]) .ret) .skip)) (.seq (.reg [Qx 7 (Ki 1)]) (.seq (.seq (.reg [Qc 17 1]) (.cond (.t 
 17) (.reg [Qx 7 (Ki 2)]) .skip)) (.seq (.reg [⟨some 8, .allo [.nilpT 92, .list []], none⟩]) (.seq (.dreg [Qc 18 7, ⟨some 19, .call 49 [.k (.d (.int .i64 0)), .t 18], none⟩, Q 20 
 (.bin .add (.k (.d (.str [49, 32, 98, 101, 103, 105, 110, 99, 111, 100, 101, 115, 112, 97, 99, 101, 114, 97, 110, 103, 101, 10]))) (.t 19)), Q 21 (.bin .add (.t 20) (.k (.d (.str 
 [32])))), Qc 22 7, Q 23 (.bin .mul (Ki 8) (.t 22)), Q 24 (.bin .shl (Ki 1) (.t 23)), Q 25 (.bin .sub (.t 24) (Ki 1)), Qc 26 7, ⟨some 27, .call 49 [.t 25, .t 26], none⟩, Q 28 
 (.bin .add (.t 21) (.t 27)), Q 29 (.bin .add (.t 28) (.k (.d (.str [10, 101, 110, 100, 99, 111, 100, 101, 115, 112, 97, 99, 101, 114, 97, 110, 103, 101, 10])))), ⟨some 30, .prim 
 .call [.k (.fn (.func 48) [] []), .t 8, .t 29] [], none⟩]) (.seq (.seq (.reg [Qc 31 0, Q 32 (.len false (.t 31)), Q 33 (.cp (Ki 0))]) (.block 0 (.loop (.seq (.reg [Q 34 (.bin 
 .lss (.t 33) (.t 32))]) (.seq (.cond (.t 34) .skip (.exit 0)) (.seq (.block 1 (.seq (.reg [Q 35 (.ia 3 (.t 31) (.t 33)), Q 36 (.ld true 3 (.t 35)), ⟨some 10, .allo [.int .i64 0, 
 .int .i64 0, .str []], none⟩, ⟨none, .st 3 (.t 10) (.t 36), none⟩]) (.dreg [Q 37 (.fa 0 (.t 10)), Q 38 (.ld false 1 (.t 37)), Qc 39 7, ⟨some 40, .call 49 [.t 38, .t 39], none⟩, Q 
 41 (.bin .add (.k (.d (.str [49, 32, 98, 101, 103, 105, 110, 98, 102, 114, 97, 110, 103, 101, 10]))) (.t 40)), Q 42 (.bin .add (.t 41) (.k (.d (.str [32])))), Q 43 (.fa 1 (.t 
 10)), Q 44 (.ld false 1 (.t 43)), Qc 45 7, ⟨some 46, .call 49 [.t 44, .t 45], none⟩, Q 47 (.bin .add (.t 42) (.t 46)), Q 48 (.bin .add (.t 47) (.k (.d (.str [32])))), Q 49 (.fa 2 
 (.t 10)), Q 50 (.ld false 1 (.t 49)), ⟨some 51, .call 50 [.t 50], none⟩, Q 52 (.bin .add (.t 48) (.t 51)), Q 53 (.bin .add (.t 52) (.k (.d (.str [10, 101, 110, 100, 98, 102, 114, 
 97, 110, 103, 101, 10])))), ⟨some 54, .prim .call [.k (.fn (.func 48) [] []), .t 8, .t 53] [], none⟩]))) (.reg [Q 55 (.bin .add (.t 33) (Ki 1)), Qc 33 55]))))))) (.seq (.reg 
 [⟨some 56, .prim .call [.k (.fn (.func 51) [] []), .t 8] [], none⟩, Qa 4 56, Qx 5 (.k (.d .nil))]) .ret))))))))
def R_cmap_Write : List LRes := [.tmp 4, .tmp 5]
theorem lift_cmap_Write : Lifts Tryd.prog 22 57 L_cmap_Write R_cmap_Write := ⟨_, _, Tryd.func22, rfl, by kernel_rfl, by kernel_rfl, rfl⟩
theorem write_call (l : List Span) (b : Bool) (hw : ∀ x ∈ l, x.wf) : PCall Tryd.prog 22 [.list (spansD l), .bool b] (fun r => r = .tup [.str (if faultM l b = 0 then wText b l else []), errD (faultM l b)]) := by
 have hc := check_call l b hw
 have hI : ((spansD l).length : Int) = (l.length : Int) := by rw [spansD_length]
 by_cases h0 : faultM l b = 0
 ·obtain ⟨hl, hx⟩ := faultM_0 h0
  rw [if_pos h0]
  rw [h0] at hc ⊢
  have z0 : errD 0 = .nil := rfl
  have hb2 : bytesN b ≤ 2 := by cases b <;> simp [bytesN]
  have h1 := hexedP 0 (bytesN b) (by omega) hb2
  have h2 := hexedP (if b = true then 65535 else 255) (bytesN b) (by split <;> omega) hb2
  rw [z0] at hc ⊢
  refine lift_cmap_Write.call rfl ?_
  simp (maxSteps := 2000000) only [go_sem, ↓reduceIte, L_cmap_Write, R_cmap_Write]
  refine CallG.of hc ?_
  obtain ⟨S0, hS0⟩ : ∃ S0 : Nat → St, ∀ i, S0 i = ⟨[(7, .d (.int .i64 (bytesN b))), (8, .ptr (.l 8) 0), (31, .d (.list (spansD l))), (32, .d (.int .i64 l.length)), (33, .d (.int .i64 i))], [(8, .cells [.ptr (.l 8) 0, .own (.c (.l 8) 1) 5 1 (bytesD (wHead b ++ (l.take i).flatMap (wSpan b)))])], []⟩ := ⟨_, fun _ => rfl⟩
  have hhl : (wHead b).length ≤ 100 := by cases b <;> decide
  have hsl : ∀ k, ((l.take k).flatMap (wSpan b)).length ≤ 1000 * k := wSpans_len l b hx
  have hhd : wHead b = [49, 32, 98, 101, 103, 105, 110, 99, 111, 100, 101, 115, 112, 97, 99, 101, 114, 97, 110, 103, 101, 10] ++ (60 :: hexN (2 * bytesN b) 0 ++ [62]) ++ [32] ++ (60 :: hexN (2 * bytesN b) (if b = true then 65535 else 255) ++ [62]) ++ [10, 101, 110, 100, 99, 111, 100, 101, 115, 112, 97, 99, 101, 114, 97, 110, 103, 101, 10] := rfl
  have hx1 := hexN_length (2 * bytesN b) 0
  have hx2 := hexN_length (2 * bytesN b) (if b = true then 65535 else 255)
  have hy1 : (60 :: hexN (2 * bytesN b) 0 ++ [62]).length ≤ 6 := by simp only [List.length_append, List.length_cons, List.length_nil]; omega
  have hy2 : (60 :: hexN (2 * bytesN b) (if b = true then 65535 else 255) ++ [62]).length ≤ 6 := by simp only [List.length_append, List.length_cons, List.length_nil]; omega
  clear hx1 hx2
  generalize (60 :: hexN (2 * bytesN b) 0 ++ [62]) = A1 at *
  generalize (60 :: hexN (2 * bytesN b) (if b = true then 65535 else 255) ++ [62]) = A2 at *
  have hws := writeString_at .new (wHead b) (by simp only [Bld.bytes, List.nil_append]; omega)
  have hmono : ∀ k, k ≤ l.length → (wHead b ++ (l.take k).flatMap (wSpan b)).length ≤ 400000 := fun k hk => by
   have := hsl k
   rw [List.length_append]; omega
  have hfx : ∀ x ∈ l, ∃ (fr te : Nat) (X1 X2 X3 : List UInt8), x.fr = fr ∧ x.to = te ∧ X1.length ≤ 6 ∧ X2.length ≤ 6 ∧ X3.length ≤ 400 ∧ PCall Tryd.prog 49 [.int .i64 fr, .int .i64 (bytesN b)] (fun r => r = .one (.str X1)) ∧ PCall Tryd.prog 49 [.int .i64 te, .int .i64 (bytesN b)] (fun r => r = .one (.str X2)) ∧ PCall Tryd.prog 50 [.str x.tx] (fun r => r = .one (.str X3)) ∧
    wSpan b x = [49, 32, 98, 101, 103, 105, 110, 98, 102, 114, 97, 110, 103, 101, 10] ++ X1 ++ [32] ++ X2 ++ [32] ++ X3 ++ [10, 101, 110, 100, 98, 102, 114, 97, 110, 103, 101, 10] := fun x hxl => by
   obtain ⟨fr, te, rs, a1, a2, a3, a4, a5, a6, a7, a8⟩ := hx x hxl
   obtain ⟨r1, r2⟩ := runesM_enc _ (Nat.le_refl _) a6
   have r3 := encM_ge r2
   rw [r1] at r3
   have r4 := unitsH_len rs
   have hd1 : x.fr.toNat = fr := by omega
   have hd2 : x.to.toNat = te := by omega
   refine ⟨fr, te, _, _, _, a1, a2, ?_, ?_, ?_, hexedP fr (bytesN b) (by omega) hb2, hexedP te (bytesN b) (by omega) hb2, units_call x.tx a6 (by omega), ?_⟩
   ·simp only [List.length_append, List.length_cons, List.length_nil, hexN_length]; omega
   ·simp only [List.length_append, List.length_cons, List.length_nil, hexN_length]; omega
   ·simp only [List.length_append, List.length_cons, List.length_nil]; omega
   ·unfold wSpan
    rw [hd1, hd2, a6]
    rfl
  have hwt : wHead b ++ l.flatMap (wSpan b) = wText b l := rfl
  have h3 : MCallE Tryd.prog 51 [.ptr (.x 0) 0] [Bld.obj (.has (wText b l))] (.d (.str (wText b l))) [Bld.said (.has (wText b l))] := string_call (.has (wText b l)) (by
   have := hmono l.length (Nat.le_refl _)
   rw [List.take_length, hwt] at this
   simp only [Bld.bytes]
   omega)
  simp only [Bld.obj, Bld.said] at h3
  have hP : (256 : Int) ^ bytesN b - 1 = ((if b = true then 65535 else 255 : Nat) : Int) := by cases b <;> rfl
  rcases Bool.eq_false_or_eq_true b with hb | hb
  all_goals
   subst hb
   simp (maxSteps := 2000000) only [go_sem, ↓reduceIte]
   refine CallD.of h1 ?_
   simp (maxSteps := 2000000) (disch := omega) only [go_sem, ↓reduceIte]
   refine ⟨by omega, by omega, ?_⟩
   refine CallD.of h2 ?_
   simp (maxSteps := 2000000) (disch := omega) only [go_sem, ↓reduceIte]
   refine ⟨by simp only [List.length_append, List.length_cons, List.length_nil]; omega, by simp only [List.length_append, List.length_cons, List.length_nil]; omega, ?_⟩
   refine bldCall (.l 8) rfl (writeString_at .new _ (by simp only [Bld.bytes, List.nil_append, List.length_append, List.length_cons, List.length_nil]; omega)) rfl rfl rfl rfl ?_
   simp (maxSteps := 2000000) only [go_sem, ↓reduceIte, Bld.at, Bld.bytes, hI]
   refine run_loop S0 (fun i => i ≤ l.length) (fun i => l.length - i) 0 ?_ (Nat.zero_le _) ?_
   ·rw [hS0, hhd]
    refine Weak.mk ?_ ?_ ?_ <;> simp (maxSteps := 2000000) only [go_sem, ↓reduceIte, Sub, Int.natCast_add, Int.natCast_mul]
    all_goals first | done | rfl | simp
   ·intro i hi
    have hm := hmono i hi
    rw [hS0]
    rcases Nat.lt_or_ge i l.length with hlt | hge
    ·have zl : ((i : Int) < (l.length : Int)) = True := eq_true (by omega)
     obtain ⟨x, hxi⟩ := get_some (l := l) (i := i) hlt
     obtain ⟨fr, te, X1, X2, X3, a1, a2, y1, y2, y3, g1, g2, g3, hsp⟩ := hfx x (List.mem_of_getElem? hxi)
     simp (maxSteps := 2000000) (disch := omega) only [go_sem, ↓reduceIte, zl, getI_nat, spansD_get, hxi, Span.d, a1, a2]
     refine CallD.of g1 ?_
     simp (maxSteps := 2000000) (disch := omega) only [go_sem, ↓reduceIte]
     refine ⟨by omega, by omega, ?_⟩
     refine CallD.of g2 ?_
     simp (maxSteps := 2000000) (disch := omega) only [go_sem, ↓reduceIte]
     refine ⟨by simp only [List.length_append, List.length_cons, List.length_nil]; omega, by simp only [List.length_append, List.length_cons, List.length_nil]; omega, ?_⟩
     refine CallD.of g3 ?_
     simp (maxSteps := 2000000) (disch := omega) only [go_sem, ↓reduceIte]
     refine ⟨by simp only [List.length_append, List.length_cons, List.length_nil]; omega, by simp only [List.length_append, List.length_cons, List.length_nil]; omega, ?_⟩
     refine bldCall (.l 8) rfl (writeString_at (.has (wHead _ ++ (l.take i).flatMap (wSpan _))) _ (by simp only [Bld.bytes, List.length_append, List.length_cons, List.length_nil] at hm ⊢; omega)) rfl rfl rfl rfl ?_
     simp (maxSteps := 2000000) (disch := omega) only [go_sem, ↓reduceIte, Bld.at, Bld.bytes]
     refine ⟨i + 1, ?_, by omega, by omega⟩
     rw [hS0, List.take_add_one, hxi, List.flatMap_append]
     simp only [Option.toList_some, List.flatMap_cons, List.flatMap_nil, List.append_nil]
     rw [hsp]
     refine Weak.mk ?_ ?_ ?_ <;> simp (maxSteps := 2000000) only [go_sem, ↓reduceIte, Sub, Int.natCast_add, Int.natCast_mul]
     all_goals first | done | rfl | simp
    ·have zl : ((i : Int) < (l.length : Int)) = False := eq_false (by omega)
     have he : i = l.length := by omega
     subst he
     rw [List.take_length, hwt]
     simp (maxSteps := 2000000) only [go_sem, ↓reduceIte, zl]
     refine PrimG.mc1 (.l 8) rfl (h3) rfl rfl rfl rfl ⟨rfl, rfl⟩ ?_
     simp (maxSteps := 2000000) only [go_sem, ↓reduceIte]
 ·rw [if_neg h0]
  rw [errD_ne h0] at hc ⊢
  refine lift_cmap_Write.call rfl ?_
  simp (maxSteps := 2000000) only [go_sem, ↓reduceIte, L_cmap_Write, R_cmap_Write]
  refine CallG.of hc ?_
  simp (maxSteps := 2000000) only [go_sem, ↓reduceIte]
end Go.Av.Tryd
set_option linter.unusedSimpArgs false
set_option maxRecDepth 100000
set_option maxHeartbeats 2000000
namespace Go.Av.Tryd
open Go.Proofs
theorem unitsH_snoc (a : List Nat) (c : Nat) : unitsH (a ++ [c]) = unitsH a ++ (unitsL c).flatMap (hexN 4) := by simp [unitsH]
def L_foliowrightref_SpansText : LCode :=
 .seq (.reg [Qx 4 (.k (.d (.str [])))]) (.seq (.reg [Qx 5 (Ki 1)]) (.seq (.reg [Qx 6 (.k (.d (.str [60, 48, 48, 62, 32, 60, 70, 70, 62])))]) (.seq (.seq (.reg [Qc 13 1]) (.cond (.t 
 13) (.seq (.reg [Qx 5 (Ki 2)]) (.reg [Qx 6 (.k (.d (.str [60, 48, 48, 48, 48, 62, 32, 60, 70, 70, 70, 70, 62])))])) .skip)) (.seq (.reg [Qc 14 6, Q 15 (.bin .add (.k (.d (.str 
 [49, 32, 98, 101, 103, 105, 110, 99, 111, 100, 101, 115, 112, 97, 99, 101, 114, 97, 110, 103, 101, 10]))) (.t 14)), Q 16 (.bin .add (.t 15) (.k (.d (.str [10, 101, 110, 100, 99, 
 111, 100, 101, 115, 112, 97, 99, 101, 114, 97, 110, 103, 101, 10])))), Qa 7 16]) (.seq (.seq (.reg [Qx 8 (Ki 0)]) (.block 0 (.loop (.seq (.seq (.reg [Qc 17 8, Qc 18 0, Q 19 (.len 
 false (.t 18)), Q 20 (.bin .lss (.t 17) (.t 19))]) (.cond (.t 20) .skip (.exit 0))) (.seq (.block 1 (.seq (.reg [Qc 24 0, Qc 25 8, Q 26 (.ia 3 (.t 24) (.t 25)), Q 27 (.fa 2 (.t 
 26)), Q 28 (.ld false 1 (.t 27)), ⟨some 29, .call 46 [.t 28], none⟩, Qc 23 29, Q 30 (.ext 0 (.t 23)), Q 31 (.ext 1 (.t 23)), Qa 9 30, Qa 10 31]) (.seq (.reg [Qx 11 (.k (.d (.str 
 [])))]) (.seq (.seq (.reg [Qx 12 (Ki 0)]) (.block 2 (.loop (.seq (.seq (.reg [Qc 32 12, Qc 33 9, Q 34 (.len false (.t 33)), Q 35 (.bin .lss (.t 32) (.t 34))]) (.cond (.t 35) 
 .skip (.exit 2))) (.seq (.block 3 (.seq (.reg [Qc 38 9, Qc 39 12, Q 40 (.ia 1 (.t 38) (.t 39)), Q 41 (.ld false 1 (.t 40)), Q 42 (.bin .lss (.t 41) (Ki 65536))]) (.cond (.t 42) 
 (.reg [Qc 43 11, Qc 44 9, Qc 45 12, Q 46 (.ia 1 (.t 44) (.t 45)), Q 47 (.ld false 1 (.t 46)), ⟨some 48, .call 54 [.t 47, .k (.d (.int .i64 2))], none⟩, Q 49 (.bin .add (.t 43) 
 (.t 48)), Qa 11 49]) (.dreg [Qc 50 11, Qc 51 9, Qc 52 12, Q 53 (.ia 1 (.t 51) (.t 52)), Q 54 (.ld false 1 (.t 53)), Q 55 (.bin .sub (.t 54) (Ki 65536)), Q 56 (.bin .quo (.t 55) 
 (Ki 1024)), Q 57 (.bin .add (Ki 55296) (.t 56)), ⟨some 58, .call 54 [.t 57, .k (.d (.int .i64 2))], none⟩, Q 59 (.bin .add (.t 50) (.t 58)), Qc 60 9, Qc 61 12, Q 62 (.ia 1 (.t 
 60) (.t 61)), Q 63 (.ld false 1 (.t 62)), Q 64 (.bin .sub (.t 63) (Ki 65536)), Q 65 (.bin .rem (.t 64) (Ki 1024)), Q 66 (.bin .add (Ki 56320) (.t 65)), ⟨some 67, .call 54 [.t 66, 
 .k (.d (.int .i64 2))], none⟩, Q 68 (.bin .add (.t 59) (.t 67)), Qa 11 68])))) (.reg [Qc 36 12, Q 37 (.bin .add (.t 36) (Ki 1)), Qa 12 37])))))) (.dreg [Qc 69 7, Q 70 (.bin .add 
 (.t 69) (.k (.d (.str [49, 32, 98, 101, 103, 105, 110, 98, 102, 114, 97, 110, 103, 101, 10, 60])))), Qc 71 0, Qc 72 8, Q 73 (.ia 3 (.t 71) (.t 72)), Q 74 (.fa 0 (.t 73)), Q 75 
 (.ld false 1 (.t 74)), Qc 76 5, ⟨some 77, .call 54 [.t 75, .t 76], none⟩, Q 78 (.bin .add (.t 70) (.t 77)), Q 79 (.bin .add (.t 78) (.k (.d (.str [62, 32, 60])))), Qc 80 0, Qc 81 
 8, Q 82 (.ia 3 (.t 80) (.t 81)), Q 83 (.fa 1 (.t 82)), Q 84 (.ld false 1 (.t 83)), Qc 85 5, ⟨some 86, .call 54 [.t 84, .t 85], none⟩, Q 87 (.bin .add (.t 79) (.t 86)), Q 88 (.bin 
 .add (.t 87) (.k (.d (.str [62, 32, 60])))), Qc 89 11, Q 90 (.bin .add (.t 88) (.t 89)), Q 91 (.bin .add (.t 90) (.k (.d (.str [62, 10, 101, 110, 100, 98, 102, 114, 97, 110, 103, 
 101, 10])))), Qa 7 91]))))) (.reg [Qc 21 8, Q 22 (.bin .add (.t 21) (Ki 1)), Qa 8 22])))))) (.seq (.reg [Qc 92 7, Qa 4 92]) .ret))))))
def R_foliowrightref_SpansText : List LRes := [.tmp 4]
theorem lift_foliowrightref_SpansText : Lifts Tryd.prog 26 93 L_foliowrightref_SpansText R_foliowrightref_SpansText := ⟨_, _, Tryd.func26, rfl, by kernel_rfl, by kernel_rfl, rfl⟩
theorem spansText_call (l : List Span) (b : Bool) (h0 : faultM l b = 0) : PCall Tryd.prog 26 [.list (spansD l), .bool b] (fun r => r = .one (.str (wText b l))) := by
 have hI : ((spansD l).length : Int) = (l.length : Int) := by rw [spansD_length]
 obtain ⟨hl, hx⟩ := faultM_0 h0
 have hb2 : bytesN b ≤ 2 := by cases b <;> simp [bytesN]
 have hhl : (wHead b).length ≤ 100 := by cases b <;> decide
 have hsl : ∀ k, ((l.take k).flatMap (wSpan b)).length ≤ 1000 * k := wSpans_len l b hx
 have hmono : ∀ k, k ≤ l.length → (wHead b ++ (l.take k).flatMap (wSpan b)).length ≤ 400000 := fun k hk => by
  have := hsl k
  rw [List.length_append]; omega
 have hfx : ∀ x ∈ l, ∃ (fr te : Nat) (rs : List Nat) (X1 X2 : List UInt8), x.fr = fr ∧ x.to = te ∧ X1.length ≤ 4 ∧ X2.length ≤ 4 ∧ rs.length ≤ 40 ∧ (∀ r ∈ rs, vrune r) ∧ runesM x.tx = some rs ∧ x.tx.length ≤ 40 ∧ PCall Tryd.prog 54 [.int .i64 fr, .int .i64 (bytesN b)] (fun r => r = .one (.str X1)) ∧ PCall Tryd.prog 54 [.int .i64 te, .int .i64 (bytesN b)] (fun r => r = .one (.str X2)) ∧
   wSpan b x = [49, 32, 98, 101, 103, 105, 110, 98, 102, 114, 97, 110, 103, 101, 10] ++ (60 :: X1 ++ [62]) ++ [32] ++ (60 :: X2 ++ [62]) ++ [32] ++ (60 :: unitsH rs ++ [62]) ++ [10, 101, 110, 100, 98, 102, 114, 97, 110, 103, 101, 10] := fun x hxl => by
  obtain ⟨fr, te, rs, a1, a2, a3, a4, a5, a6, a7, a8⟩ := hx x hxl
  obtain ⟨r1, r2⟩ := runesM_enc _ (Nat.le_refl _) a6
  have r3 := encM_ge r2
  rw [r1] at r3
  have hd1 : x.fr.toNat = fr := by omega
  have hd2 : x.to.toNat = te := by omega
  refine ⟨fr, te, rs, _, _, a1, a2, ?_, ?_, by omega, r2, a6, a8, hexedR fr (bytesN b) (by omega) hb2, hexedR te (bytesN b) (by omega) hb2, ?_⟩
  ·rw [hexN_length]; omega
  ·rw [hexN_length]; omega
  ·unfold wSpan
   rw [hd1, hd2, a6]
   rfl
 have hwt : wHead b ++ l.flatMap (wSpan b) = wText b l := rfl
 obtain ⟨S0, hS0⟩ : ∃ S0 : Nat → St, ∀ i, S0 i = ⟨[(0, .d (.list (spansD l))), (5, .d (.int .i64 (bytesN b))), (7, .d (.str (wHead b ++ (l.take i).flatMap (wSpan b)))), (8, .d (.int .i64 i))], [], []⟩ := ⟨_, fun _ => rfl⟩
 obtain ⟨S1, hS1⟩ : ∃ S1 : Nat → List Nat → Nat → St, ∀ i rs k, S1 i rs k = ⟨[(0, .d (.list (spansD l))), (5, .d (.int .i64 (bytesN b))), (7, .d (.str (wHead b ++ (l.take i).flatMap (wSpan b)))), (8, .d (.int .i64 i)), (9, .d (.list (natsU rs))), (11, .d (.str (unitsH (rs.take k)))), (12, .d (.int .i64 k))], [], []⟩ := ⟨_, fun _ _ _ => rfl⟩
 refine lift_foliowrightref_SpansText.call rfl ?_
 simp (maxSteps := 2000000) only [go_sem, ↓reduceIte, L_foliowrightref_SpansText, R_foliowrightref_SpansText]
 rcases Bool.eq_false_or_eq_true b with hb | hb
 all_goals
  subst hb
  simp (maxSteps := 2000000) only [go_sem, ↓reduceIte]
  refine run_loop S0 (fun i => i ≤ l.length) (fun i => l.length - i) 0 ?_ (Nat.zero_le _) ?_
  ·rw [hS0]
   refine Weak.mk ?_ ?_ ?_ <;> simp (maxSteps := 2000000) only [go_sem, ↓reduceIte, Sub, Int.natCast_add, Int.natCast_mul]
   exact ⟨rfl, congrArg (fun s => AV.d (D.str s)) (by decide)⟩
  ·intro i hi
   have hm := hmono i hi
   rw [hS0]
   rcases Nat.lt_or_ge i l.length with hlt | hge
   ·have zl : ((i : Int) < (l.length : Int)) = True := eq_true (by omega)
    obtain ⟨x, hxi⟩ := get_some (l := l) (i := i) hlt
    obtain ⟨fr, te, rs, X1, X2, a1, a2, y1, y2, y3, hv, hrs, htx, g1, g2, hsp⟩ := hfx x (List.mem_of_getElem? hxi)
    have hrc := runes_call x.tx (by omega)
    rw [hrs] at hrc
    simp (maxSteps := 2000000) (disch := omega) only [go_sem, ↓reduceIte, zl, hI, getI_nat, spansD_get, hxi, Span.d, a1, a2]
    refine CallG.of hrc ?_
    simp (maxSteps := 2000000) only [go_sem, ↓reduceIte, runesRes]
    have hru := natsU_length rs
    have huT := fun k => unitsH_len (rs.take k)
    refine run_loop (S1 i rs) (fun k => k ≤ rs.length) (fun k => rs.length - k) 0 ?_ (Nat.zero_le _) ?_
    ·rw [hS1]
     refine Weak.mk ?_ ?_ ?_ <;> simp (maxSteps := 2000000) only [go_sem, ↓reduceIte, Sub, Int.natCast_add, Int.natCast_mul]
     all_goals first | done | rfl
    ·intro k hk
     have hu1 := huT k
     rw [List.length_take] at hu1
     rw [hS1]
     rcases Nat.lt_or_ge k rs.length with hkl | hkg
     ·have zk : ((k : Int) < (rs.length : Int)) = True := eq_true (by omega)
      obtain ⟨c, hc⟩ := get_some (l := rs) (i := k) hkl
      have hcv := hv c (List.mem_of_getElem? hc)
      have hcv2 := hcv
      unfold vrune at hcv2
      have hst := unitsH_snoc (rs.take k) c
      rw [← take_snoc hc] at hst
      by_cases h6 : c < 65536
      ·have z6 : ((c : Int) < 65536) = True := eq_true (by omega)
       have hh := hexedR c 2 (by omega) (by omega)
       have hhl := hexN_length 4 c
       have e1 : unitsL c = [c] := by unfold unitsL; rw [if_pos h6]
       rw [e1] at hst
       simp (maxSteps := 2000000) (disch := omega) only [go_sem, ↓reduceIte, zk, hru, getI_nat, natsU_get, hc, z6]
       refine CallG.of hh ?_
       simp (maxSteps := 2000000) (disch := omega) only [go_sem, ↓reduceIte]
       refine ⟨by omega, k + 1, ?_, by omega, by omega⟩
       rw [hS1, hst]
       refine Weak.mk ?_ ?_ ?_ <;> simp (maxSteps := 2000000) only [go_sem, ↓reduceIte, Sub, Int.natCast_add, Int.natCast_mul]
       all_goals first | done | simp
      ·obtain ⟨n, rfl⟩ : ∃ n, c = n + 65536 := ⟨c - 65536, by omega⟩
       have z6 : (((n + 65536 : Nat) : Int) < 65536) = False := eq_false (by omega)
       have hs : ((n + 65536 : Nat) : Int) - 65536 = (n : Int) := by omega
       have hq : (n : Int).tdiv 1024 = ((n / 1024 : Nat) : Int) := rfl
       have hr : (n : Int).tmod 1024 = ((n % 1024 : Nat) : Int) := rfl
       have hq2 : (55296 : Int) + ((n / 1024 : Nat) : Int) = ((55296 + n / 1024 : Nat) : Int) := rfl
       have hr2 : (56320 : Int) + ((n % 1024 : Nat) : Int) = ((56320 + n % 1024 : Nat) : Int) := rfl
       have hh1 := hexedR (55296 + n / 1024) 2 (by omega) (by omega)
       have hh2 := hexedR (56320 + n % 1024) 2 (by omega) (by omega)
       have hhl1 := hexN_length 4 (55296 + n / 1024)
       have hhl2 := hexN_length 4 (56320 + n % 1024)
       have e1 : unitsL (n + 65536) = [55296 + n / 1024, 56320 + n % 1024] := by unfold unitsL; rw [if_neg h6, Nat.add_sub_cancel]
       rw [e1] at hst
       simp (maxSteps := 2000000) (disch := omega) only [go_sem, ↓reduceIte, zk, hru, getI_nat, natsU_get, hc, z6, hs, hq, hq2]
       refine CallD.of hh1 ?_
       simp (maxSteps := 2000000) (disch := omega) only [go_sem, ↓reduceIte, hru, getI_nat, natsU_get, hc, hs, hr, hr2]
       refine ⟨by omega, ?_⟩
       refine CallD.of hh2 ?_
       simp (maxSteps := 2000000) (disch := omega) only [go_sem, ↓reduceIte]
       refine ⟨by simp only [List.length_append]; omega, k + 1, ?_, by omega, by omega⟩
       rw [hS1, hst]
       refine Weak.mk ?_ ?_ ?_ <;> simp (maxSteps := 2000000) only [go_sem, ↓reduceIte, Sub, Int.natCast_add, Int.natCast_mul]
       all_goals first | done | simp
     ·have zk : ((k : Int) < (rs.length : Int)) = False := eq_false (by omega)
      rw [List.take_of_length_le hkg]
      simp (maxSteps := 2000000) (disch := omega) only [go_sem, ↓reduceIte, zk, hru, getI_nat, spansD_get, hxi, Span.d, a1, a2]
      refine ⟨by simp only [List.length_append, List.length_cons, List.length_nil] at hm ⊢; omega, ?_⟩
      refine CallD.of g1 ?_
      simp (maxSteps := 2000000) (disch := omega) only [go_sem, ↓reduceIte, hI, getI_nat, spansD_get, hxi, Span.d, a1, a2]
      refine ⟨by simp only [List.length_append, List.length_cons, List.length_nil] at hm ⊢; omega, by simp only [List.length_append, List.length_cons, List.length_nil] at hm ⊢; omega, ?_⟩
      refine CallD.of g2 ?_
      simp (maxSteps := 2000000) (disch := omega) only [go_sem, ↓reduceIte]
      have hun := unitsH_len rs
      refine ⟨by simp only [List.length_append, List.length_cons, List.length_nil] at hm ⊢; omega, by simp only [List.length_append, List.length_cons, List.length_nil] at hm ⊢; omega, by simp only [List.length_append, List.length_cons, List.length_nil] at hm ⊢; omega, by simp only [List.length_append, List.length_cons, List.length_nil] at hm ⊢; omega, ?_⟩
      refine ⟨i + 1, ?_, by omega, by omega⟩
      rw [hS0, List.take_add_one, hxi, List.flatMap_append]
      simp only [Option.toList_some, List.flatMap_cons, List.flatMap_nil, List.append_nil]
      rw [hsp]
      refine Weak.mk ?_ ?_ ?_ <;> simp (maxSteps := 2000000) only [go_sem, ↓reduceIte, Sub, Int.natCast_add, Int.natCast_mul]
      all_goals first | done | simp
   ·have zl : ((i : Int) < (l.length : Int)) = False := eq_false (by omega)
    have he : i = l.length := by omega
    subst he
    rw [List.take_length, hwt]
    simp (maxSteps := 2000000) only [go_sem, ↓reduceIte, zl, hI]
end Go.Av.Tryd
set_option linter.unusedSimpArgs false
set_option maxRecDepth 100000
namespace Go.Av.Tryd
open Go.Proofs
end Go.Av.Tryd
set_option linter.unusedSimpArgs false
set_option maxRecDepth 100000
namespace Go.Av.Tryd
open Go.Proofs
end Go.Av.Tryd
set_option linter.unusedSimpArgs false
set_option maxRecDepth 100000
namespace Go.Av.Tryd
open Go.Proofs
structure Fnt where
 wide : Bool
 ws : List (Int × Int)
 miss : Int
 ns : List (Int × List UInt8)
 cs : List Span
def iKeys {α : Type} (l : List (Int × α)) : List D := l.map fun p => .int .i64 p.1
def wVals (l : List (Int × Int)) : List D := l.map fun p => .int .i64 p.2
def nVals (l : List (Int × List UInt8)) : List D := l.map fun p => .str p.2
def Fnt.d (x : Fnt) : D := .agg [.bool x.wide, .map (iKeys x.ws) (wVals x.ws), .int .i64 x.miss, .map (iKeys x.ns) (nVals x.ns), .list (spansD x.cs)]
structure Fnt.ok (x : Fnt) : Prop where
 cs : ∀ s ∈ x.cs, spanOK s
 cl : x.cs.length ≤ 1000000
 nl : ∀ p ∈ x.ns, p.2.length ≤ 1000000
structure Sgn where
 code : Int
 width : Int
 text : List UInt8
def Sgn.d (x : Sgn) : D := .agg [.int .i64 x.code, .int .i64 x.width, .str x.text]
end Go.Av.Tryd
set_option linter.unusedSimpArgs false
set_option maxRecDepth 100000
namespace Go.Av.Tryd
open Go.Proofs
end Go.Av.Tryd
set_option linter.unusedSimpArgs false
set_option maxRecDepth 100000
namespace Go.Av.Tryd
open Go.Proofs
def lightSpansM (l : List Span) : Bool := decide (l.length ≤ 310) && l.all fun x => decide (x.tx.length ≤ 60)
def L_foliowrightlaw_LightSpans : LCode :=
 .seq (.reg [Qx 2 KF]) (.seq (.seq (.reg [Qc 4 0, Q 5 (.len false (.t 4)), Q 6 (.bin .gtr (.t 5) (Ki 310))]) (.cond (.t 6) (.seq (.reg [Qx 2 KF]) .ret) .skip)) (.seq (.seq (.reg [Qx 
 3 (Ki 0)]) (.block 0 (.loop (.seq (.seq (.reg [Qc 7 3, Qc 8 0, Q 9 (.len false (.t 8)), Q 10 (.bin .lss (.t 7) (.t 9))]) (.cond (.t 10) .skip (.exit 0))) (.seq (.block 1 (.seq 
 (.reg [Qc 13 0, Qc 14 3, Q 15 (.ia 3 (.t 13) (.t 14)), Q 16 (.fa 2 (.t 15)), Q 17 (.ld false 1 (.t 16)), Q 18 (.len true (.t 17)), Q 19 (.bin .gtr (.t 18) (Ki 60))]) (.cond (.t 
 19) (.seq (.reg [Qx 2 KF]) .ret) .skip))) (.reg [Qc 11 3, Q 12 (.bin .add (.t 11) (Ki 1)), Qa 3 12])))))) (.seq (.reg [Qx 2 KT]) .ret)))
def R_foliowrightlaw_LightSpans : List LRes := [.tmp 2]
theorem lift_foliowrightlaw_LightSpans : Lifts Tryd.prog 20 20 L_foliowrightlaw_LightSpans R_foliowrightlaw_LightSpans := ⟨_, _, Tryd.func20, rfl, by kernel_rfl, by kernel_rfl, rfl⟩
theorem lightSpans_call (l : List Span) (hl : l.length ≤ 9223372036854775807) : PCall Tryd.prog 20 [.list (spansD l)] (fun r => r = .one (.bool (lightSpansM l))) := by
 refine lift_foliowrightlaw_LightSpans.call rfl ?_
 have hI : ((spansD l).length : Int) = (l.length : Int) := by rw [spansD_length]
 unfold lightSpansM
 by_cases h310 : l.length ≤ 310
 ·have z1 : (310 < (l.length : Int)) = False := eq_false (by omega)
  rw [decide_eq_true h310, Bool.true_and]
  generalize hR : (l.all fun x => decide (x.tx.length ≤ 60)) = R
  simp (maxSteps := 2000000) only [go_sem, ↓reduceIte, L_foliowrightlaw_LightSpans, R_foliowrightlaw_LightSpans, hI, z1]
  refine run_loop (fun i : Nat => ⟨[(0, .d (.list (spansD l))), (3, .d (.int .i64 i))], [], []⟩)
   (fun i => i ≤ l.length ∧ ((l.drop i).all fun x => decide (x.tx.length ≤ 60)) = R) (fun i => l.length - i) 0 ?_ ?_ ?_
  ·refine weak_mk ?_ trivial
   simp (maxSteps := 2000000) only [go_sem, ↓reduceIte, Sub, Int.natCast_add, Int.natCast_mul]
  ·exact ⟨Nat.zero_le _, hR⟩
  ·rintro i ⟨hi, hF⟩
   simp (maxSteps := 2000000) only [go_sem, ↓reduceIte, hI]
   refine ⟨fun hlt => ?_, fun hge => ?_⟩
   ·obtain ⟨x, hx⟩ := get_some (l := l) (i := i) (by omega)
    rw [drop_at hx, List.all_cons] at hF
    by_cases h60 : x.tx.length ≤ 60
    ·have z2 : (60 < (x.tx.length : Int)) = False := eq_false (by omega)
     rw [decide_eq_true h60, Bool.true_and] at hF
     simp (maxSteps := 2000000) (disch := omega) only [go_sem, ↓reduceIte, getI_nat, spansD_get, hx, Span.d, z2]
     refine ⟨i + 1, ?_, ⟨by omega, hF⟩, by omega⟩
     refine weak_mk ?_ trivial
     simp (maxSteps := 2000000) only [go_sem, ↓reduceIte, Sub, Int.natCast_add, Int.natCast_mul]
    ·have z2 : (60 < (x.tx.length : Int)) = True := eq_true (by omega)
     rw [decide_eq_false h60, Bool.false_and] at hF
     simp (maxSteps := 2000000) (disch := omega) only [go_sem, ↓reduceIte, getI_nat, spansD_get, hx, Span.d, z2]
     rw [← hF]
   ·have : l.drop i = [] := List.drop_eq_nil_of_le (by omega)
    rw [this] at hF
    rw [← hF]; rfl
 ·have z1 : (310 < (l.length : Int)) = True := eq_true (by omega)
  rw [decide_eq_false h310, Bool.false_and]
  simp (maxSteps := 2000000) only [go_sem, ↓reduceIte, L_foliowrightlaw_LightSpans, R_foliowrightlaw_LightSpans, hI, z1]
def okN (p : Int × List UInt8) : Bool := decide (p.2.length ≤ 100)
structure Fnt.wf (x : Fnt) : Prop where
 cs : ∀ s ∈ x.cs, -9223372036854775808 ≤ s.fr ∧ s.fr ≤ 9223372036854775807 ∧ -9223372036854775808 ≤ s.to ∧ s.to ≤ 9223372036854775807
 cl : x.cs.length ≤ 9223372036854775807
end Go.Av.Tryd
set_option linter.unusedSimpArgs false
set_option maxRecDepth 100000
namespace Go.Av.Tryd
open Go.Proofs
theorem u_int : Tryd.prog.cellsOf 3 = 1 := by kernel_rfl
theorem u_str : Tryd.prog.cellsOf 9 = 1 := by kernel_rfl
theorem u_span : Tryd.prog.cellsOf 59 = 3 := by kernel_rfl
theorem wf64 {n : Int} (h : (Lit.int .i64 n).wf = true) : -9223372036854775808 ≤ n ∧ n ≤ 9223372036854775807 := by
 have := wf_i64 h; omega
def Span.in64 (s : Span) : Prop := -9223372036854775808 ≤ s.fr ∧ s.fr ≤ 9223372036854775807 ∧ -9223372036854775808 ≤ s.to ∧ s.to ≤ 9223372036854775807
theorem span_of {k : Nat} {ds : List D} (h : OfT Tryd.prog k 59 ds) : ∃ s : Span, mkD ds = s.d ∧ s.in64 := by
 cases k with
 | zero => exact h.elim
 | succ k =>
  unfold OfT at h
  rw [Tryd.underlying59] at h
  obtain ⟨h1, h2⟩ := h
  rw [u_span] at h1
  match ds, h1 with
  | [a, b, c], _ =>
   have f0 : OfT Tryd.prog k 3 (([a, b, c].drop 0).take (Tryd.prog.cellsOf 3)) := h2 0 _ rfl
   have f1 : OfT Tryd.prog k 3 (([a, b, c].drop 1).take (Tryd.prog.cellsOf 3)) := h2 1 _ rfl
   have f2 : OfT Tryd.prog k 9 (([a, b, c].drop 2).take (Tryd.prog.cellsOf 9)) := h2 2 _ rfl
   simp only [u_int, u_str, List.drop_zero, List.drop_succ_cons, List.take_succ_cons, List.take_zero] at f0 f1 f2
   obtain ⟨n0, e0, w0⟩ := f0.int Tryd.underlying3
   obtain ⟨n1, e1, w1⟩ := f1.int Tryd.underlying3
   obtain ⟨s, e2, _⟩ := f2.string Tryd.underlying9
   simp only [List.cons.injEq, and_true] at e0 e1 e2
   obtain ⟨a1, a2⟩ := wf64 w0
   obtain ⟨b1, b2⟩ := wf64 w1
   exact ⟨⟨n0, n1, s⟩, by rw [e0, e1, e2]; rfl, a1, a2, b1, b2⟩
theorem spans_of {k : Nat} {ds : List D} (h : OfT Tryd.prog k 24 ds) : ∃ l : List Span, ds = [.list (spansD l)] ∧ l.length ≤ maxLen ∧ ∀ s ∈ l, s.in64 := by
 obtain ⟨l, m, _, h1, h2, h3⟩ := h.slice Tryd.underlying24
 obtain ⟨ys, rfl⟩ := all_mapped (g := fun y : { s : Span // s.in64 } => y.1.d) (l := l) fun x hx => by
  obtain ⟨cs, h4, h5⟩ := h3 x hx
  obtain ⟨s, h6, h7⟩ := span_of h5
  exact ⟨⟨s, h7⟩, by rw [h4, h6]⟩
 refine ⟨ys.map (·.1), by rw [h1]; simp [spansD, Function.comp_def], by simpa using h2, fun s hs => ?_⟩
 obtain ⟨y, _, rfl⟩ := List.mem_map.1 hs
 exact y.2
end Go.Av.Tryd
set_option linter.unusedSimpArgs false
set_option maxRecDepth 100000
set_option maxHeartbeats 2000000
namespace Go.Av.Tryd
open Go.Proofs
theorem light_facts {l : List Span} (h : lightSpansM l = true) (hw : ∀ x ∈ l, x.in64) : l.length ≤ 310 ∧ ∀ x ∈ l, x.wf := by
 unfold lightSpansM at h
 simp only [Bool.and_eq_true, decide_eq_true_eq, List.all_eq_true] at h
 refine ⟨h.1, fun x hx => ?_⟩
 obtain ⟨a1, a2, a3, a4⟩ := hw x hx
 have := h.2 x hx
 exact ⟨a1, a2, a3, a4, by omega⟩
def L_foliowrightlaw_CmapSays : LCode :=
 .seq (.reg [Qx 6 KF]) (.seq (.reg [⟨some 15, .call 16 [], none⟩, Qa 7 15]) (.seq (.seq (.reg [Qc 16 7, Q 17 (.not (.t 16)), Qc 18 17, Qd 19 0 18 false, ⟨some 20, .call 20 [.t 19], 
 some (18, false)⟩, Qg 21 (.not (.t 20)) 18 false, Q 22 (.pick (.t 18) KT (.t 21))]) (.cond (.t 22) (.seq (.reg [Qc 23 7, Qa 6 23]) .ret) .skip)) (.seq (.reg [Qc 24 0, Qc 25 1, 
 ⟨some 26, .call 21 [.t 24, .t 25], none⟩, Qa 8 26]) (.seq (.reg [Qc 28 0, Qc 29 1, ⟨some 30, .call 22 [.t 28, .t 29], none⟩, Qc 27 30, Q 31 (.ext 0 (.t 27)), Q 32 (.ext 1 (.t 
 27)), Qa 9 31, Qa 10 32]) (.seq (.seq (.reg [Qc 33 0, Qc 34 1, ⟨some 35, .call 23 [.t 33, .t 34], none⟩, Qc 36 8, ⟨some 37, .call 14 [.t 35, .t 36], none⟩, Q 38 (.not (.t 37)), 
 Qc 39 38, Qd 40 10 39 false, Qd 41 8 39 false, ⟨some 42, .call 14 [.t 40, .t 41], some (39, false)⟩, Qg 43 (.not (.t 42)) 39 false, Q 44 (.pick (.t 39) KT (.t 43)), Qc 45 44, Qd 
 46 8 45 false, Qg 47 (.bin .gtr (.t 46) (Ki 0)) 45 false, Qd 48 47 45 false, Qd 49 9 48 true, Qg 50 (.bin .neq (.t 49) (.k (.d (.str [])))) 48 true, Qg 51 (.pick (.t 48) (.t 50) 
 KF) 45 false, Q 52 (.pick (.t 45) KT (.t 51))]) (.cond (.t 52) (.seq (.reg [Qx 6 KF]) .ret) .skip)) (.seq (.seq (.reg [Qc 53 8, Q 54 (.bin .gtr (.t 53) (Ki 0))]) (.cond (.t 54) 
 (.seq (.reg [Qx 6 KT]) .ret) .skip)) (.seq (.reg [Qc 56 0, Qc 57 2, ⟨some 58, .call 24 [.t 56, .t 57], none⟩, Qc 55 58, Q 59 (.ext 0 (.t 55)), Q 60 (.ext 1 (.t 55)), Qa 11 59, Qa 
 12 60]) (.seq (.reg [Qc 62 0, Qc 63 2, ⟨some 64, .call 25 [.t 62, .t 63], none⟩, Qc 61 64, Q 65 (.ext 0 (.t 61)), Q 66 (.ext 1 (.t 61)), Qa 13 65, Qa 14 66]) (.seq (.reg [Qc 67 
 9, Qc 68 0, Qc 69 1, ⟨some 70, .call 26 [.t 68, .t 69], none⟩, Q 71 (.bin .eql (.t 67) (.t 70)), Qc 72 71, Qd 73 11 72 true, Qd 74 13 72 true, Qg 75 (.bin .eql (.t 73) (.t 74)) 
 72 true, Q 76 (.pick (.t 72) (.t 75) KF), Qc 77 76, Qd 78 12 77 true, Qd 79 14 77 true, Qg 80 (.eqB false (.t 78) (.t 79)) 77 true, Q 81 (.pick (.t 77) (.t 80) KF), Qa 6 81]) 
 .ret)))))))))
def R_foliowrightlaw_CmapSays : List LRes := [.tmp 6]
theorem lift_foliowrightlaw_CmapSays : Lifts Tryd.prog 5 82 L_foliowrightlaw_CmapSays R_foliowrightlaw_CmapSays := ⟨_, _, Tryd.func5, rfl, by kernel_rfl, by kernel_rfl, rfl⟩
theorem cmapSays_call (l : List Span) (b : Bool) (c : Int) (hl : l.length ≤ 9223372036854775807) (hw : ∀ x ∈ l, x.in64) (hc : -9223372036854775808 ≤ c ∧ c ≤ 9223372036854775807) : PCall Tryd.prog 5 [.list (spansD l), .bool b, .int .i64 c] (fun r => r = .one (.bool true)) := by
 refine lift_foliowrightlaw_CmapSays.call rfl ?_
 simp (maxSteps := 2000000) only [go_sem, ↓reduceIte, L_foliowrightlaw_CmapSays, R_foliowrightlaw_CmapSays]
 refine CallG.of maps_call ?_
 simp (maxSteps := 2000000) only [go_sem, ↓reduceIte]
 refine CallG.of (lightSpans_call l hl) ?_
 cases hlt : lightSpansM l with
 | false => simp (maxSteps := 2000000) only [go_sem, ↓reduceIte]
 | true =>
  obtain ⟨hl2, hwf⟩ := light_facts hlt hw
  simp (maxSteps := 2000000) only [go_sem, ↓reduceIte]
  refine CallG.of (spansFault_call l b hwf) ?_
  simp (maxSteps := 2000000) only [go_sem, ↓reduceIte]
  refine CallG.of (write_call l b hwf) ?_
  simp (maxSteps := 2000000) only [go_sem, ↓reduceIte]
  refine CallG.of (check_call l b hwf) ?_
  simp (maxSteps := 2000000) only [go_sem, ↓reduceIte]
  refine CallG.of (same_law _ _) ?_
  simp (maxSteps := 2000000) only [go_sem, ↓reduceIte]
  refine CallG.of (same_law _ _) ?_
  by_cases h0 : faultM l b = 0
  ·rw [if_pos h0]
   obtain ⟨hl3, hx⟩ := faultM_0 h0
   have ht := text_call l c (fun x hxl => by
    obtain ⟨fr, te, rs, a1, a2, a3, a4, a5, a6, a7, a8⟩ := hx x hxl
    exact ⟨hwf x hxl, by omega, rs, a6, a7⟩) hc (by omega)
   have hr := codeTextR_call l c (fun x hxl => by
    obtain ⟨fr, te, rs, a1, a2, a3, a4, a5, a6, a7, a8⟩ := hx x hxl
    exact ⟨hwf x hxl, by omega⟩) hc (by omega)
   have hst := spansText_call l b h0
   rw [h0]
   simp (maxSteps := 2000000) only [go_sem, ↓reduceIte]
   refine CallG.of ht ?_
   cases hcd : codeM l c with
   | none =>
    rw [hcd] at hr
    simp (maxSteps := 2000000) only [go_sem, ↓reduceIte, onRes]
    refine CallG.of hr ?_
    simp (maxSteps := 2000000) only [go_sem, ↓reduceIte, onRes]
    refine CallG.of hst ?_
    simp (maxSteps := 2000000) only [go_sem, ↓reduceIte]
   | some u =>
    rw [hcd] at hr
    simp (maxSteps := 2000000) only [go_sem, ↓reduceIte, onRes]
    refine CallG.of hr ?_
    simp (maxSteps := 2000000) only [go_sem, ↓reduceIte, onRes]
    refine CallG.of hst ?_
    simp (maxSteps := 2000000) only [go_sem, ↓reduceIte]
  ·rw [if_neg h0]
   have z : (0 < (faultM l b : Int)) = True := eq_true (by omega)
   simp (maxSteps := 2000000) only [go_sem, ↓reduceIte, z]
end Go.Av.Tryd
