import Derived.Test.YtjmhecojjcjcaaaDoorWa
import Derived.Test.YtjmhecojjcjcaaaDoorAvG
import Derived.Shelf.Strings.Search3
import Derived.Shelf.LaysM
set_option linter.unusedSimpArgs false
set_option maxRecDepth 100000
namespace Go.Av.Tryd
open Go.Proofs
def hexD (c : Nat) : Option Nat := if 48 ≤ c ∧ c ≤ 57 then some (c - 48) else if 65 ≤ c ∧ c ≤ 70 then some (c - 55) else none
def hexUpF : List UInt8 → Nat → Option Nat
 | [], n => some n
 | c :: r, n => match hexD c.toNat with
  | none => none
  | some d => hexUpF r (16 * n + d)
def hexZ (o : Option Nat) : Int := match o with
 | some n => n
 | none => -1
def pickO {α : Type} (a b : Option α) : Option α := match a with
 | some t => some t
 | none => b
def surM : Option Nat → Option (List UInt8)
 | none => none
 | some n => if 55296 ≤ n ∧ n < 57344 then none else some (enc n)
def uniM (s : List UInt8) : Option (List UInt8) := if s.length ≠ 7 ∨ s.take 3 ≠ [117, 110, 105] then none else surM (hexUpF (s.drop 3) 0)
def glyphM (s : List UInt8) : Option (List UInt8) := pickO (singleM s) (uniM s)
theorem hexD_lt {c d : Nat} (h : hexD c = some d) : d ≤ 15 := by
 unfold hexD at h
 split at h
 ·cases h; omega
 ·split at h
  ·cases h; omega
  ·cases h
theorem hexUpF_lt : ∀ (s : List UInt8) (n : Nat), ∀ m, hexUpF s n = some m → m < (n + 1) * 16 ^ s.length
 | [], n, m, h => by simp [hexUpF] at h; subst h; simp
 | c :: r, n, m, h => by
  simp only [hexUpF] at h
  cases hd : hexD c.toNat with
  | none => rw [hd] at h; cases h
  | some d =>
   rw [hd] at h
   have ih := hexUpF_lt r _ m h
   have := hexD_lt hd
   rw [List.length_cons, Nat.pow_succ]
   have h2 : (16 * n + d + 1) * 16 ^ r.length ≤ ((n + 1) * 16) * 16 ^ r.length := Nat.mul_le_mul_right _ (by omega)
   calc m < (16 * n + d + 1) * 16 ^ r.length := ih
    _ ≤ ((n + 1) * 16) * 16 ^ r.length := h2
    _ = (n + 1) * (16 ^ r.length * 16) := by rw [Nat.mul_assoc, Nat.mul_comm 16]
def L_font_hex : LCode :=
 .seq (.reg [Qx 2 (Ki 0)]) (.seq (.reg [Qx 3 (Ki 0)]) (.seq (.seq (.reg [Qc 6 0, Q 7 (.len true (.t 6)), Q 8 (.cp (Ki 0))]) (.block 0 (.loop (.seq (.reg [Q 9 (.bin .lss (.t 8) (.t 
 7))]) (.seq (.cond (.t 9) .skip (.exit 0)) (.seq (.block 1 (.seq (.reg [Qc 10 8, Qa 4 10]) (.seq (.reg [Qc 11 0, Qc 12 4, Q 13 (.idxS (.t 11) (.t 12)), Qa 5 13]) (.block 2 (.seq 
 (.reg [Qc 15 5, Q 16 (.bin .geq (.t 15) (Kb 48)), Qc 17 16, Qd 18 5 17 true, Qg 19 (.bin .leq (.t 18) (Kb 57)) 17 true, Q 20 (.pick (.t 17) (.t 19) KF), Qa 14 20]) (.cond (.t 14) 
 (.reg [Qc 21 3, Q 22 (.bin .mul (Ki 16) (.t 21)), Qc 23 5, Q 24 (.bin .sub (.t 23) (Kb 48)), Q 25 (.cvI .i64 (.t 24)), Q 26 (.bin .add (.t 22) (.t 25)), Qa 3 26]) (.seq (.reg [Qc 
 28 5, Q 29 (.bin .geq (.t 28) (Kb 65)), Qc 30 29, Qd 31 5 30 true, Qg 32 (.bin .leq (.t 31) (Kb 70)) 30 true, Q 33 (.pick (.t 30) (.t 32) KF), Qa 27 33]) (.cond (.t 27) (.reg [Qc 
 34 3, Q 35 (.bin .mul (Ki 16) (.t 34)), Qc 36 5, Q 37 (.bin .sub (.t 36) (Kb 65)), Q 38 (.cvI .i64 (.t 37)), Q 39 (.bin .add (.t 35) (.t 38)), Q 40 (.bin .add (.t 39) (Ki 10)), 
 Qa 3 40]) (.seq (.reg [Qx 2 (Ki (-1))]) .ret))))))))) (.reg [Q 41 (.bin .add (.t 8) (Ki 1)), Qc 8 41]))))))) (.seq (.reg [Qc 42 3, Qa 2 42]) .ret)))
def R_font_hex : List LRes := [.tmp 2]
theorem lift_font_hex : Lifts Tryd.prog 28 43 L_font_hex R_font_hex := ⟨_, _, Tryd.func28, rfl, by kernel_rfl, by kernel_rfl, rfl⟩
theorem fhex_call (s : List UInt8) (hs : s.length ≤ 4) : PCall Tryd.prog 28 [.str s] (fun r => r = .one (.int .i64 (hexZ (hexUpF s 0)))) := by
 refine lift_font_hex.call rfl ?_
 generalize hR : hexUpF s 0 = R
 simp (maxSteps := 2000000) only [go_sem, ↓reduceIte, L_font_hex, R_font_hex]
 refine run_loop (fun y : Nat × Nat => ⟨[(0, .d (.str s)), (3, .d (.int .i64 y.2)), (7, .d (.int .i64 s.length)), (8, .d (.int .i64 y.1))], [], []⟩)
  (fun y => y.1 ≤ s.length ∧ y.2 < 16 ^ y.1 ∧ hexUpF (s.drop y.1) y.2 = R) (fun y => s.length - y.1) (0, 0) ?_ ?_ ?_
 ·refine weak_mk ?_ trivial
  simp (maxSteps := 2000000) only [go_sem, ↓reduceIte, Sub, Int.natCast_add, Int.natCast_mul]
 ·exact ⟨Nat.zero_le _, by simp, hR⟩
 ·rintro ⟨i, n⟩ ⟨hi, hn, hF⟩
  simp only at hi hn hF
  have hpow : 16 ^ i ≤ 65536 := by
   have : i = 0 ∨ i = 1 ∨ i = 2 ∨ i = 3 ∨ i = 4 := by omega
   rcases this with rfl | rfl | rfl | rfl | rfl <;> decide
  simp (maxSteps := 2000000) only [go_sem, ↓reduceIte]
  refine ⟨fun hlt => ?_, fun hge => ?_⟩
  ·obtain ⟨c, hc⟩ := get_some (l := s) (i := i) (by omega)
   have hc8 := u8_lt c
   rw [drop_at hc, hexUpF] at hF
   have nxt : ∀ d : Nat, hexD c.toNat = some d → hexUpF (s.drop (i + 1)) (16 * n + d) = R ∧ 16 * n + d < 16 ^ (i + 1) := fun d h => by
    rw [h] at hF
    have := hexD_lt h
    exact ⟨hF, by rw [Nat.pow_succ]; omega⟩
   by_cases a : 48 ≤ c.toNat ∧ c.toNat ≤ 57
   ·have z1 : (48 ≤ (c.toNat : Int)) = True := eq_true (by omega)
    have z2 : ((c.toNat : Int) ≤ 57) = True := eq_true (by omega)
    obtain ⟨f1, f2⟩ := nxt (c.toNat - 48) (by unfold hexD; rw [if_pos a])
    have e : (16 * (n : Int) + ((c.toNat : Int) - 48)) = ((16 * n + (c.toNat - 48) : Nat) : Int) := by omega
    simp (maxSteps := 2000000) (disch := omega) only [go_sem, ↓reduceIte, getI_nat, hc, z1, z2, e]
    refine ⟨(i + 1, 16 * n + (c.toNat - 48)), ?_, ⟨by simp only; omega, f2, f1⟩, by simp only; omega⟩
    refine weak_mk ?_ trivial
    simp (maxSteps := 2000000) only [go_sem, ↓reduceIte, Sub, Int.natCast_add, Int.natCast_mul]
   ·have bad : hexD c.toNat = none → Res.one (.int .i64 (-1)) = Res.one (.int .i64 (hexZ R)) := fun h => by rw [h] at hF; rw [← hF]; rfl
    by_cases b : 65 ≤ c.toNat ∧ c.toNat ≤ 70
    ·have z2 : ((c.toNat : Int) ≤ 57) = False := eq_false (by omega)
     have z1 : (48 ≤ (c.toNat : Int)) = True := eq_true (by omega)
     have z3 : (65 ≤ (c.toNat : Int)) = True := eq_true (by omega)
     have z4 : ((c.toNat : Int) ≤ 70) = True := eq_true (by omega)
     obtain ⟨f1, f2⟩ := nxt (c.toNat - 55) (by unfold hexD; rw [if_neg a, if_pos b])
     have e : (16 * (n : Int) + ((c.toNat : Int) - 65) + 10) = ((16 * n + (c.toNat - 55) : Nat) : Int) := by omega
     simp (maxSteps := 2000000) (disch := omega) only [go_sem, ↓reduceIte, getI_nat, hc, z1, z2, z3, z4, e]
     refine ⟨(i + 1, 16 * n + (c.toNat - 55)), ?_, ⟨by simp only; omega, f2, f1⟩, by simp only; omega⟩
     refine weak_mk ?_ trivial
     simp (maxSteps := 2000000) only [go_sem, ↓reduceIte, Sub, Int.natCast_add, Int.natCast_mul]
    ·have b' := bad (by unfold hexD; rw [if_neg a, if_neg b])
     by_cases c1 : 48 ≤ c.toNat
     ·have z1 : (48 ≤ (c.toNat : Int)) = True := eq_true (by omega)
      have z2 : ((c.toNat : Int) ≤ 57) = False := eq_false (by omega)
      by_cases c2 : 65 ≤ c.toNat
      ·have z3 : (65 ≤ (c.toNat : Int)) = True := eq_true (by omega)
       have z4 : ((c.toNat : Int) ≤ 70) = False := eq_false (by omega)
       simp (maxSteps := 2000000) (disch := omega) only [go_sem, ↓reduceIte, getI_nat, hc, z1, z2, z3, z4]
       exact b'
      ·have z3 : (65 ≤ (c.toNat : Int)) = False := eq_false (by omega)
       simp (maxSteps := 2000000) (disch := omega) only [go_sem, ↓reduceIte, getI_nat, hc, z1, z2, z3]
       exact b'
     ·have z1 : (48 ≤ (c.toNat : Int)) = False := eq_false (by omega)
      have z3 : (65 ≤ (c.toNat : Int)) = False := eq_false (by omega)
      simp (maxSteps := 2000000) (disch := omega) only [go_sem, ↓reduceIte, getI_nat, hc, z1, z3]
      exact b'
  ·have : s.drop i = [] := List.drop_eq_nil_of_le (by omega)
   rw [this] at hF
   simp only [hexUpF] at hF
   subst hF
   rfl
def L_font_Glyph : LCode :=
 .seq (.reg [Qx 2 (.k (.d (.str []))), Qx 3 KF]) (.seq (.reg [Qc 8 0, ⟨some 9, .call 27 [.t 8], none⟩, Qc 7 9, Q 10 (.ext 0 (.t 7)), Q 11 (.ext 1 (.t 7)), Qa 4 10, Qa 5 11]) (.seq 
 (.seq (.reg [Qc 12 5]) (.cond (.t 12) (.seq (.reg [Qc 13 4, Qa 2 13, Qx 3 KT]) .ret) .skip)) (.seq (.seq (.reg [Qc 14 0, Q 15 (.len true (.t 14)), Q 16 (.bin .neq (.t 15) (Ki 
 7)), Qc 17 16, Qd 18 0 17 false, Qg 19 (.subS (.t 18) none (some (Ki 3))) 17 false, Qg 20 (.bin .neq (.t 19) (.k (.d (.str [117, 110, 105])))) 17 false, Q 21 (.pick (.t 17) KT 
 (.t 20))]) (.cond (.t 21) (.seq (.reg [Qx 2 (.k (.d (.str []))), Qx 3 KF]) .ret) .skip)) (.seq (.reg [Qc 22 0, Q 23 (.subS (.t 22) (some (Ki 3)) none), ⟨some 24, .call 28 [.t 
 23], none⟩, Qa 6 24]) (.seq (.seq (.reg [Qc 25 6, Q 26 (.bin .lss (.t 25) (Ki 0)), Qc 27 26, Qd 28 6 27 false, Qg 29 (.bin .geq (.t 28) (Ki 55296)) 27 false, Qd 30 29 27 false, 
 Qd 31 6 30 true, Qg 32 (.bin .lss (.t 31) (Ki 57344)) 30 true, Qg 33 (.pick (.t 30) (.t 32) KF) 27 false, Q 34 (.pick (.t 27) KT (.t 33))]) (.cond (.t 34) (.seq (.reg [Qx 2 (.k 
 (.d (.str []))), Qx 3 KF]) .ret) .skip)) (.seq (.reg [Qc 35 6, Q 36 (.cvI .i32 (.t 35)), Q 37 (.i2s (.t 36)), Qa 2 37, Qx 3 KT]) .ret))))))
def R_font_Glyph : List LRes := [.tmp 2, .tmp 3]
theorem lift_font_Glyph : Lifts Tryd.prog 10 38 L_font_Glyph R_font_Glyph := ⟨_, _, Tryd.func10, rfl, by kernel_rfl, by kernel_rfl, rfl⟩
theorem glyph_call (s : List UInt8) (hs : s.length ≤ 1000000) : PCall Tryd.prog 10 [.str s] (fun r => r = onRes (glyphM s)) := by
 refine lift_font_Glyph.call rfl ?_
 unfold glyphM
 simp (maxSteps := 2000000) only [go_sem, ↓reduceIte, L_font_Glyph, R_font_Glyph]
 refine CallG.of (single_call s hs) ?_
 cases hS : singleM s with
 | some t =>
  simp only [pickO, onRes]
  simp (maxSteps := 2000000) only [go_sem, ↓reduceIte]
 | none =>
  simp only [pickO, uniM, onRes]
  by_cases h7 : s.length = 7
  ·have z7 : ((s.length : Int) = 7) = True := eq_true (by omega)
   have hcut : cutI s 0 3 = s.take 3 := rfl
   have hcut2 : cutI s 3 (s.length : Int) = s.drop 3 := by unfold cutI; simp
   by_cases hu : s.take 3 = [117, 110, 105]
   ·have hb : ¬ (s.length ≠ 7 ∨ s.take 3 ≠ [117, 110, 105]) := by rintro (h | h); exact h h7; exact h hu
    rw [if_neg hb]
    simp (maxSteps := 2000000) (disch := omega) only [go_sem, ↓reduceIte, z7, hcut, hu]
    refine ⟨by omega, ⟨by omega, by omega⟩, ?_⟩
    rw [hcut2]
    refine CallG.of (fhex_call (s.drop 3) (by rw [List.length_drop]; omega)) ?_
    have hlt := hexUpF_lt (s.drop 3) 0
    rw [List.length_drop, h7] at hlt
    cases hH : hexUpF (s.drop 3) 0 with
    | none =>
     simp only [hexZ, surM]
     simp (maxSteps := 2000000) only [go_sem, ↓reduceIte]
    | some n =>
     have hn := hlt n hH
     simp only [hexZ, surM]
     have z8 : ((n : Int) < 0) = False := eq_false (by omega)
     by_cases hsur : 55296 ≤ n ∧ n < 57344
     ·have z9 : (55296 ≤ (n : Int)) = True := eq_true (by omega)
      have z10 : ((n : Int) < 57344) = True := eq_true (by omega)
      simp (maxSteps := 2000000) only [go_sem, ↓reduceIte, z8, z9, z10]
      rw [if_pos hsur]
     ·have he : (Utf8.encode (n : Int)).data.toList = enc n := encode_enc (by unfold vrune; omega)
      have hw32 : IntKind.i32.wrap (n : Int) = (n : Int) := by rw [IntWalk.i32_in _ (by omega)]
      rw [if_neg hsur]
      by_cases h9 : 55296 ≤ n
      ·have z9 : (55296 ≤ (n : Int)) = True := eq_true (by omega)
       have z10 : ((n : Int) < 57344) = False := eq_false (by omega)
       simp (maxSteps := 2000000) only [go_sem, ↓reduceIte, z8, z9, z10, hw32, he]
      ·have z9 : (55296 ≤ (n : Int)) = False := eq_false (by omega)
       simp (maxSteps := 2000000) only [go_sem, ↓reduceIte, z8, z9, hw32, he]
   ·have hb : s.length ≠ 7 ∨ s.take 3 ≠ [117, 110, 105] := .inr hu
    rw [if_pos hb]
    simp (maxSteps := 2000000) (disch := omega) only [go_sem, ↓reduceIte, z7, hcut, hu]
    omega
  ·have z7 : ((s.length : Int) = 7) = False := eq_false (by omega)
   rw [if_pos (.inl h7)]
   simp (maxSteps := 2000000) (disch := omega) only [go_sem, ↓reduceIte, z7]
end Go.Av.Tryd
set_option linter.unusedSimpArgs false
set_option maxRecDepth 100000
namespace Go.Av.Tryd
open Go.Proofs
structure Fnt where
 wide : Bool
 ws : List (Int × Int)
 miss : Int
 ns : List (Int × List UInt8)
 cs : List Span
def iKeys {α : Type} (l : List (Int × α)) : List D := l.map fun p => .int .i64 p.1
def wVals (l : List (Int × Int)) : List D := l.map fun p => .int .i64 p.2
def nVals (l : List (Int × List UInt8)) : List D := l.map fun p => .str p.2
def Fnt.d (x : Fnt) : D := .agg [.bool x.wide, .map (iKeys x.ws) (wVals x.ws), .int .i64 x.miss, .map (iKeys x.ns) (nVals x.ns), .list (spansD x.cs)]
def assoc {α : Type} : List (Int × α) → Int → Option α
 | [], _ => none
 | p :: r, c => if c = p.1 then some p.2 else assoc r c
theorem assoc_w (l : List (Int × Int)) (c : Int) : mlook (iKeys l) (wVals l) (.int .i64 c) = (assoc l c).map (D.int .i64) := by
 induction l with
 | nil => rfl
 | cons p r ih =>
  simp only [iKeys, wVals, List.map_cons, mlook, keyEq, beq_iff_eq, assoc] at ih ⊢
  split
  ·rfl
  ·exact ih
theorem assoc_n (l : List (Int × List UInt8)) (c : Int) : mlook (iKeys l) (nVals l) (.int .i64 c) = (assoc l c).map D.str := by
 induction l with
 | nil => rfl
 | cons p r ih =>
  simp only [iKeys, nVals, List.map_cons, mlook, keyEq, beq_iff_eq, assoc] at ih ⊢
  split
  ·rfl
  ·exact ih
theorem iKeys_kind {α : Type} (l : List (Int × α)) : ∀ k ∈ iKeys l, keyKind (.int .i64) k = true := fun k hk => by
 obtain ⟨p, _, rfl⟩ := List.mem_map.1 hk; rfl
theorem assoc_mem {α : Type} : ∀ {l : List (Int × α)} {c : Int} {v : α}, assoc l c = some v → ∃ p ∈ l, p.2 = v
 | [], c, v, h => by cases h
 | p :: r, c, v, h => by
  simp only [assoc] at h
  split at h
  ·cases h; exact ⟨p, by simp, rfl⟩
  ·obtain ⟨q, q1, q2⟩ := assoc_mem h; exact ⟨q, by simp [q1], q2⟩
structure Fnt.ok (x : Fnt) : Prop where
 cs : ∀ s ∈ x.cs, spanOK s
 cl : x.cs.length ≤ 1000000
 nl : ∀ p ∈ x.ns, p.2.length ≤ 1000000
def fTextM (x : Fnt) (c : Int) : List UInt8 :=
 match codeM x.cs c with
 | some t => t
 | none => if x.wide = true then [] else
  match assoc x.ns c with
  | some n => (glyphM n).getD []
  | none => if 32 ≤ c ∧ c ≤ 126 then [UInt8.ofNat c.toNat] else []
theorem mapIS : Tryd.prog.underlying 23 = some (.map 3 9) := by kernel_rfl
theorem mapII : Tryd.prog.underlying 22 = some (.map 3 3) := by kernel_rfl
theorem intT : Tryd.prog.underlying 3 = some (.int .i64) := by kernel_rfl
theorem strZ' : Program.zeroOf Tryd.prog 9 = some (.str []) := by kernel_rfl
theorem intZ' : Program.zeroOf Tryd.prog 3 = some (.int .i64 0) := by kernel_rfl
theorem ascii_enc {c : Nat} (h : c < 128) : (Utf8.encode (c : Int)).data.toList = [UInt8.ofNat c] := by
 rw [encode_enc (by unfold vrune; omega)]
 rcases enc_cases (r := c) (by unfold vrune; omega) with ⟨_, e⟩ | ⟨a, _, _⟩ | ⟨a, _, _⟩ | ⟨a, _, _⟩
 ·exact e
 all_goals omega
def L_font_text : LCode :=
 .seq (.reg [⟨some 2, .box (.t 0), none⟩, Qx 4 (.k (.d (.str [])))]) (.seq (.reg [Q 10 (.fa 4 (.t 2)), Q 11 (.ld false 1 (.t 10)), Qc 12 1, ⟨some 13, .call 24 [.t 11, .t 12], none⟩, 
 Qc 9 13, Q 14 (.ext 0 (.t 9)), Q 15 (.ext 1 (.t 9)), Qa 5 14, Qa 6 15]) (.seq (.seq (.reg [Qc 16 6]) (.cond (.t 16) (.seq (.reg [Qc 17 5, Qa 4 17]) .ret) .skip)) (.seq (.seq 
 (.reg [Q 18 (.fa 0 (.t 2)), Q 19 (.ld false 1 (.t 18))]) (.cond (.t 19) (.seq (.reg [Qx 4 (.k (.d (.str [])))]) .ret) .skip)) (.seq (.reg [Q 21 (.fa 3 (.t 2)), Q 22 (.ld false 1 
 (.t 21)), Qc 23 1, ⟨some 24, .prim (.lookup 23 true) [.t 22, .t 23] [], none⟩, Qc 20 24, Q 25 (.ext 0 (.t 20)), Q 26 (.ext 1 (.t 20)), Qa 7 25, Qa 8 26]) (.seq (.seq (.reg [Qc 27 
 8]) (.cond (.t 27) (.seq (.reg [Qc 29 7, ⟨some 30, .call 10 [.t 29], none⟩, Qc 28 30, Q 31 (.ext 0 (.t 28)), Q 32 (.ext 1 (.t 28)), Qa 5 31]) (.seq (.reg [Qc 33 5, Qa 4 33]) 
 .ret)) .skip)) (.seq (.seq (.reg [Qc 34 1, Q 35 (.bin .geq (.t 34) (Ki 32)), Qc 36 35, Qd 37 1 36 true, Qg 38 (.bin .leq (.t 37) (Ki 126)) 36 true, Q 39 (.pick (.t 36) (.t 38) 
 KF)]) (.cond (.t 39) (.seq (.reg [Qc 40 1, Q 41 (.cvI .i32 (.t 40)), Q 42 (.i2s (.t 41)), Qa 4 42]) .ret) .skip)) (.seq (.reg [Qx 4 (.k (.d (.str [])))]) .ret)))))))
def R_font_text : List LRes := [.tmp 4]
theorem lift_font_text : Lifts Tryd.prog 31 43 L_font_text R_font_text := ⟨_, _, Tryd.func31, rfl, by kernel_rfl, by kernel_rfl, rfl⟩
theorem ftext_call (x : Fnt) (hx : x.ok) (c : Int) (hc : 0 ≤ c ∧ c ≤ 65535) : PCall Tryd.prog 31 [x.d, .int .i64 c] (fun r => r = .one (.str (fTextM x c))) := by
 refine lift_font_text.call rfl ?_
 unfold fTextM
 simp (maxSteps := 2000000) only [go_sem, ↓reduceIte, L_font_text, R_font_text, Fnt.d]
 refine CallG.of (text_call x.cs c hx.cs (by omega) hx.cl) ?_
 cases hcm : codeM x.cs c with
 | some t =>
  simp only [onRes]
  simp (maxSteps := 2000000) only [go_sem, ↓reduceIte]
 | none =>
  simp only [onRes]
  cases hw : x.wide with
  | true =>
   simp (maxSteps := 2000000) only [go_sem, ↓reduceIte]
  | false =>
   simp (maxSteps := 2000000) only [go_sem, ↓reduceIte]
   refine PrimG.lookup (kd := .int .i64) (key := .int .i64 c) (zero := .str []) rfl rfl mapIS intT rfl (iKeys_kind _) strZ' ?_
   rw [assoc_n]
   cases ha : assoc x.ns c with
   | some n =>
    obtain ⟨p, p1, p2⟩ := assoc_mem ha
    have hnl := hx.nl p p1
    rw [p2] at hnl
    simp only [Option.map_some, Option.getD_some, Option.isSome_some]
    simp (maxSteps := 2000000) only [go_sem, ↓reduceIte]
    refine CallG.of (glyph_call n hnl) ?_
    cases glyphM n <;> (simp only [onRes]; simp (maxSteps := 2000000) only [go_sem, ↓reduceIte]) <;> rfl
   | none =>
    simp only [Option.map_none, Option.getD_none, Option.isSome_none]
    obtain ⟨m, rfl⟩ := Int.eq_ofNat_of_zero_le hc.1
    have hw32 : IntKind.i32.wrap (m : Int) = (m : Int) := by rw [IntWalk.i32_in _ (by omega)]
    by_cases h1 : (32 : Int) ≤ m
    ·have z1 := eq_true h1
     by_cases h2 : (m : Int) ≤ 126
     ·have z2 := eq_true h2
      have he := ascii_enc (c := m) (by omega)
      simp (maxSteps := 2000000) (disch := omega) only [go_sem, ↓reduceIte, z1, z2, hw32, he]
      rfl
     ·have z2 := eq_false h2
      simp (maxSteps := 2000000) (disch := omega) only [go_sem, ↓reduceIte, z1, z2]
    ·have z1 := eq_false h1
     simp (maxSteps := 2000000) (disch := omega) only [go_sem, ↓reduceIte, z1]
structure Sgn where
 code : Int
 width : Int
 text : List UInt8
def Sgn.d (x : Sgn) : D := .agg [.int .i64 x.code, .int .i64 x.width, .str x.text]
def sgnsD (l : List Sgn) : List D := l.map Sgn.d
theorem sgnsD_length (l : List Sgn) : (sgnsD l).length = l.length := by simp [sgnsD]
theorem sgnsD_get (l : List Sgn) (j : Nat) : (sgnsD l)[j]? = (l[j]?).map Sgn.d := by simp [sgnsD]
theorem sgnsD_append (a b : List Sgn) : sgnsD (a ++ b) = sgnsD a ++ sgnsD b := by simp [sgnsD]
def sgnM (x : Fnt) (c : Int) : Sgn := ⟨c, (assoc x.ws c).getD x.miss, fTextM x c⟩
def sgns1 (x : Fnt) (s : List UInt8) : List Sgn := s.map fun c => sgnM x c.toNat
def sgns2 (x : Fnt) : List UInt8 → List Sgn
 | a :: b :: r => sgnM x (256 * (a.toNat : Int) + b.toNat) :: sgns2 x r
 | _ => []
def signsM (x : Fnt) (s : List UInt8) : Option (List Sgn) := if x.wide = true then (if s.length % 2 = 0 then some (sgns2 x s) else none) else some (sgns1 x s)
def signsRes (o : Option (List Sgn)) : Res := match o with
 | some l => .tup [.list (sgnsD l), errD 0]
 | none => .tup [.list [], errD 4]
theorem sgns2_app (x : Fnt) (a b : UInt8) : ∀ p : List UInt8, p.length % 2 = 0 → sgns2 x (p ++ [a, b]) = sgns2 x p ++ [sgnM x (256 * (a.toNat : Int) + b.toNat)]
 | [], _ => rfl
 | [c], h => by simp at h
 | c :: d :: r, h => by
  have := sgns2_app x a b r (by simp at h; omega)
  simp only [List.cons_append, sgns2, this]
theorem sgns2_len (x : Fnt) : ∀ p : List UInt8, (sgns2 x p).length ≤ p.length
 | [] => by simp [sgns2]
 | [c] => by simp [sgns2]
 | c :: d :: r => by have := sgns2_len x r; simp only [sgns2, List.length_cons]; omega
def L_font_Signs : LCode :=
 .seq (.reg [⟨some 2, .box (.t 0), none⟩, ⟨some 4, .nils 56 3, none⟩, Qx 5 (.k (.d .nil))]) (.seq (.reg [Qx 6 (Ki 1)]) (.seq (.seq (.reg [Q 12 (.fa 0 (.t 2)), Q 13 (.ld false 1 (.t 
 12))]) (.cond (.t 13) (.reg [Qx 6 (Ki 2)]) .skip)) (.seq (.seq (.reg [Qc 14 1, Q 15 (.len true (.t 14)), Qc 16 6, Q 17 (.bin .rem (.t 15) (.t 16)), Q 18 (.bin .gtr (.t 17) (Ki 
 0))]) (.cond (.t 18) (.seq (.reg [Q 19 (.mkI 65 (Ki 4)), ⟨some 4, .nils 56 3, none⟩, Qa 5 19]) .ret) .skip)) (.seq (.reg [⟨some 7, .nils 56 3, none⟩]) (.seq (.seq (.reg [Qx 8 (Ki 
 0)]) (.block 0 (.loop (.seq (.seq (.reg [Qc 20 8, Qc 21 1, Q 22 (.len true (.t 21)), Q 23 (.bin .lss (.t 20) (.t 22))]) (.cond (.t 23) .skip (.exit 0))) (.seq (.block 1 (.seq 
 (.reg [Qc 27 1, Qc 28 8, Q 29 (.idxS (.t 27) (.t 28)), Q 30 (.cvI .i64 (.t 29)), Qa 9 30]) (.seq (.seq (.reg [Q 31 (.fa 0 (.t 2)), Q 32 (.ld false 1 (.t 31))]) (.cond (.t 32) 
 (.reg [Qc 33 9, Q 34 (.bin .mul (Ki 256) (.t 33)), Qc 35 1, Qc 36 8, Q 37 (.bin .add (.t 36) (Ki 1)), Q 38 (.idxS (.t 35) (.t 37)), Q 39 (.cvI .i64 (.t 38)), Q 40 (.bin .add (.t 
 34) (.t 39)), Qa 9 40]) .skip)) (.seq (.reg [Q 42 (.fa 1 (.t 2)), Q 43 (.ld false 1 (.t 42)), Qc 44 9, ⟨some 45, .prim (.lookup 22 true) [.t 43, .t 44] [], none⟩, Qc 41 45, Q 46 
 (.ext 0 (.t 41)), Q 47 (.ext 1 (.t 41)), Qa 10 46, Qa 11 47]) (.seq (.seq (.reg [Qc 48 11, Q 49 (.not (.t 48))]) (.cond (.t 49) (.reg [Q 50 (.fa 2 (.t 2)), Q 51 (.ld false 1 (.t 
 50)), Qa 10 51]) .skip)) (.reg [Qc 52 7, Qc 53 9, Qc 54 10, Q 55 (.ld true 5 (.t 2)), Qc 56 9, ⟨some 57, .call 31 [.t 55, .t 56], none⟩, Q 58 (.bld [(0, 1), (1, 1), (2, 1)] [.int 
 .i64 0, .int .i64 0, .str []] [] [(0, .t 53), (1, .t 54), (2, .t 57)]), ⟨some 59, .bsl 56 3 [.t 58], none⟩, ⟨some 60, .app 56 3 32 false (.t 52) (.t 59), none⟩, Qa 7 60])))))) 
 (.reg [Qc 24 8, Qc 25 6, Q 26 (.bin .add (.t 24) (.t 25)), Qa 8 26])))))) (.seq (.reg [Qc 61 7, Qa 4 61, Qx 5 (.k (.d .nil))]) .ret))))))
def R_font_Signs : List LRes := [.tmp 4, .tmp 5]
theorem lift_font_Signs : Lifts Tryd.prog 12 62 L_font_Signs R_font_Signs := ⟨_, _, Tryd.func12, rfl, by kernel_rfl, by kernel_rfl, rfl⟩
theorem signs_call (x : Fnt) (hx : x.ok) (s : List UInt8) (hs : s.length ≤ 1000000) : PCall Tryd.prog 12 [x.d, .str s] (fun r => r = signsRes (signsM x s)) := by
 refine lift_font_Signs.call rfl ?_
 unfold signsM
 cases hw : x.wide with
 | true =>
  have hxd : x.d = .agg [.bool true, .map (iKeys x.ws) (wVals x.ws), .int .i64 x.miss, .map (iKeys x.ns) (nVals x.ns), .list (spansD x.cs)] := by unfold Fnt.d; rw [hw]
  simp only [if_true]
  have zm : Int.tmod (s.length : Int) 2 = ((s.length % 2 : Nat) : Int) := rfl
  by_cases h2 : s.length % 2 = 0
  ·rw [if_pos h2]
   have z2 : (0 < ((s.length % 2 : Nat) : Int)) = False := eq_false (by omega)
   simp (maxSteps := 2000000) only [go_sem, ↓reduceIte, L_font_Signs, R_font_Signs, Fnt.d, hw, zm, z2]
   refine run_loop (fun i : Nat => ⟨[(1, .d (.str s)), (2, .ptr (.l 2) 0), (6, .d (.int .i64 2)), (7, .own (.t 7) 56 3 (sgnsD (sgns2 x (s.take i)))), (8, .d (.int .i64 i))], [(2, .cells [.d (.bool true), .d (.map (iKeys x.ws) (wVals x.ws)), .d (.int .i64 x.miss), .d (.map (iKeys x.ns) (nVals x.ns)), .d (.list (spansD x.cs))])], []⟩)
    (fun i => i ≤ s.length ∧ i % 2 = 0) (fun i => s.length - i) 0 ?_ ?_ ?_
   ·refine Weak.mk ?_ ?_ ?_ <;> simp (maxSteps := 2000000) only [go_sem, ↓reduceIte, Sub, Int.natCast_add, Int.natCast_mul, sgns2, sgnsD, List.take_zero, List.map_nil]
   ·exact ⟨Nat.zero_le _, rfl⟩
   ·rintro i ⟨hi, hm⟩
    simp (maxSteps := 2000000) only [go_sem, ↓reduceIte]
    refine ⟨fun hlt => ?_, fun hge => ?_⟩
    ·obtain ⟨a, ha⟩ := get_some (l := s) (i := i) (by omega)
     have ha8 := u8_lt a
     obtain ⟨b, hb⟩ := get_some (l := s) (i := i + 1) (by omega)
     have hb8 := u8_lt b
     have hb' : getI s ((i : Int) + 1) = some b := by rw [getI_add1]; exact hb
     have htl : (s.take i).length = i := by rw [List.length_take]; omega
     have hnext : sgns2 x (s.take (i + 2)) = sgns2 x (s.take i) ++ [sgnM x (256 * (a.toNat : Int) + b.toNat)] := by
      rw [show i + 2 = (i + 1) + 1 by omega, List.take_add_one, List.take_add_one, ha, hb]
      simp only [Option.toList_some, List.append_assoc, List.cons_append, List.nil_append]
      exact sgns2_app x a b (s.take i) (by rw [htl]; exact hm)
     have hl1 := sgns2_len x (s.take i)
     simp (maxSteps := 2000000) (disch := omega) only [go_sem, ↓reduceIte, getI_nat, ha, hb']
     have hsl := sgnsD_length (sgns2 x (s.take i))
     refine PrimG.lookup (kd := .int .i64) (key := .int .i64 (256 * (a.toNat : Int) + b.toNat)) (zero := .int .i64 0) rfl rfl mapII intT rfl (iKeys_kind _) intZ' ?_
     rw [assoc_w]
     have fin : ∀ w : Int, (assoc x.ws (256 * (a.toNat : Int) + b.toNat)).getD x.miss = w → sgnsD (sgns2 x (s.take i)) ++ [.agg [.int .i64 (256 * (a.toNat : Int) + b.toNat), .int .i64 w, .str (fTextM x (256 * (a.toNat : Int) + b.toNat))]] = sgnsD (sgns2 x (s.take (i + 2))) := fun w h => by
      rw [hnext, sgnsD_append]; simp only [sgnsD, List.map_cons, List.map_nil, Sgn.d, sgnM, h]
     cases hq : assoc x.ws (256 * (a.toNat : Int) + b.toNat) with
     | some w =>
      have f1 := fin w (by rw [hq]; rfl)
      simp only [Option.map_some, Option.getD_some, Option.isSome_some]
      simp (maxSteps := 2000000) (disch := omega) only [go_sem, ↓reduceIte, hw]
      have hcall := ftext_call x hx (256 * (a.toNat : Int) + b.toNat) (by omega)
      rw [hxd] at hcall
      refine CallG.of hcall ?_
      simp (maxSteps := 2000000) (disch := omega) only [go_sem, ↓reduceIte, hw, sgnsD_length]
      refine ⟨by omega, i + 2, ?_, ⟨by omega, by omega⟩, by omega⟩
      refine Weak.mk ?_ ?_ ?_ <;> simp (maxSteps := 2000000) only [go_sem, ↓reduceIte, Sub, Int.natCast_add, Int.natCast_mul, f1]
     | none =>
      have f1 := fin x.miss (by rw [hq]; rfl)
      simp only [Option.map_none, Option.getD_none, Option.isSome_none]
      simp (maxSteps := 2000000) (disch := omega) only [go_sem, ↓reduceIte, hw]
      have hcall := ftext_call x hx (256 * (a.toNat : Int) + b.toNat) (by omega)
      rw [hxd] at hcall
      refine CallG.of hcall ?_
      simp (maxSteps := 2000000) (disch := omega) only [go_sem, ↓reduceIte, hw, sgnsD_length]
      refine ⟨by omega, i + 2, ?_, ⟨by omega, by omega⟩, by omega⟩
      refine Weak.mk ?_ ?_ ?_ <;> simp (maxSteps := 2000000) only [go_sem, ↓reduceIte, Sub, Int.natCast_add, Int.natCast_mul, f1]
    ·have hi' : i = s.length := by omega
     subst hi'
     rw [List.take_length]
     rfl
  ·rw [if_neg h2]
   have z2 : (0 < ((s.length % 2 : Nat) : Int)) = True := eq_true (by omega)
   simp (maxSteps := 2000000) only [go_sem, ↓reduceIte, L_font_Signs, R_font_Signs, Fnt.d, hw, zm, z2]
   rfl
 | false =>
  have hxd : x.d = .agg [.bool false, .map (iKeys x.ws) (wVals x.ws), .int .i64 x.miss, .map (iKeys x.ns) (nVals x.ns), .list (spansD x.cs)] := by unfold Fnt.d; rw [hw]
  simp only [Bool.false_eq_true, if_false]
  have zm : Int.tmod (s.length : Int) 1 = 0 := by rw [Int.tmod_eq_emod]; simp
  simp (maxSteps := 2000000) only [go_sem, ↓reduceIte, L_font_Signs, R_font_Signs, Fnt.d, hw, zm]
  refine run_loop (fun i : Nat => ⟨[(1, .d (.str s)), (2, .ptr (.l 2) 0), (6, .d (.int .i64 1)), (7, .own (.t 7) 56 3 (sgnsD (sgns1 x (s.take i)))), (8, .d (.int .i64 i))], [(2, .cells [.d (.bool false), .d (.map (iKeys x.ws) (wVals x.ws)), .d (.int .i64 x.miss), .d (.map (iKeys x.ns) (nVals x.ns)), .d (.list (spansD x.cs))])], []⟩)
   (fun i => i ≤ s.length ∧ i % 1 = 0) (fun i => s.length - i) 0 ?_ ?_ ?_
  ·refine Weak.mk ?_ ?_ ?_ <;> simp (maxSteps := 2000000) only [go_sem, ↓reduceIte, Sub, Int.natCast_add, Int.natCast_mul, sgns1, sgnsD, List.take_zero, List.map_nil]
  ·exact ⟨Nat.zero_le _, rfl⟩
  ·rintro i ⟨hi, hm⟩
   simp (maxSteps := 2000000) only [go_sem, ↓reduceIte]
   refine ⟨fun hlt => ?_, fun hge => ?_⟩
   ·obtain ⟨a, ha⟩ := get_some (l := s) (i := i) (by omega)
    have ha8 := u8_lt a
    have hnext : sgns1 x (s.take (i + 1)) = sgns1 x (s.take i) ++ [sgnM x (a.toNat : Int)] := by
     rw [List.take_add_one, ha]; simp [sgns1]
    have hl1 : (sgns1 x (s.take i)).length ≤ i := by unfold sgns1; rw [List.length_map, List.length_take]; omega
    simp (maxSteps := 2000000) (disch := omega) only [go_sem, ↓reduceIte, getI_nat, ha]
    have hsl := sgnsD_length (sgns1 x (s.take i))
    refine PrimG.lookup (kd := .int .i64) (key := .int .i64 (a.toNat : Int)) (zero := .int .i64 0) rfl rfl mapII intT rfl (iKeys_kind _) intZ' ?_
    rw [assoc_w]
    have fin : ∀ w : Int, (assoc x.ws (a.toNat : Int)).getD x.miss = w → sgnsD (sgns1 x (s.take i)) ++ [.agg [.int .i64 (a.toNat : Int), .int .i64 w, .str (fTextM x (a.toNat : Int))]] = sgnsD (sgns1 x (s.take (i + 1))) := fun w h => by
     rw [hnext, sgnsD_append]; simp only [sgnsD, List.map_cons, List.map_nil, Sgn.d, sgnM, h]
    cases hq : assoc x.ws (a.toNat : Int) with
    | some w =>
     have f1 := fin w (by rw [hq]; rfl)
     simp only [Option.map_some, Option.getD_some, Option.isSome_some]
     simp (maxSteps := 2000000) (disch := omega) only [go_sem, ↓reduceIte, hw]
     have hcall := ftext_call x hx (a.toNat : Int) (by omega)
     rw [hxd] at hcall
     refine CallG.of hcall ?_
     simp (maxSteps := 2000000) (disch := omega) only [go_sem, ↓reduceIte, hw, sgnsD_length]
     refine ⟨by omega, i + 1, ?_, ⟨by omega, by omega⟩, by omega⟩
     refine Weak.mk ?_ ?_ ?_ <;> simp (maxSteps := 2000000) only [go_sem, ↓reduceIte, Sub, Int.natCast_add, Int.natCast_mul, f1]
    | none =>
     have f1 := fin x.miss (by rw [hq]; rfl)
     simp only [Option.map_none, Option.getD_none, Option.isSome_none]
     simp (maxSteps := 2000000) (disch := omega) only [go_sem, ↓reduceIte, hw]
     have hcall := ftext_call x hx (a.toNat : Int) (by omega)
     rw [hxd] at hcall
     refine CallG.of hcall ?_
     simp (maxSteps := 2000000) (disch := omega) only [go_sem, ↓reduceIte, hw, sgnsD_length]
     refine ⟨by omega, i + 1, ?_, ⟨by omega, by omega⟩, by omega⟩
     refine Weak.mk ?_ ?_ ?_ <;> simp (maxSteps := 2000000) only [go_sem, ↓reduceIte, Sub, Int.natCast_add, Int.natCast_mul, f1]
   ·have hi' : i = s.length := by omega
    subst hi'
    rw [List.take_length]
    rfl
end Go.Av.Tryd
set_option linter.unusedSimpArgs false
set_option maxRecDepth 100000
namespace Go.Av.Tryd
open Go.Proofs
end Go.Av.Tryd
set_option linter.unusedSimpArgs false
set_option maxRecDepth 100000
namespace Go.Av.Tryd
open Go.Proofs
def L_foliowrightref_SameSigns : LCode :=
 .seq (.reg [Qx 4 KF]) (.seq (.seq (.reg [Qc 6 0, Q 7 (.len false (.t 6)), Qc 8 1, Q 9 (.len false (.t 8)), Q 10 (.bin .neq (.t 7) (.t 9))]) (.cond (.t 10) (.seq (.reg [Qx 4 KF]) 
 .ret) .skip)) (.seq (.seq (.reg [Qx 5 (Ki 0)]) (.block 0 (.loop (.seq (.seq (.reg [Qc 11 5, Qc 12 0, Q 13 (.len false (.t 12)), Q 14 (.bin .lss (.t 11) (.t 13))]) (.cond (.t 14) 
 .skip (.exit 0))) (.seq (.block 1 (.seq (.dreg [Qc 17 0, Qc 18 5, Q 19 (.ia 3 (.t 17) (.t 18)), Q 20 (.ld true 3 (.t 19)), Qc 21 1, Qc 22 5, Q 23 (.ia 3 (.t 21) (.t 22)), Q 24 
 (.ld true 3 (.t 23)), Q 25 (.eqS true [0, 0, 2] (.t 20) (.t 24))]) (.cond (.t 25) (.seq (.reg [Qx 4 KF]) .ret) .skip))) (.reg [Qc 15 5, Q 16 (.bin .add (.t 15) (Ki 1)), Qa 5 
 16])))))) (.seq (.reg [Qx 4 KT]) .ret)))
def R_foliowrightref_SameSigns : List LRes := [.tmp 4]
theorem lift_foliowrightref_SameSigns : Lifts Tryd.prog 15 26 L_foliowrightref_SameSigns R_foliowrightref_SameSigns := ⟨_, _, Tryd.func15, rfl, by kernel_rfl, by kernel_rfl, rfl⟩
theorem sameSigns_call (l : List Sgn) (h : l.length ≤ 1000000) : PCall Tryd.prog 15 [.list (sgnsD l), .list (sgnsD l)] (fun r => r = .one (.bool true)) := by
 refine lift_foliowrightref_SameSigns.call rfl ?_
 have hI : ((sgnsD l).length : Int) = (l.length : Int) := by rw [sgnsD_length]
 simp (maxSteps := 2000000) only [go_sem, ↓reduceIte, L_foliowrightref_SameSigns, R_foliowrightref_SameSigns, hI]
 refine run_loop (fun i : Nat => ⟨[(0, .d (.list (sgnsD l))), (1, .d (.list (sgnsD l))), (5, .d (.int .i64 i))], [], []⟩)
  (fun i => i ≤ l.length) (fun i => l.length - i) 0 ?_ ?_ ?_
 ·refine weak_mk ?_ trivial
  simp (maxSteps := 2000000) only [go_sem, ↓reduceIte, Sub, Int.natCast_add, Int.natCast_mul]
 ·omega
 ·intro i hi
  simp (maxSteps := 2000000) only [go_sem, ↓reduceIte, hI]
  intro q
  obtain ⟨x, hx⟩ := get_some (l := l) (i := i) (by omega)
  simp (maxSteps := 2000000) (disch := omega) only [go_sem, ↓reduceIte, getI_nat, sgnsD_get, hx, Sgn.d]
  refine ⟨i + 1, ?_, by omega, by omega⟩
  refine weak_mk ?_ trivial
  simp (maxSteps := 2000000) only [go_sem, ↓reduceIte, Sub, Int.natCast_add, Int.natCast_mul]
def lightSpansM (l : List Span) : Bool := decide (l.length ≤ 310) && l.all fun x => decide (x.tx.length ≤ 60)
def L_foliowrightlaw_LightSpans : LCode :=
 .seq (.reg [Qx 2 KF]) (.seq (.seq (.reg [Qc 4 0, Q 5 (.len false (.t 4)), Q 6 (.bin .gtr (.t 5) (Ki 310))]) (.cond (.t 6) (.seq (.reg [Qx 2 KF]) .ret) .skip)) (.seq (.seq (.reg [Qx 
 3 (Ki 0)]) (.block 0 (.loop (.seq (.seq (.reg [Qc 7 3, Qc 8 0, Q 9 (.len false (.t 8)), Q 10 (.bin .lss (.t 7) (.t 9))]) (.cond (.t 10) .skip (.exit 0))) (.seq (.block 1 (.seq 
 (.reg [Qc 13 0, Qc 14 3, Q 15 (.ia 3 (.t 13) (.t 14)), Q 16 (.fa 2 (.t 15)), Q 17 (.ld false 1 (.t 16)), Q 18 (.len true (.t 17)), Q 19 (.bin .gtr (.t 18) (Ki 60))]) (.cond (.t 
 19) (.seq (.reg [Qx 2 KF]) .ret) .skip))) (.reg [Qc 11 3, Q 12 (.bin .add (.t 11) (Ki 1)), Qa 3 12])))))) (.seq (.reg [Qx 2 KT]) .ret)))
def R_foliowrightlaw_LightSpans : List LRes := [.tmp 2]
theorem lift_foliowrightlaw_LightSpans : Lifts Tryd.prog 20 20 L_foliowrightlaw_LightSpans R_foliowrightlaw_LightSpans := ⟨_, _, Tryd.func20, rfl, by kernel_rfl, by kernel_rfl, rfl⟩
theorem lightSpans_call (l : List Span) (hl : l.length ≤ 9223372036854775807) : PCall Tryd.prog 20 [.list (spansD l)] (fun r => r = .one (.bool (lightSpansM l))) := by
 refine lift_foliowrightlaw_LightSpans.call rfl ?_
 have hI : ((spansD l).length : Int) = (l.length : Int) := by rw [spansD_length]
 unfold lightSpansM
 by_cases h310 : l.length ≤ 310
 ·have z1 : (310 < (l.length : Int)) = False := eq_false (by omega)
  rw [decide_eq_true h310, Bool.true_and]
  generalize hR : (l.all fun x => decide (x.tx.length ≤ 60)) = R
  simp (maxSteps := 2000000) only [go_sem, ↓reduceIte, L_foliowrightlaw_LightSpans, R_foliowrightlaw_LightSpans, hI, z1]
  refine run_loop (fun i : Nat => ⟨[(0, .d (.list (spansD l))), (3, .d (.int .i64 i))], [], []⟩)
   (fun i => i ≤ l.length ∧ ((l.drop i).all fun x => decide (x.tx.length ≤ 60)) = R) (fun i => l.length - i) 0 ?_ ?_ ?_
  ·refine weak_mk ?_ trivial
   simp (maxSteps := 2000000) only [go_sem, ↓reduceIte, Sub, Int.natCast_add, Int.natCast_mul]
  ·exact ⟨Nat.zero_le _, hR⟩
  ·rintro i ⟨hi, hF⟩
   simp (maxSteps := 2000000) only [go_sem, ↓reduceIte, hI]
   refine ⟨fun hlt => ?_, fun hge => ?_⟩
   ·obtain ⟨x, hx⟩ := get_some (l := l) (i := i) (by omega)
    rw [drop_at hx, List.all_cons] at hF
    by_cases h60 : x.tx.length ≤ 60
    ·have z2 : (60 < (x.tx.length : Int)) = False := eq_false (by omega)
     rw [decide_eq_true h60, Bool.true_and] at hF
     simp (maxSteps := 2000000) (disch := omega) only [go_sem, ↓reduceIte, getI_nat, spansD_get, hx, Span.d, z2]
     refine ⟨i + 1, ?_, ⟨by omega, hF⟩, by omega⟩
     refine weak_mk ?_ trivial
     simp (maxSteps := 2000000) only [go_sem, ↓reduceIte, Sub, Int.natCast_add, Int.natCast_mul]
    ·have z2 : (60 < (x.tx.length : Int)) = True := eq_true (by omega)
     rw [decide_eq_false h60, Bool.false_and] at hF
     simp (maxSteps := 2000000) (disch := omega) only [go_sem, ↓reduceIte, getI_nat, spansD_get, hx, Span.d, z2]
     rw [← hF]
   ·have : l.drop i = [] := List.drop_eq_nil_of_le (by omega)
    rw [this] at hF
    rw [← hF]; rfl
 ·have z1 : (310 < (l.length : Int)) = True := eq_true (by omega)
  rw [decide_eq_false h310, Bool.false_and]
  simp (maxSteps := 2000000) only [go_sem, ↓reduceIte, L_foliowrightlaw_LightSpans, R_foliowrightlaw_LightSpans, hI, z1]
def okN (p : Int × List UInt8) : Bool := decide (p.2.length ≤ 100)
def lightFontM (x : Fnt) : Bool := lightSpansM x.cs && (decide (x.ws.length ≤ 400) && (decide (x.ns.length ≤ 300) && (x.ns.all okN && decide (faultM x.cs x.wide = 0))))
def pairsD (l : List (Int × List UInt8)) : List (D × D) := l.map fun p => (.int .i64 p.1, .str p.2)
theorem zip_pairs (l : List (Int × List UInt8)) : (iKeys l).zip (nVals l) = pairsD l := by
 induction l with
 | nil => rfl
 | cons p r ih => simp only [iKeys, nVals, pairsD, List.map_cons, List.zip_cons_cons] at ih ⊢; rw [ih]
theorem pairs_get (l : List (Int × List UInt8)) (i : Nat) {k v : D} (h : (pairsD l)[i]? = some (k, v)) : ∃ p, l[i]? = some p ∧ k = .int .i64 p.1 ∧ v = .str p.2 := by
 unfold pairsD at h
 rw [List.getElem?_map] at h
 cases hp : l[i]? with
 | none => rw [hp] at h; cases h
 | some p => rw [hp] at h; cases h; exact ⟨p, rfl, rfl, rfl⟩
theorem pairs_erase : ∀ (l : List (Int × List UInt8)) (i : Nat), (pairsD l).eraseIdx i = pairsD (l.eraseIdx i)
 | [], i => by simp [pairsD]
 | p :: r, 0 => by simp [pairsD]
 | p :: r, i + 1 => by have := pairs_erase r i; simp only [pairsD, List.map_cons, List.eraseIdx_cons_succ] at this ⊢; rw [this]
theorem all_erase {α : Type} (f : α → Bool) : ∀ (l : List α) (i : Nat) (p : α), l[i]? = some p → f p = true → (l.eraseIdx i).all f = l.all f
 | [], i, p, h, _ => by simp at h
 | a :: r, 0, p, h, hf => by simp at h; subst h; simp [hf]
 | a :: r, i + 1, p, h, hf => by
  have := all_erase f r i p (by simpa using h) hf
  simp only [List.eraseIdx_cons_succ, List.all_cons, this]
theorem all_not {α : Type} (f : α → Bool) {l : List α} {i : Nat} {p : α} (h : l[i]? = some p) (hf : f p = false) : l.all f = false := by
 rw [Bool.eq_false_iff]; intro h2
 have := List.all_eq_true.1 h2 p (List.mem_of_getElem? h)
 rw [hf] at this; cases this
structure Fnt.wf (x : Fnt) : Prop where
 cs : ∀ s ∈ x.cs, -9223372036854775808 ≤ s.fr ∧ s.fr ≤ 9223372036854775807 ∧ -9223372036854775808 ≤ s.to ∧ s.to ≤ 9223372036854775807
 cl : x.cs.length ≤ 9223372036854775807
def L_foliowrightlaw_LightFont : LCode :=
 .seq (.reg [⟨some 1, .box (.t 0), none⟩, Qx 2 KF]) (.seq (.seq (.reg [Q 5 (.fa 4 (.t 1)), Q 6 (.ld false 1 (.t 5)), ⟨some 7, .call 20 [.t 6], none⟩, Q 8 (.not (.t 7)), Qc 9 8, Qg 
 10 (.fa 1 (.t 1)) 9 false, Qg 11 (.ld false 1 (.t 10)) 9 false, ⟨some 12, .prim (.bi .len [22]) [.t 11] [], some (9, false)⟩, Qg 13 (.bin .gtr (.t 12) (Ki 400)) 9 false, Q 14 
 (.pick (.t 9) KT (.t 13)), Qc 15 14, Qg 16 (.fa 3 (.t 1)) 15 false, Qg 17 (.ld false 1 (.t 16)) 15 false, ⟨some 18, .prim (.bi .len [23]) [.t 17] [], some (15, false)⟩, Qg 19 
 (.bin .gtr (.t 18) (Ki 300)) 15 false, Q 20 (.pick (.t 15) KT (.t 19))]) (.cond (.t 20) (.seq (.reg [Qx 2 KF]) .ret) .skip)) (.seq (.seq (.reg [Q 21 (.fa 3 (.t 1)), Q 22 (.ld 
 false 1 (.t 21)), ⟨some 23, .prim (.range 23) [.t 22] [], none⟩]) (.block 0 (.loop (.seq (.reg [⟨some 24, .prim (.next false 0) [.t 23] [], none⟩, Q 25 (.ext 0 (.t 24))]) (.seq 
 (.cond (.t 25) .skip (.exit 0)) (.block 1 (.seq (.reg [⟨some 26, .prim .entry [.t 23] [], none⟩, Q 27 (.ext 1 (.t 26)), Qa 4 27]) (.seq (.reg [Qc 28 4, Q 29 (.len true (.t 28)), 
 Q 30 (.bin .gtr (.t 29) (Ki 100))]) (.cond (.t 30) (.seq (.reg [Qx 2 KF]) .ret) .skip))))))))) (.seq (.reg [Q 31 (.fa 4 (.t 1)), Q 32 (.ld false 1 (.t 31)), Q 33 (.fa 0 (.t 1)), 
 Q 34 (.ld false 1 (.t 33)), ⟨some 35, .call 21 [.t 32, .t 34], none⟩, Q 36 (.bin .eql (.t 35) (Ki 0)), Qa 2 36]) .ret)))
def R_foliowrightlaw_LightFont : List LRes := [.tmp 2]
theorem lift_foliowrightlaw_LightFont : Lifts Tryd.prog 9 37 L_foliowrightlaw_LightFont R_foliowrightlaw_LightFont := ⟨_, _, Tryd.func9, rfl, by kernel_rfl, by kernel_rfl, rfl⟩
theorem lightFont_call (x : Fnt) (hx : x.wf) : PCall Tryd.prog 9 [x.d] (fun r => r = .one (.bool (lightFontM x))) := by
 refine lift_foliowrightlaw_LightFont.call rfl ?_
 unfold lightFontM
 have hwl : (iKeys x.ws).length = x.ws.length := by simp [iKeys]
 have hnl : (iKeys x.ns).length = x.ns.length := by simp [iKeys]
 simp (maxSteps := 2000000) only [go_sem, ↓reduceIte, L_foliowrightlaw_LightFont, R_foliowrightlaw_LightFont, Fnt.d]
 refine CallG.of (lightSpans_call x.cs hx.cl) ?_
 cases hls : lightSpansM x.cs with
 | false =>
  simp (maxSteps := 2000000) only [go_sem, ↓reduceIte]
 | true =>
  have hcs : ∀ s ∈ x.cs, s.wf := fun s hs => by
   obtain ⟨a, b, c, d⟩ := hx.cs s hs
   unfold lightSpansM at hls
   simp only [Bool.and_eq_true, List.all_eq_true, decide_eq_true_eq] at hls
   exact ⟨a, b, c, d, by have := hls.2 s hs; omega⟩
  simp (maxSteps := 2000000) only [go_sem, ↓reduceIte]
  refine PrimG.mapLen rfl mapII ?_
  rw [hwl]
  by_cases h400 : x.ws.length ≤ 400
  ·have z1 : (400 < (x.ws.length : Int)) = False := eq_false (by omega)
   rw [decide_eq_true h400]
   simp (maxSteps := 2000000) only [go_sem, ↓reduceIte, z1]
   refine PrimG.mapLen rfl mapIS ?_
   rw [hnl]
   by_cases h300 : x.ns.length ≤ 300
   ·have z2 : (300 < (x.ns.length : Int)) = False := eq_false (by omega)
    rw [decide_eq_true h300]
    simp (maxSteps := 2000000) only [go_sem, ↓reduceIte, z2]
    refine PrimG.rangeMap rfl mapIS ?_
    rw [zip_pairs]
    generalize hR : x.ns.all okN = R
    simp (maxSteps := 2000000) only [go_sem, ↓reduceIte]
    refine run_loop (fun y : List (Int × List UInt8) × List (D × D) => ⟨[(1, .ptr (.l 1) 0), (23, .ptr (.l 23) 0)],
      [(1, .cells [.d (.bool x.wide), .d (.map (iKeys x.ws) (wVals x.ws)), .d (.int .i64 x.miss), .d (.map (iKeys x.ns) (nVals x.ns)), .d (.list (spansD x.cs))]), (23, .miter (pairsD y.1) y.2)], []⟩)
     (fun y => y.1.all okN = R) (fun y => y.1.length) (x.ns, []) ?_ ?_ ?_
    ·refine Weak.mk ?_ ?_ ?_ <;> simp (maxSteps := 2000000) only [go_sem, ↓reduceIte, Sub, Int.natCast_add, Int.natCast_mul]
    ·exact hR
    ·rintro ⟨rem, cur⟩ hF
     simp only at hF
     simp (maxSteps := 2000000) only [go_sem, ↓reduceIte]
     refine PrimG.nextMap rfl rfl (fun h0 => ?_) (fun i k v hik => ?_)
     ·have hrem : rem = [] := by cases rem with | nil => rfl | cons a r => cases h0
      subst hrem
      simp only [List.all_nil] at hF
      subst hF
      simp (maxSteps := 2000000) only [go_sem, ↓reduceIte]
      refine CallG.of (spansFault_call x.cs x.wide hcs) ?_
      simp (maxSteps := 2000000) only [go_sem, ↓reduceIte]
      have e : ((faultM x.cs x.wide : Nat) : Int) = 0 ↔ faultM x.cs x.wide = 0 := by omega
      simp only [e, Bool.true_and]
     ·obtain ⟨p, hp, rfl, rfl⟩ := pairs_get rem i hik
      rw [pairs_erase]
      simp (maxSteps := 2000000) only [go_sem, ↓reduceIte]
      refine PrimG.entryMap rfl rfl ?_
      by_cases h100 : p.2.length ≤ 100
      ·have z3 : (100 < (p.2.length : Int)) = False := eq_false (by omega)
       simp (maxSteps := 2000000) only [go_sem, ↓reduceIte, z3]
       have hlt := (List.getElem?_eq_some_iff.1 hp).1
       refine ⟨(rem.eraseIdx i, [(.int .i64 p.1, .str p.2)]), ?_, ?_, ?_⟩
       ·refine Weak.mk ?_ ?_ ?_ <;> simp (maxSteps := 2000000) only [go_sem, ↓reduceIte, Sub, Int.natCast_add, Int.natCast_mul]
       ·simp only
        rw [all_erase okN rem i p hp (by unfold okN; exact decide_eq_true h100)]; exact hF
       ·simp only
        rw [List.length_eraseIdx, if_pos hlt]; omega
      ·have z3 : (100 < (p.2.length : Int)) = True := eq_true (by omega)
       simp (maxSteps := 2000000) only [go_sem, ↓reduceIte, z3]
       rw [all_not okN hp (by unfold okN; exact decide_eq_false h100)] at hF
       rw [← hF]; rfl
   ·have z2 : (300 < (x.ns.length : Int)) = True := eq_true (by omega)
    rw [decide_eq_false h300]
    simp (maxSteps := 2000000) only [go_sem, ↓reduceIte, z2]
  ·have z1 : (400 < (x.ws.length : Int)) = True := eq_true (by omega)
   rw [decide_eq_false h400]
   simp (maxSteps := 2000000) only [go_sem, ↓reduceIte, z1]
theorem light_ok {x : Fnt} (hx : x.wf) (h : lightFontM x = true) : x.ok := by
 unfold lightFontM at h
 simp only [Bool.and_eq_true, decide_eq_true_eq] at h
 obtain ⟨h1, h2, h3, h4, h5⟩ := h
 unfold lightSpansM at h1
 simp only [Bool.and_eq_true, List.all_eq_true, decide_eq_true_eq] at h1
 obtain ⟨h6, h7⟩ := h1
 refine ⟨fun s hs => ?_, by omega, fun p hp => ?_⟩
 ·obtain ⟨a, b, c, d⟩ := hx.cs s hs
  have key : ∀ (m : Int), 0 ≤ m → m ≤ 65535 → ∀ (l : List Span) (prev : Option Int), faultsF m prev l = 0 → s ∈ l → 0 ≤ s.fr ∧ s.to ≤ 65535 ∧ ∃ rs, runesM s.tx = some rs ∧ rs ≠ [] := by
   intro m m0 m1 l
   induction l with
   | nil => intro _ _ hs; cases hs
   | cons y r ih =>
    intro prev hf hs
    simp only [faultsF] at hf
    split at hf
    ·rename_i hy
     rcases List.mem_cons.1 hs with rfl | hs
     ·unfold spanFault at hy
      split at hy
      ·cases hy
      ·split at hy
       ·cases hy
       ·rename_i q1 q2
        cases hrs : runesM s.tx with
        | none => exact absurd (.inr (.inr (.inl hrs))) q2
        | some rs =>
         refine ⟨by omega, by omega, rs, rfl, fun e => ?_⟩
         subst e
         have := (runesM_enc s.tx.length (Nat.le_refl _) hrs).1
         exact q2 (.inr (.inr (.inr (.inl this.symm))))
     ·exact ih _ hf hs
    ·rename_i hy; exact absurd hf hy
  have hf : faultsF (mostM x.wide) none x.cs = 0 := by
   unfold faultM at h5
   split at h5
   ·cases h5
   ·exact h5
  obtain ⟨k1, k2, k3⟩ := key (mostM x.wide) (by unfold mostM; split <;> omega) (by unfold mostM; split <;> omega) x.cs none hf hs
  exact ⟨⟨a, b, c, d, by have := h7 s hs; omega⟩, by omega, k3⟩
 ·have := List.all_eq_true.1 h4 p hp
  unfold okN at this
  simp only [decide_eq_true_eq] at this
  omega
end Go.Av.Tryd
set_option linter.unusedSimpArgs false
set_option maxRecDepth 100000
namespace Go.Av.Tryd
open Go.Proofs
theorem sgns2_both (x : Fnt) (t : List UInt8) : ∀ s : List UInt8, s.length % 2 = 0 → sgns2 x (s ++ t) = sgns2 x s ++ sgns2 x t
 | [], _ => rfl
 | [c], h => by simp at h
 | c :: d :: r, h => by
  have := sgns2_both x t r (by simp at h; omega)
  simp only [List.cons_append, sgns2, this]
theorem signs_both (x : Fnt) (s t : List UInt8) {a b : List Sgn} (ha : signsM x s = some a) (hb : signsM x t = some b) : signsM x (s ++ t) = some (a ++ b) := by
 unfold signsM at *
 split at ha
 ·rename_i hw
  rw [if_pos hw] at hb
  rw [if_pos hw]
  split at ha
  ·rename_i h1
   split at hb
   ·rename_i h2
    cases ha; cases hb
    rw [if_pos (by rw [List.length_append]; omega), sgns2_both x t s h1]
   ·cases hb
  ·cases ha
 ·rename_i hw
  rw [if_neg hw] at hb
  rw [if_neg hw]
  cases ha; cases hb
  simp [sgns1]
theorem signs_wide {x : Fnt} {s : List UInt8} (h : signsM x s = none) : x.wide = true := by
 unfold signsM at h
 split at h
 ·assumption
 ·cases h
theorem signs_len {x : Fnt} {s : List UInt8} {l : List Sgn} (h : signsM x s = some l) : l.length ≤ s.length := by
 unfold signsM at h
 split at h
 ·split at h
  ·cases h; exact sgns2_len x s
  ·cases h
 ·cases h; unfold sgns1; rw [List.length_map]; exact Nat.le_refl _
theorem sgnRow : liftSl Tryd.prog 31 = some (56, 3, 32) := by kernel_rfl
theorem sgnFits : zeroFits Tryd.prog 56 = true := by kernel_rfl
theorem sgnSl : isSl Tryd.prog 31 = true := by kernel_rfl
theorem sgnsD_cells (l : List Sgn) : allSz 3 (sgnsD l) = true := by
 induction l with
 | nil => rfl
 | cons a r ih => simp only [sgnsD, List.map_cons, allSz, Bool.and_eq_true] at ih ⊢; exact ⟨rfl, ih⟩
def L_foliowrighttop_TopSigns : LCode :=
 .seq (.reg [⟨some 3, .box (.t 0), none⟩, Qx 6 KF]) (.seq (.reg [Q 16 (.bld [(0, 1), (1, 1), (2, 1), (3, 1), (4, 1)] [.bool false, .map [] [], .int .i64 0, .map [] [], .list []] 
 [false, false, false, false, true] [(2, .k (.d (.int .i64 5)))]), ⟨some 17, .call 12 [.t 16, .k (.d (.str [97]))], none⟩, Qc 15 17, Q 18 (.ext 0 (.t 15)), Q 19 (.ext 1 (.t 15)), 
 Qa 7 18, Qa 8 19]) (.seq (.seq (.reg [Qc 20 8, Q 21 (.eqN 0 true (.t 20)), Qc 22 21, Qd 23 7 22 false, Qg 24 (.len false (.t 23)) 22 false, Qg 25 (.bin .neq (.t 24) (Ki 1)) 22 
 false, Q 26 (.pick (.t 22) KT (.t 25)), Qc 27 26, Qd 28 7 27 false, Qg 29 (.ia 3 (.t 28) (Ki 0)) 27 false, Qg 30 (.fa 1 (.t 29)) 27 false, Qg 31 (.ld false 1 (.t 30)) 27 false, 
 Qg 32 (.bin .neq (.t 31) (Ki 5)) 27 false, Q 33 (.pick (.t 27) KT (.t 32)), Qc 34 33, Qd 35 7 34 false, Qg 36 (.ia 3 (.t 35) (Ki 0)) 34 false, Qg 37 (.fa 2 (.t 36)) 34 false, Qg 
 38 (.ld false 1 (.t 37)) 34 false, Qg 39 (.bin .neq (.t 38) (.k (.d (.str [97])))) 34 false, Q 40 (.pick (.t 34) KT (.t 39))]) (.cond (.t 40) (.seq (.reg [Qx 6 KF]) .ret) .skip)) 
 (.seq (.seq (.reg [Q 41 (.ld true 5 (.t 3)), ⟨some 42, .call 9 [.t 41], none⟩, Q 43 (.not (.t 42)), Qc 44 43, Qd 45 1 44 false, Qg 46 (.len true (.t 45)) 44 false, Qg 47 (.bin 
 .gtr (.t 46) (Ki 300)) 44 false, Q 48 (.pick (.t 44) KT (.t 47)), Qc 49 48, Qd 50 2 49 false, Qg 51 (.len true (.t 50)) 49 false, Qg 52 (.bin .gtr (.t 51) (Ki 300)) 49 false, Q 
 53 (.pick (.t 49) KT (.t 52))]) (.cond (.t 53) (.seq (.reg [Qx 6 KT]) .ret) .skip)) (.seq (.reg [Q 55 (.ld true 5 (.t 3)), Qc 56 1, ⟨some 57, .call 12 [.t 55, .t 56], none⟩, Qc 
 54 57, Q 58 (.ext 0 (.t 54)), Q 59 (.ext 1 (.t 54)), Qa 9 58, Qa 10 59]) (.seq (.reg [Q 61 (.ld true 5 (.t 3)), Qc 62 2, ⟨some 63, .call 12 [.t 61, .t 62], none⟩, Qc 60 63, Q 64 
 (.ext 0 (.t 60)), Q 65 (.ext 1 (.t 60)), Qa 11 64, Qa 12 65]) (.seq (.reg [Q 67 (.ld true 5 (.t 3)), Qc 68 1, Qc 69 2, Q 70 (.bin .add (.t 68) (.t 69)), ⟨some 71, .call 12 [.t 
 67, .t 70], none⟩, Qc 66 71, Q 72 (.ext 0 (.t 66)), Q 73 (.ext 1 (.t 66)), Qa 13 72, Qa 14 73]) (.seq (.seq (.reg [Qc 74 10, Q 75 (.eqN 0 true (.t 74)), Qc 76 75, Qd 77 12 76 
 false, Qg 78 (.eqN 0 true (.t 77)) 76 false, Q 79 (.pick (.t 76) KT (.t 78))]) (.cond (.t 79) (.seq (.reg [Q 80 (.fa 0 (.t 3)), Q 81 (.ld false 1 (.t 80)), Qa 6 81]) .ret) 
 .skip)) (.seq (.reg [Qc 82 14, Q 83 (.eqN 0 false (.t 82)), Qc 84 83, Qd 85 13 84 true, Qd 86 9 84 true, ⟨some 87, .prim (.bi .append [31, 31]) [.k (.d (.list [])), .t 86] [], 
 some (84, true)⟩, Qd 88 11 84 true, ⟨some 89, .app 56 3 32 false (.t 87) (.t 88), some (84, true)⟩, ⟨some 90, .call 15 [.t 85, .t 89], some (84, true)⟩, Q 91 (.pick (.t 84) (.t 
 90) KF), Qa 6 91]) .ret))))))))
def R_foliowrighttop_TopSigns : List LRes := [.tmp 6]
theorem lift_foliowrighttop_TopSigns : Lifts Tryd.prog 6 92 L_foliowrighttop_TopSigns R_foliowrighttop_TopSigns := ⟨_, _, Tryd.func6, rfl, by kernel_rfl, by kernel_rfl, rfl⟩
theorem topSigns_call (x : Fnt) (s t : List UInt8) (hx : x.wf) : PCall Tryd.prog 6 [x.d, .str s, .str t] (fun r => r = .one (.bool true)) := by
 refine lift_foliowrighttop_TopSigns.call rfl ?_
 have hD : x.d = .agg [.bool x.wide, .map (iKeys x.ws) (wVals x.ws), .int .i64 x.miss, .map (iKeys x.ns) (nVals x.ns), .list (spansD x.cs)] := rfl
 have e0 : errD 0 = .nil := rfl
 have e4 : errD 4 = .iface 65 (.int .i64 4) := rfl
 simp (maxSteps := 2000000) only [go_sem, ↓reduceIte, L_foliowrighttop_TopSigns, R_foliowrighttop_TopSigns, hD]
 have h0 := signs_call ⟨false, [], 5, [], []⟩ ⟨by simp, by simp, by simp⟩ [97] (by simp)
 have m0 : signsM ⟨false, [], 5, [], []⟩ [97] = some [⟨97, 5, [97]⟩] := rfl
 rw [m0] at h0
 refine CallG.of h0 ?_
 simp only [signsRes, e0, sgnsD, Sgn.d, List.map_cons, List.map_nil]
 have g0 : getI [D.agg [.int .i64 97, .int .i64 5, .str [97]]] 0 = some (.agg [.int .i64 97, .int .i64 5, .str [97]]) := rfl
 simp (maxSteps := 2000000) only [go_sem, ↓reduceIte, g0]
 have hl := lightFont_call x hx
 rw [hD] at hl
 refine CallG.of hl ?_
 cases hlf : lightFontM x with
 | false =>
  simp (maxSteps := 2000000) only [go_sem, ↓reduceIte]
 | true =>
  have ok := light_ok hx hlf
  by_cases h1 : s.length ≤ 300
  ·have z1 : (300 < (s.length : Int)) = False := eq_false (by omega)
   by_cases h2 : t.length ≤ 300
   ·have z2 : (300 < (t.length : Int)) = False := eq_false (by omega)
    have hss := signs_call x ok s (by omega)
    have hst := signs_call x ok t (by omega)
    have hsb := signs_call x ok (s ++ t) (by rw [List.length_append]; omega)
    rw [hD] at hss hst hsb
    simp (maxSteps := 2000000) only [go_sem, ↓reduceIte, z1, z2]
    refine CallG.of hss ?_
    cases hqs : signsM x s with
    | none =>
     have hw := signs_wide hqs
     simp only [signsRes, e4]
     simp (maxSteps := 2000000) only [go_sem, ↓reduceIte]
     refine CallG.of hst ?_
     cases hqt : signsM x t <;> simp only [signsRes, e4, e0]
     all_goals
      simp (maxSteps := 2000000) (disch := omega) only [go_sem, ↓reduceIte]
      refine ⟨by omega, ?_⟩
      refine CallG.of hsb ?_
      cases hqb : signsM x (s ++ t) <;> simp only [signsRes, e4, e0]
     all_goals
      simp (maxSteps := 2000000) only [go_sem, ↓reduceIte, hw]
    | some a =>
     have hal := signs_len hqs
     simp only [signsRes, e0]
     simp (maxSteps := 2000000) only [go_sem, ↓reduceIte]
     refine CallG.of hst ?_
     cases hqt : signsM x t with
     | none =>
      have hw := signs_wide hqt
      simp only [signsRes, e4]
      simp (maxSteps := 2000000) (disch := omega) only [go_sem, ↓reduceIte]
      refine ⟨by omega, ?_⟩
      refine CallG.of hsb ?_
      cases hqb : signsM x (s ++ t) <;> simp only [signsRes, e4, e0]
      all_goals
       simp (maxSteps := 2000000) only [go_sem, ↓reduceIte, hw]
     | some b =>
      have hbl := signs_len hqt
      simp only [signsRes, e0]
      simp (maxSteps := 2000000) (disch := omega) only [go_sem, ↓reduceIte]
      refine ⟨by omega, ?_⟩
      refine CallG.of hsb ?_
      rw [signs_both x s t hqs hqt]
      simp only [signsRes, e0]
      simp (maxSteps := 2000000) only [go_sem, ↓reduceIte]
      refine PrimG.appNil2 (ys := sgnsD a) sgnRow sgnFits sgnSl (by show (if false = true then none else if allSz 3 (sgnsD a) = true then some (sgnsD a) else none) = _; rw [sgnsD_cells]; rfl) (by rw [sgnsD_length]; omega) ?_
      have hab : sgnsD a ++ sgnsD b = sgnsD (a ++ b) := (sgnsD_append a b).symm
      simp (maxSteps := 2000000) only [go_sem, ↓reduceIte, sgnsD_cells, sgnsD_length, hab]
      refine ⟨by omega, ?_⟩
      refine CallG.of (sameSigns_call (a ++ b) (by rw [List.length_append]; omega)) ?_
      simp (maxSteps := 2000000) only [go_sem, ↓reduceIte]
   ·have z2 : (300 < (t.length : Int)) = True := eq_true (by omega)
    simp (maxSteps := 2000000) only [go_sem, ↓reduceIte, z1, z2]
  ·have z1 : (300 < (s.length : Int)) = True := eq_true (by omega)
   simp (maxSteps := 2000000) only [go_sem, ↓reduceIte, z1]
end Go.Av.Tryd
set_option linter.unusedSimpArgs false
set_option maxRecDepth 100000
namespace Go.Av.Tryd
open Go.Proofs
theorem ofT_map {P : Program} {k : Nat} {t kt e : TypeId} {ds : List D} (hu : P.underlying t = some (.map kt e)) (h : OfT P k t ds) : ∃ ks vs m, k = m + 1 ∧ ds = [.map ks vs] ∧ ks.length = vs.length ∧
  (∀ x ∈ ks, (∃ i n, P.underlying kt = some (.int i) ∧ x = .int i n) ∨ (∃ s, P.underlying kt = some .string ∧ x = .str s)) ∧ ∀ x ∈ vs, ∃ cs, x = mkD cs ∧ OfT P m e cs := by
 cases k with
 | zero => exact h.elim
 | succ k => unfold OfT at h; rw [hu] at h; obtain ⟨ks, vs, h1, h2, _, h3, h4⟩ := h; exact ⟨ks, vs, k, rfl, h1, h2, h3, h4⟩
theorem zip_map {α : Type} {g : α → D} : ∀ (ks vs : List D), ks.length = vs.length → (∀ x ∈ ks, ∃ n : Int, x = .int .i64 n) → (∀ x ∈ vs, ∃ y : α, x = g y) → ∃ l : List (Int × α), ks = iKeys l ∧ vs = l.map fun p => g p.2
 | [], [], _, _, _ => ⟨[], rfl, rfl⟩
 | [], _ :: _, h, _, _ => by simp at h
 | _ :: _, [], h, _, _ => by simp at h
 | k :: ks, v :: vs, h, h1, h2 => by
  obtain ⟨l, e1, e2⟩ := zip_map ks vs (by simpa using h) (fun x hx => h1 x (by simp [hx])) (fun x hx => h2 x (by simp [hx]))
  obtain ⟨n, rfl⟩ := h1 k (by simp)
  obtain ⟨y, rfl⟩ := h2 v (by simp)
  exact ⟨(n, y) :: l, by rw [e1]; rfl, by rw [e2]; rfl⟩
theorem u_int : Tryd.prog.cellsOf 3 = 1 := by kernel_rfl
theorem u_bool : Tryd.prog.cellsOf 4 = 1 := by kernel_rfl
theorem u_str : Tryd.prog.cellsOf 9 = 1 := by kernel_rfl
theorem u_mii : Tryd.prog.cellsOf 22 = 1 := by kernel_rfl
theorem u_mis : Tryd.prog.cellsOf 23 = 1 := by kernel_rfl
theorem u_spans : Tryd.prog.cellsOf 24 = 1 := by kernel_rfl
theorem u_span : Tryd.prog.cellsOf 59 = 3 := by kernel_rfl
theorem u_font : Tryd.prog.cellsOf 26 = 5 := by kernel_rfl
theorem wf64 {n : Int} (h : (Lit.int .i64 n).wf = true) : -9223372036854775808 ≤ n ∧ n ≤ 9223372036854775807 := by
 have := wf_i64 h; omega
def Span.in64 (s : Span) : Prop := -9223372036854775808 ≤ s.fr ∧ s.fr ≤ 9223372036854775807 ∧ -9223372036854775808 ≤ s.to ∧ s.to ≤ 9223372036854775807
theorem span_of {k : Nat} {ds : List D} (h : OfT Tryd.prog k 59 ds) : ∃ s : Span, mkD ds = s.d ∧ s.in64 := by
 cases k with
 | zero => exact h.elim
 | succ k =>
  unfold OfT at h
  rw [Tryd.underlying59] at h
  obtain ⟨h1, h2⟩ := h
  rw [u_span] at h1
  match ds, h1 with
  | [a, b, c], _ =>
   have f0 : OfT Tryd.prog k 3 (([a, b, c].drop 0).take (Tryd.prog.cellsOf 3)) := h2 0 _ rfl
   have f1 : OfT Tryd.prog k 3 (([a, b, c].drop 1).take (Tryd.prog.cellsOf 3)) := h2 1 _ rfl
   have f2 : OfT Tryd.prog k 9 (([a, b, c].drop 2).take (Tryd.prog.cellsOf 9)) := h2 2 _ rfl
   simp only [u_int, u_str, List.drop_zero, List.drop_succ_cons, List.take_succ_cons, List.take_zero] at f0 f1 f2
   obtain ⟨n0, e0, w0⟩ := f0.int Tryd.underlying3
   obtain ⟨n1, e1, w1⟩ := f1.int Tryd.underlying3
   obtain ⟨s, e2, _⟩ := f2.string Tryd.underlying9
   simp only [List.cons.injEq, and_true] at e0 e1 e2
   obtain ⟨a1, a2⟩ := wf64 w0
   obtain ⟨b1, b2⟩ := wf64 w1
   exact ⟨⟨n0, n1, s⟩, by rw [e0, e1, e2]; rfl, a1, a2, b1, b2⟩
theorem spans_of {k : Nat} {ds : List D} (h : OfT Tryd.prog k 24 ds) : ∃ l : List Span, ds = [.list (spansD l)] ∧ l.length ≤ maxLen ∧ ∀ s ∈ l, s.in64 := by
 obtain ⟨l, m, _, h1, h2, h3⟩ := h.slice Tryd.underlying24
 obtain ⟨ys, rfl⟩ := all_mapped (g := fun y : { s : Span // s.in64 } => y.1.d) (l := l) fun x hx => by
  obtain ⟨cs, h4, h5⟩ := h3 x hx
  obtain ⟨s, h6, h7⟩ := span_of h5
  exact ⟨⟨s, h7⟩, by rw [h4, h6]⟩
 refine ⟨ys.map (·.1), by rw [h1]; simp [spansD, Function.comp_def], by simpa using h2, fun s hs => ?_⟩
 obtain ⟨y, _, rfl⟩ := List.mem_map.1 hs
 exact y.2
theorem fnt_of {k : Nat} {ds : List D} (h : OfT Tryd.prog k 26 ds) : ∃ x : Fnt, D.agg ds = x.d ∧ x.wf := by
 cases k with
 | zero => exact h.elim
 | succ k =>
  unfold OfT at h
  rw [Tryd.underlying26] at h
  obtain ⟨h1, h2⟩ := h
  rw [u_font] at h1
  match ds, h1 with
  | [a, b, c, d, e], _ =>
   have f0 : OfT Tryd.prog k 4 (([a, b, c, d, e].drop 0).take (Tryd.prog.cellsOf 4)) := h2 0 _ rfl
   have f1 : OfT Tryd.prog k 22 (([a, b, c, d, e].drop 1).take (Tryd.prog.cellsOf 22)) := h2 1 _ rfl
   have f2 : OfT Tryd.prog k 3 (([a, b, c, d, e].drop 2).take (Tryd.prog.cellsOf 3)) := h2 2 _ rfl
   have f3 : OfT Tryd.prog k 23 (([a, b, c, d, e].drop 3).take (Tryd.prog.cellsOf 23)) := h2 3 _ rfl
   have f4 : OfT Tryd.prog k 24 (([a, b, c, d, e].drop 4).take (Tryd.prog.cellsOf 24)) := h2 4 _ rfl
   simp only [u_int, u_bool, u_mii, u_mis, u_spans, List.drop_zero, List.drop_succ_cons, List.take_succ_cons, List.take_zero] at f0 f1 f2 f3 f4
   obtain ⟨wd, e0⟩ := f0.bool Tryd.underlying4
   obtain ⟨kw, vw, m1, _, e1, l1, k1, v1⟩ := ofT_map Tryd.underlying22 f1
   obtain ⟨ms, e2, _⟩ := f2.int Tryd.underlying3
   obtain ⟨kn, vn, m3, _, e3, l3, k3, v3⟩ := ofT_map Tryd.underlying23 f3
   obtain ⟨cs, e4, l4, w4⟩ := spans_of f4
   have keys : ∀ ks : List D, (∀ x ∈ ks, (∃ i n, Tryd.prog.underlying 3 = some (.int i) ∧ x = .int i n) ∨ (∃ s, Tryd.prog.underlying 3 = some .string ∧ x = .str s)) → ∀ x ∈ ks, ∃ n : Int, x = .int .i64 n := fun ks h x hx => by
    rcases h x hx with ⟨i, n, q1, q2⟩ | ⟨s, q1, _⟩
    ·rw [Tryd.underlying3] at q1; cases q1; exact ⟨n, q2⟩
    ·rw [Tryd.underlying3] at q1; cases q1
   obtain ⟨ws, rfl, rfl⟩ := zip_map (g := D.int .i64) kw vw l1 (keys kw k1) fun x hx => by
    obtain ⟨cs, q1, q2⟩ := v1 x hx
    obtain ⟨n, q3, _⟩ := q2.int Tryd.underlying3
    exact ⟨n, by rw [q1, q3]; rfl⟩
   obtain ⟨ns, rfl, rfl⟩ := zip_map (g := D.str) kn vn l3 (keys kn k3) fun x hx => by
    obtain ⟨cs, q1, q2⟩ := v3 x hx
    obtain ⟨n, q3, _⟩ := q2.string Tryd.underlying9
    exact ⟨n, by rw [q1, q3]; rfl⟩
   simp only [List.cons.injEq, and_true] at e0 e1 e2 e3 e4
   refine ⟨⟨wd, ws, ms, ns, cs⟩, by rw [e0, e1, e2, e3, e4]; rfl, fun s hs => w4 s hs, by unfold maxLen at l4; omega⟩
open Go.Shelf
set_option maxRecDepth 100000
def containsLays_ren : Go.Shelf.Ren := ⟨fun | 144 => 84 | 143 => 89 | 219 => 92 | 217 => 74 | 225 => 93 | 224 => 94 | 267 => 95 | 266 => 85 | 314 => 96 | n => n, fun | 9 => 9 | 4 => 4 | 3 => 3 | 5 => 5 | 46 => 112 | 146 => 127 | 51 => 125 | n => n, fun | 1 => 2 | n => n⟩
theorem containsLays : Go.Proofs.LaysM.n144 Tryd.prog containsLays_ren where
 mixed := by kernel_rfl
 f143 := Tryd.func89.trans (congrArg some (by kernel_rfl))
 f144 := Tryd.func84.trans (congrArg some (by kernel_rfl))
 f217 := Tryd.func74.trans (congrArg some (by kernel_rfl))
 f219 := Tryd.func92.trans (congrArg some (by kernel_rfl))
 f224 := Tryd.func94.trans (congrArg some (by kernel_rfl))
 f225 := Tryd.func93.trans (congrArg some (by kernel_rfl))
 f266 := Tryd.func85.trans (congrArg some (by kernel_rfl))
 f267 := Tryd.func95.trans (congrArg some (by kernel_rfl))
 f314 := Tryd.func96.trans (congrArg some (by kernel_rfl))
 t3 := Tryd.underlying3
 a3 := Tryd.isAgg3
 z3 := Tryd.sizeOf3
 v3 := Tryd.zeroValue3
 t4 := Tryd.underlying4
 a4 := Tryd.isAgg4
 z4 := Tryd.sizeOf4
 v4 := Tryd.zeroValue4
 t5 := Tryd.underlying5
 a5 := Tryd.isAgg5
 z5 := Tryd.sizeOf5
 v5 := Tryd.zeroValue5
 t9 := Tryd.underlying9
 a9 := Tryd.isAgg9
 z9 := Tryd.sizeOf9
 v9 := Tryd.zeroValue9
 t46 := Tryd.underlying112
 a46 := Tryd.isAgg112
 z46 := Tryd.sizeOf112
 v46 := Tryd.zeroValue112
 t51 := Tryd.underlying125
 a51 := Tryd.isAgg125
 z51 := Tryd.sizeOf125
 v51 := Tryd.zeroValue125
 t146 := Tryd.underlying127
 a146 := Tryd.isAgg127
 z146 := Tryd.sizeOf127
 v146 := Tryd.zeroValue127
 g1 := by kernel_rfl
 i3 := by kernel_rfl
 i4 := by kernel_rfl
 i5 := by kernel_rfl
 i9 := by kernel_rfl
 i46 := by kernel_rfl
 i51 := by kernel_rfl
 i146 := by kernel_rfl
 m1 := by kernel_rfl
 s1_3 := fun w h => Go.Proofs.cell_of_shapedOpen_int (zero := #[.int .i64 0]) (t := 3) h (of_decide_eq_true (by kernel_rfl)) (by kernel_rfl) rfl (by kernel_rfl) (by kernel_rfl) Tryd.underlying3
end Go.Av.Tryd
