import Derived.Test.YtfkdhlghpjbbpaaGreatDoorWa
import Derived.Test.YtfkdhlghpjbbpaaGreatDoorAvI
set_option linter.unusedSimpArgs false
set_option maxRecDepth 100000
namespace Go.Av.Tryz
open Go.Proofs
def q7V : q0j :=
 .seq (.reg [Qx 4 (.k (.d (.str []))), Qx 5 KF]) (.seq (.reg [Qc 10 0, ⟨some 11, .call 151 [.t 10], none⟩, Qc 9 11, Q 12 (.ext 0 (.t 9)), Q 13 (.ext 1 (.t 9)), Qa 6 12, Qa 7 13]) 
 (.seq (.reg [Qc 14 6, Q 15 (.cvI .i64 (.t 14)), Qc 16 1, Q 17 (.bin .add (.t 15) (.t 16)), Qa 8 17]) (.seq (.seq (.reg [Qc 18 8, Q 19 (.bin .gtr (.t 18) (Ki 1114111)), Qc 20 19, 
 Qd 21 8 20 false, Qg 22 (.bin .geq (.t 21) (Ki 55296)) 20 false, Qd 23 22 20 false, Qd 24 8 23 true, Qg 25 (.bin .lss (.t 24) (Ki 57344)) 23 true, Qg 26 (.pick (.t 23) (.t 25) 
 KF) 20 false, Q 27 (.pick (.t 20) KT (.t 26))]) (.cond (.t 27) (.seq (.reg [Qx 4 (.k (.d (.str []))), Qx 5 KF]) .ret) .skip)) (.seq (.seq (.reg [Qc 28 6, Q 29 (.cvI .i64 (.t 
 28)), Q 30 (.bin .lss (.t 29) (Ki 55296)), Qc 31 30, Qd 32 8 31 true, Qg 33 (.bin .geq (.t 32) (Ki 57344)) 31 true, Q 34 (.pick (.t 31) (.t 33) KF)]) (.cond (.t 34) (.seq (.reg 
 [Qx 4 (.k (.d (.str []))), Qx 5 KF]) .ret) .skip)) (.seq (.reg [Qc 35 0, Qc 36 0, Q 37 (.len true (.t 36)), Qc 38 7, Q 39 (.bin .sub (.t 37) (.t 38)), Q 40 (.subS (.t 35) none 
 (some (.t 39))), Qc 41 8, Q 42 (.cvI .i32 (.t 41)), Q 43 (.i2s (.t 42)), Q 44 (.bin .add (.t 40) (.t 43)), Qa 4 44, Qx 5 KT]) .ret)))))
def q70 : List LRes := [.tmp 4, .tmp 5]
theorem q9Z : q0t Tryz.prog 144 45 q7V q70 := ⟨_, _, Tryz.func144, rfl, by kernel_rfl, by kernel_rfl, rfl⟩
theorem z5e (s : List UInt8) (m : Int) {rs : List Nat} (hrs : q0X s = some rs) (h0 : rs ≠ []) (hs : s.length ≤ 1000000) (h1 : 0 ≤ m) (h2 : m ≤ 1000000) : q0u Tryz.prog 144 [.str s, .int .i64 m] (fun r => r = q3i (onM s m.toNat)) := by
 obtain ⟨n, rfl⟩ := Int.eq_ofNat_of_zero_le h1
 obtain ⟨e1, e2⟩ := q7a s.length (Nat.le_refl _) hrs
 have hlast := z6R h0
 have hlv := e2 _ (List.mem_of_getElem? hlast)
 have hlv' := hlv
 unfold q3P at hlv'
 have hsplit : s = encM rs.dropLast ++ enc (rs.getLastD 0) := by
  rw [← e1]
  obtain ⟨a, b, rfl⟩ : ∃ a b, rs = a ++ [b] := ⟨rs.dropLast, rs.getLast h0, (List.dropLast_concat_getLast h0).symm⟩
  rw [q7G, List.dropLast_concat]; simp [encM]
 have hdec : Lib.decodeLastL s = (rs.getLastD 0, (enc (rs.getLastD 0)).length) := by rw [hsplit]; exact j1S hlv _
 have hel := z2K hlv
 have hlen : s.length = (encM rs.dropLast).length + (enc (rs.getLastD 0)).length := by conv => lhs; rw [hsplit, List.length_append]
 have htake : s.take (encM rs.dropLast).length = encM rs.dropLast := by
  conv => lhs; rw [hsplit]
  simp
 refine q9Z.call rfl ?_
 simp (maxSteps := 2000000) only [go_sem, ↓reduceIte, q7V, q70]
 refine q0k.of (z0w s (by omega)) ?_
 rw [hdec]
 unfold onM
 simp only [hrs, if_neg h0, Int.toNat_natCast]
 have hfin : encM rs.dropLast ++ enc (rs.getLastD 0 + n) = encM (rs.dropLast ++ [rs.getLastD 0 + n]) := by rw [q7G]; simp [encM]
 have henc : q3P (rs.getLastD 0 + n) → (Utf8.encode ((rs.getLastD 0 : Int) + n)).data.toList = enc (rs.getLastD 0 + n) := fun h => by rw [← Int.natCast_add]; exact q8U h
 generalize rs.getLastD 0 = k at *
 generalize encM rs.dropLast = pre at *
 by_cases hb : 1114111 < k + n ∨ (55295 < k + n ∧ k + n < 57344) ∨ (k ≤ 55295 ∧ 57344 ≤ k + n)
 ·rw [if_pos hb]
  by_cases hA : 1114111 < k + n
  ·have zA : (1114111 < (k : Int) + n) = True := eq_true (by omega)
   simp (maxSteps := 2000000) (disch := omega) only [go_sem, ↓reduceIte, zA]
   simp [q3i]
  ·by_cases hB : 55295 < k + n ∧ k + n < 57344
   ·have zA : (1114111 < (k : Int) + n) = False := eq_false (by omega)
    have zB : (55296 ≤ (k : Int) + n) = True := eq_true (by omega)
    have zC : ((k : Int) + n < 57344) = True := eq_true (by omega)
    simp (maxSteps := 2000000) (disch := omega) only [go_sem, ↓reduceIte, zA, zB, zC]
    simp [q3i]
   ·have zA : (1114111 < (k : Int) + n) = False := eq_false (by omega)
    have zB : (55296 ≤ (k : Int) + n) = True := eq_true (by omega)
    have zC : ((k : Int) + n < 57344) = False := eq_false (by omega)
    have zD : ((k : Int) < 55296) = True := eq_true (by omega)
    have zE : (57344 ≤ (k : Int) + n) = True := eq_true (by omega)
    simp (maxSteps := 2000000) (disch := omega) only [go_sem, ↓reduceIte, zA, zB, zC, zD, zE]
    simp [q3i]
 ·rw [if_neg hb]
  have zA : (1114111 < (k : Int) + n) = False := eq_false (by omega)
  have hv := henc (by unfold q3P; omega)
  have hw32 : IntKind.i32.wrap ((k : Int) + n) = (k : Int) + n := by rw [IntWalk.i32_in _ (by omega)]
  have hcut : cutI s 0 ((s.length : Int) - (enc k).length) = pre := by
   unfold cutI
   rw [show ((s.length : Int) - (enc k).length).toNat = pre.length by omega, htake]; rfl
  have hfl := z2K (r := k + n) (by unfold q3P; omega)
  by_cases hB : 55295 < k + n
  ·have zB : (55296 ≤ (k : Int) + n) = True := eq_true (by omega)
   have zC : ((k : Int) + n < 57344) = False := eq_false (by omega)
   have zE : (57344 ≤ (k : Int) + n) = True := eq_true (by omega)
   have zD : ((k : Int) < 55296) = False := eq_false (by omega)
   simp (maxSteps := 2000000) (disch := omega) only [go_sem, ↓reduceIte, zA, zB, zC, zE, zD, hw32, hv, hcut, hfin]
   refine ⟨by omega, by omega, ?_⟩
   simp [q3i]
  ·have zB : (55296 ≤ (k : Int) + n) = False := eq_false (by omega)
   have zE : (57344 ≤ (k : Int) + n) = False := eq_false (by omega)
   have zD : ((k : Int) < 55296) = True := eq_true (by omega)
   simp (maxSteps := 2000000) (disch := omega) only [go_sem, ↓reduceIte, zA, zB, zE, zD, hw32, hv, hcut, hfin]
   refine ⟨by omega, by omega, ?_⟩
   simp [q3i]
def z0c : q0j :=
 .seq (.reg [Qx 4 (.k (.d (.str []))), Qx 5 KF]) (.seq (.seq (.reg [Qc 8 0, Q 9 (.len false (.t 8)), Q 10 (.cp (Ki 0))]) (.block 0 (.loop (.seq (.reg [Q 11 (.bin .lss (.t 10) (.t 
 9))]) (.seq (.cond (.t 11) .skip (.exit 0)) (.seq (.block 1 (.seq (.reg [Q 12 (.ia 3 (.t 8) (.t 10)), Q 13 (.ld true 3 (.t 12)), ⟨some 7, .allo [.int .i64 0, .int .i64 0, .str 
 []], none⟩, ⟨none, .st 3 (.t 7) (.t 13), none⟩]) (.seq (.reg [Qc 14 1, Q 15 (.fa 0 (.t 7)), Q 16 (.ld false 1 (.t 15)), Q 17 (.bin .geq (.t 14) (.t 16)), Qc 18 17, Qd 19 1 18 
 true, Qg 20 (.fa 1 (.t 7)) 18 true, Qg 21 (.ld false 1 (.t 20)) 18 true, Qg 22 (.bin .leq (.t 19) (.t 21)) 18 true, Q 23 (.pick (.t 18) (.t 22) KF)]) (.cond (.t 23) (.seq (.reg 
 [Q 24 (.fa 2 (.t 7)), Q 25 (.ld false 1 (.t 24)), Qc 26 1, Q 27 (.fa 0 (.t 7)), Q 28 (.ld false 1 (.t 27)), Q 29 (.bin .sub (.t 26) (.t 28)), ⟨some 30, .call 144 [.t 25, .t 29], 
 none⟩, Q 31 (.ext 0 (.t 30)), Q 32 (.ext 1 (.t 30)), Qa 4 31, Qa 5 32]) .ret) .skip)))) (.reg [Q 33 (.bin .add (.t 10) (Ki 1)), Qc 10 33]))))))) (.seq (.reg [Qx 4 (.k (.d (.str 
 []))), Qx 5 KF]) .ret))
def z0j : List LRes := [.tmp 4, .tmp 5]
theorem z1J : q0t Tryz.prog 132 34 z0c z0j := ⟨_, _, Tryz.func132, rfl, by kernel_rfl, by kernel_rfl, rfl⟩
def j3r (x : Span) : Prop := x.wf ∧ x.to - x.fr ≤ 1000000 ∧ ∃ rs, q0X x.tx = some rs ∧ rs ≠ []
theorem j0X (l : List Span) (c : Int) (hw : ∀ x ∈ l, j3r x) (hc : -9223372036854775808 ≤ c ∧ c ≤ 9223372036854775807) (hl : l.length ≤ 1000000) : q0u Tryz.prog 132 [.list (q19 l), .int .i64 c] (fun r => r = q3i (z3Z l c)) := by
 have hI : ((q19 l).length : Int) = (l.length : Int) := by rw [q59]
 refine z1J.call rfl ?_
 generalize hR : z3Z l c = R
 simp (maxSteps := 2000000) only [go_sem, ↓reduceIte, z0c, z0j, hI]
 refine q0s (fun i : Nat => ⟨[(0, .d (.list (q19 l))), (1, .d (.int .i64 c)), (8, .d (.list (q19 l))), (9, .d (.int .i64 l.length)), (10, .d (.int .i64 i))], [], []⟩)
  (fun i => i ≤ l.length ∧ z3Z (l.drop i) c = R) (fun i => l.length - i) 0 ?_ ?_ ?_
 ·refine q0e ?_ trivial
  simp (maxSteps := 2000000) only [go_sem, ↓reduceIte, Sub, Int.natCast_add, Int.natCast_mul]
 ·exact ⟨Nat.zero_le _, hR⟩
 ·rintro i ⟨hi, hF⟩
  simp (maxSteps := 2000000) only [go_sem, ↓reduceIte, hI]
  refine ⟨fun hlt => ?_, fun hge => ?_⟩
  ·obtain ⟨x, hx⟩ := get_some (l := l) (i := i) (by omega)
   obtain ⟨⟨w1, w2, w3, w4, w5⟩, w6, rs, w7, w8⟩ := hw x (List.mem_of_getElem? hx)
   rw [q1J hx, z3Z] at hF
   by_cases hA : x.fr ≤ c ∧ c ≤ x.to
   ·rw [if_pos hA] at hF
    have z1 := eq_true hA.1
    have z2 := eq_true hA.2
    simp (maxSteps := 2000000) (disch := omega) only [go_sem, ↓reduceIte, hI, q0c, q0o, hx, Span.d, z1, z2]
    refine q0k.of (z5e x.tx (c - x.fr) w7 w8 (by omega) (by omega) (by omega)) ?_
    rw [hF]
    cases R <;> (simp only [q3i]; simp (maxSteps := 2000000) (disch := omega) only [go_sem, ↓reduceIte])
   ·rw [if_neg hA] at hF
    by_cases hA1 : x.fr ≤ c
    ·have z1 := eq_true hA1
     have z2 : (c ≤ x.to) = False := eq_false (by omega)
     simp (maxSteps := 2000000) (disch := omega) only [go_sem, ↓reduceIte, hI, q0c, q0o, hx, Span.d, z1, z2]
     refine ⟨i + 1, ?_, ⟨by omega, hF⟩, by omega⟩
     refine q0e ?_ trivial
     simp (maxSteps := 2000000) only [go_sem, ↓reduceIte, Sub, Int.natCast_add, Int.natCast_mul]
    ·have z1 := eq_false hA1
     simp (maxSteps := 2000000) (disch := omega) only [go_sem, ↓reduceIte, hI, q0c, q0o, hx, Span.d, z1]
     refine ⟨i + 1, ?_, ⟨by omega, hF⟩, by omega⟩
     refine q0e ?_ trivial
     simp (maxSteps := 2000000) only [go_sem, ↓reduceIte, Sub, Int.natCast_add, Int.natCast_mul]
  ·have : l.drop i = [] := List.drop_eq_nil_of_le (by omega)
   rw [this] at hF
   simp only [z3Z] at hF
   subst hF
   rfl
def q7W : q0j :=
 .seq (.reg [Qx 2 KF]) (.seq (.reg [Qc 3 0, Q 4 (.bin .eql (.t 3) (Kb 0)), Qc 5 4, Qd 6 0 5 false, Qg 7 (.bin .eql (.t 6) (Kb 9)) 5 false, Q 8 (.pick (.t 5) KT (.t 7)), Qc 9 8, Qd 
 10 0 9 false, Qg 11 (.bin .eql (.t 10) (Kb 10)) 9 false, Q 12 (.pick (.t 9) KT (.t 11)), Qc 13 12, Qd 14 0 13 false, Qg 15 (.bin .eql (.t 14) (Kb 12)) 13 false, Q 16 (.pick (.t 
 13) KT (.t 15)), Qc 17 16, Qd 18 0 17 false, Qg 19 (.bin .eql (.t 18) (Kb 13)) 17 false, Q 20 (.pick (.t 17) KT (.t 19)), Qc 21 20, Qd 22 0 21 false, Qg 23 (.bin .eql (.t 22) (Kb 
 32)) 21 false, Q 24 (.pick (.t 21) KT (.t 23)), Qa 2 24]) .ret)
def q71 : List LRes := [.tmp 2]
theorem q91 : q0t Tryz.prog 60 25 q7W q71 := ⟨_, _, Tryz.func60, rfl, by kernel_rfl, by kernel_rfl, rfl⟩
def z0h : q0j :=
 .seq (.reg [Qx 2 (Ki 0)]) (.seq (.block 0 (.seq (.reg [Qc 4 0, Q 5 (.bin .geq (.t 4) (Kb 48)), Qc 6 5, Qd 7 0 6 true, Qg 8 (.bin .leq (.t 7) (Kb 57)) 6 true, Q 9 (.pick (.t 6) (.t 
 8) KF), Qa 3 9]) (.cond (.t 3) (.seq (.reg [Qc 10 0, Q 11 (.bin .sub (.t 10) (Kb 48)), Q 12 (.cvI .i64 (.t 11)), Qa 2 12]) .ret) (.seq (.reg [Qc 14 0, Q 15 (.bin .geq (.t 14) (Kb 
 97)), Qc 16 15, Qd 17 0 16 true, Qg 18 (.bin .leq (.t 17) (Kb 102)) 16 true, Q 19 (.pick (.t 16) (.t 18) KF), Qa 13 19]) (.cond (.t 13) (.seq (.reg [Qc 20 0, Q 21 (.bin .sub (.t 
 20) (Kb 97)), Q 22 (.cvI .i64 (.t 21)), Q 23 (.bin .add (.t 22) (Ki 10)), Qa 2 23]) .ret) (.seq (.reg [Qc 25 0, Q 26 (.bin .geq (.t 25) (Kb 65)), Qc 27 26, Qd 28 0 27 true, Qg 29 
 (.bin .leq (.t 28) (Kb 70)) 27 true, Q 30 (.pick (.t 27) (.t 29) KF), Qa 24 30]) (.cond (.t 24) (.seq (.reg [Qc 31 0, Q 32 (.bin .sub (.t 31) (Kb 65)), Q 33 (.cvI .i64 (.t 32)), 
 Q 34 (.bin .add (.t 33) (Ki 10)), Qa 2 34]) .ret) .skip))))))) (.seq (.reg [Qx 2 (Ki (-1))]) .ret))
def z0o : List LRes := [.tmp 2]
theorem z1P : q0t Tryz.prog 107 35 z0h z0o := ⟨_, _, Tryz.func107, rfl, by kernel_rfl, by kernel_rfl, rfl⟩
def q77 (n : Int) : Bool := decide (n = 0) || (decide (n = 9) || (decide (n = 10) || (decide (n = 12) || (decide (n = 13) || decide (n = 32)))))
def hexI (n : Int) : Int := if 48 ≤ n ∧ n ≤ 57 then n - 48 else if 97 ≤ n ∧ n ≤ 102 then n - 87 else if 65 ≤ n ∧ n ≤ 70 then n - 55 else -1
theorem z13 (n : Int) : q0u Tryz.prog 60 [.int .u8 n] (fun r => r = .one (.bool (q77 n))) := by
 refine q91.call rfl ?_
 simp (maxSteps := 2000000) only [go_sem, ↓reduceIte, q7W, q71]
 unfold q77
 simp +contextual
theorem q96 {n : Int} (h : 0 ≤ n ∧ n < 256) : q0u Tryz.prog 107 [.int .u8 n] (fun r => r = .one (.int .i64 (hexI n))) := by
 refine z1P.call rfl ?_
 simp (maxSteps := 2000000) only [go_sem, ↓reduceIte, z0h, z0o]
 unfold hexI
 repeat' (first | apply And.intro | intro _)
 all_goals
  congr 2
  try simp only [IntKind.wrap_i64, IntKind.wrap_u8]
  (repeat' split) <;> omega
def q5q : List UInt8 → Int → List UInt8 → List UInt8 × Nat
 | [], _, _ => ([], 5)
 | c :: r, h, b =>
  if c.toNat = 62 then (if 0 ≤ h then b ++ [q9V (16 * h)] else b, 0)
  else if q77 c.toNat = true then q5q r h b
  else if hexI c.toNat < 0 then ([], 4)
  else if h < 0 then q5q r (hexI c.toNat) b
  else q5q r (-1) (b ++ [q9V (16 * h + hexI c.toNat)])
theorem z0H (n : Int) : -1 ≤ hexI n ∧ hexI n ≤ 15 := by
 unfold hexI; (repeat' split) <;> omega
def z5F : List UInt8 → Nat
 | [] => 0
 | c :: r => if c.toNat = 62 then 1 else z5F r + 1
end Go.Av.Tryz
set_option linter.unusedSimpArgs false
set_option maxRecDepth 100000
namespace Go.Av.Tryz
open Go.Proofs
def q9J : List (List UInt8) := [[115, 112, 97, 99, 101], [112, 101, 114, 105, 111, 100], [99, 111, 109, 109, 97], [104, 121, 112, 104, 101, 110], [99, 111, 108, 111, 110], [122, 101, 114, 111], [111, 110, 101], [116, 119, 111], [116, 104, 114, 101, 101], [102, 111, 117, 114], [102, 105, 118, 101], [115, 105, 120], [115, 101, 118, 101, 110], [101, 105, 103, 104, 116], [110, 105, 110, 101]]
def z6M : List UInt8 := [32, 46, 44, 45, 58, 48, 49, 50, 51, 52, 53, 54, 55, 56, 57]
def look : List (List UInt8) → List UInt8 → List UInt8 → Option (List UInt8)
 | n :: ns, c :: cs, s => if s = n then some [c] else look ns cs s
 | _, _, _ => none
theorem z2p : ∀ (ns : List (List UInt8)) (cs : List UInt8) (s : List UInt8), q2x (ns.map .str) (cs.map fun c => .str [c]) (.str s) = (look ns cs s).map .str
 | [], _, _ => by simp [q2x, look]
 | _ :: _, [], _ => by simp [q2x, look]
 | n :: ns, c :: cs, s => by
  simp only [List.map_cons, q2x, look, q8Z, beq_iff_eq]
  split
  ·rfl
  ·exact z2p ns cs s
def letter (s : List UInt8) : Bool := decide (s.length = 1) && ((decide (97 ≤ (s.getD 0 0).toNat) && decide ((s.getD 0 0).toNat ≤ 122)) || (decide (65 ≤ (s.getD 0 0).toNat) && decide ((s.getD 0 0).toNat ≤ 90)))
def z3z (s : List UInt8) : Option (List UInt8) := if letter s = true then some s else look q9J z6M s
theorem q0b.q0l {t kt e : TypeId} {m i x : LX} {K : St → Prop} {σ : St} {ks vs : List D} {key v : D} {s : Nat} (hm : σ.ev m = .mp (.l s)) (ho : σ.obj (.l s) = some (.mobj ks vs)) (hi : σ.ev i = .d key) (hx : (σ.ev x).rd = some v)
  (ht : Tryz.prog.underlying t = some (.map kt e)) (hkt : Tryz.prog.underlying kt = some .string) (hkey : q0K .string key = true) (hks : ks.all (q0K .string) = true) (hnew : (q2x ks vs key).isNone = true)
  (hK : K (σ.setObj (.l s) (.mobj (ks ++ [key]) (vs ++ [v])))) : q0b Tryz.prog none (.mapUpd t) [m, i, x] K σ :=
 q0b.z6X hm ho hi hx ht hkt hkey (fun k hk => List.all_eq_true.1 hks k hk) (Option.isNone_iff_eq_none.1 hnew) hK
def q2l : q0j :=
 .seq (.reg [Qx 2 (.k (.d (.str []))), Qx 3 KF]) (.seq (.seq (.reg [Qc 6 0, Q 7 (.len true (.t 6)), Q 8 (.bin .eql (.t 7) (Ki 1)), Qc 9 8, Qd 10 0 9 true, Qg 11 (.idxS (.t 10) (Ki 
 0)) 9 true, Qg 12 (.bin .geq (.t 11) (Kb 97)) 9 true, Qd 13 12 9 true, Qd 14 0 13 true, Qg 15 (.idxS (.t 14) (Ki 0)) 13 true, Qg 16 (.bin .leq (.t 15) (Kb 122)) 13 true, Qg 17 
 (.pick (.t 13) (.t 16) KF) 9 true, Qd 18 17 9 true, Qd 19 0 18 false, Qg 20 (.idxS (.t 19) (Ki 0)) 18 false, Qg 21 (.bin .geq (.t 20) (Kb 65)) 18 false, Qd 22 21 18 false, Qd 23 
 0 22 true, Qg 24 (.idxS (.t 23) (Ki 0)) 22 true, Qg 25 (.bin .leq (.t 24) (Kb 90)) 22 true, Qg 26 (.pick (.t 22) (.t 25) KF) 18 false, Qg 27 (.pick (.t 18) KT (.t 26)) 9 true, Q 
 28 (.pick (.t 9) (.t 27) KF)]) (.cond (.t 28) (.seq (.reg [Qc 29 0, Qa 2 29, Qx 3 KT]) .ret) .skip)) (.seq (.reg [⟨some 31, .prim (.mkMap 202) [] [], none⟩, ⟨none, .prim (.mapUpd 
 202) [.t 31, .k (.d (.str [115, 112, 97, 99, 101])), .k (.d (.str [32]))] [], none⟩, ⟨none, .prim (.mapUpd 202) [.t 31, .k (.d (.str [112, 101, 114, 105, 111, 100])), .k (.d 
 (.str [46]))] [], none⟩, ⟨none, .prim (.mapUpd 202) [.t 31, .k (.d (.str [99, 111, 109, 109, 97])), .k (.d (.str [44]))] [], none⟩, ⟨none, .prim (.mapUpd 202) [.t 31, .k (.d 
 (.str [104, 121, 112, 104, 101, 110])), .k (.d (.str [45]))] [], none⟩, ⟨none, .prim (.mapUpd 202) [.t 31, .k (.d (.str [99, 111, 108, 111, 110])), .k (.d (.str [58]))] [], 
 none⟩, ⟨none, .prim (.mapUpd 202) [.t 31, .k (.d (.str [122, 101, 114, 111])), .k (.d (.str [48]))] [], none⟩, ⟨none, .prim (.mapUpd 202) [.t 31, .k (.d (.str [111, 110, 101])), 
 .k (.d (.str [49]))] [], none⟩, ⟨none, .prim (.mapUpd 202) [.t 31, .k (.d (.str [116, 119, 111])), .k (.d (.str [50]))] [], none⟩, ⟨none, .prim (.mapUpd 202) [.t 31, .k (.d (.str 
 [116, 104, 114, 101, 101])), .k (.d (.str [51]))] [], none⟩, ⟨none, .prim (.mapUpd 202) [.t 31, .k (.d (.str [102, 111, 117, 114])), .k (.d (.str [52]))] [], none⟩, ⟨none, .prim 
 (.mapUpd 202) [.t 31, .k (.d (.str [102, 105, 118, 101])), .k (.d (.str [53]))] [], none⟩, ⟨none, .prim (.mapUpd 202) [.t 31, .k (.d (.str [115, 105, 120])), .k (.d (.str [54]))] 
 [], none⟩, ⟨none, .prim (.mapUpd 202) [.t 31, .k (.d (.str [115, 101, 118, 101, 110])), .k (.d (.str [55]))] [], none⟩, ⟨none, .prim (.mapUpd 202) [.t 31, .k (.d (.str [101, 105, 
 103, 104, 116])), .k (.d (.str [56]))] [], none⟩, ⟨none, .prim (.mapUpd 202) [.t 31, .k (.d (.str [110, 105, 110, 101])), .k (.d (.str [57]))] [], none⟩, Qc 32 31, Qc 33 0, ⟨some 
 34, .prim (.lookup 202 true) [.t 32, .t 33] [], none⟩, Qc 30 34, Q 35 (.ext 0 (.t 30)), Q 36 (.ext 1 (.t 30)), Qa 4 35, Qa 5 36]) (.seq (.reg [Qc 37 4, Qc 38 5, Qa 2 37, Qa 3 
 38]) .ret)))
def q2m : List LRes := [.tmp 2, .tmp 3]
theorem q90 : q0t Tryz.prog 145 39 q2l q2m := ⟨_, _, Tryz.func145, rfl, by kernel_rfl, by kernel_rfl, rfl⟩
theorem z6l (s : List UInt8) (hs : s.length ≤ 1000000) : q0u Tryz.prog 145 [.str s] (fun r => r = q3i (z3z s)) := by
 refine q90.call rfl ?_
 unfold z3z
 have one : s.length = 1 → ∃ c, s = [c] := fun h => List.length_eq_one_iff.1 h
 have mapT : Tryz.prog.underlying 202 = some (.map 9 9) := by kernel_rfl
 have strT : Tryz.prog.underlying 9 = some .string := by kernel_rfl
 have strZ : Program.zeroOf Tryz.prog 9 = some (.str []) := by kernel_rfl
 have htab := z2p q9J z6M s
 generalize look q9J z6M s = R at htab ⊢
 simp only [q9J, z6M, List.map_cons, List.map_nil] at htab
 by_cases h1 : s.length = 1
 ·obtain ⟨c, hc⟩ := one h1
  have hc8 := q4e c
  have g0 : getI s 0 = some c := by rw [hc]; rfl
  have hlet : letter s = (decide (97 ≤ c.toNat) && decide (c.toNat ≤ 122) || decide (65 ≤ c.toNat) && decide (c.toNat ≤ 90)) := by rw [hc]; rfl
  have zl : ((s.length : Int) = 1) = True := eq_true (by omega)
  rw [hlet]
  by_cases a1 : 97 ≤ c.toNat ∧ c.toNat ≤ 122
  ·have z1 : (97 ≤ (c.toNat : Int)) = True := eq_true (by omega)
   have z2 : ((c.toNat : Int) ≤ 122) = True := eq_true (by omega)
   rw [if_pos (by simp; omega)]
   simp (maxSteps := 2000000) (disch := omega) only [go_sem, ↓reduceIte, q2l, q2m, g0, zl, z1, z2]
   rfl
  ·by_cases a2 : 65 ≤ c.toNat ∧ c.toNat ≤ 90
   ·have z1 : (97 ≤ (c.toNat : Int)) = False := eq_false (by omega)
    have z3 : (65 ≤ (c.toNat : Int)) = True := eq_true (by omega)
    have z4 : ((c.toNat : Int) ≤ 90) = True := eq_true (by omega)
    rw [if_pos (by simp; omega)]
    simp (maxSteps := 2000000) (disch := omega) only [go_sem, ↓reduceIte, q2l, q2m, g0, zl, z1, z3, z4]
    rfl
   ·rw [if_neg (by simp; omega)]
    by_cases a3 : c.toNat < 65
    ·have z1 : (97 ≤ (c.toNat : Int)) = False := eq_false (by omega)
     have z3 : (65 ≤ (c.toNat : Int)) = False := eq_false (by omega)
     simp (maxSteps := 2000000) (disch := omega) only [go_sem, ↓reduceIte, q2l, q2m, g0, zl, z1, z3]
     refine q0b.mkMap mapT ?_
     simp (maxSteps := 2000000) only [go_sem, ↓reduceIte]
     refine q0b.q0l rfl rfl rfl rfl mapT strT rfl rfl rfl ?_
     simp (maxSteps := 2000000) only [go_sem, ↓reduceIte]
     refine q0b.q0l rfl rfl rfl rfl mapT strT rfl rfl rfl ?_
     simp (maxSteps := 2000000) only [go_sem, ↓reduceIte]
     refine q0b.q0l rfl rfl rfl rfl mapT strT rfl rfl rfl ?_
     simp (maxSteps := 2000000) only [go_sem, ↓reduceIte]
     refine q0b.q0l rfl rfl rfl rfl mapT strT rfl rfl rfl ?_
     simp (maxSteps := 2000000) only [go_sem, ↓reduceIte]
     refine q0b.q0l rfl rfl rfl rfl mapT strT rfl rfl rfl ?_
     simp (maxSteps := 2000000) only [go_sem, ↓reduceIte]
     refine q0b.q0l rfl rfl rfl rfl mapT strT rfl rfl rfl ?_
     simp (maxSteps := 2000000) only [go_sem, ↓reduceIte]
     refine q0b.q0l rfl rfl rfl rfl mapT strT rfl rfl rfl ?_
     simp (maxSteps := 2000000) only [go_sem, ↓reduceIte]
     refine q0b.q0l rfl rfl rfl rfl mapT strT rfl rfl rfl ?_
     simp (maxSteps := 2000000) only [go_sem, ↓reduceIte]
     refine q0b.q0l rfl rfl rfl rfl mapT strT rfl rfl rfl ?_
     simp (maxSteps := 2000000) only [go_sem, ↓reduceIte]
     refine q0b.q0l rfl rfl rfl rfl mapT strT rfl rfl rfl ?_
     simp (maxSteps := 2000000) only [go_sem, ↓reduceIte]
     refine q0b.q0l rfl rfl rfl rfl mapT strT rfl rfl rfl ?_
     simp (maxSteps := 2000000) only [go_sem, ↓reduceIte]
     refine q0b.q0l rfl rfl rfl rfl mapT strT rfl rfl rfl ?_
     simp (maxSteps := 2000000) only [go_sem, ↓reduceIte]
     refine q0b.q0l rfl rfl rfl rfl mapT strT rfl rfl rfl ?_
     simp (maxSteps := 2000000) only [go_sem, ↓reduceIte]
     refine q0b.q0l rfl rfl rfl rfl mapT strT rfl rfl rfl ?_
     simp (maxSteps := 2000000) only [go_sem, ↓reduceIte]
     refine q0b.q0l rfl rfl rfl rfl mapT strT rfl rfl rfl ?_
     simp (maxSteps := 2000000) only [go_sem, ↓reduceIte]
     refine q0b.z3c (kd := .string) (key := .str s) (zero := .str []) rfl rfl rfl mapT strT rfl (fun k hk => List.all_eq_true.1 (show (List.map D.str q9J).all (q0K .string) = true from rfl) k hk) strZ ?_
     rw [htab]
     cases R <;> (simp only [Option.map_some, Option.map_none]; simp (maxSteps := 2000000) only [go_sem, ↓reduceIte]; rfl)
    ·by_cases a4 : c.toNat < 97
     ·have z1 : (97 ≤ (c.toNat : Int)) = False := eq_false (by omega)
      have z3 : (65 ≤ (c.toNat : Int)) = True := eq_true (by omega)
      have z4 : ((c.toNat : Int) ≤ 90) = False := eq_false (by omega)
      simp (maxSteps := 2000000) (disch := omega) only [go_sem, ↓reduceIte, q2l, q2m, g0, zl, z1, z3, z4]
      refine q0b.mkMap mapT ?_
      simp (maxSteps := 2000000) only [go_sem, ↓reduceIte]
      refine q0b.q0l rfl rfl rfl rfl mapT strT rfl rfl rfl ?_
      simp (maxSteps := 2000000) only [go_sem, ↓reduceIte]
      refine q0b.q0l rfl rfl rfl rfl mapT strT rfl rfl rfl ?_
      simp (maxSteps := 2000000) only [go_sem, ↓reduceIte]
      refine q0b.q0l rfl rfl rfl rfl mapT strT rfl rfl rfl ?_
      simp (maxSteps := 2000000) only [go_sem, ↓reduceIte]
      refine q0b.q0l rfl rfl rfl rfl mapT strT rfl rfl rfl ?_
      simp (maxSteps := 2000000) only [go_sem, ↓reduceIte]
      refine q0b.q0l rfl rfl rfl rfl mapT strT rfl rfl rfl ?_
      simp (maxSteps := 2000000) only [go_sem, ↓reduceIte]
      refine q0b.q0l rfl rfl rfl rfl mapT strT rfl rfl rfl ?_
      simp (maxSteps := 2000000) only [go_sem, ↓reduceIte]
      refine q0b.q0l rfl rfl rfl rfl mapT strT rfl rfl rfl ?_
      simp (maxSteps := 2000000) only [go_sem, ↓reduceIte]
      refine q0b.q0l rfl rfl rfl rfl mapT strT rfl rfl rfl ?_
      simp (maxSteps := 2000000) only [go_sem, ↓reduceIte]
      refine q0b.q0l rfl rfl rfl rfl mapT strT rfl rfl rfl ?_
      simp (maxSteps := 2000000) only [go_sem, ↓reduceIte]
      refine q0b.q0l rfl rfl rfl rfl mapT strT rfl rfl rfl ?_
      simp (maxSteps := 2000000) only [go_sem, ↓reduceIte]
      refine q0b.q0l rfl rfl rfl rfl mapT strT rfl rfl rfl ?_
      simp (maxSteps := 2000000) only [go_sem, ↓reduceIte]
      refine q0b.q0l rfl rfl rfl rfl mapT strT rfl rfl rfl ?_
      simp (maxSteps := 2000000) only [go_sem, ↓reduceIte]
      refine q0b.q0l rfl rfl rfl rfl mapT strT rfl rfl rfl ?_
      simp (maxSteps := 2000000) only [go_sem, ↓reduceIte]
      refine q0b.q0l rfl rfl rfl rfl mapT strT rfl rfl rfl ?_
      simp (maxSteps := 2000000) only [go_sem, ↓reduceIte]
      refine q0b.q0l rfl rfl rfl rfl mapT strT rfl rfl rfl ?_
      simp (maxSteps := 2000000) only [go_sem, ↓reduceIte]
      refine q0b.z3c (kd := .string) (key := .str s) (zero := .str []) rfl rfl rfl mapT strT rfl (fun k hk => List.all_eq_true.1 (show (List.map D.str q9J).all (q0K .string) = true from rfl) k hk) strZ ?_
      rw [htab]
      cases R <;> (simp only [Option.map_some, Option.map_none]; simp (maxSteps := 2000000) only [go_sem, ↓reduceIte]; rfl)
     ·have z1 : (97 ≤ (c.toNat : Int)) = True := eq_true (by omega)
      have z2 : ((c.toNat : Int) ≤ 122) = False := eq_false (by omega)
      have z3 : (65 ≤ (c.toNat : Int)) = True := eq_true (by omega)
      have z4 : ((c.toNat : Int) ≤ 90) = False := eq_false (by omega)
      simp (maxSteps := 2000000) (disch := omega) only [go_sem, ↓reduceIte, q2l, q2m, g0, zl, z1, z2, z3, z4]
      refine q0b.mkMap mapT ?_
      simp (maxSteps := 2000000) only [go_sem, ↓reduceIte]
      refine q0b.q0l rfl rfl rfl rfl mapT strT rfl rfl rfl ?_
      simp (maxSteps := 2000000) only [go_sem, ↓reduceIte]
      refine q0b.q0l rfl rfl rfl rfl mapT strT rfl rfl rfl ?_
      simp (maxSteps := 2000000) only [go_sem, ↓reduceIte]
      refine q0b.q0l rfl rfl rfl rfl mapT strT rfl rfl rfl ?_
      simp (maxSteps := 2000000) only [go_sem, ↓reduceIte]
      refine q0b.q0l rfl rfl rfl rfl mapT strT rfl rfl rfl ?_
      simp (maxSteps := 2000000) only [go_sem, ↓reduceIte]
      refine q0b.q0l rfl rfl rfl rfl mapT strT rfl rfl rfl ?_
      simp (maxSteps := 2000000) only [go_sem, ↓reduceIte]
      refine q0b.q0l rfl rfl rfl rfl mapT strT rfl rfl rfl ?_
      simp (maxSteps := 2000000) only [go_sem, ↓reduceIte]
      refine q0b.q0l rfl rfl rfl rfl mapT strT rfl rfl rfl ?_
      simp (maxSteps := 2000000) only [go_sem, ↓reduceIte]
      refine q0b.q0l rfl rfl rfl rfl mapT strT rfl rfl rfl ?_
      simp (maxSteps := 2000000) only [go_sem, ↓reduceIte]
      refine q0b.q0l rfl rfl rfl rfl mapT strT rfl rfl rfl ?_
      simp (maxSteps := 2000000) only [go_sem, ↓reduceIte]
      refine q0b.q0l rfl rfl rfl rfl mapT strT rfl rfl rfl ?_
      simp (maxSteps := 2000000) only [go_sem, ↓reduceIte]
      refine q0b.q0l rfl rfl rfl rfl mapT strT rfl rfl rfl ?_
      simp (maxSteps := 2000000) only [go_sem, ↓reduceIte]
      refine q0b.q0l rfl rfl rfl rfl mapT strT rfl rfl rfl ?_
      simp (maxSteps := 2000000) only [go_sem, ↓reduceIte]
      refine q0b.q0l rfl rfl rfl rfl mapT strT rfl rfl rfl ?_
      simp (maxSteps := 2000000) only [go_sem, ↓reduceIte]
      refine q0b.q0l rfl rfl rfl rfl mapT strT rfl rfl rfl ?_
      simp (maxSteps := 2000000) only [go_sem, ↓reduceIte]
      refine q0b.q0l rfl rfl rfl rfl mapT strT rfl rfl rfl ?_
      simp (maxSteps := 2000000) only [go_sem, ↓reduceIte]
      refine q0b.z3c (kd := .string) (key := .str s) (zero := .str []) rfl rfl rfl mapT strT rfl (fun k hk => List.all_eq_true.1 (show (List.map D.str q9J).all (q0K .string) = true from rfl) k hk) strZ ?_
      rw [htab]
      cases R <;> (simp only [Option.map_some, Option.map_none]; simp (maxSteps := 2000000) only [go_sem, ↓reduceIte]; rfl)
 ·have zl : ((s.length : Int) = 1) = False := eq_false (by omega)
  have hlet : letter s = false := by unfold letter; rw [decide_eq_false h1]; rfl
  rw [hlet, if_neg (by decide)]
  simp (maxSteps := 2000000) (disch := omega) only [go_sem, ↓reduceIte, q2l, q2m, zl]
  refine q0b.mkMap mapT ?_
  simp (maxSteps := 2000000) only [go_sem, ↓reduceIte]
  refine q0b.q0l rfl rfl rfl rfl mapT strT rfl rfl rfl ?_
  simp (maxSteps := 2000000) only [go_sem, ↓reduceIte]
  refine q0b.q0l rfl rfl rfl rfl mapT strT rfl rfl rfl ?_
  simp (maxSteps := 2000000) only [go_sem, ↓reduceIte]
  refine q0b.q0l rfl rfl rfl rfl mapT strT rfl rfl rfl ?_
  simp (maxSteps := 2000000) only [go_sem, ↓reduceIte]
  refine q0b.q0l rfl rfl rfl rfl mapT strT rfl rfl rfl ?_
  simp (maxSteps := 2000000) only [go_sem, ↓reduceIte]
  refine q0b.q0l rfl rfl rfl rfl mapT strT rfl rfl rfl ?_
  simp (maxSteps := 2000000) only [go_sem, ↓reduceIte]
  refine q0b.q0l rfl rfl rfl rfl mapT strT rfl rfl rfl ?_
  simp (maxSteps := 2000000) only [go_sem, ↓reduceIte]
  refine q0b.q0l rfl rfl rfl rfl mapT strT rfl rfl rfl ?_
  simp (maxSteps := 2000000) only [go_sem, ↓reduceIte]
  refine q0b.q0l rfl rfl rfl rfl mapT strT rfl rfl rfl ?_
  simp (maxSteps := 2000000) only [go_sem, ↓reduceIte]
  refine q0b.q0l rfl rfl rfl rfl mapT strT rfl rfl rfl ?_
  simp (maxSteps := 2000000) only [go_sem, ↓reduceIte]
  refine q0b.q0l rfl rfl rfl rfl mapT strT rfl rfl rfl ?_
  simp (maxSteps := 2000000) only [go_sem, ↓reduceIte]
  refine q0b.q0l rfl rfl rfl rfl mapT strT rfl rfl rfl ?_
  simp (maxSteps := 2000000) only [go_sem, ↓reduceIte]
  refine q0b.q0l rfl rfl rfl rfl mapT strT rfl rfl rfl ?_
  simp (maxSteps := 2000000) only [go_sem, ↓reduceIte]
  refine q0b.q0l rfl rfl rfl rfl mapT strT rfl rfl rfl ?_
  simp (maxSteps := 2000000) only [go_sem, ↓reduceIte]
  refine q0b.q0l rfl rfl rfl rfl mapT strT rfl rfl rfl ?_
  simp (maxSteps := 2000000) only [go_sem, ↓reduceIte]
  refine q0b.q0l rfl rfl rfl rfl mapT strT rfl rfl rfl ?_
  simp (maxSteps := 2000000) only [go_sem, ↓reduceIte]
  refine q0b.z3c (kd := .string) (key := .str s) (zero := .str []) rfl rfl rfl mapT strT rfl (fun k hk => List.all_eq_true.1 (show (List.map D.str q9J).all (q0K .string) = true from rfl) k hk) strZ ?_
  rw [htab]
  cases R <;> (simp only [Option.map_some, Option.map_none]; simp (maxSteps := 2000000) only [go_sem, ↓reduceIte]; rfl)
end Go.Av.Tryz
set_option linter.unusedSimpArgs false
set_option maxRecDepth 100000
namespace Go.Av.Tryz
open Go.Proofs
def hexD (c : Nat) : Option Nat := if 48 ≤ c ∧ c ≤ 57 then some (c - 48) else if 65 ≤ c ∧ c ≤ 70 then some (c - 55) else none
def q6d : List UInt8 → Nat → Option Nat
 | [], n => some n
 | c :: r, n => match hexD c.toNat with
  | none => none
  | some d => q6d r (16 * n + d)
def hexZ (o : Option Nat) : Int := match o with
 | some n => n
 | none => -1
def j4k {α : Type} (a b : Option α) : Option α := match a with
 | some t => some t
 | none => b
def surM : Option Nat → Option (List UInt8)
 | none => none
 | some n => if 55296 ≤ n ∧ n < 57344 then none else some (enc n)
def uniM (s : List UInt8) : Option (List UInt8) := if s.length ≠ 7 ∨ s.take 3 ≠ [117, 110, 105] then none else surM (q6d (s.drop 3) 0)
def z6N (s : List UInt8) : Option (List UInt8) := j4k (z3z s) (uniM s)
theorem z9w {c d : Nat} (h : hexD c = some d) : d ≤ 15 := by
 unfold hexD at h
 split at h
 ·cases h; omega
 ·split at h
  ·cases h; omega
  ·cases h
theorem z4h : ∀ (s : List UInt8) (n : Nat), ∀ m, q6d s n = some m → m < (n + 1) * 16 ^ s.length
 | [], n, m, h => by simp [q6d] at h; subst h; simp
 | c :: r, n, m, h => by
  simp only [q6d] at h
  cases hd : hexD c.toNat with
  | none => rw [hd] at h; cases h
  | some d =>
   rw [hd] at h
   have ih := z4h r _ m h
   have := z9w hd
   rw [List.length_cons, Nat.pow_succ]
   have h2 : (16 * n + d + 1) * 16 ^ r.length ≤ ((n + 1) * 16) * 16 ^ r.length := Nat.mul_le_mul_right _ (by omega)
   calc m < (16 * n + d + 1) * 16 ^ r.length := ih
    _ ≤ ((n + 1) * 16) * 16 ^ r.length := h2
    _ = (n + 1) * (16 ^ r.length * 16) := by rw [Nat.mul_assoc, Nat.mul_comm 16]
def z1V : q0j :=
 .seq (.reg [Qx 2 (Ki 0)]) (.seq (.reg [Qx 3 (Ki 0)]) (.seq (.seq (.reg [Qc 6 0, Q 7 (.len true (.t 6)), Q 8 (.cp (Ki 0))]) (.block 0 (.loop (.seq (.reg [Q 9 (.bin .lss (.t 8) (.t 
 7))]) (.seq (.cond (.t 9) .skip (.exit 0)) (.seq (.block 1 (.seq (.reg [Qc 10 8, Qa 4 10]) (.seq (.reg [Qc 11 0, Qc 12 4, Q 13 (.idxS (.t 11) (.t 12)), Qa 5 13]) (.block 2 (.seq 
 (.reg [Qc 15 5, Q 16 (.bin .geq (.t 15) (Kb 48)), Qc 17 16, Qd 18 5 17 true, Qg 19 (.bin .leq (.t 18) (Kb 57)) 17 true, Q 20 (.pick (.t 17) (.t 19) KF), Qa 14 20]) (.cond (.t 14) 
 (.reg [Qc 21 3, Q 22 (.bin .mul (Ki 16) (.t 21)), Qc 23 5, Q 24 (.bin .sub (.t 23) (Kb 48)), Q 25 (.cvI .i64 (.t 24)), Q 26 (.bin .add (.t 22) (.t 25)), Qa 3 26]) (.seq (.reg [Qc 
 28 5, Q 29 (.bin .geq (.t 28) (Kb 65)), Qc 30 29, Qd 31 5 30 true, Qg 32 (.bin .leq (.t 31) (Kb 70)) 30 true, Q 33 (.pick (.t 30) (.t 32) KF), Qa 27 33]) (.cond (.t 27) (.reg [Qc 
 34 3, Q 35 (.bin .mul (Ki 16) (.t 34)), Qc 36 5, Q 37 (.bin .sub (.t 36) (Kb 65)), Q 38 (.cvI .i64 (.t 37)), Q 39 (.bin .add (.t 35) (.t 38)), Q 40 (.bin .add (.t 39) (Ki 10)), 
 Qa 3 40]) (.seq (.reg [Qx 2 (Ki (-1))]) .ret))))))))) (.reg [Q 41 (.bin .add (.t 8) (Ki 1)), Qc 8 41]))))))) (.seq (.reg [Qc 42 3, Qa 2 42]) .ret)))
def z1X : List LRes := [.tmp 2]
theorem z29 : q0t Tryz.prog 146 43 z1V z1X := ⟨_, _, Tryz.func146, rfl, by kernel_rfl, by kernel_rfl, rfl⟩
theorem z9m (s : List UInt8) (hs : s.length ≤ 4) : q0u Tryz.prog 146 [.str s] (fun r => r = .one (.int .i64 (hexZ (q6d s 0)))) := by
 refine z29.call rfl ?_
 generalize hR : q6d s 0 = R
 simp (maxSteps := 2000000) only [go_sem, ↓reduceIte, z1V, z1X]
 refine q0s (fun y : Nat × Nat => ⟨[(0, .d (.str s)), (3, .d (.int .i64 y.2)), (7, .d (.int .i64 s.length)), (8, .d (.int .i64 y.1))], [], []⟩)
  (fun y => y.1 ≤ s.length ∧ y.2 < 16 ^ y.1 ∧ q6d (s.drop y.1) y.2 = R) (fun y => s.length - y.1) (0, 0) ?_ ?_ ?_
 ·refine q0e ?_ trivial
  simp (maxSteps := 2000000) only [go_sem, ↓reduceIte, Sub, Int.natCast_add, Int.natCast_mul]
 ·exact ⟨Nat.zero_le _, by simp, hR⟩
 ·rintro ⟨i, n⟩ ⟨hi, hn, hF⟩
  simp only at hi hn hF
  have hpow : 16 ^ i ≤ 65536 := by
   have : i = 0 ∨ i = 1 ∨ i = 2 ∨ i = 3 ∨ i = 4 := by omega
   rcases this with rfl | rfl | rfl | rfl | rfl <;> decide
  simp (maxSteps := 2000000) only [go_sem, ↓reduceIte]
  refine ⟨fun hlt => ?_, fun hge => ?_⟩
  ·obtain ⟨c, hc⟩ := get_some (l := s) (i := i) (by omega)
   have hc8 := q4e c
   rw [q1J hc, q6d] at hF
   have nxt : ∀ d : Nat, hexD c.toNat = some d → q6d (s.drop (i + 1)) (16 * n + d) = R ∧ 16 * n + d < 16 ^ (i + 1) := fun d h => by
    rw [h] at hF
    have := z9w h
    exact ⟨hF, by rw [Nat.pow_succ]; omega⟩
   by_cases a : 48 ≤ c.toNat ∧ c.toNat ≤ 57
   ·have z1 : (48 ≤ (c.toNat : Int)) = True := eq_true (by omega)
    have z2 : ((c.toNat : Int) ≤ 57) = True := eq_true (by omega)
    obtain ⟨f1, f2⟩ := nxt (c.toNat - 48) (by unfold hexD; rw [if_pos a])
    have e : (16 * (n : Int) + ((c.toNat : Int) - 48)) = ((16 * n + (c.toNat - 48) : Nat) : Int) := by omega
    simp (maxSteps := 2000000) (disch := omega) only [go_sem, ↓reduceIte, q0c, hc, z1, z2, e]
    refine ⟨(i + 1, 16 * n + (c.toNat - 48)), ?_, ⟨by simp only; omega, f2, f1⟩, by simp only; omega⟩
    refine q0e ?_ trivial
    simp (maxSteps := 2000000) only [go_sem, ↓reduceIte, Sub, Int.natCast_add, Int.natCast_mul]
   ·have bad : hexD c.toNat = none → Res.one (.int .i64 (-1)) = Res.one (.int .i64 (hexZ R)) := fun h => by rw [h] at hF; rw [← hF]; rfl
    by_cases b : 65 ≤ c.toNat ∧ c.toNat ≤ 70
    ·have z2 : ((c.toNat : Int) ≤ 57) = False := eq_false (by omega)
     have z1 : (48 ≤ (c.toNat : Int)) = True := eq_true (by omega)
     have z3 : (65 ≤ (c.toNat : Int)) = True := eq_true (by omega)
     have z4 : ((c.toNat : Int) ≤ 70) = True := eq_true (by omega)
     obtain ⟨f1, f2⟩ := nxt (c.toNat - 55) (by unfold hexD; rw [if_neg a, if_pos b])
     have e : (16 * (n : Int) + ((c.toNat : Int) - 65) + 10) = ((16 * n + (c.toNat - 55) : Nat) : Int) := by omega
     simp (maxSteps := 2000000) (disch := omega) only [go_sem, ↓reduceIte, q0c, hc, z1, z2, z3, z4, e]
     refine ⟨(i + 1, 16 * n + (c.toNat - 55)), ?_, ⟨by simp only; omega, f2, f1⟩, by simp only; omega⟩
     refine q0e ?_ trivial
     simp (maxSteps := 2000000) only [go_sem, ↓reduceIte, Sub, Int.natCast_add, Int.natCast_mul]
    ·have b' := bad (by unfold hexD; rw [if_neg a, if_neg b])
     by_cases c1 : 48 ≤ c.toNat
     ·have z1 : (48 ≤ (c.toNat : Int)) = True := eq_true (by omega)
      have z2 : ((c.toNat : Int) ≤ 57) = False := eq_false (by omega)
      by_cases c2 : 65 ≤ c.toNat
      ·have z3 : (65 ≤ (c.toNat : Int)) = True := eq_true (by omega)
       have z4 : ((c.toNat : Int) ≤ 70) = False := eq_false (by omega)
       simp (maxSteps := 2000000) (disch := omega) only [go_sem, ↓reduceIte, q0c, hc, z1, z2, z3, z4]
       exact b'
      ·have z3 : (65 ≤ (c.toNat : Int)) = False := eq_false (by omega)
       simp (maxSteps := 2000000) (disch := omega) only [go_sem, ↓reduceIte, q0c, hc, z1, z2, z3]
       exact b'
     ·have z1 : (48 ≤ (c.toNat : Int)) = False := eq_false (by omega)
      have z3 : (65 ≤ (c.toNat : Int)) = False := eq_false (by omega)
      simp (maxSteps := 2000000) (disch := omega) only [go_sem, ↓reduceIte, q0c, hc, z1, z3]
      exact b'
  ·have : s.drop i = [] := List.drop_eq_nil_of_le (by omega)
   rw [this] at hF
   simp only [q6d] at hF
   subst hF
   rfl
def q9o : q0j :=
 .seq (.reg [Qx 2 (.k (.d (.str []))), Qx 3 KF]) (.seq (.reg [Qc 8 0, ⟨some 9, .call 145 [.t 8], none⟩, Qc 7 9, Q 10 (.ext 0 (.t 7)), Q 11 (.ext 1 (.t 7)), Qa 4 10, Qa 5 11]) (.seq 
 (.seq (.reg [Qc 12 5]) (.cond (.t 12) (.seq (.reg [Qc 13 4, Qa 2 13, Qx 3 KT]) .ret) .skip)) (.seq (.seq (.reg [Qc 14 0, Q 15 (.len true (.t 14)), Q 16 (.bin .neq (.t 15) (Ki 
 7)), Qc 17 16, Qd 18 0 17 false, Qg 19 (.subS (.t 18) none (some (Ki 3))) 17 false, Qg 20 (.bin .neq (.t 19) (.k (.d (.str [117, 110, 105])))) 17 false, Q 21 (.pick (.t 17) KT 
 (.t 20))]) (.cond (.t 21) (.seq (.reg [Qx 2 (.k (.d (.str []))), Qx 3 KF]) .ret) .skip)) (.seq (.reg [Qc 22 0, Q 23 (.subS (.t 22) (some (Ki 3)) none), ⟨some 24, .call 146 [.t 
 23], none⟩, Qa 6 24]) (.seq (.seq (.reg [Qc 25 6, Q 26 (.bin .lss (.t 25) (Ki 0)), Qc 27 26, Qd 28 6 27 false, Qg 29 (.bin .geq (.t 28) (Ki 55296)) 27 false, Qd 30 29 27 false, 
 Qd 31 6 30 true, Qg 32 (.bin .lss (.t 31) (Ki 57344)) 30 true, Qg 33 (.pick (.t 30) (.t 32) KF) 27 false, Q 34 (.pick (.t 27) KT (.t 33))]) (.cond (.t 34) (.seq (.reg [Qx 2 (.k 
 (.d (.str []))), Qx 3 KF]) .ret) .skip)) (.seq (.reg [Qc 35 6, Q 36 (.cvI .i32 (.t 35)), Q 37 (.i2s (.t 36)), Qa 2 37, Qx 3 KT]) .ret))))))
def q9w : List LRes := [.tmp 2, .tmp 3]
theorem z0T : q0t Tryz.prog 133 38 q9o q9w := ⟨_, _, Tryz.func133, rfl, by kernel_rfl, by kernel_rfl, rfl⟩
theorem z7F (s : List UInt8) (hs : s.length ≤ 1000000) : q0u Tryz.prog 133 [.str s] (fun r => r = q3i (z6N s)) := by
 refine z0T.call rfl ?_
 unfold z6N
 simp (maxSteps := 2000000) only [go_sem, ↓reduceIte, q9o, q9w]
 refine q0k.of (z6l s hs) ?_
 cases hS : z3z s with
 | some t =>
  simp only [j4k, q3i]
  simp (maxSteps := 2000000) only [go_sem, ↓reduceIte]
 | none =>
  simp only [j4k, uniM, q3i]
  by_cases h7 : s.length = 7
  ·have z7 : ((s.length : Int) = 7) = True := eq_true (by omega)
   have hcut : cutI s 0 3 = s.take 3 := rfl
   have hcut2 : cutI s 3 (s.length : Int) = s.drop 3 := by unfold cutI; simp
   by_cases hu : s.take 3 = [117, 110, 105]
   ·have hb : ¬ (s.length ≠ 7 ∨ s.take 3 ≠ [117, 110, 105]) := by rintro (h | h); exact h h7; exact h hu
    rw [if_neg hb]
    simp (maxSteps := 2000000) (disch := omega) only [go_sem, ↓reduceIte, z7, hcut, hu]
    refine ⟨by omega, ⟨by omega, by omega⟩, ?_⟩
    rw [hcut2]
    refine q0k.of (z9m (s.drop 3) (by rw [List.length_drop]; omega)) ?_
    have hlt := z4h (s.drop 3) 0
    rw [List.length_drop, h7] at hlt
    cases hH : q6d (s.drop 3) 0 with
    | none =>
     simp only [hexZ, surM]
     simp (maxSteps := 2000000) only [go_sem, ↓reduceIte]
    | some n =>
     have hn := hlt n hH
     simp only [hexZ, surM]
     have z8 : ((n : Int) < 0) = False := eq_false (by omega)
     by_cases hsur : 55296 ≤ n ∧ n < 57344
     ·have z9 : (55296 ≤ (n : Int)) = True := eq_true (by omega)
      have z10 : ((n : Int) < 57344) = True := eq_true (by omega)
      simp (maxSteps := 2000000) only [go_sem, ↓reduceIte, z8, z9, z10]
      rw [if_pos hsur]
     ·have he : (Utf8.encode (n : Int)).data.toList = enc n := q8U (by unfold q3P; omega)
      have hw32 : IntKind.i32.wrap (n : Int) = (n : Int) := by rw [IntWalk.i32_in _ (by omega)]
      rw [if_neg hsur]
      by_cases h9 : 55296 ≤ n
      ·have z9 : (55296 ≤ (n : Int)) = True := eq_true (by omega)
       have z10 : ((n : Int) < 57344) = False := eq_false (by omega)
       simp (maxSteps := 2000000) only [go_sem, ↓reduceIte, z8, z9, z10, hw32, he]
      ·have z9 : (55296 ≤ (n : Int)) = False := eq_false (by omega)
       simp (maxSteps := 2000000) only [go_sem, ↓reduceIte, z8, z9, hw32, he]
   ·have hb : s.length ≠ 7 ∨ s.take 3 ≠ [117, 110, 105] := .inr hu
    rw [if_pos hb]
    simp (maxSteps := 2000000) (disch := omega) only [go_sem, ↓reduceIte, z7, hcut, hu]
    omega
  ·have z7 : ((s.length : Int) = 7) = False := eq_false (by omega)
   rw [if_pos (.inl h7)]
   simp (maxSteps := 2000000) (disch := omega) only [go_sem, ↓reduceIte, z7]
end Go.Av.Tryz
set_option linter.unusedSimpArgs false
set_option maxRecDepth 100000
namespace Go.Av.Tryz
open Go.Proofs
structure Fnt where
 wide : Bool
 ws : List (Int × Int)
 miss : Int
 ns : List (Int × List UInt8)
 cs : List Span
def q2O {α : Type} (l : List (Int × α)) : List D := l.map fun p => .int .i64 p.1
def q8K (l : List (Int × Int)) : List D := l.map fun p => .int .i64 p.2
def q8s (l : List (Int × List UInt8)) : List D := l.map fun p => .str p.2
def Fnt.d (x : Fnt) : D := .agg [.bool x.wide, .map (q2O x.ws) (q8K x.ws), .int .i64 x.miss, .map (q2O x.ns) (q8s x.ns), .list (q19 x.cs)]
def assoc {α : Type} : List (Int × α) → Int → Option α
 | [], _ => none
 | p :: r, c => if c = p.1 then some p.2 else assoc r c
theorem z8I (l : List (Int × Int)) (c : Int) : q2x (q2O l) (q8K l) (.int .i64 c) = (assoc l c).map (D.int .i64) := by
 induction l with
 | nil => rfl
 | cons p r ih =>
  simp only [q2O, q8K, List.map_cons, q2x, q8Z, beq_iff_eq, assoc] at ih ⊢
  split
  ·rfl
  ·exact ih
theorem j3D (l : List (Int × List UInt8)) (c : Int) : q2x (q2O l) (q8s l) (.int .i64 c) = (assoc l c).map D.str := by
 induction l with
 | nil => rfl
 | cons p r ih =>
  simp only [q2O, q8s, List.map_cons, q2x, q8Z, beq_iff_eq, assoc] at ih ⊢
  split
  ·rfl
  ·exact ih
theorem q8Y {α : Type} (l : List (Int × α)) : ∀ k ∈ q2O l, q0K (.int .i64) k = true := fun k hk => by
 obtain ⟨p, _, rfl⟩ := List.mem_map.1 hk; rfl
theorem z3W {α : Type} : ∀ {l : List (Int × α)} {c : Int} {v : α}, assoc l c = some v → ∃ p ∈ l, p.2 = v
 | [], c, v, h => by cases h
 | p :: r, c, v, h => by
  simp only [assoc] at h
  split at h
  ·cases h; exact ⟨p, by simp, rfl⟩
  ·obtain ⟨q, q1, q2⟩ := z3W h; exact ⟨q, by simp [q1], q2⟩
structure Fnt.ok (x : Fnt) : Prop where
 cs : ∀ s ∈ x.cs, j3r s
 cl : x.cs.length ≤ 1000000
 nl : ∀ p ∈ x.ns, p.2.length ≤ 1000000
def z4a (x : Fnt) (c : Int) : List UInt8 :=
 match z3Z x.cs c with
 | some t => t
 | none => if x.wide = true then [] else
  match assoc x.ns c with
  | some n => (z6N n).getD []
  | none => if 32 ≤ c ∧ c ≤ 126 then [UInt8.ofNat c.toNat] else []
theorem j36 : Tryz.prog.underlying 59 = some (.map 3 9) := by kernel_rfl
theorem j11 : Tryz.prog.underlying 58 = some (.map 3 3) := by kernel_rfl
theorem intT : Tryz.prog.underlying 3 = some (.int .i64) := by kernel_rfl
theorem j6b : Program.zeroOf Tryz.prog 9 = some (.str []) := by kernel_rfl
theorem j5e : Program.zeroOf Tryz.prog 3 = some (.int .i64 0) := by kernel_rfl
theorem z8G {c : Nat} (h : c < 128) : (Utf8.encode (c : Int)).data.toList = [UInt8.ofNat c] := by
 rw [q8U (by unfold q3P; omega)]
 rcases q5I (r := c) (by unfold q3P; omega) with ⟨_, e⟩ | ⟨a, _, _⟩ | ⟨a, _, _⟩ | ⟨a, _, _⟩
 ·exact e
 all_goals omega
def z0f : q0j :=
 .seq (.reg [⟨some 2, .box (.t 0), none⟩, Qx 4 (.k (.d (.str [])))]) (.seq (.reg [Q 10 (.fa 4 (.t 2)), Q 11 (.ld false 1 (.t 10)), Qc 12 1, ⟨some 13, .call 132 [.t 11, .t 12], 
 none⟩, Qc 9 13, Q 14 (.ext 0 (.t 9)), Q 15 (.ext 1 (.t 9)), Qa 5 14, Qa 6 15]) (.seq (.seq (.reg [Qc 16 6]) (.cond (.t 16) (.seq (.reg [Qc 17 5, Qa 4 17]) .ret) .skip)) (.seq 
 (.seq (.reg [Q 18 (.fa 0 (.t 2)), Q 19 (.ld false 1 (.t 18))]) (.cond (.t 19) (.seq (.reg [Qx 4 (.k (.d (.str [])))]) .ret) .skip)) (.seq (.reg [Q 21 (.fa 3 (.t 2)), Q 22 (.ld 
 false 1 (.t 21)), Qc 23 1, ⟨some 24, .prim (.lookup 59 true) [.t 22, .t 23] [], none⟩, Qc 20 24, Q 25 (.ext 0 (.t 20)), Q 26 (.ext 1 (.t 20)), Qa 7 25, Qa 8 26]) (.seq (.seq 
 (.reg [Qc 27 8]) (.cond (.t 27) (.seq (.reg [Qc 29 7, ⟨some 30, .call 133 [.t 29], none⟩, Qc 28 30, Q 31 (.ext 0 (.t 28)), Q 32 (.ext 1 (.t 28)), Qa 5 31]) (.seq (.reg [Qc 33 5, 
 Qa 4 33]) .ret)) .skip)) (.seq (.seq (.reg [Qc 34 1, Q 35 (.bin .geq (.t 34) (Ki 32)), Qc 36 35, Qd 37 1 36 true, Qg 38 (.bin .leq (.t 37) (Ki 126)) 36 true, Q 39 (.pick (.t 36) 
 (.t 38) KF)]) (.cond (.t 39) (.seq (.reg [Qc 40 1, Q 41 (.cvI .i32 (.t 40)), Q 42 (.i2s (.t 41)), Qa 4 42]) .ret) .skip)) (.seq (.reg [Qx 4 (.k (.d (.str [])))]) .ret)))))))
def z0m : List LRes := [.tmp 4]
theorem z1N : q0t Tryz.prog 116 43 z0f z0m := ⟨_, _, Tryz.func116, rfl, by kernel_rfl, by kernel_rfl, rfl⟩
theorem q60 (x : Fnt) (hx : x.ok) (c : Int) (hc : 0 ≤ c ∧ c ≤ 65535) : q0u Tryz.prog 116 [x.d, .int .i64 c] (fun r => r = .one (.str (z4a x c))) := by
 refine z1N.call rfl ?_
 unfold z4a
 simp (maxSteps := 2000000) only [go_sem, ↓reduceIte, z0f, z0m, Fnt.d]
 refine q0k.of (j0X x.cs c hx.cs (by omega) hx.cl) ?_
 cases hcm : z3Z x.cs c with
 | some t =>
  simp only [q3i]
  simp (maxSteps := 2000000) only [go_sem, ↓reduceIte]
 | none =>
  simp only [q3i]
  cases hw : x.wide with
  | true =>
   simp (maxSteps := 2000000) only [go_sem, ↓reduceIte]
  | false =>
   simp (maxSteps := 2000000) only [go_sem, ↓reduceIte]
   refine q0b.lookup (kd := .int .i64) (key := .int .i64 c) (zero := .str []) rfl rfl j36 intT rfl (q8Y _) j6b ?_
   rw [j3D]
   cases ha : assoc x.ns c with
   | some n =>
    obtain ⟨p, p1, p2⟩ := z3W ha
    have hnl := hx.nl p p1
    rw [p2] at hnl
    simp only [Option.map_some, Option.getD_some, Option.isSome_some]
    simp (maxSteps := 2000000) only [go_sem, ↓reduceIte]
    refine q0k.of (z7F n hnl) ?_
    cases z6N n <;> (simp only [q3i]; simp (maxSteps := 2000000) only [go_sem, ↓reduceIte]) <;> rfl
   | none =>
    simp only [Option.map_none, Option.getD_none, Option.isSome_none]
    obtain ⟨m, rfl⟩ := Int.eq_ofNat_of_zero_le hc.1
    have hw32 : IntKind.i32.wrap (m : Int) = (m : Int) := by rw [IntWalk.i32_in _ (by omega)]
    by_cases h1 : (32 : Int) ≤ m
    ·have z1 := eq_true h1
     by_cases h2 : (m : Int) ≤ 126
     ·have z2 := eq_true h2
      have he := z8G (c := m) (by omega)
      simp (maxSteps := 2000000) (disch := omega) only [go_sem, ↓reduceIte, z1, z2, hw32, he]
      rfl
     ·have z2 := eq_false h2
      simp (maxSteps := 2000000) (disch := omega) only [go_sem, ↓reduceIte, z1, z2]
    ·have z1 := eq_false h1
     simp (maxSteps := 2000000) (disch := omega) only [go_sem, ↓reduceIte, z1]
structure Sgn where
 code : Int
 width : Int
 text : List UInt8
def Sgn.d (x : Sgn) : D := .agg [.int .i64 x.code, .int .i64 x.width, .str x.text]
def q5C (l : List Sgn) : List D := l.map Sgn.d
theorem q2N (l : List Sgn) : (q5C l).length = l.length := by simp [q5C]
theorem j0M (l : List Sgn) (j : Nat) : (q5C l)[j]? = (l[j]?).map Sgn.d := by simp [q5C]
theorem q9R (a b : List Sgn) : q5C (a ++ b) = q5C a ++ q5C b := by simp [q5C]
def sgnM (x : Fnt) (c : Int) : Sgn := ⟨c, (assoc x.ws c).getD x.miss, z4a x c⟩
def q9h (x : Fnt) (s : List UInt8) : List Sgn := s.map fun c => sgnM x c.toNat
def q5T (x : Fnt) : List UInt8 → List Sgn
 | a :: b :: r => sgnM x (256 * (a.toNat : Int) + b.toNat) :: q5T x r
 | _ => []
def q4F (x : Fnt) (s : List UInt8) : Option (List Sgn) := if x.wide = true then (if s.length % 2 = 0 then some (q5T x s) else none) else some (q9h x s)
def z3y (o : Option (List Sgn)) : Res := match o with
 | some l => .tup [.list (q5C l), errD 0]
 | none => .tup [.list [], errD 4]
theorem z4W (x : Fnt) (a b : UInt8) : ∀ p : List UInt8, p.length % 2 = 0 → q5T x (p ++ [a, b]) = q5T x p ++ [sgnM x (256 * (a.toNat : Int) + b.toNat)]
 | [], _ => rfl
 | [c], h => by simp at h
 | c :: d :: r, h => by
  have := z4W x a b r (by simp at h; omega)
  simp only [List.cons_append, q5T, this]
theorem z1l (x : Fnt) : ∀ p : List UInt8, (q5T x p).length ≤ p.length
 | [] => by simp [q5T]
 | [c] => by simp [q5T]
 | c :: d :: r => by have := z1l x r; simp only [q5T, List.length_cons]; omega
def q5h : q0j :=
 .seq (.reg [⟨some 2, .box (.t 0), none⟩, ⟨some 4, .nils 143 3, none⟩, Qx 5 (.k (.d .nil))]) (.seq (.reg [Qx 6 (Ki 1)]) (.seq (.seq (.reg [Q 12 (.fa 0 (.t 2)), Q 13 (.ld false 1 (.t 
 12))]) (.cond (.t 13) (.reg [Qx 6 (Ki 2)]) .skip)) (.seq (.seq (.reg [Qc 14 1, Q 15 (.len true (.t 14)), Qc 16 6, Q 17 (.bin .rem (.t 15) (.t 16)), Q 18 (.bin .gtr (.t 17) (Ki 
 0))]) (.cond (.t 18) (.seq (.reg [Q 19 (.mkI 76 (Ki 4)), ⟨some 4, .nils 143 3, none⟩, Qa 5 19]) .ret) .skip)) (.seq (.reg [⟨some 7, .nils 143 3, none⟩]) (.seq (.seq (.reg [Qx 8 
 (Ki 0)]) (.block 0 (.loop (.seq (.seq (.reg [Qc 20 8, Qc 21 1, Q 22 (.len true (.t 21)), Q 23 (.bin .lss (.t 20) (.t 22))]) (.cond (.t 23) .skip (.exit 0))) (.seq (.block 1 (.seq 
 (.reg [Qc 27 1, Qc 28 8, Q 29 (.idxS (.t 27) (.t 28)), Q 30 (.cvI .i64 (.t 29)), Qa 9 30]) (.seq (.seq (.reg [Q 31 (.fa 0 (.t 2)), Q 32 (.ld false 1 (.t 31))]) (.cond (.t 32) 
 (.reg [Qc 33 9, Q 34 (.bin .mul (Ki 256) (.t 33)), Qc 35 1, Qc 36 8, Q 37 (.bin .add (.t 36) (Ki 1)), Q 38 (.idxS (.t 35) (.t 37)), Q 39 (.cvI .i64 (.t 38)), Q 40 (.bin .add (.t 
 34) (.t 39)), Qa 9 40]) .skip)) (.seq (.reg [Q 42 (.fa 1 (.t 2)), Q 43 (.ld false 1 (.t 42)), Qc 44 9, ⟨some 45, .prim (.lookup 58 true) [.t 43, .t 44] [], none⟩, Qc 41 45, Q 46 
 (.ext 0 (.t 41)), Q 47 (.ext 1 (.t 41)), Qa 10 46, Qa 11 47]) (.seq (.seq (.reg [Qc 48 11, Q 49 (.not (.t 48))]) (.cond (.t 49) (.reg [Q 50 (.fa 2 (.t 2)), Q 51 (.ld false 1 (.t 
 50)), Qa 10 51]) .skip)) (.reg [Qc 52 7, Qc 53 9, Qc 54 10, Q 55 (.ld true 5 (.t 2)), Qc 56 9, ⟨some 57, .call 116 [.t 55, .t 56], none⟩, Q 58 (.bld [(0, 1), (1, 1), (2, 1)] 
 [.int .i64 0, .int .i64 0, .str []] [] [(0, .t 53), (1, .t 54), (2, .t 57)]), ⟨some 59, .bsl 143 3 [.t 58], none⟩, ⟨some 60, .app 143 3 32 false (.t 52) (.t 59), none⟩, Qa 7 
 60])))))) (.reg [Qc 24 8, Qc 25 6, Q 26 (.bin .add (.t 24) (.t 25)), Qa 8 26])))))) (.seq (.reg [Qc 61 7, Qa 4 61, Qx 5 (.k (.d .nil))]) .ret))))))
def q5j : List LRes := [.tmp 4, .tmp 5]
theorem z0U : q0t Tryz.prog 94 62 q5h q5j := ⟨_, _, Tryz.func94, rfl, by kernel_rfl, by kernel_rfl, rfl⟩
theorem z8d (x : Fnt) (hx : x.ok) (s : List UInt8) (hs : s.length ≤ 1000000) : q0u Tryz.prog 94 [x.d, .str s] (fun r => r = z3y (q4F x s)) := by
 refine z0U.call rfl ?_
 unfold q4F
 cases hw : x.wide with
 | true =>
  have hxd : x.d = .agg [.bool true, .map (q2O x.ws) (q8K x.ws), .int .i64 x.miss, .map (q2O x.ns) (q8s x.ns), .list (q19 x.cs)] := by unfold Fnt.d; rw [hw]
  simp only [if_true]
  have zm : Int.tmod (s.length : Int) 2 = ((s.length % 2 : Nat) : Int) := rfl
  by_cases h2 : s.length % 2 = 0
  ·rw [if_pos h2]
   have z2 : (0 < ((s.length % 2 : Nat) : Int)) = False := eq_false (by omega)
   simp (maxSteps := 2000000) only [go_sem, ↓reduceIte, q5h, q5j, Fnt.d, hw, zm, z2]
   refine q0s (fun i : Nat => ⟨[(1, .d (.str s)), (2, .ptr (.l 2) 0), (6, .d (.int .i64 2)), (7, .own (.t 7) 143 3 (q5C (q5T x (s.take i)))), (8, .d (.int .i64 i))], [(2, .cells [.d (.bool true), .d (.map (q2O x.ws) (q8K x.ws)), .d (.int .i64 x.miss), .d (.map (q2O x.ns) (q8s x.ns)), .d (.list (q19 x.cs))])], []⟩)
    (fun i => i ≤ s.length ∧ i % 2 = 0) (fun i => s.length - i) 0 ?_ ?_ ?_
   ·refine Weak.mk ?_ ?_ ?_ <;> simp (maxSteps := 2000000) only [go_sem, ↓reduceIte, Sub, Int.natCast_add, Int.natCast_mul, q5T, q5C, List.take_zero, List.map_nil]
   ·exact ⟨Nat.zero_le _, rfl⟩
   ·rintro i ⟨hi, hm⟩
    simp (maxSteps := 2000000) only [go_sem, ↓reduceIte]
    refine ⟨fun hlt => ?_, fun hge => ?_⟩
    ·obtain ⟨a, ha⟩ := get_some (l := s) (i := i) (by omega)
     have ha8 := q4e a
     obtain ⟨b, hb⟩ := get_some (l := s) (i := i + 1) (by omega)
     have hb8 := q4e b
     have hb' : getI s ((i : Int) + 1) = some b := by rw [z0F]; exact hb
     have htl : (s.take i).length = i := by rw [List.length_take]; omega
     have hnext : q5T x (s.take (i + 2)) = q5T x (s.take i) ++ [sgnM x (256 * (a.toNat : Int) + b.toNat)] := by
      rw [show i + 2 = (i + 1) + 1 by omega, List.take_add_one, List.take_add_one, ha, hb]
      simp only [Option.toList_some, List.append_assoc, List.cons_append, List.nil_append]
      exact z4W x a b (s.take i) (by rw [htl]; exact hm)
     have hl1 := z1l x (s.take i)
     simp (maxSteps := 2000000) (disch := omega) only [go_sem, ↓reduceIte, q0c, ha, hb']
     have hsl := q2N (q5T x (s.take i))
     refine q0b.lookup (kd := .int .i64) (key := .int .i64 (256 * (a.toNat : Int) + b.toNat)) (zero := .int .i64 0) rfl rfl j11 intT rfl (q8Y _) j5e ?_
     rw [z8I]
     have fin : ∀ w : Int, (assoc x.ws (256 * (a.toNat : Int) + b.toNat)).getD x.miss = w → q5C (q5T x (s.take i)) ++ [.agg [.int .i64 (256 * (a.toNat : Int) + b.toNat), .int .i64 w, .str (z4a x (256 * (a.toNat : Int) + b.toNat))]] = q5C (q5T x (s.take (i + 2))) := fun w h => by
      rw [hnext, q9R]; simp only [q5C, List.map_cons, List.map_nil, Sgn.d, sgnM, h]
     cases hq : assoc x.ws (256 * (a.toNat : Int) + b.toNat) with
     | some w =>
      have f1 := fin w (by rw [hq]; rfl)
      simp only [Option.map_some, Option.getD_some, Option.isSome_some]
      simp (maxSteps := 2000000) (disch := omega) only [go_sem, ↓reduceIte, hw]
      have hcall := q60 x hx (256 * (a.toNat : Int) + b.toNat) (by omega)
      rw [hxd] at hcall
      refine q0k.of hcall ?_
      simp (maxSteps := 2000000) (disch := omega) only [go_sem, ↓reduceIte, hw, q2N]
      refine ⟨by omega, i + 2, ?_, ⟨by omega, by omega⟩, by omega⟩
      refine Weak.mk ?_ ?_ ?_ <;> simp (maxSteps := 2000000) only [go_sem, ↓reduceIte, Sub, Int.natCast_add, Int.natCast_mul, f1]
     | none =>
      have f1 := fin x.miss (by rw [hq]; rfl)
      simp only [Option.map_none, Option.getD_none, Option.isSome_none]
      simp (maxSteps := 2000000) (disch := omega) only [go_sem, ↓reduceIte, hw]
      have hcall := q60 x hx (256 * (a.toNat : Int) + b.toNat) (by omega)
      rw [hxd] at hcall
      refine q0k.of hcall ?_
      simp (maxSteps := 2000000) (disch := omega) only [go_sem, ↓reduceIte, hw, q2N]
      refine ⟨by omega, i + 2, ?_, ⟨by omega, by omega⟩, by omega⟩
      refine Weak.mk ?_ ?_ ?_ <;> simp (maxSteps := 2000000) only [go_sem, ↓reduceIte, Sub, Int.natCast_add, Int.natCast_mul, f1]
    ·have hi' : i = s.length := by omega
     subst hi'
     rw [List.take_length]
     rfl
  ·rw [if_neg h2]
   have z2 : (0 < ((s.length % 2 : Nat) : Int)) = True := eq_true (by omega)
   simp (maxSteps := 2000000) only [go_sem, ↓reduceIte, q5h, q5j, Fnt.d, hw, zm, z2]
   rfl
 | false =>
  have hxd : x.d = .agg [.bool false, .map (q2O x.ws) (q8K x.ws), .int .i64 x.miss, .map (q2O x.ns) (q8s x.ns), .list (q19 x.cs)] := by unfold Fnt.d; rw [hw]
  simp only [Bool.false_eq_true, if_false]
  have zm : Int.tmod (s.length : Int) 1 = 0 := by rw [Int.tmod_eq_emod]; simp
  simp (maxSteps := 2000000) only [go_sem, ↓reduceIte, q5h, q5j, Fnt.d, hw, zm]
  refine q0s (fun i : Nat => ⟨[(1, .d (.str s)), (2, .ptr (.l 2) 0), (6, .d (.int .i64 1)), (7, .own (.t 7) 143 3 (q5C (q9h x (s.take i)))), (8, .d (.int .i64 i))], [(2, .cells [.d (.bool false), .d (.map (q2O x.ws) (q8K x.ws)), .d (.int .i64 x.miss), .d (.map (q2O x.ns) (q8s x.ns)), .d (.list (q19 x.cs))])], []⟩)
   (fun i => i ≤ s.length ∧ i % 1 = 0) (fun i => s.length - i) 0 ?_ ?_ ?_
  ·refine Weak.mk ?_ ?_ ?_ <;> simp (maxSteps := 2000000) only [go_sem, ↓reduceIte, Sub, Int.natCast_add, Int.natCast_mul, q9h, q5C, List.take_zero, List.map_nil]
  ·exact ⟨Nat.zero_le _, rfl⟩
  ·rintro i ⟨hi, hm⟩
   simp (maxSteps := 2000000) only [go_sem, ↓reduceIte]
   refine ⟨fun hlt => ?_, fun hge => ?_⟩
   ·obtain ⟨a, ha⟩ := get_some (l := s) (i := i) (by omega)
    have ha8 := q4e a
    have hnext : q9h x (s.take (i + 1)) = q9h x (s.take i) ++ [sgnM x (a.toNat : Int)] := by
     rw [List.take_add_one, ha]; simp [q9h]
    have hl1 : (q9h x (s.take i)).length ≤ i := by unfold q9h; rw [List.length_map, List.length_take]; omega
    simp (maxSteps := 2000000) (disch := omega) only [go_sem, ↓reduceIte, q0c, ha]
    have hsl := q2N (q9h x (s.take i))
    refine q0b.lookup (kd := .int .i64) (key := .int .i64 (a.toNat : Int)) (zero := .int .i64 0) rfl rfl j11 intT rfl (q8Y _) j5e ?_
    rw [z8I]
    have fin : ∀ w : Int, (assoc x.ws (a.toNat : Int)).getD x.miss = w → q5C (q9h x (s.take i)) ++ [.agg [.int .i64 (a.toNat : Int), .int .i64 w, .str (z4a x (a.toNat : Int))]] = q5C (q9h x (s.take (i + 1))) := fun w h => by
     rw [hnext, q9R]; simp only [q5C, List.map_cons, List.map_nil, Sgn.d, sgnM, h]
    cases hq : assoc x.ws (a.toNat : Int) with
    | some w =>
     have f1 := fin w (by rw [hq]; rfl)
     simp only [Option.map_some, Option.getD_some, Option.isSome_some]
     simp (maxSteps := 2000000) (disch := omega) only [go_sem, ↓reduceIte, hw]
     have hcall := q60 x hx (a.toNat : Int) (by omega)
     rw [hxd] at hcall
     refine q0k.of hcall ?_
     simp (maxSteps := 2000000) (disch := omega) only [go_sem, ↓reduceIte, hw, q2N]
     refine ⟨by omega, i + 1, ?_, ⟨by omega, by omega⟩, by omega⟩
     refine Weak.mk ?_ ?_ ?_ <;> simp (maxSteps := 2000000) only [go_sem, ↓reduceIte, Sub, Int.natCast_add, Int.natCast_mul, f1]
    | none =>
     have f1 := fin x.miss (by rw [hq]; rfl)
     simp only [Option.map_none, Option.getD_none, Option.isSome_none]
     simp (maxSteps := 2000000) (disch := omega) only [go_sem, ↓reduceIte, hw]
     have hcall := q60 x hx (a.toNat : Int) (by omega)
     rw [hxd] at hcall
     refine q0k.of hcall ?_
     simp (maxSteps := 2000000) (disch := omega) only [go_sem, ↓reduceIte, hw, q2N]
     refine ⟨by omega, i + 1, ?_, ⟨by omega, by omega⟩, by omega⟩
     refine Weak.mk ?_ ?_ ?_ <;> simp (maxSteps := 2000000) only [go_sem, ↓reduceIte, Sub, Int.natCast_add, Int.natCast_mul, f1]
   ·have hi' : i = s.length := by omega
    subst hi'
    rw [List.take_length]
    rfl
end Go.Av.Tryz
set_option linter.unusedSimpArgs false
set_option maxRecDepth 100000
namespace Go.Av.Tryz
open Go.Proofs
end Go.Av.Tryz
set_option linter.unusedSimpArgs false
set_option maxRecDepth 100000
namespace Go.Av.Tryz
open Go.Proofs
abbrev M6 := Int × Int × Int × Int × Int × Int
def m6D (m : M6) : D := mat m.1 m.2.1 m.2.2.1 m.2.2.2.1 m.2.2.2.2.1 m.2.2.2.2.2
structure PSt where
 ctm : M6
 font : Option Fnt
 size : Int
 char : Int
 word : Int
 scale : Int
 lead : Int
 rise : Int
structure Gph where
 text : List UInt8
 fr : Int × Int
 to : Int × Int
 size : Int
 box : Int × Int × Int × Int
def Gph.d (g : Gph) : D := .agg [.str g.text, I g.fr.1, I g.fr.2, I g.to.1, I g.to.2, I g.size, I g.box.1, I g.box.2.1, I g.box.2.2.1, I g.box.2.2.2]
def q4J (l : List Gph) : List D := l.map Gph.d
structure PT where
 s : PSt
 saved : List PSt
 tm : M6
 lm : M6
 inn : Bool
 out : List Gph
 bad : Nat
def q7h : Option Fnt → D
 | none => .nilp
 | some x => .pto [.bool x.wide, .map (q2O x.ws) (q8K x.ws), .int .i64 x.miss, .map (q2O x.ns) (q8s x.ns), .list (q19 x.cs)]
def PSt.d (s : PSt) : D := .agg [I s.ctm.1, I s.ctm.2.1, I s.ctm.2.2.1, I s.ctm.2.2.2.1, I s.ctm.2.2.2.2.1, I s.ctm.2.2.2.2.2, q7h s.font, I s.size, I s.char, I s.word, I s.scale, I s.lead, I s.rise]
def svV (l : List PSt) : Option Nat → AV
 | none => .ns
 | some c => .rs (.x 1000) l.length c
def svO (l : List PSt) : Option Nat → Option AObj
 | none => none
 | some c => some (.cells (rowC 13 (l.map PSt.d) c))
def outV : List Gph → AV
 | [] => .ns
 | g :: l => .own (.c (.x 0) 28) 55 10 (q4J (g :: l))
def pob (fd : D) (q : PT) (c : Option Nat) : AObj :=
 .cells [.d fd, .d (I q.s.ctm.1), .d (I q.s.ctm.2.1), .d (I q.s.ctm.2.2.1), .d (I q.s.ctm.2.2.2.1), .d (I q.s.ctm.2.2.2.2.1), .d (I q.s.ctm.2.2.2.2.2), .d (q7h q.s.font), .d (I q.s.size), .d (I q.s.char), .d (I q.s.word), .d (I q.s.scale), .d (I q.s.lead), .d (I q.s.rise),
  svV q.saved c, .d (I q.tm.1), .d (I q.tm.2.1), .d (I q.tm.2.2.1), .d (I q.tm.2.2.2.1), .d (I q.tm.2.2.2.2.1), .d (I q.tm.2.2.2.2.2), .d (I q.lm.1), .d (I q.lm.2.1), .d (I q.lm.2.2.1), .d (I q.lm.2.2.2.1), .d (I q.lm.2.2.2.2.1), .d (I q.lm.2.2.2.2.2),
  .d (.bool q.inn), outV q.out, .d (errD q.bad)]
theorem q0d (fd : D) (q : PT) (c : Option Nat) : PO (pob fd q c) := by
 obtain ⟨s, saved, tm, lm, inn, out, bad⟩ := q
 cases c <;> cases out <;> exact ⟨rfl, rfl, rfl⟩
theorem z2B (l : List PSt) (c : Option Nat) : rowM (svO l c) = true := by
 cases c with
 | none => rfl
 | some c => exact q6S 13 _ c
theorem q0O (m : Option AObj) : aget (mob m) 1000 = m := by cases m <;> rfl
attribute [go_sem] q0O z2B
def errO {α : Type} (o : Option α) : Nat := if o.isNone = true then 1 else 0
def orE (n e : Nat) : Nat := if n = 0 then e else n
def PT.er (q : PT) (e : Nat) : PT := { q with bad := orE q.bad e }
def q0z : q0j :=
 .seq (.reg [Qc 4 0, Q 5 (.nck (.t 4)), Q 6 (.fa 29 (.t 5)), Q 7 (.ld false 1 (.t 6)), Q 8 (.eqN 0 false (.t 7))]) (.cond (.t 8) (.reg [Qc 9 0, Qc 10 1, Q 11 (.nck (.t 9)), Q 12 
 (.fa 29 (.t 11)), ⟨none, .st 1 (.t 12) (.t 10), none⟩]) .skip)
def q0A : List LRes := []
theorem q2Q : q0t Tryz.prog 66 13 q0z q0A := ⟨_, _, Tryz.func66, rfl, by kernel_rfl, by kernel_rfl, rfl⟩
theorem q5S (fd : D) (q : PT) (c : Option Nat) (e : Nat) {m : Option AObj} (hm : rowM m = true) : MVE Tryz.prog 66 [.ptr (.x 0) 0, .d (errD e)] [pob fd q c] m (.tuple []) [pob fd (q.er e) c] m := by
 refine q2Q.mv (by kernel_rfl) rfl rfl ?_
 generalize hM : mob m = M
 have ha : aget M 1000 = m := hM ▸ q0O m
 have hn := hm
 unfold rowM at hn
 have hMM : ∀ o : AObj, Sub ((0, o) :: M) ((0, o) :: M) := fun o => hM ▸ subM o m
 by_cases h : q.bad = 0
 ·have e1 : q.er e = { q with bad := e } := by simp [PT.er, orE, h]
  rw [e1]
  simp only [pob, h, show errD 0 = .nil from rfl]
  by_cases he : e = 0
  ·subst he
   simp (maxSteps := 2000000) only [go_sem, ↓reduceIte, q0z, q0A, ha, hn, show errD 0 = .nil from rfl]
  ·rw [q3n he]
   simp (maxSteps := 2000000) only [go_sem, ↓reduceIte, q0z, q0A, ha, hn]
 ·have e1 : q.er e = q := by simp [PT.er, orE, h]
  rw [e1]
  simp only [pob, q3n h]
  simp (maxSteps := 2000000) only [go_sem, ↓reduceIte, q0z, q0A, ha, hn]
def q1O : q0j :=
 .seq (.reg [Qx 6 (Ki 0)]) (.seq (.reg [Qc 10 1, Qc 11 2, ⟨some 12, .call 120 [.t 10, .t 11], none⟩, Qc 9 12, Q 13 (.ext 0 (.t 9)), Q 14 (.ext 1 (.t 9)), Qa 7 13, Qa 8 14]) (.seq 
 (.reg [Qc 15 0, Qc 16 8, ⟨some 17, .prim .call [.k (.fn (.func 66) [] []), .t 15, .t 16] [], none⟩]) (.seq (.reg [Qc 18 7, Qa 6 18]) .ret)))
def q1U : List LRes := [.tmp 6]
theorem q25 : q0t Tryz.prog 97 19 q1O q1U := ⟨_, _, Tryz.func97, rfl, by kernel_rfl, by kernel_rfl, rfl⟩
theorem pmul (fd : D) (q : PT) (c : Option Nat) (a b : Int) {m : Option AObj} (hm : rowM m = true) : MVE Tryz.prog 97 [.ptr (.x 0) 0, .d (I a), .d (I b)] [pob fd q c] m (.d (I ((mulF a b).getD 0))) [pob fd (q.er (errO (mulF a b))) c] m := by
 refine q25.mv (by kernel_rfl) rfl rfl ?_
 generalize hM : mob m = M
 have ha : aget M 1000 = m := hM ▸ q0O m
 have hn := hm
 unfold rowM at hn
 have hMM : ∀ o : AObj, Sub ((0, o) :: M) ((0, o) :: M) := fun o => hM ▸ subM o m
 simp (maxSteps := 2000000) only [go_sem, ↓reduceIte, q1O, q1U, I]
 refine q0k.of (j16 a b) ?_
 have e : intE (mulF a b) = .tup [I ((mulF a b).getD 0), errD (errO (mulF a b))] := by cases mulF a b <;> rfl
 rw [e]
 simp (maxSteps := 2000000) only [go_sem, ↓reduceIte, ha, hn, I]
 refine q0b.poM rfl (q5S _ _ _ _ hm) (q0d _ _ _) (q0d _ _ _) hm hM rfl rfl rfl ⟨⟨rfl, rfl⟩, rfl⟩ ?_
 simp (maxSteps := 2000000) only [go_sem, ↓reduceIte, ha, hn]
def q1N : q0j :=
 .seq (.reg [Qx 6 (Ki 0)]) (.seq (.reg [Qc 10 1, Qc 11 2, ⟨some 12, .call 135 [.t 10, .t 11], none⟩, Qc 9 12, Q 13 (.ext 0 (.t 9)), Q 14 (.ext 1 (.t 9)), Qa 7 13, Qa 8 14]) (.seq 
 (.reg [Qc 15 0, Qc 16 8, ⟨some 17, .prim .call [.k (.fn (.func 66) [] []), .t 15, .t 16] [], none⟩]) (.seq (.reg [Qc 18 7, Qa 6 18]) .ret)))
def q1T : List LRes := [.tmp 6]
theorem q24 : q0t Tryz.prog 119 19 q1N q1T := ⟨_, _, Tryz.func119, rfl, by kernel_rfl, by kernel_rfl, rfl⟩
theorem padd (fd : D) (q : PT) (c : Option Nat) (a b : Int) {m : Option AObj} (hm : rowM m = true) : MVE Tryz.prog 119 [.ptr (.x 0) 0, .d (I a), .d (I b)] [pob fd q c] m (.d (I ((addF a b).getD 0))) [pob fd (q.er (errO (addF a b))) c] m := by
 refine q24.mv (by kernel_rfl) rfl rfl ?_
 generalize hM : mob m = M
 have ha : aget M 1000 = m := hM ▸ q0O m
 have hn := hm
 unfold rowM at hn
 have hMM : ∀ o : AObj, Sub ((0, o) :: M) ((0, o) :: M) := fun o => hM ▸ subM o m
 simp (maxSteps := 2000000) only [go_sem, ↓reduceIte, q1N, q1T, I]
 refine q0k.of (j1b a b) ?_
 have e : intE (addF a b) = .tup [I ((addF a b).getD 0), errD (errO (addF a b))] := by cases addF a b <;> rfl
 rw [e]
 simp (maxSteps := 2000000) only [go_sem, ↓reduceIte, ha, hn, I]
 refine q0b.poM rfl (q5S _ _ _ _ hm) (q0d _ _ _) (q0d _ _ _) hm hM rfl rfl rfl ⟨⟨rfl, rfl⟩, rfl⟩ ?_
 simp (maxSteps := 2000000) only [go_sem, ↓reduceIte, ha, hn]
def m60 : M6 := (0, 0, 0, 0, 0, 0)
def q9i : M6 := (1000, 0, 0, 1000, 0, 0)
def catF (a b : M6) : Option M6 := z2G a.1 a.2.1 a.2.2.1 a.2.2.2.1 a.2.2.2.2.1 a.2.2.2.2.2 b.1 b.2.1 b.2.2.1 b.2.2.2.1 b.2.2.2.2.1 b.2.2.2.2.2
def appF (a : M6) (x y : Int) : Option (Int × Int) := z6y a.1 a.2.1 a.2.2.1 a.2.2.2.1 a.2.2.2.2.1 a.2.2.2.2.2 x y
def q1l : q0j :=
 .seq (.reg [⟨some 4, .box (.t 1), none⟩, ⟨some 5, .box (.t 2), none⟩, ⟨some 6, .allo [.int .i64 0, .int .i64 0, .int .i64 0, .int .i64 0, .int .i64 0, .int .i64 0], none⟩]) (.seq 
 (.reg [Q 10 (.ld true 6 (.t 4)), Q 11 (.ld true 6 (.t 5)), ⟨some 12, .call 67 [.t 10, .t 11], none⟩, Qc 9 12, Q 13 (.ext 0 (.t 9)), Q 14 (.ext 1 (.t 9)), ⟨some 7, .allo [.int 
 .i64 0, .int .i64 0, .int .i64 0, .int .i64 0, .int .i64 0, .int .i64 0], none⟩, ⟨none, .st 6 (.t 7) (.t 13), none⟩, Qa 8 14]) (.seq (.reg [Qc 15 0, Qc 16 8, ⟨some 17, .prim 
 .call [.k (.fn (.func 66) [] []), .t 15, .t 16] [], none⟩]) (.seq (.reg [Q 18 (.ld true 6 (.t 7)), ⟨none, .st 6 (.t 6) (.t 18), none⟩]) .ret)))
def q1p : List LRes := [.cell 6 true 6]
theorem q2D : q0t Tryz.prog 45 19 q1l q1p := ⟨_, _, Tryz.func45, rfl, by kernel_rfl, by kernel_rfl, rfl⟩
theorem z3k (fd : D) (q : PT) (c : Option Nat) (a b : M6) {m : Option AObj} (hm : rowM m = true) : MVE Tryz.prog 45 [.ptr (.x 0) 0, .d (m6D a), .d (m6D b)] [pob fd q c] m (.d (m6D ((catF a b).getD m60))) [pob fd (q.er (errO (catF a b))) c] m := by
 refine q2D.mv (by kernel_rfl) rfl rfl ?_
 generalize hM : mob m = M
 have ha : aget M 1000 = m := hM ▸ q0O m
 have hn := hm
 unfold rowM at hn
 have hMM : ∀ o : AObj, Sub ((0, o) :: M) ((0, o) :: M) := fun o => hM ▸ subM o m
 simp (maxSteps := 2000000) only [go_sem, ↓reduceIte, q1l, q1p, m6D, mat, I]
 refine q0k.of (z5h (a := a.1) (b := a.2.1) (c := a.2.2.1) (d := a.2.2.2.1) (e := a.2.2.2.2.1) (f := a.2.2.2.2.2) (p := b.1) (q := b.2.1) (r := b.2.2.1) (s := b.2.2.2.1) (t := b.2.2.2.2.1) (u := b.2.2.2.2.2)) ?_
 have e : matE (catF a b) = .tup [m6D ((catF a b).getD m60), errD (errO (catF a b))] := by cases catF a b <;> rfl
 rw [show z2G a.1 a.2.1 a.2.2.1 a.2.2.2.1 a.2.2.2.2.1 a.2.2.2.2.2 b.1 b.2.1 b.2.2.1 b.2.2.2.1 b.2.2.2.2.1 b.2.2.2.2.2 = catF a b from rfl, e]
 simp (maxSteps := 2000000) only [go_sem, ↓reduceIte, ha, hn, m6D, mat, I]
 refine q0b.poM rfl (q5S _ _ _ _ hm) (q0d _ _ _) (q0d _ _ _) hm hM rfl rfl rfl ⟨⟨rfl, rfl⟩, rfl⟩ ?_
 simp (maxSteps := 2000000) only [go_sem, ↓reduceIte, ha, hn]
def q1t : q0j :=
 .seq (.reg [⟨some 5, .box (.t 1), none⟩, ⟨some 8, .allo [.int .i64 0, .int .i64 0], none⟩]) (.seq (.reg [Q 12 (.ld true 6 (.t 5)), Qc 13 2, Qc 14 3, Q 15 (.bld [(0, 1), (1, 1)] 
 [.int .i64 0, .int .i64 0] [] [(0, .t 13), (1, .t 14)]), ⟨some 16, .call 134 [.t 12, .t 15], none⟩, Qc 11 16, Q 17 (.ext 0 (.t 11)), Q 18 (.ext 1 (.t 11)), ⟨some 9, .allo [.int 
 .i64 0, .int .i64 0], none⟩, ⟨none, .st 2 (.t 9) (.t 17), none⟩, Qa 10 18]) (.seq (.reg [Qc 19 0, Qc 20 10, ⟨some 21, .prim .call [.k (.fn (.func 66) [] []), .t 19, .t 20] [], 
 none⟩]) (.seq (.reg [Q 22 (.ld true 2 (.t 9)), ⟨none, .st 2 (.t 8) (.t 22), none⟩]) .ret)))
def q1w : List LRes := [.cell 8 true 2]
theorem q2K : q0t Tryz.prog 117 23 q1t q1w := ⟨_, _, Tryz.func117, rfl, by kernel_rfl, by kernel_rfl, rfl⟩
theorem j5t (fd : D) (q : PT) (c : Option Nat) (a : M6) (x y : Int) {m : Option AObj} (hm : rowM m = true) : MVE Tryz.prog 117 [.ptr (.x 0) 0, .d (m6D a), .d (I x), .d (I y)] [pob fd q c] m (.d (pt ((appF a x y).getD (0, 0)).1 ((appF a x y).getD (0, 0)).2)) [pob fd (q.er (errO (appF a x y))) c] m := by
 refine q2K.mv (by kernel_rfl) rfl rfl ?_
 generalize hM : mob m = M
 have ha : aget M 1000 = m := hM ▸ q0O m
 have hn := hm
 unfold rowM at hn
 have hMM : ∀ o : AObj, Sub ((0, o) :: M) ((0, o) :: M) := fun o => hM ▸ subM o m
 simp (maxSteps := 2000000) only [go_sem, ↓reduceIte, q1t, q1w, m6D, mat, I]
 refine q0k.of (z7r (a := a.1) (b := a.2.1) (c := a.2.2.1) (d := a.2.2.2.1) (e := a.2.2.2.2.1) (f := a.2.2.2.2.2) (x := x) (y := y)) ?_
 have e : ptE (appF a x y) = .tup [pt ((appF a x y).getD (0, 0)).1 ((appF a x y).getD (0, 0)).2, errD (errO (appF a x y))] := by cases appF a x y <;> rfl
 rw [show z6y a.1 a.2.1 a.2.2.1 a.2.2.2.1 a.2.2.2.2.1 a.2.2.2.2.2 x y = appF a x y from rfl, e]
 simp (maxSteps := 2000000) only [go_sem, ↓reduceIte, ha, hn, pt, I]
 refine q0b.poM rfl (q5S _ _ _ _ hm) (q0d _ _ _) (q0d _ _ _) hm hM rfl rfl rfl ⟨⟨rfl, rfl⟩, rfl⟩ ?_
 simp (maxSteps := 2000000) only [go_sem, ↓reduceIte, ha, hn]
end Go.Av.Tryz
set_option linter.unusedSimpArgs false
set_option maxRecDepth 100000
namespace Go.Av.Tryz
open Go.Proofs
def PT.mv (q : PT) (x y : Int) : PT := { q.er (errO (catF (1000, 0, 0, 1000, x, y) q.lm)) with lm := (catF (1000, 0, 0, 1000, x, y) q.lm).getD m60, tm := (catF (1000, 0, 0, 1000, x, y) q.lm).getD m60 }
def PT.on (q : PT) (x : Int) : PT := { q.er (errO (catF (1000, 0, 0, 1000, x, 0) q.tm)) with tm := (catF (1000, 0, 0, 1000, x, 0) q.tm).getD m60 }
def q1A : q0j :=
 .seq (.reg [Qc 6 0, Qc 7 0, Qc 8 1, Qc 9 2, Q 10 (.bld [(0, 1), (1, 1), (2, 1), (3, 1), (4, 1), (5, 1)] [.int .i64 0, .int .i64 0, .int .i64 0, .int .i64 0, .int .i64 0, .int .i64 
 0] [] [(0, .k (.d (.int .i64 1000))), (3, .k (.d (.int .i64 1000))), (4, .t 8), (5, .t 9)]), Qc 11 0, Q 12 (.nck (.t 11)), Q 13 (.fa 21 (.t 12)), Q 14 (.ld true 6 (.t 13)), ⟨some 
 15, .prim .call [.k (.fn (.func 45) [] []), .t 7, .t 10, .t 14] [], none⟩, Q 16 (.nck (.t 6)), Q 17 (.fa 21 (.t 16)), ⟨none, .st 6 (.t 17) (.t 15), none⟩]) (.reg [Qc 18 0, Qc 19 
 0, Q 20 (.nck (.t 19)), Q 21 (.fa 21 (.t 20)), Q 22 (.ld true 6 (.t 21)), Q 23 (.nck (.t 18)), Q 24 (.fa 15 (.t 23)), ⟨none, .st 6 (.t 24) (.t 22), none⟩])
def q1F : List LRes := []
theorem q2S : q0t Tryz.prog 68 25 q1A q1F := ⟨_, _, Tryz.func68, rfl, by kernel_rfl, by kernel_rfl, rfl⟩
theorem j2n (fd : D) (q : PT) (c : Option Nat) (x y : Int) {m : Option AObj} (hm : rowM m = true) : MVE Tryz.prog 68 [.ptr (.x 0) 0, .d (I x), .d (I y)] [pob fd q c] m (.tuple []) [pob fd (q.mv x y) c] m := by
 refine q2S.mv (by kernel_rfl) rfl rfl ?_
 generalize hM : mob m = M
 have ha : aget M 1000 = m := hM ▸ q0O m
 have hn := hm
 unfold rowM at hn
 have hMM : ∀ o : AObj, Sub ((0, o) :: M) ((0, o) :: M) := fun o => hM ▸ subM o m
 simp (maxSteps := 2000000) only [go_sem, ↓reduceIte, q1A, q1F, I, pob]
 refine q0b.poM rfl (z3k fd q c (1000, 0, 0, 1000, x, y) q.lm hm) (q0d _ _ _) (q0d _ _ _) hm hM rfl rfl rfl ⟨⟨rfl, rfl⟩, rfl⟩ ?_
 simp (maxSteps := 2000000) only [go_sem, ↓reduceIte, pob, PT.er, m6D, mat, I, ha, hn]
 rfl
def q12 : q0j :=
 .reg [Qc 4 0, Qc 5 0, Qc 6 1, Q 7 (.bld [(0, 1), (1, 1), (2, 1), (3, 1), (4, 1), (5, 1)] [.int .i64 0, .int .i64 0, .int .i64 0, .int .i64 0, .int .i64 0, .int .i64 0] [] [(0, .k 
 (.d (.int .i64 1000))), (3, .k (.d (.int .i64 1000))), (4, .t 6)]), Qc 8 0, Q 9 (.nck (.t 8)), Q 10 (.fa 15 (.t 9)), Q 11 (.ld true 6 (.t 10)), ⟨some 12, .prim .call [.k (.fn 
 (.func 45) [] []), .t 5, .t 7, .t 11] [], none⟩, Q 13 (.nck (.t 4)), Q 14 (.fa 15 (.t 13)), ⟨none, .st 6 (.t 14) (.t 12), none⟩]
def q14 : List LRes := []
theorem q3h : q0t Tryz.prog 96 15 q12 q14 := ⟨_, _, Tryz.func96, rfl, by kernel_rfl, by kernel_rfl, rfl⟩
theorem pon (fd : D) (q : PT) (c : Option Nat) (x : Int) {m : Option AObj} (hm : rowM m = true) : MVE Tryz.prog 96 [.ptr (.x 0) 0, .d (I x)] [pob fd q c] m (.tuple []) [pob fd (q.on x) c] m := by
 refine q3h.mv (by kernel_rfl) rfl rfl ?_
 generalize hM : mob m = M
 have ha : aget M 1000 = m := hM ▸ q0O m
 have hn := hm
 unfold rowM at hn
 have hMM : ∀ o : AObj, Sub ((0, o) :: M) ((0, o) :: M) := fun o => hM ▸ subM o m
 simp (maxSteps := 2000000) only [go_sem, ↓reduceIte, q12, q14, I, pob]
 refine q0b.poM rfl (z3k fd q c (1000, 0, 0, 1000, x, 0) q.tm hm) (q0d _ _ _) (q0d _ _ _) hm hM rfl rfl rfl ⟨⟨rfl, rfl⟩, rfl⟩ ?_
 simp (maxSteps := 2000000) only [go_sem, ↓reduceIte, pob, PT.er, m6D, mat, I, ha, hn]
 rfl
def PT.tx (q : PT) (b : Bool) : PT := { (if q.inn = b then q.er 10 else q) with inn := b, tm := q9i, lm := q9i }
def q1B : q0j :=
 .seq (.seq (.reg [Qc 4 0, Q 5 (.nck (.t 4)), Q 6 (.fa 27 (.t 5)), Q 7 (.ld false 1 (.t 6)), Qc 8 1, Q 9 (.eqB false (.t 7) (.t 8))]) (.cond (.t 9) (.reg [Qc 10 0, Q 11 (.mkI 76 (Ki 
 10)), ⟨some 12, .prim .call [.k (.fn (.func 66) [] []), .t 10, .t 11] [], none⟩]) .skip)) (.reg [Qc 13 0, Qc 14 0, Qc 15 0, Qc 16 1, ⟨some 17, .call 30 [], none⟩, ⟨some 18, .call 
 30 [], none⟩, Q 19 (.nck (.t 13)), Q 20 (.fa 27 (.t 19)), ⟨none, .st 1 (.t 20) (.t 16), none⟩, Q 21 (.nck (.t 14)), Q 22 (.fa 15 (.t 21)), ⟨none, .st 6 (.t 22) (.t 17), none⟩, Q 
 23 (.nck (.t 15)), Q 24 (.fa 21 (.t 23)), ⟨none, .st 6 (.t 24) (.t 18), none⟩])
def q1G : List LRes := []
theorem q2V : q0t Tryz.prog 47 25 q1B q1G := ⟨_, _, Tryz.func47, rfl, by kernel_rfl, by kernel_rfl, rfl⟩
theorem j5y (fd : D) (q : PT) (c : Option Nat) (b : Bool) {m : Option AObj} (hm : rowM m = true) : MVE Tryz.prog 47 [.ptr (.x 0) 0, .d (.bool b)] [pob fd q c] m (.tuple []) [pob fd (q.tx b) c] m := by
 refine q2V.mv (by kernel_rfl) rfl rfl ?_
 generalize hM : mob m = M
 have ha : aget M 1000 = m := hM ▸ q0O m
 have hn := hm
 unfold rowM at hn
 have hMM : ∀ o : AObj, Sub ((0, o) :: M) ((0, o) :: M) := fun o => hM ▸ subM o m
 simp (maxSteps := 2000000) only [go_sem, ↓reduceIte, q1B, q1G, I, pob]
 refine ⟨fun h => ?_, fun h => ?_⟩
 ·have e : q.tx b = { q.er 10 with inn := b, tm := q9i, lm := q9i } := by simp [PT.tx, h]
  refine q0b.poM rfl (q5S fd q c 10 hm) (q0d _ _ _) (q0d _ _ _) hm hM rfl rfl rfl ⟨⟨rfl, rfl⟩, rfl⟩ ?_
  simp (maxSteps := 2000000) only [go_sem, ↓reduceIte, pob, I]
  refine q0k.of q5c ?_
  simp (maxSteps := 2000000) only [go_sem, ↓reduceIte]
  refine q0k.of q5c ?_
  simp (maxSteps := 2000000) only [go_sem, ↓reduceIte, mat, I, ha, hn]
  rw [e]; rfl
 ·have e : q.tx b = { q with inn := b, tm := q9i, lm := q9i } := by simp [PT.tx, h]
  refine q0k.of q5c ?_
  simp (maxSteps := 2000000) only [go_sem, ↓reduceIte]
  refine q0k.of q5c ?_
  simp (maxSteps := 2000000) only [go_sem, ↓reduceIte, mat, I, ha, hn]
  rw [e]; rfl
theorem gI0 {a : D} {l : List D} : getI (a :: l) 0 = some a := rfl
theorem gI1 {a b : D} {l : List D} : getI (a :: b :: l) 1 = some b := rfl
theorem gI2 {a b c : D} {l : List D} : getI (a :: b :: c :: l) 2 = some c := rfl
theorem gI3 {a b c d : D} {l : List D} : getI (a :: b :: c :: d :: l) 3 = some d := rfl
theorem gI4 {a b c d e : D} {l : List D} : getI (a :: b :: c :: d :: e :: l) 4 = some e := rfl
theorem gI5 {a b c d e f : D} {l : List D} : getI (a :: b :: c :: d :: e :: f :: l) 5 = some f := rfl
attribute [go_sem] gI0 gI1 gI2 gI3 gI4 gI5
def q2Y : q0j :=
 .seq (.reg [⟨some 2, .allo [.int .i64 0, .int .i64 0, .int .i64 0, .int .i64 0, .int .i64 0, .int .i64 0], none⟩]) (.seq (.dreg [Qc 3 0, Q 4 (.ia 1 (.t 3) (Ki 0)), Q 5 (.ld false 1 
 (.t 4)), Qc 6 0, Q 7 (.ia 1 (.t 6) (Ki 1)), Q 8 (.ld false 1 (.t 7)), Qc 9 0, Q 10 (.ia 1 (.t 9) (Ki 2)), Q 11 (.ld false 1 (.t 10)), Qc 12 0, Q 13 (.ia 1 (.t 12) (Ki 3)), Q 14 
 (.ld false 1 (.t 13)), Qc 15 0, Q 16 (.ia 1 (.t 15) (Ki 4)), Q 17 (.ld false 1 (.t 16)), Qc 18 0, Q 19 (.ia 1 (.t 18) (Ki 5)), Q 20 (.ld false 1 (.t 19)), Q 21 (.bld [(0, 1), (1, 
 1), (2, 1), (3, 1), (4, 1), (5, 1)] [.int .i64 0, .int .i64 0, .int .i64 0, .int .i64 0, .int .i64 0, .int .i64 0] [] [(0, .t 5), (1, .t 8), (2, .t 11), (3, .t 14), (4, .t 17), 
 (5, .t 20)]), ⟨none, .st 6 (.t 2) (.t 21), none⟩]) .ret)
def q20 : List LRes := [.cell 2 true 6]
theorem q4B : q0t Tryz.prog 46 22 q2Y q20 := ⟨_, _, Tryz.func46, rfl, by kernel_rfl, by kernel_rfl, rfl⟩
theorem j0r (a b c d e f : Int) : q0u Tryz.prog 46 [.list [I a, I b, I c, I d, I e, I f]] (fun r => r = .one (m6D (a, b, c, d, e, f))) := by
 refine q4B.call rfl ?_
 simp (maxSteps := 2000000) only [go_sem, ↓reduceIte, q2Y, q20, I, m6D, mat]
mutual
inductive Val where
 | mk (kind n : Int) (s : List UInt8) (l : List Val) (f : List Fld)
inductive Fld where
 | mk (name : List UInt8) (v : Val)
end
def Val.kind : Val → Int
 | .mk k _ _ _ _ => k
def Val.n : Val → Int
 | .mk _ n _ _ _ => n
def Val.s : Val → List UInt8
 | .mk _ _ s _ _ => s
def Val.l : Val → List Val
 | .mk _ _ _ l _ => l
def Val.f : Val → List Fld
 | .mk _ _ _ _ f => f
def Fld.name : Fld → List UInt8
 | .mk n _ => n
def Fld.v : Fld → Val
 | .mk _ v => v
mutual
def Val.d : Val → D
 | .mk k n s l f => .agg [.int .i64 k, .int .i64 n, .str s, .list (q05 l), .list (q37 f)]
def q05 : List Val → List D
 | [] => []
 | v :: r => v.d :: q05 r
def Fld.d : Fld → D
 | .mk nm v => .agg (.str nm :: v.d.cells)
def q37 : List Fld → List D
 | [] => []
 | x :: r => x.d :: q37 r
end
theorem z0b (l : List Val) : q05 l = l.map Val.d := by induction l with | nil => rfl | cons v r ih => simp [q05, ih]
theorem z6L (l : List Fld) : q37 l = l.map Fld.d := by induction l with | nil => rfl | cons v r ih => simp [q37, ih]
theorem q2k (l : List Val) : (q05 l).length = l.length := by simp [z0b]
theorem q9I (l : List Fld) : (q37 l).length = l.length := by simp [z6L]
theorem q8I (l : List Val) (i : Nat) : (q05 l)[i]? = (l[i]?).map Val.d := by simp [z0b]
theorem z0D (l : List Fld) (i : Nat) : (q37 l)[i]? = (l[i]?).map Fld.d := by simp [z6L]
theorem Val.d_eq (v : Val) : v.d = .agg [.int .i64 v.kind, .int .i64 v.n, .str v.s, .list (q05 v.l), .list (q37 v.f)] := by cases v; simp [Val.d, Val.kind, Val.n, Val.s, Val.l, Val.f]
theorem Fld.d_eq (x : Fld) : x.d = .agg [.str x.name, .int .i64 x.v.kind, .int .i64 x.v.n, .str x.v.s, .list (q05 x.v.l), .list (q37 x.v.f)] := by cases x; simp [Fld.d, Fld.name, Fld.v, Val.d_eq, D.cells]
end Go.Av.Tryz
set_option linter.unusedSimpArgs false
set_option maxRecDepth 100000
namespace Go.Av.Tryz
open Go.Proofs
structure OpV where
 nm : List UInt8
 args : List Val
def OpV.d (o : OpV) : D := .agg [.str o.nm, .list (q05 o.args)]
def z1S (l : List Val) : List Int := l.filterMap fun v => if v.kind = 2 then some v.n else none
def nmD (l : List Int) : List D := l.map fun n => .int .i64 n
theorem z5X (l : List Int) : (nmD l).length = l.length := by simp [nmD]
def q8v (l : List Val) (k : Nat) : Option (List Int) := if (z1S l).length = k ∧ l.length = k then some (z1S l) else none
def kErr {α : Type} (o : Option α) : Nat := if o.isNone = true then 8 else 0
def q3T (l : List Val) (k : Nat) : List Int := (q8v l k).getD (List.replicate k 0)
theorem z7R (l : List Val) (v : Val) : z1S (l ++ [v]) = z1S l ++ (if v.kind = 2 then [v.n] else []) := by
 simp only [z1S, List.filterMap_append]
 congr 1
 by_cases h : v.kind = 2 <;> simp [h]
theorem j2a (l : List Val) : (z1S l).length ≤ l.length := List.length_filterMap_le _ _
theorem er0 (q : PT) : q.er 0 = q := by
 obtain ⟨s, saved, tm, lm, inn, out, bad⟩ := q
 unfold PT.er orE
 by_cases h : bad = 0 <;> simp [h]
def q1f : q0j :=
 .seq (.reg [⟨some 4, .box (.t 1), none⟩, ⟨some 6, .nils 3 1, none⟩]) (.seq (.reg [⟨some 7, .nils 3 1, none⟩]) (.seq (.seq (.reg [Q 10 (.fa 1 (.t 4)), Q 11 (.ld false 1 (.t 10)), Q 
 12 (.len false (.t 11)), Q 13 (.cp (Ki 0))]) (.block 0 (.loop (.seq (.reg [Q 14 (.bin .lss (.t 13) (.t 12))]) (.seq (.cond (.t 14) .skip (.exit 0)) (.seq (.block 1 (.seq (.reg [Q 
 15 (.ia 5 (.t 11) (.t 13)), Q 16 (.ld true 5 (.t 15)), ⟨some 9, .allo [.int .i64 0, .int .i64 0, .str [], .list [], .list []], none⟩, ⟨none, .st 5 (.t 9) (.t 16), none⟩]) (.seq 
 (.reg [Q 17 (.fa 0 (.t 9)), Q 18 (.ld false 1 (.t 17)), Q 19 (.bin .eql (.t 18) (Ki 2))]) (.cond (.t 19) (.reg [Qc 20 7, Q 21 (.fa 1 (.t 9)), Q 22 (.ld false 1 (.t 21)), ⟨some 
 23, .bsl 3 1 [.t 22], none⟩, ⟨some 24, .app 3 1 8 false (.t 20) (.t 23), none⟩, Qa 7 24]) .skip)))) (.reg [Q 25 (.bin .add (.t 13) (Ki 1)), Qc 13 25]))))))) (.seq (.seq (.reg [Qc 
 26 7, Q 27 (.len false (.t 26)), Qc 28 2, Q 29 (.bin .neq (.t 27) (.t 28)), Qc 30 29, Qg 31 (.fa 1 (.t 4)) 30 false, Qg 32 (.ld false 1 (.t 31)) 30 false, Qg 33 (.len false (.t 
 32)) 30 false, Qd 34 2 30 false, Qg 35 (.bin .neq (.t 33) (.t 34)) 30 false, Q 36 (.pick (.t 30) KT (.t 35))]) (.cond (.t 36) (.seq (.reg [Qc 37 0, Q 38 (.mkI 76 (Ki 8)), ⟨some 
 39, .prim .call [.k (.fn (.func 66) [] []), .t 37, .t 38] [], none⟩]) (.seq (.reg [Qc 40 2, ⟨some 41, .prim (.mkSlice 96) [.t 40, .t 40] [], none⟩, Qa 6 41]) .ret)) .skip)) (.seq 
 (.reg [Qc 42 7, Qa 6 42]) .ret))))
def q1h : List LRes := [.tmp 6]
theorem q2y : q0t Tryz.prog 43 43 q1f q1h := ⟨_, _, Tryz.func43, rfl, by kernel_rfl, by kernel_rfl, rfl⟩
theorem q68 (fd : D) (q : PT) (c : Option Nat) (o : OpV) (k : Nat) (hl : o.args.length ≤ 1000) (hk : k ≤ 10) {m : Option AObj} (hm : rowM m = true) :
  MVE Tryz.prog 43 [.ptr (.x 0) 0, .d o.d, .d (I k)] [pob fd q c] m (.d (.list (nmD (q3T o.args k)))) [pob fd (q.er (kErr (q8v o.args k))) c] m := by
 refine q2y.mv (by kernel_rfl) rfl rfl ?_
 generalize hM : mob m = M
 have ha : aget M 1000 = m := hM ▸ q0O m
 have hn := hm
 unfold rowM at hn
 have hMM : ∀ o : AObj, Sub ((0, o) :: M) ((0, o) :: M) := fun o => hM ▸ subM o m
 simp (maxSteps := 2000000) only [go_sem, ↓reduceIte, q1f, q1h, I, OpV.d]
 have hvl := q2k o.args
 refine q0s (fun i : Nat => ⟨[(0, .ptr (.x 0) 0), (2, .d (.int .i64 k)), (4, .ptr (.l 4) 0), (6, .own (.t 6) 3 1 []), (7, .own (.t 7) 3 1 (nmD (z1S (o.args.take i)))), (11, .d (.list (q05 o.args))), (12, .d (.int .i64 o.args.length)), (13, .d (.int .i64 i))], [(4, .cells [.d (.str o.nm), .d (.list (q05 o.args))])], (0, pob fd q c) :: M⟩)
  (fun i => i ≤ o.args.length) (fun i => o.args.length - i) 0 ?_ (Nat.zero_le _) ?_
 ·refine Weak.mk ?_ ?_ (hMM _) <;> simp (maxSteps := 2000000) only [go_sem, ↓reduceIte, Sub, Int.natCast_add, Int.natCast_mul, hvl]
  rfl
 ·intro i hi
  simp (maxSteps := 2000000) (disch := omega) only [go_sem, ↓reduceIte]
  refine ⟨fun hlt => ?_, fun hge => ?_⟩
  ·obtain ⟨v, hv⟩ := get_some (l := o.args) (i := i) (by omega)
   have htk : o.args.take (i + 1) = o.args.take i ++ [v] := by rw [List.take_add_one, hv]; rfl
   have hno := z7R (o.args.take i) v
   have hg : getI (q05 o.args) (i : Int) = some v.d := by rw [q0c, q8I, hv]; rfl
   simp (maxSteps := 2000000) (disch := omega) only [go_sem, ↓reduceIte, hg, Val.d_eq]
   refine ⟨fun h2 => ?_, fun h2 => ?_⟩
   ·have hb1 := j2a (o.args.take i)
    have hb2 := z5X (z1S (o.args.take i))
    rw [List.length_take] at hb1
    refine ⟨⟨by omega, by omega⟩, i + 1, ?_, by omega, by omega⟩
    rw [htk, hno, if_pos h2]
    refine Weak.mk ?_ ?_ (hMM _) <;> simp (maxSteps := 2000000) only [go_sem, ↓reduceIte, Sub, Int.natCast_add, Int.natCast_mul, nmD, List.map_append, List.map_cons, List.map_nil]
   ·refine ⟨i + 1, ?_, by omega, by omega⟩
    rw [htk, hno, if_neg h2, List.append_nil]
    refine Weak.mk ?_ ?_ (hMM _) <;> simp (maxSteps := 2000000) only [go_sem, ↓reduceIte, Sub, Int.natCast_add, Int.natCast_mul]
  ·have hie : i = o.args.length := by omega
   subst hie
   have hnl := z5X (z1S o.args)
   rw [List.take_length, hnl, hvl]
   refine ⟨fun h1 => ⟨fun h2 => ?_, fun h2 => ?_⟩, fun h1 => ?_⟩
   rotate_left
   ·have e : q8v o.args k = some (z1S o.args) := if_pos ⟨by omega, by omega⟩
    simp only [q3T, e, kErr, Option.getD_some, Option.isNone_some, Bool.false_eq_true, ↓reduceIte, er0, ha, and_true, true_and]
    exact hn
   rotate_left
   all_goals
    have e : q8v o.args k = none := if_neg (by omega)
    simp only [q3T, e, kErr, Option.getD_none, Option.isNone_none, ↓reduceIte]
    refine q0b.poM rfl (q5S fd q c 8 hm) (q0d _ _ _) (q0d _ _ _) hm hM rfl rfl rfl ⟨⟨rfl, rfl⟩, rfl⟩ ?_
    simp (maxSteps := 2000000) only [go_sem, ↓reduceIte]
    refine q0b.mkData (n := k) (z := .int .i64 0) (zv := .int .i64 0) 41 rfl rfl (show q22 Tryz.prog 96 = some (3, 1, 8) by kernel_rfl) (by kernel_rfl) rfl rfl (fun f w => .int _ _) (by omega) (by omega) rfl (z3f (q0d _ _ _).no hm hM) ?_
    simp (maxSteps := 2000000) only [go_sem, ↓reduceIte, ha, hn]
    simp [nmD]
def strM : List Val → Option (List UInt8)
 | [v] => if v.kind = 3 then some v.s else none
 | _ => none
theorem j0T {l : List Val} (h : l.length ≠ 1) : strM l = none := by
 match l with
 | [] => rfl
 | [v] => simp at h
 | _ :: _ :: _ => rfl
def q1P : q0j :=
 .seq (.reg [⟨some 4, .box (.t 1), none⟩, Qx 6 (.k (.d (.str [])))]) (.seq (.seq (.reg [Q 7 (.fa 1 (.t 4)), Q 8 (.ld false 1 (.t 7)), Q 9 (.len false (.t 8)), Qc 10 2, Q 11 (.bin 
 .add (.t 10) (Ki 1)), Q 12 (.bin .neq (.t 9) (.t 11)), Qc 13 12, Qg 14 (.fa 1 (.t 4)) 13 false, Qg 15 (.ld false 1 (.t 14)) 13 false, Qd 16 2 13 false, Qg 17 (.ia 5 (.t 15) (.t 
 16)) 13 false, Qg 18 (.fa 0 (.t 17)) 13 false, Qg 19 (.ld false 1 (.t 18)) 13 false, Qg 20 (.bin .neq (.t 19) (Ki 3)) 13 false, Q 21 (.pick (.t 13) KT (.t 20))]) (.cond (.t 21) 
 (.seq (.reg [Qc 22 0, Q 23 (.mkI 76 (Ki 8)), ⟨some 24, .prim .call [.k (.fn (.func 66) [] []), .t 22, .t 23] [], none⟩]) (.seq (.reg [Qx 6 (.k (.d (.str [])))]) .ret)) .skip)) 
 (.seq (.reg [Q 25 (.fa 1 (.t 4)), Q 26 (.ld false 1 (.t 25)), Qc 27 2, Q 28 (.ia 5 (.t 26) (.t 27)), Q 29 (.fa 2 (.t 28)), Q 30 (.ld false 1 (.t 29)), Qa 6 30]) .ret))
def q1V : List LRes := [.tmp 6]
theorem q26 : q0t Tryz.prog 70 31 q1P q1V := ⟨_, _, Tryz.func70, rfl, by kernel_rfl, by kernel_rfl, rfl⟩
theorem pstr (fd : D) (q : PT) (c : Option Nat) (o : OpV) (hl : o.args.length ≤ 1000) {m : Option AObj} (hm : rowM m = true) :
  MVE Tryz.prog 70 [.ptr (.x 0) 0, .d o.d, .d (I 0)] [pob fd q c] m (.d (.str ((strM o.args).getD []))) [pob fd (q.er (kErr (strM o.args))) c] m := by
 refine q26.mv (by kernel_rfl) rfl rfl ?_
 generalize hM : mob m = M
 have ha : aget M 1000 = m := hM ▸ q0O m
 have hn := hm
 unfold rowM at hn
 have hMM : ∀ o : AObj, Sub ((0, o) :: M) ((0, o) :: M) := fun o => hM ▸ subM o m
 obtain ⟨nm, args⟩ := o
 have hvl := q2k args
 simp (maxSteps := 2000000) (disch := omega) only [go_sem, ↓reduceIte, q1P, q1V, I, OpV.d]
 refine ⟨fun h1 => ?_, fun h1 => ?_⟩
 ·obtain ⟨v, rfl⟩ : ∃ v, args = [v] := by
   match args, h1 with
   | [v], _ => exact ⟨v, rfl⟩
   | [], h1 => simp [q05] at h1
   | _ :: _ :: _, h1 => simp [q05] at h1; omega
  have hg : getI (q05 [v]) 0 = some v.d := rfl
  simp (maxSteps := 2000000) (disch := omega) only [go_sem, ↓reduceIte, hg, Val.d_eq]
  refine ⟨fun h2 => ?_, fun h2 => ?_⟩
  ·have e : strM [v] = none := if_neg h2
   simp only [e, kErr, Option.getD_none, Option.isNone_none, ↓reduceIte]
   refine q0b.poM rfl (q5S fd q c 8 hm) (q0d _ _ _) (q0d _ _ _) hm hM rfl rfl rfl ⟨⟨rfl, rfl⟩, rfl⟩ ?_
   simp (maxSteps := 2000000) only [go_sem, ↓reduceIte, ha, hn]
  ·have e : strM [v] = some v.s := if_pos h2
   simp (maxSteps := 2000000) only [go_sem, ↓reduceIte, hg, Val.d_eq, e, kErr, Option.getD_some, Option.isNone_some, er0, ha, hn]
 ·have e : strM args = none := j0T (by omega)
  simp only [e, kErr, Option.getD_none, Option.isNone_none, ↓reduceIte]
  refine q0b.poM rfl (q5S fd q c 8 hm) (q0d _ _ _) (q0d _ _ _) hm hM rfl rfl rfl ⟨⟨rfl, rfl⟩, rfl⟩ ?_
  simp (maxSteps := 2000000) only [go_sem, ↓reduceIte, ha, hn]
end Go.Av.Tryz
set_option linter.unusedSimpArgs false
set_option maxRecDepth 100000
set_option maxHeartbeats 4000000
namespace Go.Av.Tryz
open Go.Proofs
def PT.wb (q : PT) (n : Nat) : PT := { q with bad := n }
theorem j6m (q : PT) (n e : Nat) : (q.wb n).er e = q.wb (orE n e) := rfl
def PT.glA (q : PT) (x : Sgn) : PT :=
 let o1 := mulF q.s.size q.s.scale
 let o2 := catF (o1.getD 0, 0, 0, q.s.size, 0, q.s.rise) q.tm
 let o3 := catF (o2.getD m60) q.s.ctm
 let o4 := appF (o3.getD m60) 0 0
 let o5 := appF (o3.getD m60) x.width 0
 let o6 := appF (o3.getD m60) 0 1000
 let o7 := appF (o3.getD m60) x.width 1000
 let n7 := orE (orE (orE (orE (orE (orE (orE q.bad (errO o1)) (errO o2)) (errO o3)) (errO o4)) (errO o5)) (errO o6)) (errO o7)
 let out := q.out ++ [⟨x.text, o4.getD (0, 0), o5.getD (0, 0), q.s.size, q4z [o4.getD (0, 0), o5.getD (0, 0), o6.getD (0, 0), o7.getD (0, 0)]⟩]
 { q with out := out, bad := if 1000 < out.length then orE n7 2 else n7 }
def PSt.wide (s : PSt) : Bool := match s.font with
 | some f => f.wide
 | none => false
def PT.glB (q : PT) (x : Sgn) : PT :=
 let o9 := mulF x.width q.s.size
 let o10 := addF (o9.getD 0) q.s.char
 let n10 := orE (orE q.bad (errO o9)) (errO o10)
 let o11 := addF (o10.getD 0) q.s.word
 if x.code = 32 ∧ q.s.wide = false then (let o12 := mulF (o11.getD 0) q.s.scale; (q.wb (orE (orE n10 (errO o11)) (errO o12))).on (o12.getD 0))
 else (let o12 := mulF (o10.getD 0) q.s.scale; (q.wb (orE n10 (errO o12))).on (o12.getD 0))
def PT.gl (q : PT) (x : Sgn) : PT := (q.glA x).glB x
def pX (fd : D) (q : PT) (c : Option Nat) (n : Nat) : AObj := pob fd (q.wb n) c
theorem q4v (fd : D) (q : PT) (c : Option Nat) (n : Nat) : PO (pX fd q c n) := q0d _ _ _
theorem j0m {l : List Gph} (h : l ≠ []) : outV l = .own (.c (.x 0) 28) 55 10 (q4J l) := by
 cases l with
 | nil => exact absurd rfl h
 | cons g l => rfl
def q1u : q0j :=
 .seq (.reg [⟨some 3, .box (.t 1), none⟩]) (.seq (.reg [Qc 13 0, Q 14 (.nck (.t 13)), Q 15 (.fa 1 (.t 14)), Q 16 (.ld true 13 (.t 15)), ⟨some 4, .allo [.int .i64 0, .int .i64 0, 
 .int .i64 0, .int .i64 0, .int .i64 0, .int .i64 0, .nilpT 83, .int .i64 0, .int .i64 0, .int .i64 0, .int .i64 0, .int .i64 0, .int .i64 0], none⟩, ⟨none, .st 13 (.t 4) (.t 16), 
 none⟩]) (.seq (.reg [Qc 17 0, Q 18 (.fa 7 (.t 4)), Q 19 (.ld false 1 (.t 18)), Q 20 (.fa 10 (.t 4)), Q 21 (.ld false 1 (.t 20)), ⟨some 22, .prim .call [.k (.fn (.func 97) [] []), 
 .t 17, .t 19, .t 21] [], none⟩, Qa 5 22]) (.seq (.fam [Qc 23 0, Qc 24 0, Qc 25 5, Q 26 (.fa 7 (.t 4)), Q 27 (.ld false 1 (.t 26)), Q 28 (.fa 12 (.t 4)), Q 29 (.ld false 1 (.t 
 28)), Q 30 (.bld [(0, 1), (1, 1), (2, 1), (3, 1), (4, 1), (5, 1)] [.int .i64 0, .int .i64 0, .int .i64 0, .int .i64 0, .int .i64 0, .int .i64 0] [] [(0, .t 25), (3, .t 27), (5, 
 .t 29)]), Qc 31 0, Q 32 (.nck (.t 31)), Q 33 (.fa 15 (.t 32)), Q 34 (.ld true 6 (.t 33)), ⟨some 35, .prim .call [.k (.fn (.func 45) [] []), .t 24, .t 30, .t 34] [], none⟩, Q 36 
 (.fa 0 (.t 4)), Q 37 (.ld true 6 (.t 36)), ⟨some 38, .prim .call [.k (.fn (.func 45) [] []), .t 23, .t 35, .t 37] [], none⟩, ⟨some 6, .allo [.int .i64 0, .int .i64 0, .int .i64 
 0, .int .i64 0, .int .i64 0, .int .i64 0], none⟩, ⟨none, .st 6 (.t 6) (.t 38), none⟩] [[], [], [], [], [3], [], [5], [2, 4, 6], [], [8], [9], [10], [1, 7, 11], [], [13], [0, 12, 
 14, 12], [], [16, 15, 15, 0, 1, 2, 3, 4, 5, 6, 7, 8, 9, 10, 11, 12, 13, 14, 15, 16]]) (.seq (.fam [Qc 39 0, Q 40 (.ld true 6 (.t 6)), ⟨some 41, .prim .call [.k (.fn (.func 117) 
 [] []), .t 39, .t 40, .k (.d (.int .i64 0)), .k (.d (.int .i64 0))] [], none⟩, Qc 42 0, Q 43 (.ld true 6 (.t 6)), Q 44 (.fa 1 (.t 3)), Q 45 (.ld false 1 (.t 44)), ⟨some 46, .prim 
 .call [.k (.fn (.func 117) [] []), .t 42, .t 43, .t 45, .k (.d (.int .i64 0))] [], none⟩, ⟨some 7, .allo [.int .i64 0, .int .i64 0], none⟩, ⟨some 8, .allo [.int .i64 0, .int .i64 
 0], none⟩, ⟨none, .st 2 (.t 7) (.t 41), none⟩, ⟨none, .st 2 (.t 8) (.t 46), none⟩] [[], [], [0, 1], [], [], [], [5], [3, 4, 6, 2], [], [], [8, 2, 7, 0, 1, 2, 8, 9], [9, 7, 10, 0, 
 1, 2, 3, 4, 5, 6, 7, 8, 9, 10]]) (.seq (.fam [Qc 47 0, Q 48 (.ld true 6 (.t 6)), ⟨some 49, .prim .call [.k (.fn (.func 117) [] []), .t 47, .t 48, .k (.d (.int .i64 0)), .k (.d 
 (.int .i64 1000))] [], none⟩, Qc 50 0, Q 51 (.ld true 6 (.t 6)), Q 52 (.fa 1 (.t 3)), Q 53 (.ld false 1 (.t 52)), ⟨some 54, .prim .call [.k (.fn (.func 117) [] []), .t 50, .t 51, 
 .t 53, .k (.d (.int .i64 1000))] [], none⟩, ⟨some 9, .allo [.int .i64 0, .int .i64 0], none⟩, ⟨some 10, .allo [.int .i64 0, .int .i64 0], none⟩, ⟨none, .st 2 (.t 9) (.t 49), 
 none⟩, ⟨none, .st 2 (.t 10) (.t 54), none⟩] [[], [], [0, 1], [], [], [], [5], [3, 4, 6, 2], [], [], [8, 2, 7, 0, 1, 2, 8, 9], [9, 7, 10, 0, 1, 2, 3, 4, 5, 6, 7, 8, 9, 10]]) (.seq 
 (.reg [Q 55 (.ld true 2 (.t 7)), Q 56 (.ld true 2 (.t 8)), Q 57 (.ld true 2 (.t 9)), Q 58 (.ld true 2 (.t 10)), ⟨some 59, .bsl 51 2 [.t 55, .t 56, .t 57, .t 58], none⟩, ⟨some 60, 
 .call 118 [.t 59], none⟩, ⟨some 11, .allo [.int .i64 0, .int .i64 0, .int .i64 0, .int .i64 0], none⟩, ⟨none, .st 4 (.t 11) (.t 60), none⟩]) (.seq (.dreg [Qc 61 0, Qc 62 0, Q 63 
 (.nck (.t 62)), Q 64 (.fa 28 (.t 63)), Q 65 (.ld false 1 (.t 64)), Q 66 (.fa 2 (.t 3)), Q 67 (.ld false 1 (.t 66)), Q 68 (.ld true 2 (.t 7)), Q 69 (.ld true 2 (.t 8)), Q 70 (.fa 
 7 (.t 4)), Q 71 (.ld false 1 (.t 70)), Q 72 (.ld true 4 (.t 11)), Q 73 (.bld [(0, 1), (1, 2), (3, 2), (5, 1), (6, 4)] [.str [], .int .i64 0, .int .i64 0, .int .i64 0, .int .i64 
 0, .int .i64 0, .int .i64 0, .int .i64 0, .int .i64 0, .int .i64 0] [] [(0, .t 67), (1, .t 68), (2, .t 69), (3, .t 71), (4, .t 72)]), ⟨some 74, .bsl 55 10 [.t 73], none⟩, ⟨some 
 75, .app 55 10 88 false (.t 65) (.t 74), none⟩, Q 76 (.nck (.t 61)), Q 77 (.fa 28 (.t 76)), ⟨none, .st 1 (.t 77) (.t 75), none⟩]) (.seq (.seq (.reg [Qc 78 0, Q 79 (.nck (.t 78)), 
 Q 80 (.fa 28 (.t 79)), Q 81 (.ld false 1 (.t 80)), Q 82 (.len false (.t 81)), Q 83 (.bin .gtr (.t 82) (Ki 1000))]) (.cond (.t 83) (.reg [Qc 84 0, Q 85 (.mkI 76 (Ki 2)), ⟨some 86, 
 .prim .call [.k (.fn (.func 66) [] []), .t 84, .t 85] [], none⟩]) .skip)) (.seq (.fam [Qc 87 0, Qc 88 0, Q 89 (.fa 1 (.t 3)), Q 90 (.ld false 1 (.t 89)), Q 91 (.fa 7 (.t 4)), Q 
 92 (.ld false 1 (.t 91)), ⟨some 93, .prim .call [.k (.fn (.func 97) [] []), .t 88, .t 90, .t 92] [], none⟩, Q 94 (.fa 8 (.t 4)), Q 95 (.ld false 1 (.t 94)), ⟨some 96, .prim .call 
 [.k (.fn (.func 119) [] []), .t 87, .t 93, .t 95] [], none⟩, Qa 12 96] [[], [], [], [2], [], [4], [1, 3, 5], [], [7], [0, 6, 8, 6], [9, 9, 0, 1, 2, 3, 4, 5, 6, 7, 8, 9]]) (.seq 
 (.seq (.reg [Q 97 (.fa 0 (.t 3)), Q 98 (.ld false 1 (.t 97)), Q 99 (.bin .eql (.t 98) (Ki 32)), Qc 100 99, Qg 101 (.fa 6 (.t 4)) 100 true, Qg 102 (.ld false 1 (.t 101)) 100 true, 
 Qg 103 (.nck (.t 102)) 100 true, Qg 104 (.fa 0 (.t 103)) 100 true, Qg 105 (.ld false 1 (.t 104)) 100 true, Qg 106 (.not (.t 105)) 100 true, Q 107 (.pick (.t 100) (.t 106) KF)]) 
 (.cond (.t 107) (.reg [Qc 108 0, Qc 109 12, Q 110 (.fa 9 (.t 4)), Q 111 (.ld false 1 (.t 110)), ⟨some 112, .prim .call [.k (.fn (.func 119) [] []), .t 108, .t 109, .t 111] [], 
 none⟩, Qa 12 112]) .skip)) (.reg [Qc 113 0, Qc 114 0, Qc 115 12, Q 116 (.fa 10 (.t 4)), Q 117 (.ld false 1 (.t 116)), ⟨some 118, .prim .call [.k (.fn (.func 97) [] []), .t 114, 
 .t 115, .t 117] [], none⟩, ⟨some 119, .prim .call [.k (.fn (.func 96) [] []), .t 113, .t 118] [], none⟩])))))))))))
def q1x : List LRes := []
theorem q2L : q0t Tryz.prog 95 120 q1u q1x := ⟨_, _, Tryz.func95, rfl, by kernel_rfl, by kernel_rfl, rfl⟩
theorem j5u (fd : D) (q : PT) (c : Option Nat) (x : Sgn) (hout : q.out.length ≤ 100000) (f : Fnt) (hf : q.s.font = some f) {m : Option AObj} (hm : rowM m = true) :
  MVE Tryz.prog 95 [.ptr (.x 0) 0, .d x.d] [pob fd q c] m (.tuple []) [pob fd (q.gl x) c] m := by
 refine q2L.mv (by kernel_rfl) rfl rfl ?_
 generalize hM : mob m = M
 have ha : aget M 1000 = m := hM ▸ q0O m
 have hn := hm
 unfold rowM at hn
 have hMM : ∀ o : AObj, Sub ((0, o) :: M) ((0, o) :: M) := fun o => hM ▸ subM o m
 generalize hE : pob fd (q.gl x) c = oE
 simp (maxSteps := 2000000) (disch := omega) only [go_sem, ↓reduceIte, q1u, q1x, I, Sgn.d, pob]
 have hcat : ∀ n a b, MVE Tryz.prog 45 [.ptr (.x 0) 0, .d (m6D a), .d (m6D b)] [pX fd q c n] m (.d (m6D ((catF a b).getD m60))) [pX fd q c (orE n (errO (catF a b)))] m := fun n a b => z3k fd (q.wb n) c a b hm
 have happ : ∀ n a x y, MVE Tryz.prog 117 [.ptr (.x 0) 0, .d (m6D a), .d (I x), .d (I y)] [pX fd q c n] m (.d (pt ((appF a x y).getD (0, 0)).1 ((appF a x y).getD (0, 0)).2)) [pX fd q c (orE n (errO (appF a x y)))] m := fun n a x y => j5t fd (q.wb n) c a x y hm
 refine q0b.poM rfl (pmul fd q c q.s.size q.s.scale hm) (q0d _ _ _) (q0d _ _ _) hm hM rfl rfl rfl ⟨⟨rfl, rfl⟩, rfl⟩ ?_
 simp (maxSteps := 2000000) only [go_sem, ↓reduceIte]
 generalize ho1 : mulF q.s.size q.s.scale = o1
 refine z2w (pX fd q c) M 17 [0, 4, 5] [6] (orE q.bad (errO o1)) (by kernel_rfl) rfl rfl rfl ?_
 simp (maxSteps := 2000000) only [go_sem, ↓reduceIte, pX, pob, PT.wb, m6D, mat, I]
 refine FR.prim (q5r.mve rfl hM (hcat _ (o1.getD 0, 0, 0, q.s.size, 0, q.s.rise) q.tm) (q4v _ _ _ _) (q4v _ _ _ _) hm rfl rfl ⟨⟨rfl, rfl⟩, rfl⟩) rfl ?_
 generalize ho2 : catF (o1.getD 0, 0, 0, q.s.size, 0, q.s.rise) q.tm = o2
 simp (maxSteps := 2000000) only [go_sem, ↓reduceIte, pX, pob, PT.wb, m6D, mat, I]
 refine FR.prim (q5r.mve rfl hM (hcat _ (o2.getD m60) q.s.ctm) (q4v _ _ _ _) (q4v _ _ _ _) hm rfl rfl ⟨⟨rfl, rfl⟩, rfl⟩) rfl ?_
 generalize ho3 : catF (o2.getD m60) q.s.ctm = o3
 simp (maxSteps := 2000000) only [go_sem, ↓reduceIte, pX, pob, PT.wb, m6D, mat, I]
 refine z2w (pX fd q c) M 10 [0, 6, 3] [7, 8] (orE (orE (orE q.bad (errO o1)) (errO o2)) (errO o3)) (by kernel_rfl) rfl rfl rfl ?_
 simp (maxSteps := 2000000) only [go_sem, ↓reduceIte, pX, pob, PT.wb, m6D, mat, I]
 refine FR.prim (q5r.mve rfl hM (happ _ (o3.getD m60) 0 0) (q4v _ _ _ _) (q4v _ _ _ _) hm rfl rfl ⟨⟨rfl, rfl⟩, rfl⟩) rfl ?_
 generalize ho4 : appF (o3.getD m60) 0 0 = o4
 simp (maxSteps := 2000000) only [go_sem, ↓reduceIte, pX, pob, PT.wb, m6D, mat, pt, I]
 refine FR.prim (q5r.mve rfl hM (happ _ (o3.getD m60) x.width 0) (q4v _ _ _ _) (q4v _ _ _ _) hm rfl rfl ⟨⟨rfl, rfl⟩, rfl⟩) rfl ?_
 generalize ho5 : appF (o3.getD m60) x.width 0 = o5
 simp (maxSteps := 2000000) only [go_sem, ↓reduceIte, pX, pob, PT.wb, m6D, mat, pt, I]
 refine z2w (pX fd q c) M 10 [0, 6, 3] [9, 10] (orE (orE (orE (orE (orE q.bad (errO o1)) (errO o2)) (errO o3)) (errO o4)) (errO o5)) (by kernel_rfl) rfl rfl rfl ?_
 simp (maxSteps := 2000000) only [go_sem, ↓reduceIte, pX, pob, PT.wb, m6D, mat, pt, I]
 refine FR.prim (q5r.mve rfl hM (happ _ (o3.getD m60) 0 1000) (q4v _ _ _ _) (q4v _ _ _ _) hm rfl rfl ⟨⟨rfl, rfl⟩, rfl⟩) rfl ?_
 generalize ho6 : appF (o3.getD m60) 0 1000 = o6
 simp (maxSteps := 2000000) only [go_sem, ↓reduceIte, pX, pob, PT.wb, m6D, mat, pt, I]
 refine FR.prim (q5r.mve rfl hM (happ _ (o3.getD m60) x.width 1000) (q4v _ _ _ _) (q4v _ _ _ _) hm rfl rfl ⟨⟨rfl, rfl⟩, rfl⟩) rfl ?_
 generalize ho7 : appF (o3.getD m60) x.width 1000 = o7
 simp (maxSteps := 2000000) only [go_sem, ↓reduceIte, pX, pob, PT.wb, m6D, mat, pt, I]
 refine q0k.of (z5c [o4.getD (0, 0), o5.getD (0, 0), o6.getD (0, 0), o7.getD (0, 0)] (by simp)) ?_
 generalize ho8 : q4z [o4.getD (0, 0), o5.getD (0, 0), o6.getD (0, 0), o7.getD (0, 0)] = o8
 simp (maxSteps := 2000000) only [go_sem, ↓reduceIte, boxD, I]
 have hOV := j0m (l := q.out ++ [⟨x.text, o4.getD (0, 0), o5.getD (0, 0), q.s.size, o8⟩]) (by simp)
 have hLn : (q4J (q.out ++ [⟨x.text, o4.getD (0, 0), o5.getD (0, 0), q.s.size, o8⟩])).length = q.out.length + 1 := by simp [q4J]
 have hsn : q4J (q.out ++ [⟨x.text, o4.getD (0, 0), o5.getD (0, 0), q.s.size, o8⟩]) = q4J q.out ++ [.agg [.str x.text, .int .i64 (o4.getD (0, 0)).1, .int .i64 (o4.getD (0, 0)).2, .int .i64 (o5.getD (0, 0)).1, .int .i64 (o5.getD (0, 0)).2, .int .i64 q.s.size, .int .i64 o8.1, .int .i64 o8.2.1, .int .i64 o8.2.2.1, .int .i64 o8.2.2.2]] := by simp [q4J, Gph.d, I]
 have hql : (q4J q.out).length = q.out.length := by simp [q4J]
 have hAo : outV (q.glA x).out = .own (.c (.x 0) 28) 55 10 (q4J (q.out ++ [⟨x.text, o4.getD (0, 0), o5.getD (0, 0), q.s.size, o8⟩])) := by
  simp only [PT.glA, ho1, ho2, ho3, ho4, ho5, ho6, ho7, ho8]; exact hOV
 generalize hn7 : orE (orE (orE (orE (orE (orE (orE q.bad (errO o1)) (errO o2)) (errO o3)) (errO o4)) (errO o5)) (errO o6)) (errO o7) = n7 at *
 have hAb : (q.glA x).bad = if 1000 < q.out.length + 1 then orE n7 2 else n7 := by
  simp only [PT.glA, ho1, ho2, ho3, ho4, ho5, ho6, ho7, hn7, List.length_append, List.length_cons, List.length_nil, Nat.zero_add]
 generalize hG : (⟨x.text, o4.getD (0, 0), o5.getD (0, 0), q.s.size, o8⟩ : Gph) = gl0 at *
 have hpo := fun n => q0d fd ((q.glA x).wb n) c
 have hpf := q5S fd ((q.glA x).wb n7) c 2 hm
 have hao2 : ∀ n, outV ((q.glA x).wb n).out = .own (.c (.x 0) 28) 55 10 (q4J (q.out ++ [gl0])) := fun n => hAo
 rw [j6m] at hpf
 simp only [pob, hao2] at hpo hpf
 have hmul : ∀ n a b, MVE Tryz.prog 97 [.ptr (.x 0) 0, .d (I a), .d (I b)] [pX fd (q.glA x) c n] m (.d (I ((mulF a b).getD 0))) [pX fd (q.glA x) c (orE n (errO (mulF a b)))] m := fun n a b => pmul fd ((q.glA x).wb n) c a b hm
 have hadd : ∀ n a b, MVE Tryz.prog 119 [.ptr (.x 0) 0, .d (I a), .d (I b)] [pX fd (q.glA x) c n] m (.d (I ((addF a b).getD 0))) [pX fd (q.glA x) c (orE n (errO (addF a b)))] m := fun n a b => padd fd ((q.glA x).wb n) c a b hm
 by_cases ho : q.out = []
 case' pos =>
  have hv : outV q.out = .ns := by rw [ho]; rfl
  rw [show q4J q.out = [] by rw [ho]; rfl, List.nil_append] at hsn
  simp (maxSteps := 2000000) (disch := omega) only [go_sem, ↓reduceIte, hv]
  rw [← hsn]
  rw [ho, if_neg (by simp)] at hAb
 case' neg =>
  have hv := j0m ho
  simp (maxSteps := 2000000) (disch := omega) only [go_sem, ↓reduceIte, hv, ← hsn, hLn, hql]
  refine ⟨⟨by omega, by omega⟩, fun h1 => ?ya, fun h1 => ?yb⟩
 case' ya =>
  rw [if_pos (by omega)] at hAb
  refine q0b.poM rfl hpf (hpo _) (hpo _) hm hM rfl rfl rfl ⟨⟨rfl, rfl⟩, rfl⟩ ?_
  simp (maxSteps := 2000000) only [go_sem, ↓reduceIte]
 case' yb =>
  rw [if_neg (by omega)] at hAb
 all_goals
  refine j2H ⟨[(0, .ptr (.x 0) 0), (3, .ptr (.l 3) 0), (4, .ptr (.l 4) 0)], [(3, .cells [.d (.int .i64 x.code), .d (.int .i64 x.width), .d (.str x.text)]), (4, .cells [.d (.int .i64 q.s.ctm.1), .d (.int .i64 q.s.ctm.2.1), .d (.int .i64 q.s.ctm.2.2.1), .d (.int .i64 q.s.ctm.2.2.2.1), .d (.int .i64 q.s.ctm.2.2.2.2.1), .d (.int .i64 q.s.ctm.2.2.2.2.2), .d (q7h q.s.font), .d (.int .i64 q.s.size), .d (.int .i64 q.s.char), .d (.int .i64 q.s.word), .d (.int .i64 q.s.scale), .d (.int .i64 q.s.lead), .d (.int .i64 q.s.rise)])], (0, pX fd (q.glA x) c (q.glA x).bad) :: M⟩ (Weak.mk ?_ ?_ ?_) ?_
  ·simp (maxSteps := 2000000) only [go_sem, ↓reduceIte, Sub]
  ·simp (maxSteps := 2000000) only [go_sem, ↓reduceIte, Sub]
  ·show Sub ((0, pob fd (q.glA x) c) :: M) _
   unfold pob
   rw [hAo, hAb]
   exact hMM _
  clear hAb
  refine z2w (pX fd (q.glA x) c) M 10 [0, 3, 4] [] (q.glA x).bad (by kernel_rfl) rfl rfl rfl ?_
  simp (maxSteps := 2000000) only [go_sem, ↓reduceIte, pX, pob, PT.wb]
  refine FR.prim (q5r.mve rfl hM (hmul _ x.width q.s.size) (q4v _ _ _ _) (q4v _ _ _ _) hm rfl rfl ⟨⟨rfl, rfl⟩, rfl⟩) rfl ?_
  generalize ho9 : mulF x.width q.s.size = o9
  simp (maxSteps := 2000000) only [go_sem, ↓reduceIte, pX, pob, PT.wb, I]
  refine FR.prim (q5r.mve rfl hM (hadd _ (o9.getD 0) q.s.char) (q4v _ _ _ _) (q4v _ _ _ _) hm rfl rfl ⟨⟨rfl, rfl⟩, rfl⟩) rfl ?_
  generalize ho10 : addF (o9.getD 0) q.s.char = o10
  simp (maxSteps := 2000000) only [go_sem, ↓reduceIte, I, hf, q7h]
  have hwd : q.s.wide = f.wide := by simp [PSt.wide, hf]
  have hsA : (q.glA x).s = q.s := rfl
  refine ⟨fun hx => ⟨fun hw => ?_, fun hw => ?_⟩, fun hx => ?_⟩
  ·refine q0b.poM rfl (hadd (orE (orE (q.glA x).bad (errO o9)) (errO o10)) (o10.getD 0) q.s.word) (q4v _ _ _ _) (q4v _ _ _ _) hm hM rfl rfl rfl ⟨⟨rfl, rfl⟩, rfl⟩ ?_
   generalize ho11 : addF (o10.getD 0) q.s.word = o11
   simp (maxSteps := 2000000) only [go_sem, ↓reduceIte, I]
   refine q0b.poM rfl (hmul (orE (orE (orE (q.glA x).bad (errO o9)) (errO o10)) (errO o11)) (o11.getD 0) q.s.scale) (q4v _ _ _ _) (q4v _ _ _ _) hm hM rfl rfl rfl ⟨⟨rfl, rfl⟩, rfl⟩ ?_
   generalize ho12 : mulF (o11.getD 0) q.s.scale = o12
   simp (maxSteps := 2000000) only [go_sem, ↓reduceIte, I]
   refine q0b.poM rfl (pon fd ((q.glA x).wb (orE (orE (orE (orE (q.glA x).bad (errO o9)) (errO o10)) (errO o11)) (errO o12))) c (o12.getD 0) hm) (q0d _ _ _) (q0d _ _ _) hm hM rfl rfl rfl ⟨⟨rfl, rfl⟩, rfl⟩ ?_
   simp (maxSteps := 2000000) only [go_sem, ↓reduceIte, ha, hn]
   rw [← hE, PT.gl, PT.glB]
   simp only [hsA, ho9, ho10, ho11, ho12, hx, hwd, hw, and_self, ↓reduceIte]
  all_goals
   have hno : ¬ (x.code = 32 ∧ f.wide = false) := fun h => by first | exact hx h.1 | (rw [h.2] at hw; cases hw) | exact hw h.2
   refine q0b.poM rfl (hmul (orE (orE (q.glA x).bad (errO o9)) (errO o10)) (o10.getD 0) q.s.scale) (q4v _ _ _ _) (q4v _ _ _ _) hm hM rfl rfl rfl ⟨⟨rfl, rfl⟩, rfl⟩ ?_
   generalize ho12 : mulF (o10.getD 0) q.s.scale = o12
   simp (maxSteps := 2000000) only [go_sem, ↓reduceIte, I]
   refine q0b.poM rfl (pon fd ((q.glA x).wb (orE (orE (orE (q.glA x).bad (errO o9)) (errO o10)) (errO o12))) c (o12.getD 0) hm) (q0d _ _ _) (q0d _ _ _) hm hM rfl rfl rfl ⟨⟨rfl, rfl⟩, rfl⟩ ?_
   simp (maxSteps := 2000000) only [go_sem, ↓reduceIte, ha, hn]
   rw [← hE, PT.gl, PT.glB]
   simp only [hsA, ho9, ho10, ho12, hwd, hno, ↓reduceIte]
end Go.Av.Tryz
set_option linter.unusedSimpArgs false
set_option maxRecDepth 100000
set_option maxHeartbeats 4000000
namespace Go.Av.Tryz
open Go.Proofs
def PT.gls (q : PT) : List Sgn → PT
 | [] => q
 | x :: l => PT.gls (if q.bad = 0 then q.gl x else q) l
def PT.shw (q : PT) (t : List UInt8) : PT :=
 match q.s.font with
 | some f => if q.inn = true then (match q4F f t with
  | some l => q.gls l
  | none => q.er 4) else q.er 6
 | none => q.er 6
structure PT.ok (q : PT) : Prop where
 out : q.bad = 0 → q.out.length ≤ 1000
 font : ∀ f, q.s.font = some f → f.ok
theorem q5R {n e : Nat} (h : orE n e = 0) : n = 0 := by
 unfold orE at h
 split at h
 ·assumption
 ·exact h
theorem q6E {q : PT} (h : q.ok) (e : Nat) : (q.er e).ok := ⟨fun hb => h.out (q5R hb), h.font⟩
theorem gl_s (q : PT) (x : Sgn) : (q.gl x).s = q.s ∧ (q.gl x).out = (q.glA x).out ∧ ((q.gl x).bad = 0 → (q.glA x).bad = 0) ∧ (q.gl x).inn = q.inn ∧ (q.gl x).saved = q.saved ∧ (q.gl x).lm = q.lm := by
 unfold PT.gl PT.glB
 split
 ·exact ⟨rfl, rfl, fun h => q5R (q5R (q5R (q5R (q5R h)))), rfl, rfl, rfl⟩
 ·exact ⟨rfl, rfl, fun h => q5R (q5R (q5R (q5R h))), rfl, rfl, rfl⟩
theorem j50 {q : PT} (h : q.ok) (x : Sgn) : (q.gl x).ok := by
 obtain ⟨h1, h2, h3, _, _⟩ := gl_s q x
 refine ⟨fun hb => ?_, by rw [h1]; exact h.font⟩
 have hb := h3 hb
 rw [h2]
 have hA : ∃ n, (q.glA x).bad = if 1000 < (q.glA x).out.length then orE n 2 else n := ⟨_, rfl⟩
 obtain ⟨n, hA⟩ := hA
 rw [hA] at hb
 split at hb
 ·exact absurd hb (by unfold orE; split <;> omega)
 ·rename_i hl; omega
theorem j1J (q : PT) : ∀ (l : List Sgn) (x : Sgn), q.gls (l ++ [x]) = (if (q.gls l).bad = 0 then (q.gls l).gl x else q.gls l) := by
 intro l
 induction l generalizing q with
 | nil => intro x; rfl
 | cons a l ih => intro x; simp only [List.cons_append, PT.gls]; exact ih _ x
theorem z4f {q : PT} (h : q.ok) : ∀ (l : List Sgn), (q.gls l).ok ∧ (q.gls l).s = q.s ∧ (q.gls l).inn = q.inn ∧ (q.gls l).saved = q.saved ∧ (q.gls l).lm = q.lm := by
 intro l
 induction l generalizing q with
 | nil => exact ⟨h, rfl, rfl, rfl, rfl⟩
 | cons a l ih =>
  simp only [PT.gls]
  split
  ·obtain ⟨h1, _, _, h4, h5, h6⟩ := gl_s q a
   obtain ⟨k1, k2, k3, k4, k5⟩ := ih (j50 h a)
   exact ⟨k1, k2.trans h1, k3.trans h4, k4.trans h5, k5.trans h6⟩
  ·exact ih h
theorem z8b {f : Fnt} {t : List UInt8} {l : List Sgn} (h : q4F f t = some l) : l.length ≤ t.length := by
 unfold q4F at h
 split at h
 ·split at h
  ·cases h; exact z1l f t
  ·cases h
 ·cases h; simp [q9h]
def q0Q : q0j :=
 .seq (.seq (.reg [Qc 8 0, Q 9 (.nck (.t 8)), Q 10 (.fa 1 (.t 9)), Q 11 (.fa 6 (.t 10)), Q 12 (.ld false 1 (.t 11)), Q 13 (.eqN 1 false (.t 12)), Qc 14 13, Qd 15 0 14 false, Qg 16 
 (.nck (.t 15)) 14 false, Qg 17 (.fa 27 (.t 16)) 14 false, Qg 18 (.ld false 1 (.t 17)) 14 false, Qg 19 (.not (.t 18)) 14 false, Q 20 (.pick (.t 14) KT (.t 19))]) (.cond (.t 20) 
 (.seq (.reg [Qc 21 0, Q 22 (.mkI 76 (Ki 6)), ⟨some 23, .prim .call [.k (.fn (.func 66) [] []), .t 21, .t 22] [], none⟩]) .ret) .skip)) (.seq (.reg [Qc 25 0, Q 26 (.nck (.t 25)), 
 Q 27 (.fa 1 (.t 26)), Q 28 (.fa 6 (.t 27)), Q 29 (.ld false 1 (.t 28)), Q 30 (.nck (.t 29)), Q 31 (.ld true 5 (.t 30)), Qc 32 1, ⟨some 33, .call 94 [.t 31, .t 32], none⟩, Qc 24 
 33, Q 34 (.ext 0 (.t 24)), Q 35 (.ext 1 (.t 24)), Qa 4 34, Qa 5 35]) (.seq (.reg [Qc 36 0, Qc 37 5, ⟨some 38, .prim .call [.k (.fn (.func 66) [] []), .t 36, .t 37] [], none⟩]) 
 (.seq (.reg [Qc 39 4, Q 40 (.len false (.t 39)), Q 41 (.cp (Ki 0))]) (.block 0 (.loop (.seq (.reg [Q 42 (.bin .lss (.t 41) (.t 40))]) (.seq (.cond (.t 42) .skip (.exit 0)) (.seq 
 (.block 1 (.seq (.reg [Q 43 (.ia 3 (.t 39) (.t 41)), Q 44 (.ld true 3 (.t 43)), ⟨some 7, .allo [.int .i64 0, .int .i64 0, .str []], none⟩, ⟨none, .st 3 (.t 7) (.t 44), none⟩]) 
 (.seq (.reg [Qc 45 0, Q 46 (.nck (.t 45)), Q 47 (.fa 29 (.t 46)), Q 48 (.ld false 1 (.t 47)), Q 49 (.eqN 0 false (.t 48))]) (.cond (.t 49) (.reg [Qc 50 0, Q 51 (.ld true 3 (.t 
 7)), ⟨some 52, .prim .call [.k (.fn (.func 95) [] []), .t 50, .t 51] [], none⟩]) .skip)))) (.reg [Q 53 (.bin .add (.t 41) (Ki 1)), Qc 41 53])))))))))
def q0S : List LRes := []
theorem q2U : q0t Tryz.prog 69 54 q0Q q0S := ⟨_, _, Tryz.func69, rfl, by kernel_rfl, by kernel_rfl, rfl⟩
theorem j4p (fd : D) (q : PT) (c : Option Nat) (t : List UInt8) (hq : q.ok) (ht : t.length ≤ 1000000) {m : Option AObj} (hm : rowM m = true) :
  MVE Tryz.prog 69 [.ptr (.x 0) 0, .d (.str t)] [pob fd q c] m (.tuple []) [pob fd (q.shw t) c] m := by
 refine q2U.mv (by kernel_rfl) rfl rfl ?_
 generalize hM : mob m = M
 have ha : aget M 1000 = m := hM ▸ q0O m
 have hn := hm
 unfold rowM at hn
 have hMM : ∀ o : AObj, Sub ((0, o) :: M) ((0, o) :: M) := fun o => hM ▸ subM o m
 generalize hE : pob fd (q.shw t) c = oE
 have hpo := q0d fd q c
 have hpo6 := fun e => q0d fd (q.er e) c
 have hpf6 := fun e => q5S fd q c e hm
 cases hf : q.s.font with
 | none =>
  simp only [pob, PT.er, hf, q7h] at hpo hpo6 hpf6
  simp (maxSteps := 2000000) only [go_sem, ↓reduceIte, q0Q, q0S, I, pob, hf, q7h]
  refine q0b.poM rfl (hpf6 6) hpo (hpo6 6) hm hM rfl rfl rfl ⟨⟨rfl, rfl⟩, rfl⟩ ?_
  simp (maxSteps := 2000000) only [go_sem, ↓reduceIte, ha, hn]
  rw [← hE]; simp only [PT.shw, hf, pob, PT.er, q7h]
 | some f =>
  simp only [pob, PT.er, hf, q7h] at hpo hpo6 hpf6
  simp (maxSteps := 2000000) only [go_sem, ↓reduceIte, q0Q, q0S, I, pob, hf, q7h]
  refine ⟨fun hi => ?_, fun hi => ?_⟩
  ·refine q0b.poM rfl (hpf6 6) hpo (hpo6 6) hm hM rfl rfl rfl ⟨⟨rfl, rfl⟩, rfl⟩ ?_
   simp (maxSteps := 2000000) only [go_sem, ↓reduceIte, ha, hn]
   rw [← hE]; simp only [PT.shw, hf, hi, pob, PT.er, q7h, Bool.false_eq_true, ↓reduceIte]
  ·refine q0k.of (z8d f (hq.font f hf) t ht) ?_
   cases hs : q4F f t with
   | none =>
    simp (maxSteps := 2000000) only [go_sem, ↓reduceIte, z3y]
    refine q0b.poM rfl (hpf6 4) hpo (hpo6 4) hm hM rfl rfl rfl ⟨⟨rfl, rfl⟩, rfl⟩ ?_
    simp (maxSteps := 2000000) only [go_sem, ↓reduceIte]
    refine q10 ?_
    simp (maxSteps := 2000000) only [go_sem, ↓reduceIte, ha, hn]
    rw [← hE]; simp only [PT.shw, hf, hi, hs, pob, PT.er, q7h, ↓reduceIte]
   | some l =>
    have hlb := z8b hs
    have hE2 : q.shw t = q.gls l := by simp only [PT.shw, hf, hi, hs, ↓reduceIte]
    simp (maxSteps := 2000000) only [go_sem, ↓reduceIte, z3y, show errD 0 = .nil from rfl]
    refine q0b.poM rfl (hpf6 0) hpo (hpo6 0) hm hM rfl rfl rfl ⟨⟨rfl, rfl⟩, rfl⟩ ?_
    have hll := q2N l
    simp (maxSteps := 2000000) only [go_sem, ↓reduceIte, hll]
    refine q0s (fun i : Nat => ⟨[(0, .ptr (.x 0) 0), (39, .d (.list (q5C l))), (40, .d (.int .i64 l.length)), (41, .d (.int .i64 i))], [], (0, pob fd (q.gls (l.take i)) c) :: M⟩) (fun i => i ≤ l.length) (fun i => l.length - i) 0 ?_ (Nat.zero_le _) ?_
    ·refine Weak.mk ?_ ?_ ?_
     ·simp (maxSteps := 2000000) only [go_sem, ↓reduceIte, Sub]
     ·simp (maxSteps := 2000000) only [go_sem, ↓reduceIte, Sub]
     ·show Sub ((0, pob fd q c) :: M) _
      have h0 : orE q.bad 0 = q.bad := congrArg PT.bad (er0 q)
      rw [h0]
      simp only [pob, hf, q7h]
      exact hMM _
    ·intro i hi'
     simp (maxSteps := 2000000) (disch := omega) only [go_sem, ↓reduceIte]
     refine ⟨fun hlt => ?_, fun hge => ?_⟩
     ·obtain ⟨x, hx⟩ := get_some (l := l) (i := i) (by omega)
      have hg : getI (q5C l) (i : Int) = some x.d := by rw [q0c, j0M, hx]; rfl
      have htk : l.take (i + 1) = l.take i ++ [x] := by rw [List.take_add_one, hx]; rfl
      have hgl := j1J q (l.take i) x
      rw [← htk] at hgl
      obtain ⟨hok, hs1, _⟩ := z4f hq (l.take i)
      generalize q.gls (l.take i) = q1 at *
      by_cases hb : q1.bad = 0
      ·rw [if_pos hb] at hgl
       obtain ⟨s1, sv1, tm1, lm1, in1, out1, b1⟩ := q1
       simp only at hb hs1
       subst hb
       subst hs1
       simp (maxSteps := 2000000) (disch := omega) only [go_sem, ↓reduceIte, hg, Sgn.d, pob, show errD 0 = .nil from rfl]
       refine q0b.poM rfl (j5u fd ⟨q.s, sv1, tm1, lm1, in1, out1, 0⟩ c x (by have := hok.out rfl; simp only at this ⊢; omega) f hf hm) (q0d _ _ _) (q0d _ _ _) hm hM rfl rfl rfl ⟨⟨rfl, rfl⟩, rfl⟩ ?_
       simp (maxSteps := 2000000) (disch := omega) only [go_sem, ↓reduceIte]
       refine ⟨i + 1, ?_, by omega, by omega⟩
       rw [hgl]
       refine Weak.mk ?_ ?_ (hMM _) <;> simp (maxSteps := 2000000) only [go_sem, ↓reduceIte, Sub, Int.natCast_add, Int.natCast_mul]
      ·rw [if_neg hb] at hgl
       simp (maxSteps := 2000000) (disch := omega) only [go_sem, ↓reduceIte, hg, Sgn.d, pob, q3n hb]
       refine ⟨i + 1, ?_, by omega, by omega⟩
       rw [hgl]
       refine Weak.mk ?_ ?_ ?_
       ·simp (maxSteps := 2000000) only [go_sem, ↓reduceIte, Sub, Int.natCast_add]
       ·simp (maxSteps := 2000000) only [go_sem, ↓reduceIte, Sub]
       ·simp only [pob, q3n hb]
        exact hMM _
     ·have hie : i = l.length := by omega
      subst hie
      simp (maxSteps := 2000000) (disch := omega) only [go_sem, ↓reduceIte, ha, hn]
      rw [← hE, hE2, List.take_length]
end Go.Av.Tryz
set_option linter.unusedSimpArgs false
set_option maxRecDepth 100000
set_option maxHeartbeats 4000000
namespace Go.Av.Tryz
open Go.Proofs
def PT.bk (q : PT) (n : Int) : PT :=
 (q.wb (orE (orE q.bad (errO (mulF (Int.tdiv (-n) 1000) q.s.size))) (errO (mulF ((mulF (Int.tdiv (-n) 1000) q.s.size).getD 0) q.s.scale)))).on ((mulF ((mulF (Int.tdiv (-n) 1000) q.s.size).getD 0) q.s.scale).getD 0)
def PT.ls1 (q : PT) (v : Val) : PT := if v.kind = 3 then q.shw v.s else if v.kind = 2 then q.bk v.n else q.er 8
def PT.lst (q : PT) : List Val → PT
 | [] => q
 | v :: l => PT.lst (q.ls1 v) l
theorem j1Z (q : PT) : ∀ (l : List Val) (v : Val), q.lst (l ++ [v]) = (q.lst l).ls1 v := by
 intro l
 induction l generalizing q with
 | nil => intro v; rfl
 | cons a l ih => intro v; simp only [List.cons_append, PT.lst]; exact ih _ v
theorem j5Z {q : PT} (h : q.ok) (n : Int) : (q.bk n).ok := ⟨fun hb => h.out (q5R (q5R (q5R hb))), h.font⟩
theorem j3o {q : PT} (h : q.ok) (t : List UInt8) : (q.shw t).ok ∧ (q.shw t).s = q.s := by
 unfold PT.shw
 split
 ·split
  ·split
   ·exact ⟨(z4f h _).1, (z4f h _).2.1⟩
   ·exact ⟨q6E h 4, rfl⟩
  ·exact ⟨q6E h 6, rfl⟩
 ·exact ⟨q6E h 6, rfl⟩
theorem j3h {q : PT} (h : q.ok) (v : Val) : (q.ls1 v).ok := by
 unfold PT.ls1
 split
 ·exact (j3o h _).1
 ·split
  ·exact j5Z h _
  ·exact q6E h 8
theorem j3i {q : PT} (h : q.ok) (l : List Val) : (q.lst l).ok := by
 induction l generalizing q with
 | nil => exact h
 | cons v l ih => exact ih (j3h h v)
theorem j4L {x B : Int} (h1 : -B ≤ x) (h2 : x ≤ B) : -B ≤ x.tdiv 1000 ∧ x.tdiv 1000 ≤ B := by
 rcases Int.le_total 0 x with h | h
 ·rw [Int.tdiv_eq_ediv_of_nonneg h]; omega
 ·have e : x = -(-x) := by omega
  rw [e, Int.neg_tdiv, Int.tdiv_eq_ediv_of_nonneg (by omega)]; omega
def pY (fd : D) (q : PT) (c : Option Nat) (p : Nat × M6) : AObj := pob fd { q with bad := p.1, tm := p.2 } c
theorem z7V (fd : D) (q : PT) (c : Option Nat) (p : Nat × M6) : PO (pY fd q c p) := q0d _ _ _
def q1z : q0j :=
 .seq (.reg [Qc 6 1, Q 7 (.len false (.t 6)), Q 8 (.cp (Ki 0))]) (.block 0 (.loop (.seq (.reg [Q 9 (.bin .lss (.t 8) (.t 7))]) (.seq (.cond (.t 9) .skip (.exit 0)) (.seq (.block 1 
 (.seq (.reg [Q 10 (.ia 5 (.t 6) (.t 8)), Q 11 (.ld true 5 (.t 10)), ⟨some 5, .allo [.int .i64 0, .int .i64 0, .str [], .list [], .list []], none⟩, ⟨none, .st 5 (.t 5) (.t 11), 
 none⟩]) (.seq (.reg [Q 12 (.fa 0 (.t 5)), Q 13 (.ld false 1 (.t 12))]) (.block 2 (.seq (.reg [Q 18 (.bin .eql (.t 13) (Ki 3)), Qa 17 18]) (.cond (.t 17) (.reg [Qc 19 0, Q 20 (.fa 
 2 (.t 5)), Q 21 (.ld false 1 (.t 20)), ⟨some 22, .prim .call [.k (.fn (.func 69) [] []), .t 19, .t 21] [], none⟩]) (.seq (.reg [Q 24 (.bin .eql (.t 13) (Ki 2)), Qa 23 24]) (.cond 
 (.t 23) (.fam [Qc 25 0, Qc 26 0, Qc 27 0, Q 28 (.fa 1 (.t 5)), Q 29 (.ld false 1 (.t 28)), Q 30 (.neg (.t 29)), Q 31 (.bin .quo (.t 30) (Ki 1000)), Qc 32 0, Q 33 (.nck (.t 32)), 
 Q 34 (.fa 1 (.t 33)), Q 35 (.fa 7 (.t 34)), Q 36 (.ld false 1 (.t 35)), ⟨some 37, .prim .call [.k (.fn (.func 97) [] []), .t 27, .t 31, .t 36] [], none⟩, Qc 38 0, Q 39 (.nck (.t 
 38)), Q 40 (.fa 1 (.t 39)), Q 41 (.fa 10 (.t 40)), Q 42 (.ld false 1 (.t 41)), ⟨some 43, .prim .call [.k (.fn (.func 97) [] []), .t 26, .t 37, .t 42] [], none⟩, ⟨some 44, .prim 
 .call [.k (.fn (.func 96) [] []), .t 25, .t 43] [], none⟩] [[], [], [], [], [3], [4], [5], [], [7], [8], [9], [10], [2, 6, 11], [], [13], [14], [15], [16], [1, 12, 17, 12], [0, 
 18, 18]]) (.reg [Qc 14 0, Q 15 (.mkI 76 (Ki 8)), ⟨some 16, .prim .call [.k (.fn (.func 66) [] []), .t 14, .t 15] [], none⟩]))))))))) (.reg [Q 45 (.bin .add (.t 8) (Ki 1)), Qc 8 
 45]))))))
def q1E : List LRes := []
theorem q2R : q0t Tryz.prog 71 46 q1z q1E := ⟨_, _, Tryz.func71, rfl, by kernel_rfl, by kernel_rfl, rfl⟩
theorem j57 (fd : D) (q : PT) (c : Option Nat) (l : List Val) (hq : q.ok) (hl : l.length ≤ 100000) (hv : ∀ v ∈ l, v.s.length ≤ 1000000 ∧ (v.kind = 2 → Lim v.n)) {m : Option AObj} (hm : rowM m = true) :
  MVE Tryz.prog 71 [.ptr (.x 0) 0, .d (.list (q05 l))] [pob fd q c] m (.tuple []) [pob fd (q.lst l) c] m := by
 refine q2R.mv (by kernel_rfl) rfl rfl ?_
 generalize hM : mob m = M
 have ha : aget M 1000 = m := hM ▸ q0O m
 have hn := hm
 unfold rowM at hn
 have hMM : ∀ o : AObj, Sub ((0, o) :: M) ((0, o) :: M) := fun o => hM ▸ subM o m
 have hll := q2k l
 simp (maxSteps := 2000000) only [go_sem, ↓reduceIte, q1z, q1E, I, hll]
 refine q0s (fun i : Nat => ⟨[(0, .ptr (.x 0) 0), (6, .d (.list (q05 l))), (7, .d (.int .i64 l.length)), (8, .d (.int .i64 i))], [], (0, pob fd (q.lst (l.take i)) c) :: M⟩) (fun i => i ≤ l.length) (fun i => l.length - i) 0 ?_ (Nat.zero_le _) ?_
 ·refine Weak.mk ?_ ?_ (hMM _) <;> simp (maxSteps := 2000000) only [go_sem, ↓reduceIte, Sub, Int.natCast_add, Int.natCast_mul]
 ·intro i hi
  simp (maxSteps := 2000000) (disch := omega) only [go_sem, ↓reduceIte]
  refine ⟨fun hlt => ?_, fun hge => ?_⟩
  ·obtain ⟨v, hx⟩ := get_some (l := l) (i := i) (by omega)
   have hg : getI (q05 l) (i : Int) = some v.d := by rw [q0c, q8I, hx]; rfl
   have htk : l.take (i + 1) = l.take i ++ [v] := by rw [List.take_add_one, hx]; rfl
   have hgl := j1Z q (l.take i) v
   rw [← htk] at hgl
   have hok := j3i hq (l.take i)
   obtain ⟨hv1, hv2⟩ := hv v (List.mem_of_getElem? hx)
   generalize q.lst (l.take i) = q1 at *
   simp (maxSteps := 2000000) (disch := omega) only [go_sem, ↓reduceIte, hg, Val.d_eq]
   refine ⟨fun h3 => ?_, fun h3 => ?_⟩
   ·refine q0b.poM rfl (j4p fd q1 c v.s hok hv1 hm) (q0d _ _ _) (q0d _ _ _) hm hM rfl rfl rfl ⟨⟨rfl, rfl⟩, rfl⟩ ?_
    simp (maxSteps := 2000000) (disch := omega) only [go_sem, ↓reduceIte]
    refine ⟨i + 1, ?_, by omega, by omega⟩
    rw [hgl, PT.ls1, if_pos h3]
    refine Weak.mk ?_ ?_ (hMM _) <;> simp (maxSteps := 2000000) only [go_sem, ↓reduceIte, Sub, Int.natCast_add, Int.natCast_mul]
   ·refine ⟨fun h2 => ?_, fun h2 => ?_⟩
    ·obtain ⟨b1, b2⟩ := hv2 h2
     have hmul : ∀ p a b, MVE Tryz.prog 97 [.ptr (.x 0) 0, .d (I a), .d (I b)] [pY fd q1 c p] m (.d (I ((mulF a b).getD 0))) [pY fd q1 c (orE p.1 (errO (mulF a b)), p.2)] m := fun p a b => pmul fd { q1 with bad := p.1, tm := p.2 } c a b hm
     have hon : ∀ p x, MVE Tryz.prog 96 [.ptr (.x 0) 0, .d (I x)] [pY fd q1 c p] m (.tuple []) [pY fd q1 c (orE p.1 (errO (catF (1000, 0, 0, 1000, x, 0) p.2)), (catF (1000, 0, 0, 1000, x, 0) p.2).getD m60)] m := fun p x => pon fd { q1 with bad := p.1, tm := p.2 } c x hm
     refine z2w (pY fd q1 c) M 20 [0, 5] [] (q1.bad, q1.tm) (by kernel_rfl) rfl rfl rfl ?_
     obtain ⟨t1, t2⟩ := j4L (x := -v.n) (B := 1000000000) (by omega) (by omega)
     have hw : IntKind.i64.wrap ((0 - v.n).tdiv 1000) = (-v.n).tdiv 1000 := by rw [Int.zero_sub]; exact IntWalk.i64_in _ (by omega)
     simp (maxSteps := 2000000) (disch := omega) only [go_sem, ↓reduceIte, pY, pob, hw]
     refine FR.prim (q5r.mve rfl hM (hmul (q1.bad, q1.tm) ((-v.n).tdiv 1000) q1.s.size) (z7V _ _ _ _) (z7V _ _ _ _) hm rfl rfl ⟨⟨rfl, rfl⟩, rfl⟩) rfl ?_
     simp (maxSteps := 2000000) (disch := omega) only [go_sem, ↓reduceIte, pY, pob]
     refine FR.prim (q5r.mve rfl hM (hmul _ ((mulF ((-v.n).tdiv 1000) q1.s.size).getD 0) q1.s.scale) (z7V _ _ _ _) (z7V _ _ _ _) hm rfl rfl ⟨⟨rfl, rfl⟩, rfl⟩) rfl ?_
     refine FR.prim (q5r.mve rfl hM (hon _ ((mulF ((mulF ((-v.n).tdiv 1000) q1.s.size).getD 0) q1.s.scale).getD 0)) (z7V _ _ _ _) (z7V _ _ _ _) hm rfl rfl ⟨⟨rfl, rfl⟩, rfl⟩) rfl ?_
     simp (maxSteps := 2000000) (disch := omega) only [go_sem, ↓reduceIte]
     refine ⟨i + 1, ?_, by omega, by omega⟩
     rw [hgl, PT.ls1, if_neg h3, if_pos h2]
     refine Weak.mk ?_ ?_ ?_
     ·simp (maxSteps := 2000000) only [go_sem, ↓reduceIte, Sub, Int.natCast_add]
     ·simp (maxSteps := 2000000) only [go_sem, ↓reduceIte, Sub]
     ·exact hMM _
    ·refine q0b.poM rfl (q5S fd q1 c 8 hm) (q0d _ _ _) (q0d _ _ _) hm hM rfl rfl rfl ⟨⟨rfl, rfl⟩, rfl⟩ ?_
     simp (maxSteps := 2000000) (disch := omega) only [go_sem, ↓reduceIte]
     refine ⟨i + 1, ?_, by omega, by omega⟩
     rw [hgl, PT.ls1, if_neg h3, if_neg h2]
     refine Weak.mk ?_ ?_ (hMM _) <;> simp (maxSteps := 2000000) only [go_sem, ↓reduceIte, Sub, Int.natCast_add, Int.natCast_mul]
  ·have hie : i = l.length := by omega
   subst hie
   simp (maxSteps := 2000000) (disch := omega) only [go_sem, ↓reduceIte, ha, hn]
   rw [List.take_length]
end Go.Av.Tryz
