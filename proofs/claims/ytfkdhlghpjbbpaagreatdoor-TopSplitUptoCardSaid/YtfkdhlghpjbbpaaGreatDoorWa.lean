import Derived.Test.YtfkdhlghpjbbpaaGreatDoorAvG
import Derived.Test.YtfkdhlghpjbbpaaGreatDoorAvH
import Derived.Test.YtfkdhlghpjbbpaaGreatDoorProg
import Derived.Lib.LaidTab
import Derived.Lib.ItoaNum
import Derived.Shelf.Unicode.DecodeSlow
import Derived.IntWalk
import Derived.Lib.MapLaws
import Derived.Lib.RuneBytes
import Derived.Lib.SpaceUEq
import Derived.Lib.ValidLaws
import Derived.Shelf.Unicode.DecodeLast
import Derived.Shelf.LaysM
set_option linter.unusedSimpArgs false
namespace Go.Av.Tryz
open Go.Proofs
theorem j5N {P : Program} {name : String} {k : IntKind} {zs : List Int} {w : World} (h : Lib.TabIs P w name k zs) (b : Nat) (hb : P.globalNamed name = some b) : b < w.heap.size := by
 unfold Lib.TabIs World.var? at h
 simp only [hb, Option.bind_some] at h
 cases hc : w.heap[b]? with
 | none => simp [hc] at h
 | some o => exact (Array.getElem?_eq_some_iff.1 hc).1
theorem j2U {P : Program} {name : String} {k : IntKind} {zs : List Int} {w w' : World} (hk : ∀ b, P.globalNamed name = some b → w'.heap[b]? = w.heap[b]?) (h : Lib.TabIs P w name k zs) : Lib.TabIs P w' name k zs := by
 unfold Lib.TabIs World.var? at h ⊢
 cases hg : P.globalNamed name with
 | none => simp [hg] at h
 | some g =>
  simp only [hg, Option.bind_some] at h ⊢
  rw [hk g hg]; exact h
def j51 (P : Program) (name : String) (w : World) : Prop := ∀ b, P.globalNamed name = some b → ∃ m : Int, w.cell? ⟨b, 0, none⟩ = some (.int .i64 m)
theorem z8R {w w' : World} {b : Nat} (h : w'.heap[b]? = w.heap[b]?) : w'.cell? ⟨b, 0, none⟩ = w.cell? ⟨b, 0, none⟩ := by
 simp only [World.cell?, h]
theorem j3G {w : World} {b : Nat} {v : Value} (h : w.cell? ⟨b, 0, none⟩ = some v) : b < w.heap.size := by
 rcases Nat.lt_or_ge b w.heap.size with h' | h'
 ·exact h'
 ·simp [World.cell?, Array.getElem?_eq_none h'] at h
def j6g (P : Program) (name : String) (k : IntKind) (zs : List Int) (w : World) : Prop := ∀ b, P.globalNamed name = some b → Lib.TabIs P w name k zs
def u8At (P : Program) (w : World) : Prop := ∀ g3 g4, P.globalNamed "unicode/utf8.first" = some g3 → P.globalNamed "unicode/utf8.acceptRanges" = some g4 → Lib.Utf8Tabs g3 g4 w
theorem j2X {g3 g4 : Nat} {w w' : World} (h3 : w'.heap[g3]? = w.heap[g3]?) (h4 : w'.heap[g4]? = w.heap[g4]?) (h : Lib.Utf8Tabs g3 g4 w) : Lib.Utf8Tabs g3 g4 w' := by
 obtain ⟨a, b⟩ := h
 refine ⟨fun c hc => ?_, fun i hi => ?_⟩
 ·have := a c hc
  simpa only [World.cell?, h3] using this
 ·have := b i hi
  simpa only [World.cell?, h4] using this
def j4M (P : Program) (b : Nat) : Prop := P.globalNamed "unicode/utf8.first" = some b ∨ P.globalNamed "unicode/utf8.acceptRanges" = some b
theorem j5O {P : Program} {g3 g4 : Nat} {w : World} (h3 : P.globalNamed "unicode/utf8.first" = some g3) (h4 : P.globalNamed "unicode/utf8.acceptRanges" = some g4) (h : Lib.Utf8Tabs g3 g4 w) : u8At P w ∧ ∀ b, j4M P b → b < w.heap.size := by
 have lt : ∀ (b o : Nat) (v : Value), w.cell? ⟨b, o, none⟩ = some v → b < w.heap.size := fun b o v hc => by
  rcases Nat.lt_or_ge b w.heap.size with h' | h'
  ·exact h'
  ·simp [World.cell?, Array.getElem?_eq_none h'] at hc
 refine ⟨fun a b ha hb => ?_, fun b hb => ?_⟩
 ·obtain rfl := Option.some.inj (h3.symm.trans ha)
  obtain rfl := Option.some.inj (h4.symm.trans hb)
  exact h
 ·obtain ⟨q1, q2⟩ := h
  rcases hb with hb | hb
  ·obtain rfl := Option.some.inj (h3.symm.trans hb)
   exact lt _ _ _ (q1 0 (by decide))
  ·obtain rfl := Option.some.inj (h4.symm.trans hb)
   exact lt _ _ _ (q2 0 (by decide)).1
instance : Inv Tryz.prog := ⟨fun _ w => j6g Tryz.prog "internal/strconv.uint64pow10" .u64 Lib.pow10Tab w ∧ j51 Tryz.prog "internal/bytealg.MaxLen" w ∧ (u8At Tryz.prog w ∧ ∀ b, j4M Tryz.prog b → b < w.heap.size),
 fun b => Tryz.prog.globalNamed "internal/strconv.uint64pow10" = some b ∨ Tryz.prog.globalNamed "internal/bytealg.MaxLen" = some b ∨ j4M Tryz.prog b,
 fun h b hb => hb.elim (fun hb => j5N (h.1 b hb) b hb) fun hb => hb.elim (fun hb => by obtain ⟨m, hm⟩ := h.2.1 b hb; exact j3G hm) (h.2.2.2 b),
 fun {f w f' w'} hk h => ⟨fun b hb => j2U (fun b hb => (hk b (.inl hb)).1) (h.1 b hb), fun b hb => by obtain ⟨m, hm⟩ := h.2.1 b hb; exact ⟨m, (z8R (hk b (.inr (.inl hb))).1).trans hm⟩,
  fun g3 g4 h3 h4 => j2X (hk g3 (.inr (.inr (.inl h3)))).1 (hk g4 (.inr (.inr (.inr h4)))).1 (h.2.2.1 g3 g4 h3 h4), fun b hb => by
   have h1 := h.2.2.2 b hb
   have h2 := (hk b (.inr (.inr hb))).1
   rw [Array.getElem?_eq_getElem h1] at h2
   exact (Array.getElem?_eq_some_iff.1 h2).1⟩⟩
def errD (n : Nat) : D := if n = 0 then .nil else .iface 76 (.int .i64 n)
theorem q3n {n : Nat} (h : n ≠ 0) : errD n = .iface 76 (.int .i64 n) := by simp [errD, h]
def q7x : q0j :=
 .seq (.reg [Qx 2 (.k (.d .nil))]) (.seq (.seq (.reg [Qc 3 0, Q 4 (.bin .lss (.t 3) (Ki (-1000000000))), Qc 5 4, Qd 6 0 5 false, Qg 7 (.bin .gtr (.t 6) (Ki 1000000000)) 5 false, Q 8 
 (.pick (.t 5) KT (.t 7))]) (.cond (.t 8) (.seq (.reg [Q 9 (.mkI 76 (Ki 1)), Qa 2 9]) .ret) .skip)) (.seq (.reg [Qx 2 (.k (.d .nil))]) .ret))
def q7A : List LRes := [.tmp 2]
theorem q7r : q0t Tryz.prog 78 10 q7x q7A := ⟨_, _, Tryz.func78, rfl, by kernel_rfl, by kernel_rfl, rfl⟩
def z0e : q0j :=
 .seq (.reg [Qx 2 (Ki 0)]) (.seq (.reg [Qc 4 0, Q 5 (.bin .quo (.t 4) (Ki 1000)), Qa 3 5]) (.seq (.seq (.reg [Qc 6 0, Q 7 (.bin .rem (.t 6) (Ki 1000)), Q 8 (.bin .lss (.t 7) (Ki 
 0))]) (.cond (.t 8) (.reg [Qc 9 3, Q 10 (.bin .sub (.t 9) (Ki 1)), Qa 3 10]) .skip)) (.seq (.reg [Qc 11 3, Qa 2 11]) .ret)))
def z0l : List LRes := [.tmp 2]
theorem z1M : q0t Tryz.prog 115 12 z0e z0l := ⟨_, _, Tryz.func115, rfl, by kernel_rfl, by kernel_rfl, rfl⟩
def z6s : q0j :=
 .seq (.reg [Qx 2 (Ki 0), Qx 3 (.k (.d .nil))]) (.seq (.reg [Qc 5 0, ⟨some 6, .call 78 [.t 5], none⟩, Qa 4 6]) (.seq (.seq (.reg [Qc 7 4, Q 8 (.eqN 0 true (.t 7))]) (.cond (.t 8) 
 (.seq (.reg [Qc 9 4, Qx 2 (Ki 0), Qa 3 9]) .ret) .skip)) (.seq (.reg [Qc 10 0, Qa 2 10, Qx 3 (.k (.d .nil))]) .ret)))
def z6t : List LRes := [.tmp 2, .tmp 3]
theorem z5S : q0t Tryz.prog 114 11 z6s z6t := ⟨_, _, Tryz.func114, rfl, by kernel_rfl, by kernel_rfl, rfl⟩
def z3L : q0j :=
 .seq (.reg [Qx 10 (Ki 0), Qx 11 (.k (.d .nil))]) (.seq (.seq (.reg [Qc 14 0, Qc 15 1, Qc 16 2, Qc 17 3, Qc 18 4, ⟨some 19, .bsl 3 1 [.t 14, .t 15, .t 16, .t 17, .t 18], none⟩, Q 20 
 (.len false (.t 19)), Q 21 (.cp (Ki 0))]) (.block 0 (.loop (.seq (.reg [Q 22 (.bin .lss (.t 21) (.t 20))]) (.seq (.cond (.t 22) .skip (.exit 0)) (.seq (.block 1 (.seq (.reg [Q 23 
 (.ia 1 (.t 19) (.t 21)), Q 24 (.ld false 1 (.t 23)), Qa 13 24]) (.seq (.reg [Qc 25 13, ⟨some 26, .call 78 [.t 25], none⟩, Q 27 (.eqN 0 true (.t 26))]) (.cond (.t 27) (.seq (.reg 
 [Q 28 (.mkI 76 (Ki 1)), Qx 10 (Ki 0), Qa 11 28]) .ret) .skip)))) (.reg [Q 29 (.bin .add (.t 21) (Ki 1)), Qc 21 29]))))))) (.seq (.reg [Qc 30 0, Qc 31 1, Q 32 (.bin .mul (.t 30) 
 (.t 31)), Qc 33 2, Qc 34 3, Q 35 (.bin .mul (.t 33) (.t 34)), Q 36 (.bin .add (.t 32) (.t 35)), ⟨some 37, .call 115 [.t 36], none⟩, Qc 38 4, Q 39 (.bin .add (.t 37) (.t 38)), 
 ⟨some 40, .call 114 [.t 39], none⟩, Q 41 (.ext 0 (.t 40)), Q 42 (.ext 1 (.t 40)), Qa 10 41, Qa 11 42]) .ret))
def z3O : List LRes := [.tmp 10, .tmp 11]
theorem z4y : q0t Tryz.prog 93 43 z3L z3O := ⟨_, _, Tryz.func93, rfl, by kernel_rfl, by kernel_rfl, rfl⟩
/-! ### What they say -/
def err (k : Int) : D := .iface 76 (.int .i64 k)
def Lim (n : Int) : Prop := -1000000000 ≤ n ∧ n ≤ 1000000000
instance (n : Int) : Decidable (Lim n) := inferInstanceAs (Decidable (_ ∧ _))
def I (n : Int) : D := .int .i64 n
def i64 (n : Int) : Prop := -9223372036854775808 ≤ n ∧ n ≤ 9223372036854775807
def intE : Option Int → Res
 | some n => .tup [I n, .nil]
 | none => .tup [I 0, err 1]
def okF (n : Int) : Option Int := if Lim n then some n else none
def twoF (a x b y c : Int) : Option Int :=
 if Lim a ∧ Lim x ∧ Lim b ∧ Lim y ∧ Lim c then okF ((a * x + b * y) / 1000 + c) else none
theorem z9W {a b A B : Int} (h1 : -A ≤ a) (h2 : a ≤ A) (h3 : -B ≤ b) (h4 : b ≤ B) : -(A * B) ≤ a * b ∧ a * b ≤ A * B := by
 have e1 := Int.mul_nonneg (show 0 ≤ A - a by omega) (show 0 ≤ B - b by omega)
 have e2 := Int.mul_nonneg (show 0 ≤ A + a by omega) (show 0 ≤ B + b by omega)
 have e3 := Int.mul_nonneg (show 0 ≤ A - a by omega) (show 0 ≤ B + b by omega)
 have e4 := Int.mul_nonneg (show 0 ≤ A + a by omega) (show 0 ≤ B - b by omega)
 simp only [Int.sub_mul, Int.add_mul, Int.mul_sub, Int.mul_add] at e1 e2 e3 e4
 omega
theorem q3G {n : Int} (h : Lim n) : q0u Tryz.prog 78 [.int .i64 n] (fun r => r = .one .nil) := by
 refine q7r.call rfl ?_
 simp (maxSteps := 2000000) only [go_sem, ↓reduceIte, q7x, q7A]
 unfold Lim at h
 refine ⟨fun a b => ?_, fun a => ?_⟩ <;> exfalso <;> omega
theorem q2I {n : Int} (h : ¬ Lim n) : q0u Tryz.prog 78 [.int .i64 n] (fun r => r = .one (err 1)) := by
 refine q7r.call rfl ?_
 simp (maxSteps := 2000000) only [go_sem, ↓reduceIte, q7x, q7A]
 unfold Lim at h
 refine ⟨fun a => ⟨fun b => ?_, fun b => ?_⟩, fun a => ?_⟩ <;> first | rfl | (exfalso; omega)
theorem z2j {n : Int} (h : i64 n) : q0u Tryz.prog 115 [.int .i64 n] (fun r => r = .one (I (n / 1000))) := by
 refine z1M.call rfl ?_
 simp (maxSteps := 2000000) only [go_sem, ↓reduceIte, z0e, z0l]
 unfold i64 at h
 unfold I
 rw [Int.tmod_eq_emod, Int.tdiv_eq_ediv]
 have h1 : ((1000 : Int).natAbs : Int) = 1000 := rfl
 have h2 : (1000 : Int).sign = 1 := rfl
 by_cases hd : 0 ≤ n ∨ (1000 : Int) ∣ n
 ·rw [if_pos hd, if_pos hd]
  refine ⟨fun a => ?_, fun a => ?_⟩
  ·exfalso; omega
  ·rw [IntWalk.i64_in _ (by omega)]; congr 2; omega
 ·rw [if_neg hd, if_neg hd, h1, h2]
  refine ⟨fun a => ?_, fun a => ?_⟩
  ·rw [IntWalk.i64_in (n / 1000 + 1) (by omega), IntWalk.i64_in _ (by omega)]; congr 2; omega
  ·exfalso; omega
theorem z54 (n : Int) : q0u Tryz.prog 114 [.int .i64 n] (fun r => r = intE (okF n)) := by
 refine z5S.call rfl ?_
 simp (maxSteps := 2000000) only [go_sem, ↓reduceIte, z6s, z6t]
 unfold okF
 by_cases h : Lim n
 ·refine q0k.of (q3G h) ?_
  simp (maxSteps := 2000000) only [go_sem, ↓reduceIte, if_pos h]
  rfl
 ·refine q0k.of (q2I h) ?_
  simp (maxSteps := 2000000) only [go_sem, ↓reduceIte, if_neg h, err]
  rfl
theorem q5p {a x b y c : Int} : q0u Tryz.prog 93 [.int .i64 a, .int .i64 x, .int .i64 b, .int .i64 y, .int .i64 c] (fun r => r = intE (twoF a x b y c)) := by
 refine z4y.call rfl ?_
 unfold twoF
 simp (maxSteps := 2000000) only [go_sem, ↓reduceIte, z3L, z3O]
 refine q10 ?_
 simp (maxSteps := 2000000) only [go_sem, ↓reduceIte, getI]
 by_cases ha : Lim a
 rotate_left
 ·refine q0k.of (q2I ha) ?_
  simp (maxSteps := 2000000) only [go_sem, ↓reduceIte, err, ha]
  rfl
 refine q0k.of (q3G ha) ?_
 simp (maxSteps := 2000000) only [go_sem, ↓reduceIte]
 refine q10 ?_
 simp (maxSteps := 2000000) only [go_sem, ↓reduceIte, getI]
 by_cases hx : Lim x
 rotate_left
 ·refine q0k.of (q2I hx) ?_
  simp (maxSteps := 2000000) only [go_sem, ↓reduceIte, err, hx]
  rfl
 refine q0k.of (q3G hx) ?_
 simp (maxSteps := 2000000) only [go_sem, ↓reduceIte]
 refine q10 ?_
 simp (maxSteps := 2000000) only [go_sem, ↓reduceIte, getI]
 by_cases hb : Lim b
 rotate_left
 ·refine q0k.of (q2I hb) ?_
  simp (maxSteps := 2000000) only [go_sem, ↓reduceIte, err, hb]
  rfl
 refine q0k.of (q3G hb) ?_
 simp (maxSteps := 2000000) only [go_sem, ↓reduceIte]
 refine q10 ?_
 simp (maxSteps := 2000000) only [go_sem, ↓reduceIte, getI]
 by_cases hy : Lim y
 rotate_left
 ·refine q0k.of (q2I hy) ?_
  simp (maxSteps := 2000000) only [go_sem, ↓reduceIte, err, hy]
  rfl
 refine q0k.of (q3G hy) ?_
 simp (maxSteps := 2000000) only [go_sem, ↓reduceIte]
 refine q10 ?_
 simp (maxSteps := 2000000) only [go_sem, ↓reduceIte, getI]
 by_cases hc : Lim c
 rotate_left
 ·refine q0k.of (q2I hc) ?_
  simp (maxSteps := 2000000) only [go_sem, ↓reduceIte, err, hc]
  rfl
 refine q0k.of (q3G hc) ?_
 simp (maxSteps := 2000000) only [go_sem, ↓reduceIte]
 refine q10 ?_
 have b1 := z9W ha.1 ha.2 hx.1 hx.2
 have b2 := z9W hb.1 hb.2 hy.1 hy.2
 have w1 : IntKind.i64.wrap (a * x) = a * x := IntWalk.i64_in _ (by omega)
 have w2 : IntKind.i64.wrap (b * y) = b * y := IntWalk.i64_in _ (by omega)
 have w3 : IntKind.i64.wrap (a * x + b * y) = a * x + b * y := IntWalk.i64_in _ (by omega)
 have w4 : IntKind.i64.wrap ((a * x + b * y) / 1000 + c) = (a * x + b * y) / 1000 + c := IntWalk.i64_in _ (by unfold Lim at hc; omega)
 simp (maxSteps := 2000000) only [go_sem, ↓reduceIte, w1, w2, w3]
 refine q0k.of (z2j (by unfold i64; omega)) ?_
 simp (maxSteps := 2000000) only [go_sem, ↓reduceIte, I, w4]
 refine q0k.of (z54 _) ?_
 cases hr : okF ((a * x + b * y) / 1000 + c) with
 | none =>
  simp (maxSteps := 2000000) only [go_sem, ↓reduceIte, intE, I, err, ha, hx, hb, hy, hc, hr]
 | some n =>
  simp (maxSteps := 2000000) only [go_sem, ↓reduceIte, intE, I, err, ha, hx, hb, hy, hc, hr]
def z1U : q0j :=
 .seq (.reg [⟨some 0, .allo [.int .i64 0, .int .i64 0, .int .i64 0, .int .i64 0, .int .i64 0, .int .i64 0], none⟩]) (.seq (.reg [Q 1 (.bld [(0, 1), (1, 1), (2, 1), (3, 1), (4, 1), 
 (5, 1)] [.int .i64 0, .int .i64 0, .int .i64 0, .int .i64 0, .int .i64 0, .int .i64 0] [] [(0, .k (.d (.int .i64 1000))), (3, .k (.d (.int .i64 1000)))]), ⟨none, .st 6 (.t 0) (.t 
 1), none⟩]) .ret)
def z1W : List LRes := [.cell 0 true 6]
theorem z27 : q0t Tryz.prog 30 2 z1U z1W := ⟨_, _, Tryz.func30, rfl, by kernel_rfl, by kernel_rfl, rfl⟩
def z0d : q0j :=
 .seq (.reg [⟨some 2, .box (.t 0), none⟩, ⟨some 3, .box (.t 1), none⟩, ⟨some 4, .allo [.int .i64 0, .int .i64 0], none⟩, Qx 5 (.k (.d .nil))]) (.seq (.reg [Q 10 (.fa 0 (.t 2)), Q 11 
 (.ld false 1 (.t 10)), Q 12 (.fa 0 (.t 3)), Q 13 (.ld false 1 (.t 12)), Q 14 (.fa 2 (.t 2)), Q 15 (.ld false 1 (.t 14)), Q 16 (.fa 1 (.t 3)), Q 17 (.ld false 1 (.t 16)), Q 18 
 (.fa 4 (.t 2)), Q 19 (.ld false 1 (.t 18)), ⟨some 20, .call 93 [.t 11, .t 13, .t 15, .t 17, .t 19], none⟩, Qc 9 20, Q 21 (.ext 0 (.t 9)), Q 22 (.ext 1 (.t 9)), Qa 6 21, Qa 7 22]) 
 (.seq (.seq (.reg [Qc 23 7, Q 24 (.eqN 0 true (.t 23))]) (.cond (.t 24) (.seq (.reg [Q 25 (.bld [(0, 1), (1, 1)] [.int .i64 0, .int .i64 0] [] []), Qc 26 7, ⟨none, .st 2 (.t 4) 
 (.t 25), none⟩, Qa 5 26]) .ret) .skip)) (.seq (.reg [Q 28 (.fa 1 (.t 2)), Q 29 (.ld false 1 (.t 28)), Q 30 (.fa 0 (.t 3)), Q 31 (.ld false 1 (.t 30)), Q 32 (.fa 3 (.t 2)), Q 33 
 (.ld false 1 (.t 32)), Q 34 (.fa 1 (.t 3)), Q 35 (.ld false 1 (.t 34)), Q 36 (.fa 5 (.t 2)), Q 37 (.ld false 1 (.t 36)), ⟨some 38, .call 93 [.t 29, .t 31, .t 33, .t 35, .t 37], 
 none⟩, Qc 27 38, Q 39 (.ext 0 (.t 27)), Q 40 (.ext 1 (.t 27)), Qa 8 39, Qa 7 40]) (.seq (.seq (.reg [Qc 41 7, Q 42 (.eqN 0 true (.t 41))]) (.cond (.t 42) (.seq (.reg [Q 43 (.bld 
 [(0, 1), (1, 1)] [.int .i64 0, .int .i64 0] [] []), Qc 44 7, ⟨none, .st 2 (.t 4) (.t 43), none⟩, Qa 5 44]) .ret) .skip)) (.seq (.reg [Qc 45 6, Qc 46 8, Q 47 (.bld [(0, 1), (1, 
 1)] [.int .i64 0, .int .i64 0] [] [(0, .t 45), (1, .t 46)]), ⟨none, .st 2 (.t 4) (.t 47), none⟩, Qx 5 (.k (.d .nil))]) .ret)))))
def z0k : List LRes := [.cell 4 true 2, .tmp 5]
theorem z1K : q0t Tryz.prog 134 48 z0d z0k := ⟨_, _, Tryz.func134, rfl, by kernel_rfl, by kernel_rfl, rfl⟩
def q9n : q0j :=
 .seq (.reg [⟨some 2, .box (.t 0), none⟩, ⟨some 3, .box (.t 1), none⟩, ⟨some 4, .allo [.int .i64 0, .int .i64 0, .int .i64 0, .int .i64 0, .int .i64 0, .int .i64 0], none⟩, Qx 5 (.k 
 (.d .nil))]) (.seq (.reg [⟨some 6, .allo [.int .i64 0, .int .i64 0, .int .i64 0, .int .i64 0, .int .i64 0, .int .i64 0], none⟩]) (.seq (.dead [13, 14, 15, 16, 17, 18, 19, 20, 21, 
 22, 23, 24, 25, 26, 27, 28] (.reg [Q 13 (.fa 0 (.t 2)), Q 14 (.ld false 1 (.t 13)), Q 15 (.fa 1 (.t 2)), Q 16 (.ld false 1 (.t 15)), Q 17 (.bld [(0, 1), (1, 1), (2, 1)] [.int 
 .i64 0, .int .i64 0, .int .i64 0] [] [(0, .t 14), (1, .t 16), (2, .k (.d (.int .i64 0)))]), Q 18 (.fa 2 (.t 2)), Q 19 (.ld false 1 (.t 18)), Q 20 (.fa 3 (.t 2)), Q 21 (.ld false 
 1 (.t 20)), Q 22 (.bld [(0, 1), (1, 1), (2, 1)] [.int .i64 0, .int .i64 0, .int .i64 0] [] [(0, .t 19), (1, .t 21), (2, .k (.d (.int .i64 0)))]), Q 23 (.fa 4 (.t 2)), Q 24 (.ld 
 false 1 (.t 23)), Q 25 (.fa 5 (.t 2)), Q 26 (.ld false 1 (.t 25)), Q 27 (.bld [(0, 1), (1, 1), (2, 1)] [.int .i64 0, .int .i64 0, .int .i64 0] [] [(0, .t 24), (1, .t 26), (2, .k 
 (.d (.int .i64 1)))]), ⟨some 28, .bsl 155 3 [.t 17, .t 22, .t 27], none⟩, Qa 7 28])) (.seq (.seq (.reg [Qc 29 7, Q 30 (.len false (.t 29)), Q 31 (.cp (Ki 0))]) (.block 0 (.loop 
 (.seq (.reg [Q 32 (.bin .lss (.t 31) (.t 30))]) (.seq (.cond (.t 32) .skip (.exit 0)) (.seq (.block 1 (.seq (.dead [33, 34, 35] (.reg [Qc 33 31, Q 34 (.ia 3 (.t 29) (.t 31)), Q 
 35 (.ld true 3 (.t 34)), ⟨some 9, .allo [.int .i64 0, .int .i64 0, .int .i64 0], none⟩, Qa 8 33, ⟨none, .st 3 (.t 9) (.t 35), none⟩])) (.seq (.dead [36, 37, 38, 39, 40, 41, 42, 
 43, 44, 45, 46, 47, 48, 49, 50, 51, 52] (.reg [Q 37 (.iaA 3 1 (.t 9) (Ki 0)), Q 38 (.ld false 1 (.t 37)), Q 39 (.fa 0 (.t 3)), Q 40 (.ld false 1 (.t 39)), Q 41 (.iaA 3 1 (.t 9) 
 (Ki 1)), Q 42 (.ld false 1 (.t 41)), Q 43 (.fa 2 (.t 3)), Q 44 (.ld false 1 (.t 43)), Q 45 (.iaA 3 1 (.t 9) (Ki 2)), Q 46 (.ld false 1 (.t 45)), Q 47 (.fa 4 (.t 3)), Q 48 (.ld 
 false 1 (.t 47)), Q 49 (.bin .mul (.t 46) (.t 48)), ⟨some 50, .call 93 [.t 38, .t 40, .t 42, .t 44, .t 49], none⟩, Qc 36 50, Q 51 (.ext 0 (.t 36)), Q 52 (.ext 1 (.t 36)), Qa 10 
 51, Qa 11 52])) (.seq (.seq (.dead [53] (.reg [Qc 53 11, Q 54 (.eqN 0 true (.t 53))])) (.cond (.t 54) (.seq (.dead [55, 56] (.reg [Q 55 (.bld [(0, 1), (1, 1), (2, 1), (3, 1), (4, 
 1), (5, 1)] [.int .i64 0, .int .i64 0, .int .i64 0, .int .i64 0, .int .i64 0, .int .i64 0] [] []), Qc 56 11, ⟨none, .st 6 (.t 4) (.t 55), none⟩, Qa 5 56])) .ret) .skip)) (.seq 
 (.dead [57, 58, 59, 60, 61, 62, 63, 64, 65, 66, 67, 68, 69, 70, 71, 72, 73] (.reg [Q 58 (.iaA 3 1 (.t 9) (Ki 0)), Q 59 (.ld false 1 (.t 58)), Q 60 (.fa 1 (.t 3)), Q 61 (.ld false 
 1 (.t 60)), Q 62 (.iaA 3 1 (.t 9) (Ki 1)), Q 63 (.ld false 1 (.t 62)), Q 64 (.fa 3 (.t 3)), Q 65 (.ld false 1 (.t 64)), Q 66 (.iaA 3 1 (.t 9) (Ki 2)), Q 67 (.ld false 1 (.t 66)), 
 Q 68 (.fa 5 (.t 3)), Q 69 (.ld false 1 (.t 68)), Q 70 (.bin .mul (.t 67) (.t 69)), ⟨some 71, .call 93 [.t 59, .t 61, .t 63, .t 65, .t 70], none⟩, Qc 57 71, Q 72 (.ext 0 (.t 57)), 
 Q 73 (.ext 1 (.t 57)), Qa 12 72, Qa 11 73])) (.seq (.seq (.dead [74] (.reg [Qc 74 11, Q 75 (.eqN 0 true (.t 74))])) (.cond (.t 75) (.seq (.dead [76, 77] (.reg [Q 76 (.bld [(0, 
 1), (1, 1), (2, 1), (3, 1), (4, 1), (5, 1)] [.int .i64 0, .int .i64 0, .int .i64 0, .int .i64 0, .int .i64 0, .int .i64 0] [] []), Qc 77 11, ⟨none, .st 6 (.t 4) (.t 76), none⟩, 
 Qa 5 77])) .ret) .skip)) (.dead [78, 79, 80, 81, 82, 83, 84, 85, 86] (.reg [Qc 78 8, Q 79 (.bin .mul (Ki 2) (.t 78)), Qc 80 8, Q 81 (.bin .mul (Ki 2) (.t 80)), Q 82 (.bin .add 
 (.t 81) (Ki 1)), Qc 83 10, Qc 84 12, Q 85 (.iaA 6 1 (.t 6) (.t 79)), ⟨none, .st 1 (.t 85) (.t 83), none⟩, Q 86 (.iaA 6 1 (.t 6) (.t 82)), ⟨none, .st 1 (.t 86) (.t 84), 
 none⟩])))))))) (.dead [87] (.reg [Q 87 (.bin .add (.t 31) (Ki 1)), Qc 31 87])))))))) (.seq (.dead [88, 89, 90, 91, 92, 93, 94, 95, 96, 97, 98, 99, 100] (.reg [Q 88 (.iaA 6 1 (.t 
 6) (Ki 0)), Q 89 (.ld false 1 (.t 88)), Q 90 (.iaA 6 1 (.t 6) (Ki 1)), Q 91 (.ld false 1 (.t 90)), Q 92 (.iaA 6 1 (.t 6) (Ki 2)), Q 93 (.ld false 1 (.t 92)), Q 94 (.iaA 6 1 (.t 
 6) (Ki 3)), Q 95 (.ld false 1 (.t 94)), Q 96 (.iaA 6 1 (.t 6) (Ki 4)), Q 97 (.ld false 1 (.t 96)), Q 98 (.iaA 6 1 (.t 6) (Ki 5)), Q 99 (.ld false 1 (.t 98)), Q 100 (.bld [(0, 1), 
 (1, 1), (2, 1), (3, 1), (4, 1), (5, 1)] [.int .i64 0, .int .i64 0, .int .i64 0, .int .i64 0, .int .i64 0, .int .i64 0] [] [(0, .t 89), (1, .t 91), (2, .t 93), (3, .t 95), (4, .t 
 97), (5, .t 99)]), ⟨none, .st 6 (.t 4) (.t 100), none⟩, Qx 5 (.k (.d .nil))])) .ret))))
def q9v : List LRes := [.cell 4 true 6, .tmp 5]
theorem z0S : q0t Tryz.prog 67 101 q9n q9v := ⟨_, _, Tryz.func67, rfl, by kernel_rfl, by kernel_rfl, rfl⟩
def mat (a b c d e f : Int) : D := .agg [I a, I b, I c, I d, I e, I f]
def pt (x y : Int) : D := .agg [I x, I y]
theorem q5c : q0u Tryz.prog 30 [] (fun r => r = .one (mat 1000 0 0 1000 0 0)) := by
 refine z27.call rfl ?_
 simp (maxSteps := 2000000) only [go_sem, ↓reduceIte, z1U, z1W, mat, I]
def ptE : Option (Int × Int) → Res
 | some (x, y) => .tup [pt x y, .nil]
 | none => .tup [pt 0 0, err 1]
def z6y (a b c d e f x y : Int) : Option (Int × Int) :=
 match twoF a x c y e, twoF b x d y f with
 | some x, some y => some (x, y)
 | _, _ => none
theorem z7r {a b c d e f x y : Int} : q0u Tryz.prog 134 [mat a b c d e f, pt x y] (fun r => r = ptE (z6y a b c d e f x y)) := by
 refine z1K.call rfl ?_
 unfold z6y
 simp (maxSteps := 2000000) only [go_sem, ↓reduceIte, z0d, z0k, mat, pt, I]
 refine q0k.of q5p ?_
 cases h1 : twoF a x c y e with
 | none =>
  simp (maxSteps := 2000000) only [go_sem, ↓reduceIte, intE, I, err]
  rfl
 | some u =>
  simp (maxSteps := 2000000) only [go_sem, ↓reduceIte, intE, I]
  refine q0k.of q5p ?_
  cases h2 : twoF b x d y f with
  | none =>
   simp (maxSteps := 2000000) only [go_sem, ↓reduceIte, intE, I, err]
   rfl
  | some v =>
   simp (maxSteps := 2000000) only [go_sem, ↓reduceIte, intE, I]
   rfl
def matE : Option (Int × Int × Int × Int × Int × Int) → Res
 | some (a, b, c, d, e, f) => .tup [mat a b c d e f, .nil]
 | none => .tup [mat 0 0 0 0 0 0, err 1]
def rowF (a b c p q r s t u : Int) : Option (Int × Int) :=
 match twoF a p b r (IntKind.i64.wrap (c * t)), twoF a q b s (IntKind.i64.wrap (c * u)) with
 | some x, some y => some (x, y)
 | _, _ => none
def z2G (a b c d e f p q r s t u : Int) : Option (Int × Int × Int × Int × Int × Int) :=
 match rowF a b 0 p q r s t u, rowF c d 0 p q r s t u, rowF e f 1 p q r s t u with
 | some (x, y), some (z, k), some (v, w) => some (x, y, z, k, v, w)
 | _, _, _ => none
theorem z5h {a b c d e f p q r s t u : Int} : q0u Tryz.prog 67 [mat a b c d e f, mat p q r s t u] (fun x => x = matE (z2G a b c d e f p q r s t u)) := by
 refine z0S.call rfl ?_
 unfold z2G rowF
 simp (maxSteps := 2000000) only [go_sem, ↓reduceIte, q9n, q9v, mat, pt, I]
 refine q10 ?_
 simp (maxSteps := 2000000) only [go_sem, ↓reduceIte, getI]
 refine q0k.of q5p ?_
 cases h1 : twoF a p b r (IntKind.i64.wrap (0 * t)) with
 | none =>
  simp (maxSteps := 2000000) only [go_sem, ↓reduceIte, intE, I, err]
  rfl
 | some x0 =>
  simp (maxSteps := 2000000) only [go_sem, ↓reduceIte, intE, I]
  refine q0k.of q5p ?_
  cases h2 : twoF a q b s (IntKind.i64.wrap (0 * u)) with
  | none =>
   simp (maxSteps := 2000000) only [go_sem, ↓reduceIte, intE, I, err]
   rfl
  | some y0 =>
   simp (maxSteps := 2000000) only [go_sem, ↓reduceIte, intE, I]
   refine q10 ?_
   simp (maxSteps := 2000000) only [go_sem, ↓reduceIte, getI]
   refine q0k.of q5p ?_
   cases h3 : twoF c p d r (IntKind.i64.wrap (0 * t)) with
   | none =>
    simp (maxSteps := 2000000) only [go_sem, ↓reduceIte, intE, I, err]
    rfl
   | some x1 =>
    simp (maxSteps := 2000000) only [go_sem, ↓reduceIte, intE, I]
    refine q0k.of q5p ?_
    cases h4 : twoF c q d s (IntKind.i64.wrap (0 * u)) with
    | none =>
     simp (maxSteps := 2000000) only [go_sem, ↓reduceIte, intE, I, err]
     rfl
    | some y1 =>
     simp (maxSteps := 2000000) only [go_sem, ↓reduceIte, intE, I]
     refine q10 ?_
     simp (maxSteps := 2000000) only [go_sem, ↓reduceIte, getI]
     refine q0k.of q5p ?_
     cases h5 : twoF e p f r (IntKind.i64.wrap (1 * t)) with
     | none =>
      simp (maxSteps := 2000000) only [go_sem, ↓reduceIte, intE, I, err]
      rfl
     | some x2 =>
      simp (maxSteps := 2000000) only [go_sem, ↓reduceIte, intE, I]
      refine q0k.of q5p ?_
      cases h6 : twoF e q f s (IntKind.i64.wrap (1 * u)) with
      | none =>
       simp (maxSteps := 2000000) only [go_sem, ↓reduceIte, intE, I, err]
       rfl
      | some y2 =>
       simp (maxSteps := 2000000) only [go_sem, ↓reduceIte, intE, I]
       refine q10 ?_
       simp (maxSteps := 2000000) only [go_sem, ↓reduceIte]
       rfl
def q3b : q0j :=
 .seq (.reg [Qx 2 (Ki 0)]) (.seq (.seq (.reg [Qc 3 0, Q 4 (.bin .lss (.t 3) (Ki (-1000000000))), Qc 5 4, Qd 6 0 5 false, Qg 7 (.bin .gtr (.t 6) (Ki 1000000000)) 5 false, Q 8 (.pick 
 (.t 5) KT (.t 7))]) (.cond (.t 8) (.seq (.reg [Qx 2 (Ki 1)]) .ret) .skip)) (.seq (.reg [Qx 2 (Ki 0)]) .ret))
def q3d : List LRes := [.tmp 2]
theorem q4L : q0t Tryz.prog 26 9 q3b q3d := ⟨_, _, Tryz.func26, rfl, by kernel_rfl, by kernel_rfl, rfl⟩
def fltI (n : Int) : Int := if Lim n then 0 else 1
theorem z2f (n : Int) : q0u Tryz.prog 26 [.int .i64 n] (fun r => r = .one (.int .i64 (fltI n))) := by
 refine q4L.call rfl ?_
 simp (maxSteps := 2000000) only [go_sem, ↓reduceIte, q3b, q3d]
 unfold fltI
 by_cases h : Lim n
 ·rw [if_pos h]
  unfold Lim at h
  exact ⟨fun a => ⟨fun b => by omega, fun b => rfl⟩, fun a => by omega⟩
 ·rw [if_neg h]
  unfold Lim at h
  exact ⟨fun a => ⟨fun b => rfl, fun b => by omega⟩, fun a => rfl⟩
theorem z9p {n : Int} (h : Lim n) : fltI n = 0 := if_pos h
theorem z9o {n : Int} (h : ¬ Lim n) : fltI n = 1 := if_neg h
def z3K : q0j :=
 .seq (.reg [Qx 4 (Ki 0), Qx 5 (.k (.d .nil))]) (.seq (.seq (.reg [Qc 7 0, ⟨some 8, .call 78 [.t 7], none⟩, Q 9 (.eqN 0 true (.t 8)), Qc 10 9, Qd 11 1 10 false, ⟨some 12, .call 78 
 [.t 11], some (10, false)⟩, Qg 13 (.eqN 0 true (.t 12)) 10 false, Q 14 (.pick (.t 10) KT (.t 13))]) (.cond (.t 14) (.seq (.reg [Q 15 (.mkI 76 (Ki 1)), Qx 4 (Ki 0), Qa 5 15]) 
 .ret) .skip)) (.seq (.reg [Qc 16 0, Qc 17 1, Q 18 (.bin .mul (.t 16) (.t 17)), ⟨some 19, .call 115 [.t 18], none⟩, Qa 6 19]) (.seq (.reg [Qc 20 6, ⟨some 21, .call 114 [.t 20], 
 none⟩, Q 22 (.ext 0 (.t 21)), Q 23 (.ext 1 (.t 21)), Qa 4 22, Qa 5 23]) .ret)))
def z3N : List LRes := [.tmp 4, .tmp 5]
theorem z4x : q0t Tryz.prog 120 24 z3K z3N := ⟨_, _, Tryz.func120, rfl, by kernel_rfl, by kernel_rfl, rfl⟩
def z3J : q0j :=
 .seq (.reg [Qx 4 (Ki 0), Qx 5 (.k (.d .nil))]) (.seq (.seq (.reg [Qc 6 0, ⟨some 7, .call 78 [.t 6], none⟩, Q 8 (.eqN 0 true (.t 7)), Qc 9 8, Qd 10 1 9 false, ⟨some 11, .call 78 [.t 
 10], some (9, false)⟩, Qg 12 (.eqN 0 true (.t 11)) 9 false, Q 13 (.pick (.t 9) KT (.t 12))]) (.cond (.t 13) (.seq (.reg [Q 14 (.mkI 76 (Ki 1)), Qx 4 (Ki 0), Qa 5 14]) .ret) 
 .skip)) (.seq (.reg [Qc 15 0, Qc 16 1, Q 17 (.bin .add (.t 15) (.t 16)), ⟨some 18, .call 114 [.t 17], none⟩, Q 19 (.ext 0 (.t 18)), Q 20 (.ext 1 (.t 18)), Qa 4 19, Qa 5 20]) 
 .ret))
def z3M : List LRes := [.tmp 4, .tmp 5]
theorem z4w : q0t Tryz.prog 135 21 z3J z3M := ⟨_, _, Tryz.func135, rfl, by kernel_rfl, by kernel_rfl, rfl⟩
def mulF (a b : Int) : Option Int := if Lim a ∧ Lim b then okF (a * b / 1000) else none
def addF (a b : Int) : Option Int := if Lim a ∧ Lim b then okF (a + b) else none
theorem j16 (a b : Int) : q0u Tryz.prog 120 [.int .i64 a, .int .i64 b] (fun r => r = intE (mulF a b)) := by
 refine z4x.call rfl ?_
 simp (maxSteps := 2000000) only [go_sem, ↓reduceIte, z3K, z3N]
 unfold mulF
 by_cases ha : Lim a
 ·refine q0k.of (q3G ha) ?_
  simp (maxSteps := 2000000) only [go_sem, ↓reduceIte]
  by_cases hb : Lim b
  ·refine q0k.of (q3G hb) ?_
   rw [if_pos ⟨ha, hb⟩]
   have b1 := z9W ha.1 ha.2 hb.1 hb.2
   simp (maxSteps := 2000000) (disch := omega) only [go_sem, ↓reduceIte]
   refine q0k.of (z2j (by unfold i64; omega)) ?_
   simp (maxSteps := 2000000) only [go_sem, ↓reduceIte, I]
   refine q0k.of (z54 _) ?_
   cases okF (a * b / 1000) <;> simp (maxSteps := 2000000) only [go_sem, ↓reduceIte, intE, I, err]
  ·refine q0k.of (q2I hb) ?_
   rw [if_neg (fun h => hb h.2)]
   simp (maxSteps := 2000000) only [go_sem, ↓reduceIte, intE, I, err]
 ·refine q0k.of (q2I ha) ?_
  rw [if_neg (fun h => ha h.1)]
  simp (maxSteps := 2000000) only [go_sem, ↓reduceIte, intE, I, err]
theorem j1b (a b : Int) : q0u Tryz.prog 135 [.int .i64 a, .int .i64 b] (fun r => r = intE (addF a b)) := by
 refine z4w.call rfl ?_
 simp (maxSteps := 2000000) only [go_sem, ↓reduceIte, z3J, z3M]
 unfold addF
 by_cases ha : Lim a
 ·refine q0k.of (q3G ha) ?_
  simp (maxSteps := 2000000) only [go_sem, ↓reduceIte]
  by_cases hb : Lim b
  ·refine q0k.of (q3G hb) ?_
   rw [if_pos ⟨ha, hb⟩]
   have w : IntKind.i64.wrap (a + b) = a + b := IntWalk.i64_in _ (by unfold Lim at ha hb; omega)
   simp (maxSteps := 2000000) only [go_sem, ↓reduceIte, w]
   refine q0k.of (z54 _) ?_
   cases okF (a + b) <;> simp (maxSteps := 2000000) only [go_sem, ↓reduceIte, intE, I, err]
  ·refine q0k.of (q2I hb) ?_
   rw [if_neg (fun h => hb h.2)]
   simp (maxSteps := 2000000) only [go_sem, ↓reduceIte, intE, I, err]
 ·refine q0k.of (q2I ha) ?_
  rw [if_neg (fun h => ha h.1)]
  simp (maxSteps := 2000000) only [go_sem, ↓reduceIte, intE, I, err]
def boxD (b : Int × Int × Int × Int) : D := .agg [I b.1, I b.2.1, I b.2.2.1, I b.2.2.2]
def ptsD (l : List (Int × Int)) : List D := l.map fun p => pt p.1 p.2
theorem z6c (l : List (Int × Int)) : (ptsD l).length = l.length := by simp [ptsD]
theorem z62 (l : List (Int × Int)) (j : Nat) : (ptsD l)[j]? = (l[j]?).map fun p => pt p.1 p.2 := by simp [ptsD]
def minI (a b : Int) : Int := if b < a then b else a
def maxI (a b : Int) : Int := if a < b then b else a
def z5E (b : Int × Int × Int × Int) (p : Int × Int) : Int × Int × Int × Int := (minI b.1 p.1, minI b.2.1 p.2, maxI b.2.2.1 p.1, maxI b.2.2.2 p.2)
def q4z : List (Int × Int) → Int × Int × Int × Int
 | [] => (0, 0, 0, 0)
 | p :: r => r.foldl z5E (p.1, p.2, p.1, p.2)
def q9m : q0j :=
 .seq (.reg [⟨some 2, .allo [.int .i64 0, .int .i64 0, .int .i64 0, .int .i64 0], none⟩]) (.seq (.reg [⟨some 3, .allo [.int .i64 0, .int .i64 0, .int .i64 0, .int .i64 0], none⟩]) 
 (.seq (.seq (.reg [Qc 6 0, Q 7 (.len false (.t 6)), Q 8 (.cp (Ki 0))]) (.block 0 (.loop (.seq (.reg [Q 9 (.bin .lss (.t 8) (.t 7))]) (.seq (.cond (.t 9) .skip (.exit 0)) (.seq 
 (.block 1 (.seq (.reg [Qc 10 8, Q 11 (.ia 2 (.t 6) (.t 8)), Q 12 (.ld true 2 (.t 11)), ⟨some 5, .allo [.int .i64 0, .int .i64 0], none⟩, Qa 4 10, ⟨none, .st 2 (.t 5) (.t 12), 
 none⟩]) (.seq (.seq (.reg [Qc 13 4, Q 14 (.bin .eql (.t 13) (Ki 0))]) (.cond (.t 14) (.reg [Q 15 (.fa 0 (.t 5)), Q 16 (.ld false 1 (.t 15)), Q 17 (.fa 1 (.t 5)), Q 18 (.ld false 
 1 (.t 17)), Q 19 (.fa 0 (.t 5)), Q 20 (.ld false 1 (.t 19)), Q 21 (.fa 1 (.t 5)), Q 22 (.ld false 1 (.t 21)), Q 23 (.bld [(0, 1), (1, 1), (2, 1), (3, 1)] [.int .i64 0, .int .i64 
 0, .int .i64 0, .int .i64 0] [] [(0, .t 16), (1, .t 18), (2, .t 20), (3, .t 22)]), ⟨none, .st 4 (.t 3) (.t 23), none⟩]) .skip)) (.reg [Q 24 (.fa 0 (.t 3)), Q 25 (.ld false 1 (.t 
 24)), Q 26 (.fa 0 (.t 5)), Q 27 (.ld false 1 (.t 26)), Q 28 (.mm false (.t 25) (.t 27)), Q 29 (.fa 1 (.t 3)), Q 30 (.ld false 1 (.t 29)), Q 31 (.fa 1 (.t 5)), Q 32 (.ld false 1 
 (.t 31)), Q 33 (.mm false (.t 30) (.t 32)), Q 34 (.fa 2 (.t 3)), Q 35 (.ld false 1 (.t 34)), Q 36 (.fa 0 (.t 5)), Q 37 (.ld false 1 (.t 36)), Q 38 (.mm true (.t 35) (.t 37)), Q 
 39 (.fa 3 (.t 3)), Q 40 (.ld false 1 (.t 39)), Q 41 (.fa 1 (.t 5)), Q 42 (.ld false 1 (.t 41)), Q 43 (.mm true (.t 40) (.t 42)), Q 44 (.bld [(0, 1), (1, 1), (2, 1), (3, 1)] [.int 
 .i64 0, .int .i64 0, .int .i64 0, .int .i64 0] [] [(0, .t 28), (1, .t 33), (2, .t 38), (3, .t 43)]), ⟨none, .st 4 (.t 3) (.t 44), none⟩])))) (.reg [Q 45 (.bin .add (.t 8) (Ki 
 1)), Qc 8 45]))))))) (.seq (.reg [Q 46 (.ld true 4 (.t 3)), ⟨none, .st 4 (.t 2) (.t 46), none⟩]) .ret)))
def q9u : List LRes := [.cell 2 true 4]
theorem z0R : q0t Tryz.prog 118 47 q9m q9u := ⟨_, _, Tryz.func118, rfl, by kernel_rfl, by kernel_rfl, rfl⟩
theorem z5c (l : List (Int × Int)) (hl : l.length ≤ 100000) : q0u Tryz.prog 118 [.list (ptsD l)] (fun r => r = .one (boxD (q4z l))) := by
 refine z0R.call rfl ?_
 have hI : ((ptsD l).length : Int) = (l.length : Int) := by rw [z6c]
 simp (maxSteps := 2000000) only [go_sem, ↓reduceIte, q9m, q9u, hI]
 have hstep : ∀ (i : Nat) (p : Int × Int), 0 < i → l[i]? = some p → q4z (l.take (i + 1)) = z5E (q4z (l.take i)) p := fun i p hi hp => by
  rw [z47 hp]
  cases hl2 : l.take i with
  | nil =>
   have hlt : i < l.length := (List.getElem?_eq_some_iff.1 hp).1
   have := congrArg List.length hl2
   rw [List.length_take, List.length_nil] at this
   omega
  | cons q r => simp [q4z, List.foldl_append]
 have hfirst : ∀ p : Int × Int, z5E (p.1, p.2, p.1, p.2) p = (p.1, p.2, p.1, p.2) := fun p => by simp [z5E, minI, maxI]
 refine q0s (fun i : Nat => ⟨[(0, .d (.list (ptsD l))), (2, .ptr (.l 2) 0), (3, .ptr (.l 3) 0), (6, .d (.list (ptsD l))), (7, .d (.int .i64 l.length)), (8, .d (.int .i64 i))],
   [(2, .cells [.d (I 0), .d (I 0), .d (I 0), .d (I 0)]), (3, .cells [.d (I (q4z (l.take i)).1), .d (I (q4z (l.take i)).2.1), .d (I (q4z (l.take i)).2.2.1), .d (I (q4z (l.take i)).2.2.2)])], []⟩)
  (fun i => i ≤ l.length) (fun i => l.length - i) 0 ?_ ?_ ?_
 ·refine Weak.mk ?_ ?_ ?_ <;> simp (maxSteps := 2000000) only [go_sem, ↓reduceIte, Sub, Int.natCast_add, Int.natCast_mul, I, q4z]
 ·omega
 ·intro i hi
  simp (maxSteps := 2000000) only [go_sem, ↓reduceIte, I]
  refine ⟨fun q1 => ?_, fun q1 => ?_⟩
  ·obtain ⟨p, hp⟩ := get_some (l := l) (i := i) (by omega)
   by_cases hz : i = 0
   ·subst hz
    have h1 : q4z (l.take (0 + 1)) = z5E (p.1, p.2, p.1, p.2) p := by
     rw [z47 hp, hfirst]; rfl
    have g0 : getI (ptsD l) 0 = some (pt p.1 p.2) := by
     show getI (ptsD l) ((0 : Nat) : Int) = _
     rw [q0c, z62, hp]; rfl
    simp (maxSteps := 2000000) (disch := omega) only [go_sem, ↓reduceIte, g0, pt, I]
    refine ⟨1, ?_, by omega, by omega⟩
    rw [Nat.zero_add] at h1
    refine Weak.mk ?_ ?_ ?_ <;> simp (maxSteps := 2000000) only [go_sem, ↓reduceIte, Sub, Int.natCast_add, Int.natCast_mul, I, h1, z5E, minI, maxI]
   ·have hz' : ¬ (i : Int) = 0 := by omega
    have h1 := hstep i p (by omega) hp
    simp (maxSteps := 2000000) (disch := omega) only [go_sem, ↓reduceIte, q0c, z62, hp, pt, I, hz']
    refine ⟨i + 1, ?_, by omega, by omega⟩
    refine Weak.mk ?_ ?_ ?_ <;> simp (maxSteps := 2000000) only [go_sem, ↓reduceIte, Sub, Int.natCast_add, Int.natCast_mul, I, h1, z5E, minI, maxI]
  ·have hil : i = l.length := by omega
   rw [hil, List.take_length]
   simp (maxSteps := 2000000) only [go_sem, ↓reduceIte, I, boxD]
theorem q1J {α : Type} {l : List α} {i : Nat} {x : α} (h : l[i]? = some x) : l.drop i = x :: l.drop (i + 1) := by
 obtain ⟨h1, h2⟩ := List.getElem?_eq_some_iff.1 h
 rw [List.drop_eq_getElem_cons h1, h2]
open Go.Lib (decodeL decodeN decodeN_shape decodeL_N encodeRune encodeRuneZ decodeLastL validD)
def q3P (r : Nat) : Prop := r < 55296 ∨ (57344 ≤ r ∧ r ≤ 1114111)
instance (r : Nat) : Decidable (q3P r) := by unfold q3P; infer_instance
def enc (r : Nat) : List UInt8 := encodeRune (r : Int)
def bad (l : List UInt8) : Bool := decide ((decodeL l).1 = 65533) && decide ((decodeL l).2 = 1)
theorem z8L {l : List UInt8} : bad l = true ↔ (decodeL l).1 = 65533 ∧ (decodeL l).2 = 1 := by simp [bad]
theorem z0v {l : List UInt8} (hne : l ≠ []) : 1 ≤ (decodeL l).2 ∧ (decodeL l).2 ≤ 4 ∧ (decodeL l).2 ≤ l.length ∧ q3P (decodeL l).1 ∧ (bad l = false → l.take (decodeL l).2 = enc (decodeL l).1) := by
 refine ⟨?_, ?_, Lib.decodeL_le l hne, ?_, fun hb => ?_⟩
 ·have hl : 0 < l.length := List.length_pos_iff.2 hne
  rw [decodeL_N]
  rcases decodeN_shape l.length (l.getD 0 0).toNat (l.getD 1 0).toNat (l.getD 2 0).toNat (l.getD 3 0).toNat with ⟨c, e⟩ | ⟨c1, c2, c3, cv, e⟩ | ⟨c1, c2, c3, c4, cv, cs, e⟩ | ⟨c1, c2, c3, c4, c5, cv, cw, e⟩ | e
  all_goals (rw [e]; dsimp only; omega)
 ·rw [decodeL_N]
  rcases decodeN_shape l.length (l.getD 0 0).toNat (l.getD 1 0).toNat (l.getD 2 0).toNat (l.getD 3 0).toNat with ⟨c, e⟩ | ⟨c1, c2, c3, cv, e⟩ | ⟨c1, c2, c3, c4, cv, cs, e⟩ | ⟨c1, c2, c3, c4, c5, cv, cw, e⟩ | e
  all_goals (rw [e]; dsimp only; omega)
 ·have k1 := (l.getD 1 0).toNat_lt
  rw [decodeL_N]
  unfold q3P
  rcases decodeN_shape l.length (l.getD 0 0).toNat (l.getD 1 0).toNat (l.getD 2 0).toNat (l.getD 3 0).toNat with ⟨c, e⟩ | ⟨c1, c2, c3, cv, e⟩ | ⟨c1, c2, c3, c4, cv, cs, e⟩ | ⟨c1, c2, c3, c4, c5, cv, cw, e⟩ | e
  all_goals (rw [e]; dsimp only; omega)
 ·exact (Lib.encode_decode l hne (fun h => by rw [z8L.2 h] at hb; cases hb)).symm
/-! ### A text's signs -/
def q9Q : Nat → List UInt8 → Option (List Nat)
 | 0, _ => some []
 | f + 1, l => if l = [] then some [] else if bad l = true then none else (q9Q f (l.drop (decodeL l).2)).map ((decodeL l).1 :: ·)
def q0X (l : List UInt8) : Option (List Nat) := q9Q l.length l
theorem q69 : ∀ f, q9Q f [] = some []
 | 0 => rfl
 | f + 1 => by simp [q9Q]
theorem z1h : ∀ (f g : Nat) (l : List UInt8), l.length ≤ f → l.length ≤ g → q9Q f l = q9Q g l
 | 0, g, l, h, _ => by have : l = [] := List.length_eq_zero_iff.1 (by omega); subst this; rw [q69, q69]
 | f + 1, 0, l, _, h => by have : l = [] := List.length_eq_zero_iff.1 (by omega); subst this; rw [q69, q69]
 | f + 1, g + 1, l, h1, h2 => by
  simp only [q9Q]
  by_cases hl : l = []
  ·simp [hl]
  ·have := (z0v hl).1
   have := List.length_pos_iff.2 hl
   rw [z1h f g (l.drop (decodeL l).2) (by simp; omega) (by simp; omega)]
theorem z78 : q0X [] = some [] := rfl
theorem z1i {l : List UInt8} (hl : l ≠ []) : q0X l = if bad l = true then none else (q0X (l.drop (decodeL l).2)).map ((decodeL l).1 :: ·) := by
 unfold q0X
 obtain ⟨c, r, rfl⟩ : ∃ c r, l = c :: r := by cases l with | nil => exact absurd rfl hl | cons c r => exact ⟨c, r, rfl⟩
 have h1 := (z0v hl).1
 conv => lhs; rw [List.length_cons, q9Q, if_neg hl]
 rw [z1h r.length _ (List.drop _ _) (by simp; omega) (Nat.le_refl _)]
def encM (rs : List Nat) : List UInt8 := rs.flatMap enc
theorem q7a : ∀ (n : Nat) {l : List UInt8} {rs : List Nat}, l.length ≤ n → q0X l = some rs → encM rs = l ∧ ∀ r ∈ rs, q3P r
 | n, [], rs, _, h => by cases h; exact ⟨rfl, by simp⟩
 | 0, c :: l, rs, h, _ => by simp at h
 | n + 1, c :: l, rs, hn, h => by
  have hne : c :: l ≠ [] := by simp
  rw [z1i hne] at h
  obtain ⟨f1, f2, f3, f4, f5⟩ := z0v hne
  split at h
  ·cases h
  ·rename_i hb
   obtain ⟨rs', h1, rfl⟩ := Option.map_eq_some_iff.1 h
   obtain ⟨e1, e2⟩ := q7a n (by simp at hn ⊢; omega) h1
   refine ⟨?_, fun r hr => ?_⟩
   ·show enc _ ++ encM rs' = _
    rw [e1, ← f5 (by simpa using hb)]; exact List.take_append_drop _ _
   ·rcases List.mem_cons.1 hr with rfl | hr
    ·exact f4
    ·exact e2 r hr
/-! ### A sign's bytes, read -/
theorem q5I {r : Nat} (h : q3P r) :
  (r < 128 ∧ enc r = [UInt8.ofNat r]) ∨ (128 ≤ r ∧ r < 2048 ∧ enc r = [UInt8.ofNat (192 + r / 64), UInt8.ofNat (128 + r % 64)]) ∨
  (2048 ≤ r ∧ r < 65536 ∧ enc r = [UInt8.ofNat (224 + r / 4096), UInt8.ofNat (128 + r / 64 % 64), UInt8.ofNat (128 + r % 64)]) ∨
  (65536 ≤ r ∧ r ≤ 1114111 ∧ enc r = [UInt8.ofNat (240 + r / 262144), UInt8.ofNat (128 + r / 4096 % 64), UInt8.ofNat (128 + r / 64 % 64), UInt8.ofNat (128 + r % 64)]) := by
 unfold q3P at h
 have t : ∀ (z : Int) (k : Nat), z = (k : Int) → z.toNat.toUInt8 = UInt8.ofNat k := fun z k e => by rw [e]; rfl
 by_cases h1 : r < 128
 ·left; refine ⟨h1, ?_⟩
  unfold enc encodeRune
  rw [Lib.encodeRuneZ_one (by omega) (by omega)]
  simp only [List.map_cons, List.map_nil]; rw [t r r rfl]
 ·by_cases h2 : r < 2048
  ·right; left; refine ⟨by omega, h2, ?_⟩
   unfold enc encodeRune
   rw [Lib.encodeRuneZ_two (by omega) (by omega)]
   simp only [List.map_cons, List.map_nil]; rw [t (192 + (r : Int) / 64) (192 + r / 64) (by omega), t (128 + (r : Int) % 64) (128 + r % 64) (by omega)]
  ·by_cases h3 : r < 65536
   ·right; right; left; refine ⟨by omega, h3, ?_⟩
    unfold enc encodeRune
    rw [Lib.encodeRuneZ_three (by omega)]
    simp only [List.map_cons, List.map_nil]; rw [t (224 + (r : Int) / 4096) (224 + r / 4096) (by omega), t (128 + (r : Int) / 64 % 64) (128 + r / 64 % 64) (by omega), t (128 + (r : Int) % 64) (128 + r % 64) (by omega)]
   ·right; right; right; refine ⟨by omega, by omega, ?_⟩
    unfold enc encodeRune
    rw [Lib.encodeRuneZ_four (by omega) (by omega)]
    simp only [List.map_cons, List.map_nil]
    rw [t (240 + (r : Int) / 262144) (240 + r / 262144) (by omega), t (128 + (r : Int) / 4096 % 64) (128 + r / 4096 % 64) (by omega), t (128 + (r : Int) / 64 % 64) (128 + r / 64 % 64) (by omega), t (128 + (r : Int) % 64) (128 + r % 64) (by omega)]
theorem ofNat_toNat {k : Nat} (h : k < 256) : (UInt8.ofNat k).toNat = k := by simp [UInt8.toNat_ofNat']; omega
theorem z7u {r : Nat} (h : q3P r) (t : List UInt8) : decodeL (enc r ++ t) = (r, (enc r).length) := by
 rw [decodeL_N]
 unfold q3P at h
 rcases q5I h with ⟨a, e⟩ | ⟨a, b, e⟩ | ⟨a, b, e⟩ | ⟨a, b, e⟩
 all_goals rw [e]
 ·simp only [List.cons_append, List.nil_append, List.getD_cons_zero, List.length_cons, List.length_nil]
  rw [ofNat_toNat (by omega), decodeN, if_pos a]
 ·simp only [List.cons_append, List.nil_append, List.getD_cons_zero, List.getD_cons_succ, List.length_cons, List.length_nil]
  rw [ofNat_toNat (by omega), ofNat_toNat (by omega), decodeN, if_neg (by omega), if_pos (by omega), if_pos (by omega)]
  congr 1; omega
 ·simp only [List.cons_append, List.nil_append, List.getD_cons_zero, List.getD_cons_succ, List.length_cons, List.length_nil]
  rw [ofNat_toNat (by omega), ofNat_toNat (by omega), ofNat_toNat (by omega), decodeN, if_neg (by omega), if_neg (by omega), if_pos (by omega), if_pos (by omega)]
  congr 1; omega
 ·simp only [List.cons_append, List.nil_append, List.getD_cons_zero, List.getD_cons_succ, List.length_cons, List.length_nil]
  rw [ofNat_toNat (by omega), ofNat_toNat (by omega), ofNat_toNat (by omega), ofNat_toNat (by omega), decodeN, if_neg (by omega), if_neg (by omega), if_neg (by omega), if_pos (by omega), if_pos (by omega)]
  congr 1; omega
theorem z2K {r : Nat} (h : q3P r) : 1 ≤ (enc r).length ∧ (enc r).length ≤ 4 ∧ enc r ≠ [] := by
 rcases q5I h with ⟨a, e⟩ | ⟨a, b, e⟩ | ⟨a, b, e⟩ | ⟨a, b, e⟩ <;> (rw [e]; simp)
theorem z1I (t : List UInt8) {c0 c1 c2 c3 : UInt8} (h3 : 128 ≤ c3.toNat) (h2 : Lib.runeStartB c2 = false) (h1 : Lib.runeStartB c1 = false) (h0 : Lib.runeStartB c0 = true) (hd : (decodeL [c0, c1, c2, c3]).2 = 4) : decodeLastL (t ++ [c0, c1, c2, c3]) = decodeL [c0, c1, c2, c3] := by
 have g1 := Lib.getD_app_end t [c0, c1, c2, c3] 1 (by omega) (by simp)
 have g2 := Lib.getD_app_end t [c0, c1, c2, c3] 2 (by omega) (by simp)
 have g3 := Lib.getD_app_end t [c0, c1, c2, c3] 3 (by omega) (by simp)
 have g4 := Lib.getD_app_end t [c0, c1, c2, c3] 4 (by omega) (by simp)
 have hl : (t ++ [c0, c1, c2, c3]).length = t.length + 4 := by simp
 have hs : Lib.lastStart (t ++ [c0, c1, c2, c3]) = (t ++ [c0, c1, c2, c3]).length - 4 := by
  unfold Lib.lastStart
  simp only [g2, g3, g4]
  rw [if_neg (by omega)]
  simp only [List.length_cons, List.length_nil, List.getD_cons_succ, List.getD_cons_zero, Nat.reduceAdd, Nat.reduceSub, h2, h1, h0, Bool.false_eq_true, if_false, if_true]
  rw [if_neg (by omega), if_neg (by omega)]
 have hdrop := Lib.drop_app_end t [c0, c1, c2, c3]
 unfold decodeLastL
 rw [if_neg (by simp), g1, if_neg (by simp; omega), hs]
 simp only [List.length_cons, List.length_nil] at hdrop
 simp only [hdrop, hd]
 rw [if_pos (by omega)]
theorem j1S {r : Nat} (h : q3P r) (t : List UInt8) : decodeLastL (t ++ enc r) = (r, (enc r).length) := by
 have hd := z7u h []
 rw [List.append_nil] at hd
 have h' := h
 unfold q3P at h'
 have st : ∀ k, k < 256 → Lib.runeStartB (UInt8.ofNat k) = (k / 64 != 2) := fun k hk => by unfold Lib.runeStartB; rw [ofNat_toNat hk]
 have nc : ∀ k : Nat, 128 ≤ k → k < 192 → Lib.runeStartB (UInt8.ofNat k) = false := by
  intro k h1 h2
  have h3 : k / 64 = 2 := by omega
  rw [st k (by omega), h3]; rfl
 have ns : ∀ k : Nat, 192 ≤ k → k < 256 → Lib.runeStartB (UInt8.ofNat k) = true := by
  intro k h1 h2
  have h3 : k / 64 = 3 := by omega
  rw [st k (by omega), h3]; rfl
 rcases q5I h with ⟨a, e⟩ | ⟨a, b, e⟩ | ⟨a, b, e⟩ | ⟨a, b, e⟩
 ·have g1 := Lib.getD_app_end t [UInt8.ofNat r] 1 (by omega) (by simp)
  rw [e]
  unfold decodeLastL
  rw [if_neg (by simp), g1]
  simp only [List.length_cons, List.length_nil, Nat.sub_self, List.getD_cons_zero, Nat.zero_add]
  rw [if_pos (by rw [ofNat_toNat (by omega)]; exact a), ofNat_toNat (by omega)]
 ·rw [e] at hd ⊢
  rw [Lib.last2 t _ _ (by rw [ofNat_toNat (by omega)]; omega) (ns _ (by omega) (by omega)) (by rw [hd]; rfl), hd]
 ·rw [e] at hd ⊢
  rw [Lib.last3 t _ _ _ (by rw [ofNat_toNat (by omega)]; omega) (nc _ (by omega) (by omega)) (ns _ (by omega) (by omega)) (by rw [hd]; rfl), hd]
 ·rw [e] at hd ⊢
  rw [z1I t (by rw [ofNat_toNat (by omega)]; omega) (nc _ (by omega) (by omega)) (nc _ (by omega) (by omega)) (ns _ (by omega) (by omega)) (by rw [hd]; rfl), hd]
theorem q8U {r : Nat} (h : q3P r) : (Utf8.encode (r : Int)).data.toList = enc r := by
 have hv : Utf8.valid (r : Int) = true := by unfold q3P at h; simp [Utf8.valid]; omega
 unfold Utf8.encode
 simp only [hv, if_true, Int.toNat_natCast]
 unfold q3P at h
 rcases q5I h with ⟨a, e⟩ | ⟨a, b, e⟩ | ⟨a, b, e⟩ | ⟨a, b, e⟩
 ·simp only [if_pos a, e]
 ·have a' : ¬ r < 128 := by omega
  simp only [if_neg a', if_pos b, e]
 ·have a' : ¬ r < 128 := by omega
  have b' : ¬ r < 2048 := by omega
  simp only [if_neg a', if_neg b', if_pos b, e]
 ·have a' : ¬ r < 128 := by omega
  have b' : ¬ r < 2048 := by omega
  have c' : ¬ r < 65536 := by omega
  simp only [if_neg a', if_neg b', if_neg c', e]
end Go.Av.Tryz
set_option linter.unusedSimpArgs false
set_option maxRecDepth 100000
namespace Go.Av.Tryz
open Go.Proofs
open Go.Lib (decodeL decodeN decodeN_shape decodeL_N)
def q16 (l : List Nat) : List D := l.map fun (n : Nat) => D.int .i64 (n : Int)
theorem q0y (l : List Nat) : (q16 l).length = l.length := by simp [q16]
theorem q5o (a b : List Nat) : q16 (a ++ b) = q16 a ++ q16 b := by simp [q16]
theorem q6P (l : List Nat) (j : Nat) : (q16 l)[j]? = (l[j]?).map fun (n : Nat) => D.int .i64 (n : Int) := by simp [q16]
def cumR (l : List UInt8) (r0 : Nat) : Nat → Nat
 | 0 => r0
 | j + 1 => 64 * cumR l r0 j + (l.getD (j + 1) 0).toNat - 128
def q7F (l : List UInt8) (j : Nat) : Prop := 128 ≤ (l.getD j 0).toNat ∧ (l.getD j 0).toNat ≤ 191
def q6h (c n r0 : Nat) : Prop := (c < 128 ∧ n = 0 ∧ r0 = c) ∨ (194 ≤ c ∧ c < 224 ∧ n = 1 ∧ r0 = c - 192) ∨ (224 ≤ c ∧ c < 240 ∧ n = 2 ∧ r0 = c - 224) ∨ (240 ≤ c ∧ c < 245 ∧ n = 3 ∧ r0 = c - 240)
theorem z8K (l : List UInt8) (h : decodeN l.length (l.getD 0 0).toNat (l.getD 1 0).toNat (l.getD 2 0).toNat (l.getD 3 0).toNat = (65533, 1)) : bad l = true := by
 have e : decodeL l = (65533, 1) := (decodeL_N l).trans h
 simp only [bad, e, decide_true, Bool.and_self]
theorem z9E {l : List UInt8} (hl : 0 < l.length) (h : ∀ n r0, ¬ q6h (l.getD 0 0).toNat n r0) : bad l = true := by
 refine z8K l (Lib.decodeN_bad _ _ _ _ _ ?_)
 have k0 := (l.getD 0 0).toNat_lt
 by_cases a : (l.getD 0 0).toNat < 128
 ·exact absurd (.inl ⟨a, rfl, rfl⟩) (h 0 (l.getD 0 0).toNat)
 ·by_cases b : 194 ≤ (l.getD 0 0).toNat ∧ (l.getD 0 0).toNat < 224
  ·exact absurd (.inr (.inl ⟨b.1, b.2, rfl, rfl⟩)) (h 1 ((l.getD 0 0).toNat - 192))
  ·by_cases c : 224 ≤ (l.getD 0 0).toNat ∧ (l.getD 0 0).toNat < 240
   ·exact absurd (.inr (.inr (.inl ⟨c.1, c.2, rfl, rfl⟩))) (h 2 ((l.getD 0 0).toNat - 224))
   ·by_cases d : 240 ≤ (l.getD 0 0).toNat ∧ (l.getD 0 0).toNat < 245
    ·exact absurd (.inr (.inr (.inr ⟨d.1, d.2, rfl, rfl⟩))) (h 3 ((l.getD 0 0).toNat - 240))
    ·omega
theorem q61 {l : List UInt8} {n r0 : Nat} (hl : 0 < l.length) (h : q6h (l.getD 0 0).toNat n r0) (hn : l.length ≤ n) : bad l = true := by
 refine z8K l ?_
 unfold q6h at h
 rcases decodeN_shape l.length (l.getD 0 0).toNat (l.getD 1 0).toNat (l.getD 2 0).toNat (l.getD 3 0).toNat with ⟨c, e⟩ | ⟨c1, c2, c3, cv, e⟩ | ⟨c1, c2, c3, c4, cv, cs, e⟩ | ⟨c1, c2, c3, c4, c5, cv, cw, e⟩ | e
 all_goals first | exact e | (exfalso; omega)
theorem q8m {l : List UInt8} {n r0 j : Nat} (hl : 0 < l.length) (h : q6h (l.getD 0 0).toNat n r0) (h1 : 1 ≤ j) (hj : j ≤ n) (hc : ¬ q7F l j) : bad l = true := by
 refine z8K l ?_
 unfold q6h at h
 unfold q7F at hc
 have k1 := (l.getD 1 0).toNat_lt
 have k2 := (l.getD 2 0).toNat_lt
 have k3 := (l.getD 3 0).toNat_lt
 have hj3 : j = 1 ∨ j = 2 ∨ j = 3 := by omega
 rcases decodeN_shape l.length (l.getD 0 0).toNat (l.getD 1 0).toNat (l.getD 2 0).toNat (l.getD 3 0).toNat with ⟨c, e⟩ | ⟨c1, c2, c3, cv, e⟩ | ⟨c1, c2, c3, c4, cv, cs, e⟩ | ⟨c1, c2, c3, c4, c5, cv, cw, e⟩ | e
 all_goals first
  | exact e
  | (exfalso; omega)
  | (exfalso; rcases hj3 with rfl | rfl | rfl <;> omega)
theorem q98 {l : List UInt8} {n r0 : Nat} (h : q6h (l.getD 0 0).toNat n r0) (hl : n < l.length) (hc : ∀ j, 1 ≤ j → j ≤ n → q7F l j) :
  (((n = 2 ∧ cumR l r0 n < 2048) ∨ (n = 3 ∧ cumR l r0 n < 65536) ∨ 1114111 < cumR l r0 n ∨ (55295 < cumR l r0 n ∧ cumR l r0 n < 57344)) ∧ bad l = true) ∨
  (¬ ((n = 2 ∧ cumR l r0 n < 2048) ∨ (n = 3 ∧ cumR l r0 n < 65536) ∨ 1114111 < cumR l r0 n ∨ (55295 < cumR l r0 n ∧ cumR l r0 n < 57344)) ∧ bad l = false ∧ decodeL l = (cumR l r0 n, n + 1)) := by
 have hb : ∀ r k, decodeN l.length (l.getD 0 0).toNat (l.getD 1 0).toNat (l.getD 2 0).toNat (l.getD 3 0).toNat = (r, k) → (r ≠ 65533 ∨ k ≠ 1) → bad l = false ∧ decodeL l = (r, k) := fun r k e hk => by
  refine ⟨?_, by rw [decodeL_N, e]⟩
  rw [Bool.eq_false_iff]; intro hb
  rw [z8L, decodeL_N, e] at hb
  simp only at hb
  rcases hk with hk | hk
  ·exact hk hb.1
  ·exact hk hb.2
 have k0 := (l.getD 0 0).toNat_lt
 unfold q6h at h
 rcases h with ⟨a, rfl, rfl⟩ | ⟨a, b, rfl, rfl⟩ | ⟨a, b, rfl, rfl⟩ | ⟨a, b, rfl, rfl⟩
 ·right
  simp only [cumR]
  refine ⟨by omega, hb _ _ ?_ (.inl (by omega))⟩
  rw [decodeN, if_pos a]
 ·right
  obtain ⟨c1, c2⟩ := hc 1 (by omega) (by omega)
  have e : cumR l ((l.getD 0 0).toNat - 192) 1 = (l.getD 0 0).toNat % 32 * 64 + (l.getD 1 0).toNat % 64 := by simp only [cumR, Nat.zero_add, Nat.reduceAdd]; omega
  rw [e]
  refine ⟨by omega, hb _ _ ?_ (.inr (by omega))⟩
  rw [decodeN, if_neg (by omega), if_pos (by omega), if_pos (by omega)]
 ·obtain ⟨c1, c2⟩ := hc 1 (by omega) (by omega)
  obtain ⟨d1, d2⟩ := hc 2 (by omega) (by omega)
  have e : cumR l ((l.getD 0 0).toNat - 224) 2 = (l.getD 0 0).toNat % 16 * 4096 + (l.getD 1 0).toNat % 64 * 64 + (l.getD 2 0).toNat % 64 := by simp only [cumR, Nat.zero_add, Nat.reduceAdd]; omega
  rw [e]
  by_cases hx : (l.getD 0 0).toNat % 16 * 4096 + (l.getD 1 0).toNat % 64 * 64 + (l.getD 2 0).toNat % 64 < 2048 ∨ (55295 < (l.getD 0 0).toNat % 16 * 4096 + (l.getD 1 0).toNat % 64 * 64 + (l.getD 2 0).toNat % 64 ∧ (l.getD 0 0).toNat % 16 * 4096 + (l.getD 1 0).toNat % 64 * 64 + (l.getD 2 0).toNat % 64 < 57344)
  ·left
   refine ⟨by omega, z8K l ?_⟩
   rw [decodeN, if_neg (by omega), if_neg (by omega), if_pos (by omega), if_neg (by omega)]
  ·right
   refine ⟨by omega, hb _ _ ?_ (.inr (by omega))⟩
   rw [decodeN, if_neg (by omega), if_neg (by omega), if_pos (by omega), if_pos (by omega)]
 ·obtain ⟨c1, c2⟩ := hc 1 (by omega) (by omega)
  obtain ⟨d1, d2⟩ := hc 2 (by omega) (by omega)
  obtain ⟨f1, f2⟩ := hc 3 (by omega) (by omega)
  have e : cumR l ((l.getD 0 0).toNat - 240) 3 = (l.getD 0 0).toNat % 8 * 262144 + (l.getD 1 0).toNat % 64 * 4096 + (l.getD 2 0).toNat % 64 * 64 + (l.getD 3 0).toNat % 64 := by simp only [cumR, Nat.zero_add, Nat.reduceAdd]; omega
  rw [e]
  by_cases hx : (l.getD 0 0).toNat % 8 * 262144 + (l.getD 1 0).toNat % 64 * 4096 + (l.getD 2 0).toNat % 64 * 64 + (l.getD 3 0).toNat % 64 < 65536 ∨ 1114111 < (l.getD 0 0).toNat % 8 * 262144 + (l.getD 1 0).toNat % 64 * 4096 + (l.getD 2 0).toNat % 64 * 64 + (l.getD 3 0).toNat % 64
  ·left
   refine ⟨by omega, z8K l ?_⟩
   rw [decodeN, if_neg (by omega), if_neg (by omega), if_neg (by omega), if_pos (by omega), if_neg (by omega)]
  ·right
   refine ⟨by omega, hb _ _ ?_ (.inr (by omega))⟩
   rw [decodeN, if_neg (by omega), if_neg (by omega), if_neg (by omega), if_pos (by omega), if_pos (by omega)]
def q18 (o : Option (List Nat)) : Res := match o with
 | some rs => .tup [.list (q16 rs), .bool true]
 | none => .tup [.list [], .bool false]
theorem z2Y {l : List UInt8} {n r0 : Nat} (h : q6h (l.getD 0 0).toNat n r0) : n ≤ 3 ∧ r0 < 128 := by unfold q6h at h; omega
theorem z6E {l : List UInt8} {n r0 : Nat} (h : r0 < 128) : ∀ j, j ≤ 3 → cumR l r0 j < 50000000 := by
 intro j hj
 have k1 := (l.getD (0 + 1) 0).toNat_lt
 have k2 := (l.getD (1 + 1) 0).toNat_lt
 have k3 := (l.getD (2 + 1) 0).toNat_lt
 match j, hj with
 | 0, _ => simp only [cumR]; omega
 | 1, _ => simp only [cumR]; omega
 | 2, _ => simp only [cumR]; omega
 | 3, _ => simp only [cumR]; omega
 | j + 4, h => omega
def q3X : q0j :=
 .seq (.reg [⟨some 2, .nils 3 1, none⟩, Qx 3 KF]) (.seq (.reg [⟨some 4, .nils 3 1, none⟩]) (.seq (.reg [Qx 5 (Ki 0)]) (.seq (.block 0 (.loop (.seq (.seq (.reg [Qc 11 5, Qc 12 0, Q 
 13 (.len true (.t 12)), Q 14 (.bin .lss (.t 11) (.t 13))]) (.cond (.t 14) .skip (.exit 0))) (.block 1 (.seq (.reg [Qc 15 0, Qc 16 5, Q 17 (.idxS (.t 15) (.t 16)), Q 18 (.cvI .i64 
 (.t 17)), Qa 6 18]) (.seq (.reg [Qx 7 (Ki 0)]) (.seq (.reg [Qc 19 6, Qa 8 19]) (.seq (.block 2 (.seq (.reg [Qc 21 6, Q 22 (.bin .lss (.t 21) (Ki 128)), Qa 20 22]) (.cond (.t 20) 
 .skip (.seq (.reg [Qc 24 6, Q 25 (.bin .geq (.t 24) (Ki 194)), Qc 26 25, Qd 27 6 26 true, Qg 28 (.bin .lss (.t 27) (Ki 224)) 26 true, Q 29 (.pick (.t 26) (.t 28) KF), Qa 23 29]) 
 (.cond (.t 23) (.seq (.reg [Qx 7 (Ki 1)]) (.reg [Qc 30 6, Q 31 (.bin .sub (.t 30) (Ki 192)), Qa 8 31])) (.seq (.reg [Qc 33 6, Q 34 (.bin .geq (.t 33) (Ki 224)), Qc 35 34, Qd 36 6 
 35 true, Qg 37 (.bin .lss (.t 36) (Ki 240)) 35 true, Q 38 (.pick (.t 35) (.t 37) KF), Qa 32 38]) (.cond (.t 32) (.seq (.reg [Qx 7 (Ki 2)]) (.reg [Qc 39 6, Q 40 (.bin .sub (.t 39) 
 (Ki 224)), Qa 8 40])) (.seq (.reg [Qc 42 6, Q 43 (.bin .geq (.t 42) (Ki 240)), Qc 44 43, Qd 45 6 44 true, Qg 46 (.bin .lss (.t 45) (Ki 245)) 44 true, Q 47 (.pick (.t 44) (.t 46) 
 KF), Qa 41 47]) (.cond (.t 41) (.seq (.reg [Qx 7 (Ki 3)]) (.reg [Qc 48 6, Q 49 (.bin .sub (.t 48) (Ki 240)), Qa 8 49])) (.seq (.reg [⟨some 2, .nils 3 1, none⟩, Qx 3 KF]) 
 .ret)))))))))) (.seq (.seq (.reg [Qc 50 5, Qc 51 7, Q 52 (.bin .add (.t 50) (.t 51)), Qc 53 0, Q 54 (.len true (.t 53)), Q 55 (.bin .geq (.t 52) (.t 54))]) (.cond (.t 55) (.seq 
 (.reg [⟨some 2, .nils 3 1, none⟩, Qx 3 KF]) .ret) .skip)) (.seq (.seq (.reg [Qx 9 (Ki 1)]) (.block 3 (.loop (.seq (.seq (.reg [Qc 56 9, Qc 57 7, Q 58 (.bin .leq (.t 56) (.t 
 57))]) (.cond (.t 58) .skip (.exit 3))) (.seq (.block 4 (.seq (.reg [Qc 61 0, Qc 62 5, Qc 63 9, Q 64 (.bin .add (.t 62) (.t 63)), Q 65 (.idxS (.t 61) (.t 64)), Q 66 (.cvI .i64 
 (.t 65)), Qa 10 66]) (.seq (.seq (.reg [Qc 67 10, Q 68 (.bin .lss (.t 67) (Ki 128)), Qc 69 68, Qd 70 10 69 false, Qg 71 (.bin .gtr (.t 70) (Ki 191)) 69 false, Q 72 (.pick (.t 69) 
 KT (.t 71))]) (.cond (.t 72) (.seq (.reg [⟨some 2, .nils 3 1, none⟩, Qx 3 KF]) .ret) .skip)) (.reg [Qc 73 8, Q 74 (.bin .mul (Ki 64) (.t 73)), Qc 75 10, Q 76 (.bin .add (.t 74) 
 (.t 75)), Q 77 (.bin .sub (.t 76) (Ki 128)), Qa 8 77])))) (.reg [Qc 59 9, Q 60 (.bin .add (.t 59) (Ki 1)), Qa 9 60])))))) (.seq (.seq (.reg [Qc 78 7, Q 79 (.bin .eql (.t 78) (Ki 
 2)), Qc 80 79, Qd 81 8 80 true, Qg 82 (.bin .lss (.t 81) (Ki 2048)) 80 true, Q 83 (.pick (.t 80) (.t 82) KF), Qc 84 83, Qd 85 7 84 false, Qg 86 (.bin .eql (.t 85) (Ki 3)) 84 
 false, Qd 87 86 84 false, Qd 88 8 87 true, Qg 89 (.bin .lss (.t 88) (Ki 65536)) 87 true, Qg 90 (.pick (.t 87) (.t 89) KF) 84 false, Q 91 (.pick (.t 84) KT (.t 90)), Qc 92 91, Qd 
 93 8 92 false, Qg 94 (.bin .gtr (.t 93) (Ki 1114111)) 92 false, Q 95 (.pick (.t 92) KT (.t 94)), Qc 96 95, Qd 97 8 96 false, Qg 98 (.bin .gtr (.t 97) (Ki 55295)) 96 false, Qd 99 
 98 96 false, Qd 100 8 99 true, Qg 101 (.bin .lss (.t 100) (Ki 57344)) 99 true, Qg 102 (.pick (.t 99) (.t 101) KF) 96 false, Q 103 (.pick (.t 96) KT (.t 102))]) (.cond (.t 103) 
 (.seq (.reg [⟨some 2, .nils 3 1, none⟩, Qx 3 KF]) .ret) .skip)) (.seq (.reg [Qc 104 4, Qc 105 8, ⟨some 106, .bsl 3 1 [.t 105], none⟩, ⟨some 107, .app 3 1 8 false (.t 104) (.t 
 106), none⟩, Qa 4 107]) (.reg [Qc 108 5, Qc 109 7, Q 110 (.bin .add (.t 108) (.t 109)), Q 111 (.bin .add (.t 110) (Ki 1)), Qa 5 111]))))))))))))) (.seq (.reg [Qc 112 4, Qa 2 112, 
 Qx 3 KT]) .ret))))
def q33 : List LRes := [.tmp 2, .tmp 3]
theorem q5y : q0t Tryz.prog 64 113 q3X q33 := ⟨_, _, Tryz.func64, rfl, by kernel_rfl, by kernel_rfl, rfl⟩
theorem q9f (s : List UInt8) (hs : s.length ≤ 1000000000) : q0u Tryz.prog 64 [.str s] (fun r => r = q18 (q0X s)) := by
 refine q5y.call rfl ?_
 simp (maxSteps := 2000000) only [go_sem, ↓reduceIte, q3X, q33]
 refine q0s (fun y : Nat × List Nat => ⟨[(0, .d (.str s)), (4, .own (.t 4) 3 1 (q16 y.2)), (5, .d (.int .i64 y.1))], [], []⟩)
  (fun y => y.1 ≤ s.length ∧ y.2.length ≤ y.1 ∧ (q0X (s.drop y.1)).map (y.2 ++ ·) = q0X s) (fun y => s.length - y.1) (0, []) ?_ ?_ ?_
 ·refine q0e ?_ trivial
  simp (maxSteps := 2000000) only [go_sem, ↓reduceIte, Sub, Int.natCast_add, Int.natCast_mul, q16]
 ·exact ⟨Nat.zero_le _, Nat.le_refl _, by simp⟩
 ·rintro ⟨i, acc⟩ ⟨hi, ha, hF⟩
  simp only at hi ha hF
  have hacc := q0y acc
  simp (maxSteps := 2000000) only [go_sem, ↓reduceIte]
  refine ⟨fun hlt => ?_, fun hge => ?_⟩
  ·obtain ⟨c, hc⟩ := get_some (l := s) (i := i) (by omega)
   have hc8 := q4e c
   have hne : s.drop i ≠ [] := fun h => by have := List.drop_eq_nil_iff.1 h; omega
   have hlen : (s.drop i).length = s.length - i := List.length_drop
   have hg0 : (s.drop i).getD 0 0 = c := by rw [List.getD_eq_getElem?_getD, List.getElem?_drop]; simp [hc]
   rw [z1i hne] at hF
   have bad' : bad (s.drop i) = true → Res.tup [D.list [], D.bool false] = q18 (q0X s) := fun h => by rw [if_pos h] at hF; rw [← hF]; rfl
   by_cases a : c.toNat < 128
   ·have z0 : ((c.toNat : Int) < 128) = True := eq_true (by omega)
    have hlead : q6h ((s.drop i).getD 0 0).toNat 0 (c.toNat) := by rw [hg0]; unfold q6h; omega
    obtain ⟨q1, q2⟩ := z2Y hlead
    have e0 : ((cumR (s.drop i) (c.toNat) 0 : Nat) : Int) = (c.toNat : Int) := by unfold cumR; omega
    simp (maxSteps := 2000000) (disch := omega) only [go_sem, ↓reduceIte, q0c, hc, z0]
    refine ⟨fun h => bad' (q61 (by omega) hlead (by omega)), fun h => ?_⟩
    refine q0s (fun j : Nat => ⟨[(0, .d (.str s)), (4, .own (.t 4) 3 1 (q16 acc)), (5, .d (.int .i64 i)), (7, .d (.int .i64 0)), (8, .d (.int .i64 (cumR (s.drop i) (c.toNat) j : Nat))), (9, .d (.int .i64 ((j : Int) + 1)))], [], []⟩)
     (fun j => j ≤ 0 ∧ ∀ k, 1 ≤ k → k ≤ j → q7F (s.drop i) k) (fun j => 0 - j) 0 ?_ ?_ ?_
    ·refine q0e ?_ trivial
     simp (maxSteps := 2000000) only [go_sem, ↓reduceIte, Sub, Int.natCast_add, Int.natCast_mul, e0]
    ·exact ⟨by omega, fun k h1 h2 => by omega⟩
    ·rintro j ⟨hj, hcj⟩
     have hcum := z6E (l := s.drop i) (n := 0) q2 j (by omega)
     have zj : (((j : Int) + 1 ≤ 0)) = (j < 0) := propext (by omega)
     simp (maxSteps := 2000000) (disch := omega) only [go_sem, ↓reduceIte, zj]
     refine ⟨fun hj1 => ?_, fun hj1 => ?_⟩
     ·obtain ⟨d, hd⟩ := get_some (l := s) (i := i + (j + 1)) (by omega)
      have hd8 := q4e d
      have hgd : getI s ((i : Int) + ((j : Int) + 1)) = some d := by rw [← hd, ← q0c]; congr 1
      have hgd' : (s.drop i).getD (j + 1) 0 = d := by rw [List.getD_eq_getElem?_getD, List.getElem?_drop]; simp [hd]
      have hbad : ¬ (128 ≤ d.toNat ∧ d.toNat ≤ 191) → bad (s.drop i) = true := fun h => q8m (by omega) hlead (j := j + 1) (by omega) (by omega) (by unfold q7F; rw [hgd']; exact h)
      have hnext : 128 ≤ d.toNat → ((cumR (s.drop i) (c.toNat) (j + 1) : Nat) : Int) = 64 * (cumR (s.drop i) (c.toNat) j : Nat) + d.toNat - 128 := fun h => by simp only [cumR, hgd']; omega
      simp (maxSteps := 2000000) (disch := omega) only [go_sem, ↓reduceIte, hgd]
      refine ⟨fun h1 => ⟨fun h2 => bad' (hbad (by omega)), fun h2 => ⟨j + 1, ?_, ⟨by omega, fun k k1 k2 => ?_⟩, by omega⟩⟩, fun h1 => bad' (hbad (by omega))⟩
      ·have hn := hnext (by omega)
       refine q0e ?_ trivial
       simp (maxSteps := 2000000) only [go_sem, ↓reduceIte, Sub, Int.natCast_add, Int.natCast_mul, hn]
      ·by_cases hk : k = j + 1
       ·subst hk; unfold q7F; rw [hgd']; omega
       ·exact hcj k k1 (by omega)
     ·have hjN : j = 0 := by omega
      subst hjN
      have hfin := q98 hlead (by omega) (fun k k1 k2 => hcj k k1 k2)
      generalize cumR (s.drop i) (c.toNat) 0 = R at *
      clear e0
      simp (maxSteps := 2000000) (disch := omega) only [go_sem, ↓reduceIte]
      have eN : ((i + 1 : Nat) : Int) = (i : Int) + 0 + 1 := by omega
      have zz : q16 acc ++ [D.int .i64 (R : Int)] = q16 (acc ++ [R]) := by rw [q5o]; rfl
      rcases hfin with ⟨hx, hb⟩ | ⟨hx, hb, hdec⟩
      ·repeat' (first | intro _ | apply And.intro)
       all_goals first | exact bad' hb | (exfalso; omega)
      ·rw [hb, if_neg (by decide), hdec] at hF
       simp only at hF
       have hF2 : (q0X (s.drop (i + 1))).map ((acc ++ [R]) ++ ·) = q0X s := by
        rw [List.drop_drop] at hF
        rw [← hF]
        cases q0X (s.drop (i + 1)) <;> simp
       repeat' (first | intro _ | apply And.intro)
       all_goals first | (exfalso; omega) | omega | skip
       all_goals refine ⟨(i + 1, acc ++ [R]), ?_, ⟨by simp only; omega, by simp only [List.length_append, List.length_cons, List.length_nil]; omega, hF2⟩, by simp only; omega⟩
       all_goals (refine q0e ?_ trivial; simp (maxSteps := 2000000) only [go_sem, ↓reduceIte, Sub, Int.natCast_add, Int.natCast_mul, zz, eN])
   by_cases b : 194 ≤ c.toNat ∧ c.toNat < 224
   ·have z0 : ((c.toNat : Int) < 128) = False := eq_false (by omega)
    have z1 : (194 ≤ (c.toNat : Int)) = True := eq_true (by omega)
    have z2 : ((c.toNat : Int) < 224) = True := eq_true (by omega)
    have hlead : q6h ((s.drop i).getD 0 0).toNat 1 (c.toNat - 192) := by rw [hg0]; unfold q6h; omega
    obtain ⟨q1, q2⟩ := z2Y hlead
    have e0 : ((cumR (s.drop i) (c.toNat - 192) 0 : Nat) : Int) = (c.toNat : Int) - 192 := by unfold cumR; omega
    simp (maxSteps := 2000000) (disch := omega) only [go_sem, ↓reduceIte, q0c, hc, z0, z1, z2]
    refine ⟨fun h => bad' (q61 (by omega) hlead (by omega)), fun h => ?_⟩
    refine q0s (fun j : Nat => ⟨[(0, .d (.str s)), (4, .own (.t 4) 3 1 (q16 acc)), (5, .d (.int .i64 i)), (7, .d (.int .i64 1)), (8, .d (.int .i64 (cumR (s.drop i) (c.toNat - 192) j : Nat))), (9, .d (.int .i64 ((j : Int) + 1)))], [], []⟩)
     (fun j => j ≤ 1 ∧ ∀ k, 1 ≤ k → k ≤ j → q7F (s.drop i) k) (fun j => 1 - j) 0 ?_ ?_ ?_
    ·refine q0e ?_ trivial
     simp (maxSteps := 2000000) only [go_sem, ↓reduceIte, Sub, Int.natCast_add, Int.natCast_mul, e0]
    ·exact ⟨by omega, fun k h1 h2 => by omega⟩
    ·rintro j ⟨hj, hcj⟩
     have hcum := z6E (l := s.drop i) (n := 1) q2 j (by omega)
     have zj : (((j : Int) + 1 ≤ 1)) = (j < 1) := propext (by omega)
     simp (maxSteps := 2000000) (disch := omega) only [go_sem, ↓reduceIte, zj]
     refine ⟨fun hj1 => ?_, fun hj1 => ?_⟩
     ·obtain ⟨d, hd⟩ := get_some (l := s) (i := i + (j + 1)) (by omega)
      have hd8 := q4e d
      have hgd : getI s ((i : Int) + ((j : Int) + 1)) = some d := by rw [← hd, ← q0c]; congr 1
      have hgd' : (s.drop i).getD (j + 1) 0 = d := by rw [List.getD_eq_getElem?_getD, List.getElem?_drop]; simp [hd]
      have hbad : ¬ (128 ≤ d.toNat ∧ d.toNat ≤ 191) → bad (s.drop i) = true := fun h => q8m (by omega) hlead (j := j + 1) (by omega) (by omega) (by unfold q7F; rw [hgd']; exact h)
      have hnext : 128 ≤ d.toNat → ((cumR (s.drop i) (c.toNat - 192) (j + 1) : Nat) : Int) = 64 * (cumR (s.drop i) (c.toNat - 192) j : Nat) + d.toNat - 128 := fun h => by simp only [cumR, hgd']; omega
      simp (maxSteps := 2000000) (disch := omega) only [go_sem, ↓reduceIte, hgd]
      refine ⟨fun h1 => ⟨fun h2 => bad' (hbad (by omega)), fun h2 => ⟨j + 1, ?_, ⟨by omega, fun k k1 k2 => ?_⟩, by omega⟩⟩, fun h1 => bad' (hbad (by omega))⟩
      ·have hn := hnext (by omega)
       refine q0e ?_ trivial
       simp (maxSteps := 2000000) only [go_sem, ↓reduceIte, Sub, Int.natCast_add, Int.natCast_mul, hn]
      ·by_cases hk : k = j + 1
       ·subst hk; unfold q7F; rw [hgd']; omega
       ·exact hcj k k1 (by omega)
     ·have hjN : j = 1 := by omega
      subst hjN
      have hfin := q98 hlead (by omega) (fun k k1 k2 => hcj k k1 k2)
      generalize cumR (s.drop i) (c.toNat - 192) 1 = R at *
      clear e0
      simp (maxSteps := 2000000) (disch := omega) only [go_sem, ↓reduceIte]
      have eN : ((i + 2 : Nat) : Int) = (i : Int) + 1 + 1 := by omega
      have zz : q16 acc ++ [D.int .i64 (R : Int)] = q16 (acc ++ [R]) := by rw [q5o]; rfl
      rcases hfin with ⟨hx, hb⟩ | ⟨hx, hb, hdec⟩
      ·repeat' (first | intro _ | apply And.intro)
       all_goals first | exact bad' hb | (exfalso; omega)
      ·rw [hb, if_neg (by decide), hdec] at hF
       simp only at hF
       have hF2 : (q0X (s.drop (i + 2))).map ((acc ++ [R]) ++ ·) = q0X s := by
        rw [List.drop_drop] at hF
        rw [← hF]
        cases q0X (s.drop (i + 2)) <;> simp
       repeat' (first | intro _ | apply And.intro)
       all_goals first | (exfalso; omega) | omega | skip
       all_goals refine ⟨(i + 2, acc ++ [R]), ?_, ⟨by simp only; omega, by simp only [List.length_append, List.length_cons, List.length_nil]; omega, hF2⟩, by simp only; omega⟩
       all_goals (refine q0e ?_ trivial; simp (maxSteps := 2000000) only [go_sem, ↓reduceIte, Sub, Int.natCast_add, Int.natCast_mul, zz, eN])
   by_cases b2 : 224 ≤ c.toNat ∧ c.toNat < 240
   ·have z0 : ((c.toNat : Int) < 128) = False := eq_false (by omega)
    have z1 : (194 ≤ (c.toNat : Int)) = True := eq_true (by omega)
    have z2 : ((c.toNat : Int) < 224) = False := eq_false (by omega)
    have z3 : (224 ≤ (c.toNat : Int)) = True := eq_true (by omega)
    have z4 : ((c.toNat : Int) < 240) = True := eq_true (by omega)
    have hlead : q6h ((s.drop i).getD 0 0).toNat 2 (c.toNat - 224) := by rw [hg0]; unfold q6h; omega
    obtain ⟨q1, q2⟩ := z2Y hlead
    have e0 : ((cumR (s.drop i) (c.toNat - 224) 0 : Nat) : Int) = (c.toNat : Int) - 224 := by unfold cumR; omega
    simp (maxSteps := 2000000) (disch := omega) only [go_sem, ↓reduceIte, q0c, hc, z0, z1, z2, z3, z4]
    refine ⟨fun h => bad' (q61 (by omega) hlead (by omega)), fun h => ?_⟩
    refine q0s (fun j : Nat => ⟨[(0, .d (.str s)), (4, .own (.t 4) 3 1 (q16 acc)), (5, .d (.int .i64 i)), (7, .d (.int .i64 2)), (8, .d (.int .i64 (cumR (s.drop i) (c.toNat - 224) j : Nat))), (9, .d (.int .i64 ((j : Int) + 1)))], [], []⟩)
     (fun j => j ≤ 2 ∧ ∀ k, 1 ≤ k → k ≤ j → q7F (s.drop i) k) (fun j => 2 - j) 0 ?_ ?_ ?_
    ·refine q0e ?_ trivial
     simp (maxSteps := 2000000) only [go_sem, ↓reduceIte, Sub, Int.natCast_add, Int.natCast_mul, e0]
    ·exact ⟨by omega, fun k h1 h2 => by omega⟩
    ·rintro j ⟨hj, hcj⟩
     have hcum := z6E (l := s.drop i) (n := 2) q2 j (by omega)
     have zj : (((j : Int) + 1 ≤ 2)) = (j < 2) := propext (by omega)
     simp (maxSteps := 2000000) (disch := omega) only [go_sem, ↓reduceIte, zj]
     refine ⟨fun hj1 => ?_, fun hj1 => ?_⟩
     ·obtain ⟨d, hd⟩ := get_some (l := s) (i := i + (j + 1)) (by omega)
      have hd8 := q4e d
      have hgd : getI s ((i : Int) + ((j : Int) + 1)) = some d := by rw [← hd, ← q0c]; congr 1
      have hgd' : (s.drop i).getD (j + 1) 0 = d := by rw [List.getD_eq_getElem?_getD, List.getElem?_drop]; simp [hd]
      have hbad : ¬ (128 ≤ d.toNat ∧ d.toNat ≤ 191) → bad (s.drop i) = true := fun h => q8m (by omega) hlead (j := j + 1) (by omega) (by omega) (by unfold q7F; rw [hgd']; exact h)
      have hnext : 128 ≤ d.toNat → ((cumR (s.drop i) (c.toNat - 224) (j + 1) : Nat) : Int) = 64 * (cumR (s.drop i) (c.toNat - 224) j : Nat) + d.toNat - 128 := fun h => by simp only [cumR, hgd']; omega
      simp (maxSteps := 2000000) (disch := omega) only [go_sem, ↓reduceIte, hgd]
      refine ⟨fun h1 => ⟨fun h2 => bad' (hbad (by omega)), fun h2 => ⟨j + 1, ?_, ⟨by omega, fun k k1 k2 => ?_⟩, by omega⟩⟩, fun h1 => bad' (hbad (by omega))⟩
      ·have hn := hnext (by omega)
       refine q0e ?_ trivial
       simp (maxSteps := 2000000) only [go_sem, ↓reduceIte, Sub, Int.natCast_add, Int.natCast_mul, hn]
      ·by_cases hk : k = j + 1
       ·subst hk; unfold q7F; rw [hgd']; omega
       ·exact hcj k k1 (by omega)
     ·have hjN : j = 2 := by omega
      subst hjN
      have hfin := q98 hlead (by omega) (fun k k1 k2 => hcj k k1 k2)
      generalize cumR (s.drop i) (c.toNat - 224) 2 = R at *
      clear e0
      simp (maxSteps := 2000000) (disch := omega) only [go_sem, ↓reduceIte]
      have eN : ((i + 3 : Nat) : Int) = (i : Int) + 2 + 1 := by omega
      have zz : q16 acc ++ [D.int .i64 (R : Int)] = q16 (acc ++ [R]) := by rw [q5o]; rfl
      rcases hfin with ⟨hx, hb⟩ | ⟨hx, hb, hdec⟩
      ·repeat' (first | intro _ | apply And.intro)
       all_goals first | exact bad' hb | (exfalso; omega)
      ·rw [hb, if_neg (by decide), hdec] at hF
       simp only at hF
       have hF2 : (q0X (s.drop (i + 3))).map ((acc ++ [R]) ++ ·) = q0X s := by
        rw [List.drop_drop] at hF
        rw [← hF]
        cases q0X (s.drop (i + 3)) <;> simp
       repeat' (first | intro _ | apply And.intro)
       all_goals first | (exfalso; omega) | omega | skip
       all_goals refine ⟨(i + 3, acc ++ [R]), ?_, ⟨by simp only; omega, by simp only [List.length_append, List.length_cons, List.length_nil]; omega, hF2⟩, by simp only; omega⟩
       all_goals (refine q0e ?_ trivial; simp (maxSteps := 2000000) only [go_sem, ↓reduceIte, Sub, Int.natCast_add, Int.natCast_mul, zz, eN])
   by_cases b3 : 240 ≤ c.toNat ∧ c.toNat < 245
   ·have z0 : ((c.toNat : Int) < 128) = False := eq_false (by omega)
    have z1 : (194 ≤ (c.toNat : Int)) = True := eq_true (by omega)
    have z2 : ((c.toNat : Int) < 224) = False := eq_false (by omega)
    have z3 : (224 ≤ (c.toNat : Int)) = True := eq_true (by omega)
    have z4 : ((c.toNat : Int) < 240) = False := eq_false (by omega)
    have z5 : (240 ≤ (c.toNat : Int)) = True := eq_true (by omega)
    have z6 : ((c.toNat : Int) < 245) = True := eq_true (by omega)
    have hlead : q6h ((s.drop i).getD 0 0).toNat 3 (c.toNat - 240) := by rw [hg0]; unfold q6h; omega
    obtain ⟨q1, q2⟩ := z2Y hlead
    have e0 : ((cumR (s.drop i) (c.toNat - 240) 0 : Nat) : Int) = (c.toNat : Int) - 240 := by unfold cumR; omega
    simp (maxSteps := 2000000) (disch := omega) only [go_sem, ↓reduceIte, q0c, hc, z0, z1, z2, z3, z4, z5, z6]
    refine ⟨fun h => bad' (q61 (by omega) hlead (by omega)), fun h => ?_⟩
    refine q0s (fun j : Nat => ⟨[(0, .d (.str s)), (4, .own (.t 4) 3 1 (q16 acc)), (5, .d (.int .i64 i)), (7, .d (.int .i64 3)), (8, .d (.int .i64 (cumR (s.drop i) (c.toNat - 240) j : Nat))), (9, .d (.int .i64 ((j : Int) + 1)))], [], []⟩)
     (fun j => j ≤ 3 ∧ ∀ k, 1 ≤ k → k ≤ j → q7F (s.drop i) k) (fun j => 3 - j) 0 ?_ ?_ ?_
    ·refine q0e ?_ trivial
     simp (maxSteps := 2000000) only [go_sem, ↓reduceIte, Sub, Int.natCast_add, Int.natCast_mul, e0]
    ·exact ⟨by omega, fun k h1 h2 => by omega⟩
    ·rintro j ⟨hj, hcj⟩
     have hcum := z6E (l := s.drop i) (n := 3) q2 j (by omega)
     have zj : (((j : Int) + 1 ≤ 3)) = (j < 3) := propext (by omega)
     simp (maxSteps := 2000000) (disch := omega) only [go_sem, ↓reduceIte, zj]
     refine ⟨fun hj1 => ?_, fun hj1 => ?_⟩
     ·obtain ⟨d, hd⟩ := get_some (l := s) (i := i + (j + 1)) (by omega)
      have hd8 := q4e d
      have hgd : getI s ((i : Int) + ((j : Int) + 1)) = some d := by rw [← hd, ← q0c]; congr 1
      have hgd' : (s.drop i).getD (j + 1) 0 = d := by rw [List.getD_eq_getElem?_getD, List.getElem?_drop]; simp [hd]
      have hbad : ¬ (128 ≤ d.toNat ∧ d.toNat ≤ 191) → bad (s.drop i) = true := fun h => q8m (by omega) hlead (j := j + 1) (by omega) (by omega) (by unfold q7F; rw [hgd']; exact h)
      have hnext : 128 ≤ d.toNat → ((cumR (s.drop i) (c.toNat - 240) (j + 1) : Nat) : Int) = 64 * (cumR (s.drop i) (c.toNat - 240) j : Nat) + d.toNat - 128 := fun h => by simp only [cumR, hgd']; omega
      simp (maxSteps := 2000000) (disch := omega) only [go_sem, ↓reduceIte, hgd]
      refine ⟨fun h1 => ⟨fun h2 => bad' (hbad (by omega)), fun h2 => ⟨j + 1, ?_, ⟨by omega, fun k k1 k2 => ?_⟩, by omega⟩⟩, fun h1 => bad' (hbad (by omega))⟩
      ·have hn := hnext (by omega)
       refine q0e ?_ trivial
       simp (maxSteps := 2000000) only [go_sem, ↓reduceIte, Sub, Int.natCast_add, Int.natCast_mul, hn]
      ·by_cases hk : k = j + 1
       ·subst hk; unfold q7F; rw [hgd']; omega
       ·exact hcj k k1 (by omega)
     ·have hjN : j = 3 := by omega
      subst hjN
      have hfin := q98 hlead (by omega) (fun k k1 k2 => hcj k k1 k2)
      generalize cumR (s.drop i) (c.toNat - 240) 3 = R at *
      clear e0
      simp (maxSteps := 2000000) (disch := omega) only [go_sem, ↓reduceIte]
      have eN : ((i + 4 : Nat) : Int) = (i : Int) + 3 + 1 := by omega
      have zz : q16 acc ++ [D.int .i64 (R : Int)] = q16 (acc ++ [R]) := by rw [q5o]; rfl
      rcases hfin with ⟨hx, hb⟩ | ⟨hx, hb, hdec⟩
      ·repeat' (first | intro _ | apply And.intro)
       all_goals first | exact bad' hb | (exfalso; omega)
      ·rw [hb, if_neg (by decide), hdec] at hF
       simp only at hF
       have hF2 : (q0X (s.drop (i + 4))).map ((acc ++ [R]) ++ ·) = q0X s := by
        rw [List.drop_drop] at hF
        rw [← hF]
        cases q0X (s.drop (i + 4)) <;> simp
       repeat' (first | intro _ | apply And.intro)
       all_goals first | (exfalso; omega) | omega | skip
       all_goals refine ⟨(i + 4, acc ++ [R]), ?_, ⟨by simp only; omega, by simp only [List.length_append, List.length_cons, List.length_nil]; omega, hF2⟩, by simp only; omega⟩
       all_goals (refine q0e ?_ trivial; simp (maxSteps := 2000000) only [go_sem, ↓reduceIte, Sub, Int.natCast_add, Int.natCast_mul, zz, eN])
   have hnone : bad (s.drop i) = true := z9E (by omega) (by rw [hg0]; intro n r0 h; unfold q6h at h; omega)
   have z0 : ((c.toNat : Int) < 128) = False := eq_false (by omega)
   simp (maxSteps := 2000000) (disch := omega) only [go_sem, ↓reduceIte, q0c, hc, z0]
   repeat' (first | intro _ | apply And.intro)
   all_goals first | exact bad' hnone | (exfalso; omega)
  ·have : s.drop i = [] := List.drop_eq_nil_of_le (by omega)
   rw [this, z78] at hF
   rw [← hF]
   simp (maxSteps := 2000000) only [go_sem, ↓reduceIte]
   simp [q18]
end Go.Av.Tryz
set_option linter.unusedSimpArgs false
set_option maxRecDepth 100000
namespace Go.Av.Tryz
open Go.Proofs
theorem q7G (a b : List Nat) : encM (a ++ b) = encM a ++ encM b := by simp [encM]
theorem z6G : ∀ {l : List Nat}, (∀ r ∈ l, q3P r) → (encM l).length ≤ 4 * l.length
 | [], _ => by simp [encM]
 | r :: l, h => by
  have h1 := z2K (h r (by simp))
  have ih := z6G fun x hx => h x (List.mem_cons_of_mem _ hx)
  have : encM (r :: l) = enc r ++ encM l := rfl
  rw [this, List.length_append, List.length_cons]; omega
def q3Y : q0j :=
 .seq (.reg [Qx 2 (.k (.d (.str [])))]) (.seq (.reg [⟨some 3, .nils 5 1, none⟩]) (.seq (.seq (.reg [Qx 4 (Ki 0)]) (.block 0 (.loop (.seq (.seq (.reg [Qc 6 4, Qc 7 0, Q 8 (.len false 
 (.t 7)), Q 9 (.bin .lss (.t 6) (.t 8))]) (.cond (.t 9) .skip (.exit 0))) (.seq (.block 1 (.seq (.reg [Qc 12 0, Qc 13 4, Q 14 (.ia 1 (.t 12) (.t 13)), Q 15 (.ld false 1 (.t 14)), 
 Qa 5 15]) (.block 2 (.seq (.reg [Qc 38 5, Q 39 (.bin .lss (.t 38) (Ki 128)), Qa 37 39]) (.cond (.t 37) (.reg [Qc 40 3, Qc 41 5, Q 42 (.cvI .u8 (.t 41)), ⟨some 43, .bsl 5 1 [.t 
 42], none⟩, ⟨some 44, .app 5 1 1 false (.t 40) (.t 43), none⟩, Qa 3 44]) (.seq (.reg [Qc 46 5, Q 47 (.bin .lss (.t 46) (Ki 2048)), Qa 45 47]) (.cond (.t 45) (.reg [Qc 48 3, Qc 49 
 5, Q 50 (.bin .quo (.t 49) (Ki 64)), Q 51 (.bin .add (Ki 192) (.t 50)), Q 52 (.cvI .u8 (.t 51)), Qc 53 5, Q 54 (.bin .rem (.t 53) (Ki 64)), Q 55 (.bin .add (Ki 128) (.t 54)), Q 
 56 (.cvI .u8 (.t 55)), ⟨some 57, .bsl 5 1 [.t 52, .t 56], none⟩, ⟨some 58, .app 5 1 1 false (.t 48) (.t 57), none⟩, Qa 3 58]) (.seq (.reg [Qc 60 5, Q 61 (.bin .lss (.t 60) (Ki 
 65536)), Qa 59 61]) (.cond (.t 59) (.reg [Qc 62 3, Qc 63 5, Q 64 (.bin .quo (.t 63) (Ki 4096)), Q 65 (.bin .add (Ki 224) (.t 64)), Q 66 (.cvI .u8 (.t 65)), Qc 67 5, Q 68 (.bin 
 .quo (.t 67) (Ki 64)), Q 69 (.bin .rem (.t 68) (Ki 64)), Q 70 (.bin .add (Ki 128) (.t 69)), Q 71 (.cvI .u8 (.t 70)), Qc 72 5, Q 73 (.bin .rem (.t 72) (Ki 64)), Q 74 (.bin .add 
 (Ki 128) (.t 73)), Q 75 (.cvI .u8 (.t 74)), ⟨some 76, .bsl 5 1 [.t 66, .t 71, .t 75], none⟩, ⟨some 77, .app 5 1 1 false (.t 62) (.t 76), none⟩, Qa 3 77]) (.reg [Qc 16 3, Qc 17 5, 
 Q 18 (.bin .quo (.t 17) (Ki 262144)), Q 19 (.bin .add (Ki 240) (.t 18)), Q 20 (.cvI .u8 (.t 19)), Qc 21 5, Q 22 (.bin .quo (.t 21) (Ki 4096)), Q 23 (.bin .rem (.t 22) (Ki 64)), Q 
 24 (.bin .add (Ki 128) (.t 23)), Q 25 (.cvI .u8 (.t 24)), Qc 26 5, Q 27 (.bin .quo (.t 26) (Ki 64)), Q 28 (.bin .rem (.t 27) (Ki 64)), Q 29 (.bin .add (Ki 128) (.t 28)), Q 30 
 (.cvI .u8 (.t 29)), Qc 31 5, Q 32 (.bin .rem (.t 31) (Ki 64)), Q 33 (.bin .add (Ki 128) (.t 32)), Q 34 (.cvI .u8 (.t 33)), ⟨some 35, .bsl 5 1 [.t 20, .t 25, .t 30, .t 34], none⟩, 
 ⟨some 36, .app 5 1 1 false (.t 16) (.t 35), none⟩, Qa 3 36])))))))))) (.reg [Qc 10 4, Q 11 (.bin .add (.t 10) (Ki 1)), Qa 4 11])))))) (.seq (.reg [Qc 78 3, Q 79 (.b2s (.t 78)), 
 Qa 2 79]) .ret)))
def q34 : List LRes := [.tmp 2]
theorem q5z : q0t Tryz.prog 92 80 q3Y q34 := ⟨_, _, Tryz.func92, rfl, by kernel_rfl, by kernel_rfl, rfl⟩
theorem z1m (l : List Nat) (hv : ∀ r ∈ l, q3P r) (hl : l.length ≤ 100000000) : q0u Tryz.prog 92 [.list (q16 l)] (fun r => r = .one (.str (encM l))) := by
 have hI : ((q16 l).length : Int) = (l.length : Int) := by rw [q0y]
 refine q5z.call rfl ?_
 simp (maxSteps := 2000000) only [go_sem, ↓reduceIte, q3Y, q34, hI]
 refine q0s (fun i : Nat => ⟨[(0, .d (.list (q16 l))), (3, .own (.t 3) 5 1 (q0U (encM (l.take i)))), (4, .d (.int .i64 i))], [], []⟩)
  (fun i => i ≤ l.length) (fun i => l.length - i) 0 ?_ ?_ ?_
 ·refine q0e ?_ trivial
  simp (maxSteps := 2000000) only [go_sem, ↓reduceIte, Sub, Int.natCast_add, Int.natCast_mul, q0U, encM, List.flatMap_nil]
 ·omega
 ·intro i hi
  simp (maxSteps := 2000000) only [go_sem, ↓reduceIte, hI]
  refine ⟨fun hlt => ?_, fun hge => ?_⟩
  ·obtain ⟨r, hr⟩ := get_some (l := l) (i := i) (by omega)
   have hvr := hv r (List.mem_of_getElem? hr)
   have hvr' := hvr
   unfold q3P at hvr'
   have htake : l.take (i + 1) = l.take i ++ [r] := by rw [List.take_add_one, hr]; rfl
   have hle := z6G (l := l.take i) fun x hx => hv x (List.mem_of_mem_take hx)
   have hti : (l.take i).length = i := by rw [List.length_take]; omega
   have hbl := q5Z (encM (l.take i))
   have hnext : q0U (encM (l.take i)) ++ q0U (enc r) = q0U (encM (l.take (i + 1))) := by rw [htake, q7G, q2n]; simp [encM]
   have q1 : Int.tdiv (r : Int) 64 = ((r / 64 : Nat) : Int) := rfl
   have q2 : Int.tmod (r : Int) 64 = ((r % 64 : Nat) : Int) := rfl
   have q3 : Int.tdiv (r : Int) 4096 = ((r / 4096 : Nat) : Int) := rfl
   have q4 : Int.tdiv (r : Int) 262144 = ((r / 262144 : Nat) : Int) := rfl
   have q5 : Int.tmod ((r / 64 : Nat) : Int) 64 = ((r / 64 % 64 : Nat) : Int) := rfl
   have q6 : Int.tmod ((r / 4096 : Nat) : Int) 64 = ((r / 4096 % 64 : Nat) : Int) := rfl
   rcases q5I hvr with ⟨a, e⟩ | ⟨a, b, e⟩ | ⟨a, b, e⟩ | ⟨a, b, e⟩
   ·rw [e] at hnext
    have z0 : ((r : Int) < 128) = True := eq_true (by omega)
    have hz : q0U (encM (l.take i)) ++ [.int .u8 ((r : Int))] = q0U (encM (l.take (i + 1))) := by
     rw [← hnext]
     congr 1
     simp only [q0U, List.map_cons, List.map_nil, ofNat_toNat (show r < 256 by omega), Int.natCast_add, Int.cast_ofNat_Int]
    simp (maxSteps := 2000000) (disch := omega) only [go_sem, ↓reduceIte, hI, q0c, q6P, hr, q1, q2, q3, q4, q5, q6, z0]
    refine ⟨by omega, i + 1, ?_, by omega, by omega⟩
    refine q0e ?_ trivial
    simp (maxSteps := 2000000) only [go_sem, ↓reduceIte, Sub, Int.natCast_add, Int.natCast_mul, hz]
   ·rw [e] at hnext
    have z0 : ((r : Int) < 128) = False := eq_false (by omega)
    have z1 : ((r : Int) < 2048) = True := eq_true (by omega)
    have hz : q0U (encM (l.take i)) ++ [.int .u8 (192 + ((r / 64 : Nat) : Int)), .int .u8 (128 + ((r % 64 : Nat) : Int))] = q0U (encM (l.take (i + 1))) := by
     rw [← hnext]
     congr 1
     simp only [q0U, List.map_cons, List.map_nil, ofNat_toNat (show 192 + r / 64 < 256 by omega), ofNat_toNat (show 128 + r % 64 < 256 by omega), Int.natCast_add, Int.cast_ofNat_Int]
    simp (maxSteps := 2000000) (disch := omega) only [go_sem, ↓reduceIte, hI, q0c, q6P, hr, q1, q2, q3, q4, q5, q6, z0, z1]
    refine ⟨by omega, i + 1, ?_, by omega, by omega⟩
    refine q0e ?_ trivial
    simp (maxSteps := 2000000) only [go_sem, ↓reduceIte, Sub, Int.natCast_add, Int.natCast_mul, hz]
   ·rw [e] at hnext
    have z0 : ((r : Int) < 128) = False := eq_false (by omega)
    have z1 : ((r : Int) < 2048) = False := eq_false (by omega)
    have z2 : ((r : Int) < 65536) = True := eq_true (by omega)
    have hz : q0U (encM (l.take i)) ++ [.int .u8 (224 + ((r / 4096 : Nat) : Int)), .int .u8 (128 + ((r / 64 % 64 : Nat) : Int)), .int .u8 (128 + ((r % 64 : Nat) : Int))] = q0U (encM (l.take (i + 1))) := by
     rw [← hnext]
     congr 1
     simp only [q0U, List.map_cons, List.map_nil, ofNat_toNat (show 224 + r / 4096 < 256 by omega), ofNat_toNat (show 128 + r / 64 % 64 < 256 by omega), ofNat_toNat (show 128 + r % 64 < 256 by omega), Int.natCast_add, Int.cast_ofNat_Int]
    simp (maxSteps := 2000000) (disch := omega) only [go_sem, ↓reduceIte, hI, q0c, q6P, hr, q1, q2, q3, q4, q5, q6, z0, z1, z2]
    refine ⟨by omega, i + 1, ?_, by omega, by omega⟩
    refine q0e ?_ trivial
    simp (maxSteps := 2000000) only [go_sem, ↓reduceIte, Sub, Int.natCast_add, Int.natCast_mul, hz]
   ·rw [e] at hnext
    have z0 : ((r : Int) < 128) = False := eq_false (by omega)
    have z1 : ((r : Int) < 2048) = False := eq_false (by omega)
    have z2 : ((r : Int) < 65536) = False := eq_false (by omega)
    have hz : q0U (encM (l.take i)) ++ [.int .u8 (240 + ((r / 262144 : Nat) : Int)), .int .u8 (128 + ((r / 4096 % 64 : Nat) : Int)), .int .u8 (128 + ((r / 64 % 64 : Nat) : Int)), .int .u8 (128 + ((r % 64 : Nat) : Int))] = q0U (encM (l.take (i + 1))) := by
     rw [← hnext]
     congr 1
     simp only [q0U, List.map_cons, List.map_nil, ofNat_toNat (show 240 + r / 262144 < 256 by omega), ofNat_toNat (show 128 + r / 4096 % 64 < 256 by omega), ofNat_toNat (show 128 + r / 64 % 64 < 256 by omega), ofNat_toNat (show 128 + r % 64 < 256 by omega), Int.natCast_add, Int.cast_ofNat_Int]
    simp (maxSteps := 2000000) (disch := omega) only [go_sem, ↓reduceIte, hI, q0c, q6P, hr, q1, q2, q3, q4, q5, q6, z0, z1, z2]
    refine ⟨by omega, i + 1, ?_, by omega, by omega⟩
    refine q0e ?_ trivial
    simp (maxSteps := 2000000) only [go_sem, ↓reduceIte, Sub, Int.natCast_add, Int.natCast_mul, hz]
  ·have : i = l.length := by omega
   subst this
   simp (maxSteps := 2000000) only [go_sem, ↓reduceIte, q3f, List.take_length]
end Go.Av.Tryz
set_option linter.unusedSimpArgs false
set_option maxRecDepth 100000
namespace Go.Av.Tryz
open Go.Proofs
def onM (s : List UInt8) (n : Nat) : Option (List UInt8) :=
 match q0X s with
 | none => none
 | some rs => if rs = [] then none else
  if 1114111 < rs.getLastD 0 + n ∨ (55295 < rs.getLastD 0 + n ∧ rs.getLastD 0 + n < 57344) ∨ (rs.getLastD 0 ≤ 55295 ∧ 57344 ≤ rs.getLastD 0 + n) then none
  else some (encM (rs.dropLast ++ [rs.getLastD 0 + n]))
def q3i (o : Option (List UInt8)) : Res := match o with
 | some t => .tup [.str t, .bool true]
 | none => .tup [.str [], .bool false]
theorem z6R {rs : List Nat} (h : rs ≠ []) : rs[rs.length - 1]? = some (rs.getLastD 0) := by
 rw [List.getLastD_eq_getLast?, List.getLast?_eq_getElem?]
 have : rs.length - 1 < rs.length := by have := List.length_pos_iff.2 h; omega
 rw [List.getElem?_eq_getElem this]; rfl
theorem j2K {rs : List Nat} (h : rs ≠ []) (x : Nat) : rs.set (rs.length - 1) x = rs.dropLast ++ [x] := by
 obtain ⟨a, b, rfl⟩ : ∃ a b, rs = a ++ [b] := ⟨rs.dropLast, rs.getLast h, (List.dropLast_concat_getLast h).symm⟩
 rw [List.dropLast_concat, List.length_append, List.set_append_right _ _ (by simp)]
 simp
theorem z4C (l : List Nat) (i x : Nat) : (q16 l).set i (.int .i64 x) = q16 (l.set i x) := by simp [q16, List.map_set]
theorem q4u (l : List Nat) : ∀ y ∈ q16 l, y.cells = [y] := fun y hy => by
 simp only [q16, List.mem_map] at hy
 obtain ⟨n, _, rfl⟩ := hy; rfl
theorem j3e : q22 Tryz.prog 96 = some (3, 1, 8) := by kernel_rfl
theorem z9B : q9k Tryz.prog 3 = true := by kernel_rfl
theorem j5d : isSl Tryz.prog 96 = true := by kernel_rfl
def q4Q : q0j :=
 .seq (.reg [Qx 4 (.k (.d (.str []))), Qx 5 KF]) (.seq (.reg [Qc 12 0, ⟨some 13, .call 64 [.t 12], none⟩, Qc 11 13, Q 14 (.ext 0 (.t 11)), Q 15 (.ext 1 (.t 11)), Qa 6 14, Qa 7 15]) 
 (.seq (.seq (.reg [Qc 16 7, Q 17 (.not (.t 16)), Qc 18 17, Qd 19 6 18 false, Qg 20 (.len false (.t 19)) 18 false, Qg 21 (.bin .eql (.t 20) (Ki 0)) 18 false, Q 22 (.pick (.t 18) 
 KT (.t 21))]) (.cond (.t 22) (.seq (.reg [Qx 4 (.k (.d (.str []))), Qx 5 KF]) .ret) .skip)) (.seq (.reg [Qc 23 6, Qc 24 6, Q 25 (.len false (.t 24)), Q 26 (.bin .sub (.t 25) (Ki 
 1)), Q 27 (.ia 1 (.t 23) (.t 26)), Q 28 (.ld false 1 (.t 27)), Qa 8 28]) (.seq (.reg [Qc 29 8, Qc 30 1, Q 31 (.bin .add (.t 29) (.t 30)), Qa 9 31]) (.seq (.seq (.reg [Qc 32 9, Q 
 33 (.bin .gtr (.t 32) (Ki 1114111)), Qc 34 33, Qd 35 9 34 false, Qg 36 (.bin .gtr (.t 35) (Ki 55295)) 34 false, Qd 37 36 34 false, Qd 38 9 37 true, Qg 39 (.bin .lss (.t 38) (Ki 
 57344)) 37 true, Qg 40 (.pick (.t 37) (.t 39) KF) 34 false, Q 41 (.pick (.t 34) KT (.t 40)), Qc 42 41, Qd 43 8 42 false, Qg 44 (.bin .leq (.t 43) (Ki 55295)) 42 false, Qd 45 44 
 42 false, Qd 46 9 45 true, Qg 47 (.bin .geq (.t 46) (Ki 57344)) 45 true, Qg 48 (.pick (.t 45) (.t 47) KF) 42 false, Q 49 (.pick (.t 42) KT (.t 48))]) (.cond (.t 49) (.seq (.reg 
 [Qx 4 (.k (.d (.str []))), Qx 5 KF]) .ret) .skip)) (.seq (.reg [Qc 50 6, ⟨some 51, .prim (.bi .append [96, 96]) [.k (.d (.list [])), .t 50] [], none⟩, Qa 10 51]) (.seq (.reg [Qc 
 52 10, Qc 53 10, Q 54 (.len false (.t 53)), Q 55 (.bin .sub (.t 54) (Ki 1)), Qc 56 9, Q 57 (.ia 1 (.t 52) (.t 55)), ⟨none, .st 1 (.t 57) (.t 56), none⟩]) (.seq (.reg [Qc 58 10, 
 ⟨some 59, .call 92 [.t 58], none⟩, Qa 4 59, Qx 5 KT]) .ret))))))))
def q4V : List LRes := [.tmp 4, .tmp 5]
theorem q6j : q0t Tryz.prog 65 60 q4Q q4V := ⟨_, _, Tryz.func65, rfl, by kernel_rfl, by kernel_rfl, rfl⟩
theorem j2d (s : List UInt8) (n : Nat) (hs : s.length ≤ 1000000) (hn : n ≤ 1000000) : q0u Tryz.prog 65 [.str s, .int .i64 n] (fun r => r = q3i (onM s n)) := by
 refine q6j.call rfl ?_
 simp (maxSteps := 2000000) only [go_sem, ↓reduceIte, q4Q, q4V]
 refine q0k.of (q9f s (by omega)) ?_
 unfold onM
 cases hrs : q0X s with
 | none =>
  simp only [q18]
  simp (maxSteps := 2000000) only [go_sem, ↓reduceIte]
  simp [q3i]
 | some rs =>
  obtain ⟨e1, e2⟩ := q7a s.length (Nat.le_refl _) hrs
  have hI : ((q16 rs).length : Int) = (rs.length : Int) := by rw [q0y]
  simp only [q18]
  by_cases h0 : rs = []
  ·subst h0
   simp (maxSteps := 2000000) only [go_sem, ↓reduceIte, q16]
   simp [q3i]
  ·have hpos := List.length_pos_iff.2 h0
   have hlast := z6R h0
   have hlv := e2 _ (List.mem_of_getElem? hlast)
   have hle : rs.length ≤ s.length := by
    rw [← e1]
    have : ∀ l : List Nat, (∀ r ∈ l, q3P r) → l.length ≤ (encM l).length := fun l => by
     induction l with
     | nil => intro _; simp
     | cons a l ih =>
      intro h
      have h1 := (z2K (h a (by simp))).1
      have h2 := ih fun x hx => h x (List.mem_cons_of_mem _ hx)
      have h3 : encM (a :: l) = enc a ++ encM l := rfl
      rw [h3, List.length_append, List.length_cons]; omega
    exact this rs e2
   rw [if_neg h0]
   have hd := j2K h0 (rs.getLastD 0 + n)
   generalize rs.getLastD 0 = k at *
   unfold q3P at hlv
   have z0 : ((rs.length : Int) = 0) = False := eq_false (by omega)
   have g1 : getI (q16 rs) ((rs.length : Int) - 1) = some (.int .i64 k) := by
    rw [show ((rs.length : Int) - 1) = ((rs.length - 1 : Nat) : Int) by omega, q0c, q6P, hlast]; rfl
   by_cases hb : 1114111 < k + n ∨ (55295 < k + n ∧ k + n < 57344) ∨ (k ≤ 55295 ∧ 57344 ≤ k + n)
   ·rw [if_pos hb]
    by_cases hA : 1114111 < k + n
    ·have zA : (1114111 < (k : Int) + n) = True := eq_true (by omega)
     simp (maxSteps := 2000000) (disch := omega) only [go_sem, ↓reduceIte, hI, z0, g1, zA]
     simp [q3i]
    ·by_cases hB : 55295 < k + n ∧ k + n < 57344
     ·have zA : (1114111 < (k : Int) + n) = False := eq_false (by omega)
      have zB : (55295 < (k : Int) + n) = True := eq_true (by omega)
      have zC : ((k : Int) + n < 57344) = True := eq_true (by omega)
      simp (maxSteps := 2000000) (disch := omega) only [go_sem, ↓reduceIte, hI, z0, g1, zA, zB, zC]
      simp [q3i]
     ·have zA : (1114111 < (k : Int) + n) = False := eq_false (by omega)
      have zB : (55295 < (k : Int) + n) = True := eq_true (by omega)
      have zC : ((k : Int) + n < 57344) = False := eq_false (by omega)
      have zD : ((k : Int) ≤ 55295) = True := eq_true (by omega)
      have zE : (57344 ≤ (k : Int) + n) = True := eq_true (by omega)
      simp (maxSteps := 2000000) (disch := omega) only [go_sem, ↓reduceIte, hI, z0, g1, zA, zB, zC, zD, zE]
      simp [q3i]
   ·rw [if_neg hb]
    have zA : (1114111 < (k : Int) + n) = False := eq_false (by omega)
    have hnl : (rs.dropLast ++ [k + n]).length = rs.length := by rw [← hd, List.length_set]
    have hvn : ∀ r ∈ rs.dropLast ++ [k + n], q3P r := fun r hr => by
     rcases List.mem_append.1 hr with hr | hr
     ·exact e2 r ((List.dropLast_subset _ hr))
     ·simp at hr; subst hr; unfold q3P; omega
    by_cases hB : 55295 < k + n
    ·have zB : (55295 < (k : Int) + n) = True := eq_true (by omega)
     have zC : ((k : Int) + n < 57344) = False := eq_false (by omega)
     have zE : (57344 ≤ (k : Int) + n) = True := eq_true (by omega)
     have zD : ((k : Int) ≤ 55295) = False := eq_false (by omega)
     simp (maxSteps := 2000000) (disch := omega) only [go_sem, ↓reduceIte, hI, z0, g1, zA, zB, zC, zE, zD]
     refine q0b.j25 (fs := []) (ys := q16 rs) (c := 0) j3e z9B j5d (.inl ⟨.inr rfl, rfl⟩) rfl (by intro h; exact h0 (List.length_eq_zero_iff.1 (by rw [← q0y, h]; rfl))) (fun y hy => by rw [q4u _ y hy]; rfl) (by simp) (by simp only [List.length_nil, q0y, maxLen]; omega) (fun c' h1 h2 => ?_)
     have hrl : (rowC 1 (q16 rs) c').length = c' := by rw [q3O (fun y hy => by rw [q4u _ y hy]; rfl) (by simpa using h1)]; omega
     have hcl : rs.length ≤ c' := by simpa [q0y] using h1
     have hset : (rowC 1 (q16 rs) c').set (rs.length - 1) (.d (.int .i64 ((k : Int) + n))) = rowC 1 (q16 (rs.dropLast ++ [k + n])) c' := by
      rw [← Int.natCast_add, z7c (q4u rs) (by rw [q0y]; omega) rfl, z4C, hd]
     have hto : ((rs.length : Int) - 1).toNat = rs.length - 1 := by omega
     simp (maxSteps := 2000000) (disch := omega) only [go_sem, ↓reduceIte, hI, q0y, hrl, hto, Nat.mul_one, hset]
     refine ⟨by omega, by omega, q0k.j4X (z1A.frozen (k := 51) (sz := 1) (c := c') (fs := q16 (rs.dropLast ++ [k + n])) (by rw [q0y, hnl]; rfl) rfl (fun y hy => by rw [q4u _ y hy]; rfl) (by rw [q0y, hnl]; exact hcl) (z1m _ hvn (by rw [hnl]; omega)) ?_)⟩
     simp (maxSteps := 2000000) only [go_sem, ↓reduceIte]
     simp [q3i]
    ·have zB : (55295 < (k : Int) + n) = False := eq_false (by omega)
     have zE : (57344 ≤ (k : Int) + n) = False := eq_false (by omega)
     by_cases hD : k ≤ 55295
     ·have zD : ((k : Int) ≤ 55295) = True := eq_true (by omega)
      simp (maxSteps := 2000000) (disch := omega) only [go_sem, ↓reduceIte, hI, z0, g1, zA, zB, zE, zD]
      refine q0b.j25 (fs := []) (ys := q16 rs) (c := 0) j3e z9B j5d (.inl ⟨.inr rfl, rfl⟩) rfl (by intro h; exact h0 (List.length_eq_zero_iff.1 (by rw [← q0y, h]; rfl))) (fun y hy => by rw [q4u _ y hy]; rfl) (by simp) (by simp only [List.length_nil, q0y, maxLen]; omega) (fun c' h1 h2 => ?_)
      have hrl : (rowC 1 (q16 rs) c').length = c' := by rw [q3O (fun y hy => by rw [q4u _ y hy]; rfl) (by simpa using h1)]; omega
      have hcl : rs.length ≤ c' := by simpa [q0y] using h1
      have hset : (rowC 1 (q16 rs) c').set (rs.length - 1) (.d (.int .i64 ((k : Int) + n))) = rowC 1 (q16 (rs.dropLast ++ [k + n])) c' := by
       rw [← Int.natCast_add, z7c (q4u rs) (by rw [q0y]; omega) rfl, z4C, hd]
      have hto : ((rs.length : Int) - 1).toNat = rs.length - 1 := by omega
      simp (maxSteps := 2000000) (disch := omega) only [go_sem, ↓reduceIte, hI, q0y, hrl, hto, Nat.mul_one, hset]
      refine ⟨by omega, by omega, q0k.j4X (z1A.frozen (k := 51) (sz := 1) (c := c') (fs := q16 (rs.dropLast ++ [k + n])) (by rw [q0y, hnl]; rfl) rfl (fun y hy => by rw [q4u _ y hy]; rfl) (by rw [q0y, hnl]; exact hcl) (z1m _ hvn (by rw [hnl]; omega)) ?_)⟩
      simp (maxSteps := 2000000) only [go_sem, ↓reduceIte]
      simp [q3i]
     ·exfalso; omega
end Go.Av.Tryz
set_option linter.unusedSimpArgs false
set_option maxRecDepth 100000
namespace Go.Av.Tryz
open Go.Proofs
structure Span where
 fr : Int
 «to» : Int
 tx : List UInt8
def Span.d (x : Span) : D := .agg [.int .i64 x.fr, .int .i64 x.to, .str x.tx]
def q19 (l : List Span) : List D := l.map Span.d
theorem q59 (l : List Span) : (q19 l).length = l.length := by simp [q19]
theorem q0o (l : List Span) (j : Nat) : (q19 l)[j]? = (l[j]?).map Span.d := by simp [q19]
def Span.wf (x : Span) : Prop := -9223372036854775808 ≤ x.fr ∧ x.fr ≤ 9223372036854775807 ∧ -9223372036854775808 ≤ x.to ∧ x.to ≤ 9223372036854775807 ∧ x.tx.length ≤ 1000000
def q5b (most : Int) (prev : Option Int) (x : Span) : Nat :=
 if x.fr < 0 ∨ most < x.to then 1
 else if x.to < x.fr ∨ (∃ p, prev = some p ∧ x.fr ≤ p) ∨ q0X x.tx = none ∨ x.tx = [] ∨ 40 < x.tx.length then 3
 else if onM x.tx (x.to - x.fr).toNat = none then 3 else 0
instance (prev : Option Int) (f : Int) : Decidable (∃ p, prev = some p ∧ f ≤ p) := match prev with
 | none => .isFalse (by rintro ⟨p, h, _⟩; cases h)
 | some p => if h : f ≤ p then .isTrue ⟨p, rfl, h⟩ else .isFalse (by rintro ⟨q, h1, h2⟩; cases h1; exact h h2)
def q4A (most : Int) : Option Int → List Span → Nat
 | _, [] => 0
 | prev, x :: r => if q5b most prev x = 0 then q4A most (some x.to) r else q5b most prev x
def z4B (wide : Bool) : Int := if wide = true then 65535 else 255
def z2e (l : List Span) (wide : Bool) : Nat := if 300 < l.length then 2 else q4A (z4B wide) none l
def q5g (l : List Span) (i : Nat) : Option Int := if i = 0 then none else (l[i - 1]?).map Span.to
theorem q8w (s : List UInt8) (m : Int) (hs : s.length ≤ 1000000) (h0 : 0 ≤ m) (h1 : m ≤ 1000000) : q0u Tryz.prog 65 [.str s, .int .i64 m] (fun r => r = q3i (onM s m.toNat)) := by
 obtain ⟨n, rfl⟩ := Int.eq_ofNat_of_zero_le h0
 exact j2d s n hs (by omega)
def q1D : q0j :=
 .seq (.reg [Qx 4 (Ki 0)]) (.seq (.seq (.reg [Qc 12 0, Q 13 (.len false (.t 12)), Q 14 (.bin .gtr (.t 13) (Ki 300))]) (.cond (.t 14) (.seq (.reg [Qx 4 (Ki 2)]) .ret) .skip)) (.seq 
 (.reg [Qx 5 (Ki 255)]) (.seq (.seq (.reg [Qc 15 1]) (.cond (.t 15) (.reg [Qx 5 (Ki 65535)]) .skip)) (.seq (.seq (.reg [Qx 6 (Ki 0)]) (.block 0 (.loop (.seq (.seq (.reg [Qc 16 6, 
 Qc 17 0, Q 18 (.len false (.t 17)), Q 19 (.bin .lss (.t 16) (.t 18))]) (.cond (.t 19) .skip (.exit 0))) (.seq (.block 1 (.seq (.reg [Qc 22 0, Qc 23 6, Q 24 (.ia 3 (.t 22) (.t 
 23)), Q 25 (.ld true 3 (.t 24)), ⟨some 7, .allo [.int .i64 0, .int .i64 0, .str []], none⟩, ⟨none, .st 3 (.t 7) (.t 25), none⟩]) (.seq (.seq (.reg [Q 26 (.fa 0 (.t 7)), Q 27 (.ld 
 false 1 (.t 26)), Q 28 (.bin .lss (.t 27) (Ki 0)), Qc 29 28, Qg 30 (.fa 1 (.t 7)) 29 false, Qg 31 (.ld false 1 (.t 30)) 29 false, Qd 32 5 29 false, Qg 33 (.bin .gtr (.t 31) (.t 
 32)) 29 false, Q 34 (.pick (.t 29) KT (.t 33))]) (.cond (.t 34) (.seq (.reg [Qx 4 (Ki 1)]) .ret) .skip)) (.seq (.reg [Q 36 (.fa 2 (.t 7)), Q 37 (.ld false 1 (.t 36)), ⟨some 38, 
 .call 64 [.t 37], none⟩, Qc 35 38, Q 39 (.ext 0 (.t 35)), Q 40 (.ext 1 (.t 35)), Qa 8 39, Qa 9 40]) (.seq (.seq (.dreg [Q 41 (.fa 0 (.t 7)), Q 42 (.ld false 1 (.t 41)), Q 43 (.fa 
 1 (.t 7)), Q 44 (.ld false 1 (.t 43)), Q 45 (.bin .gtr (.t 42) (.t 44)), Qc 46 45, Qd 47 6 46 false, Qg 48 (.bin .gtr (.t 47) (Ki 0)) 46 false, Qd 49 48 46 false, Qg 50 (.fa 0 
 (.t 7)) 49 true, Qg 51 (.ld false 1 (.t 50)) 49 true, Qd 52 0 49 true, Qd 53 6 49 true, Qg 54 (.bin .sub (.t 53) (Ki 1)) 49 true, Qg 55 (.ia 3 (.t 52) (.t 54)) 49 true, Qg 56 
 (.fa 1 (.t 55)) 49 true, Qg 57 (.ld false 1 (.t 56)) 49 true, Qg 58 (.bin .leq (.t 51) (.t 57)) 49 true, Qg 59 (.pick (.t 49) (.t 58) KF) 46 false, Q 60 (.pick (.t 46) KT (.t 
 59)), Qc 61 60, Qd 62 9 61 false, Qg 63 (.not (.t 62)) 61 false, Q 64 (.pick (.t 61) KT (.t 63)), Qc 65 64, Qg 66 (.fa 2 (.t 7)) 65 false, Qg 67 (.ld false 1 (.t 66)) 65 false, 
 Qg 68 (.bin .eql (.t 67) (.k (.d (.str [])))) 65 false, Q 69 (.pick (.t 65) KT (.t 68)), Qc 70 69, Qg 71 (.fa 2 (.t 7)) 70 false, Qg 72 (.ld false 1 (.t 71)) 70 false, Qg 73 
 (.len true (.t 72)) 70 false, Qg 74 (.bin .gtr (.t 73) (Ki 40)) 70 false, Q 75 (.pick (.t 70) KT (.t 74))]) (.cond (.t 75) (.seq (.reg [Qx 4 (Ki 3)]) .ret) .skip)) (.seq (.reg [Q 
 77 (.fa 2 (.t 7)), Q 78 (.ld false 1 (.t 77)), Q 79 (.fa 1 (.t 7)), Q 80 (.ld false 1 (.t 79)), Q 81 (.fa 0 (.t 7)), Q 82 (.ld false 1 (.t 81)), Q 83 (.bin .sub (.t 80) (.t 82)), 
 ⟨some 84, .call 65 [.t 78, .t 83], none⟩, Qc 76 84, Q 85 (.ext 0 (.t 76)), Q 86 (.ext 1 (.t 76)), Qa 10 85, Qa 11 86]) (.seq (.reg [Qc 87 11, Q 88 (.not (.t 87))]) (.cond (.t 88) 
 (.seq (.reg [Qx 4 (Ki 3)]) .ret) .skip)))))))) (.reg [Qc 20 6, Q 21 (.bin .add (.t 20) (Ki 1)), Qa 6 21])))))) (.seq (.reg [Qx 4 (Ki 0)]) .ret)))))
def q1I : List LRes := [.tmp 4]
theorem q4r : q0t Tryz.prog 40 89 q1D q1I := ⟨_, _, Tryz.func40, rfl, by kernel_rfl, by kernel_rfl, rfl⟩
theorem z1p (l : List Span) (wide : Bool) (hw : ∀ x ∈ l, x.wf) : q0u Tryz.prog 40 [.list (q19 l), .bool wide] (fun r => r = .one (.int .i64 (z2e l wide))) := by
 have hI : ((q19 l).length : Int) = (l.length : Int) := by rw [q59]
 refine q4r.call rfl ?_
 unfold z2e
 by_cases h300 : 300 < l.length
 ·rw [if_pos h300]
  have z : (300 < (l.length : Int)) = True := eq_true (by omega)
  simp (maxSteps := 2000000) only [go_sem, ↓reduceIte, q1D, q1I, hI, z]
 ·rw [if_neg h300]
  have z : (300 < (l.length : Int)) = False := eq_false (by omega)
  generalize hR : q4A (z4B wide) none l = R
  simp (maxSteps := 2000000) only [go_sem, ↓reduceIte, q1D, q1I, hI, z]
  refine ⟨fun hwd => ?_, fun hwd => ?_⟩
  ·have e5 : z4B wide = 65535 := by rw [hwd]; rfl
   rw [e5] at hR
   refine q0s (fun i : Nat => ⟨[(0, .d (.list (q19 l))), (5, .d (.int .i64 65535)), (6, .d (.int .i64 i))], [], []⟩)
    (fun i => i ≤ l.length ∧ q4A 65535 (q5g l i) (l.drop i) = R) (fun i => l.length - i) 0 ?_ ?_ ?_
   ·refine q0e ?_ trivial
    simp (maxSteps := 2000000) only [go_sem, ↓reduceIte, Sub, Int.natCast_add, Int.natCast_mul]
   ·exact ⟨Nat.zero_le _, hR⟩
   ·rintro i ⟨hi, hF⟩
    simp (maxSteps := 2000000) only [go_sem, ↓reduceIte, hI]
    refine ⟨fun hlt => ?_, fun hge => ?_⟩
    ·obtain ⟨x, hx⟩ := get_some (l := l) (i := i) (by omega)
     obtain ⟨w1, w2, w3, w4, w5⟩ := hw x (List.mem_of_getElem? hx)
     rw [q1J hx, q4A] at hF
     have hprev : q5g l (i + 1) = some x.to := by unfold q5g; rw [if_neg (by omega), Nat.add_sub_cancel, hx]; rfl
     rw [← hprev] at hF
     have hbad : ∀ k : Nat, k ≠ 0 → q5b 65535 (q5g l i) x = k → Res.one (.int .i64 (k : Int)) = Res.one (.int .i64 (R : Int)) := fun k h0 h => by rw [h, if_neg h0] at hF; rw [hF]
     unfold q5b at hF hbad
     by_cases hA : x.fr < 0 ∨ 65535 < x.to
     ·have b1 := hbad 1 (by decide) (if_pos hA)
      by_cases hA1 : x.fr < 0
      ·have z1 := eq_true hA1
       simp (maxSteps := 2000000) (disch := omega) only [go_sem, ↓reduceIte, hI, q0c, q0o, hx, Span.d, z1]
       exact b1
      ·have z1 := eq_false hA1
       have z2 : (65535 < x.to) = True := eq_true (by omega)
       simp (maxSteps := 2000000) (disch := omega) only [go_sem, ↓reduceIte, hI, q0c, q0o, hx, Span.d, z1, z2]
       exact b1
     ·rw [if_neg hA] at hF
      simp only [if_neg hA] at hbad
      have z1 : (x.fr < 0) = False := eq_false (by omega)
      have z2 : (65535 < x.to) = False := eq_false (by omega)
      simp (maxSteps := 2000000) (disch := omega) only [go_sem, ↓reduceIte, hI, q0c, q0o, hx, Span.d, z1, z2]
      refine q0k.of (q9f x.tx (by omega)) ?_
      by_cases hC : x.to < x.fr
      ·have b3 := hbad 3 (by decide) (if_pos (.inl hC))
       have z3 := eq_true hC
       cases hrs : q0X x.tx <;> (simp only [q18]; simp (maxSteps := 2000000) (disch := omega) only [go_sem, ↓reduceIte, z3]; exact b3)
      ·have z3 := eq_false hC
       by_cases hi0 : i = 0
       ·have z4 : (0 < (i : Int)) = False := eq_false (by omega)
        have hp : ¬ ∃ p, q5g l i = some p ∧ x.fr ≤ p := by rintro ⟨p, h1, _⟩; unfold q5g at h1; rw [if_pos hi0] at h1; cases h1
        cases hrs : q0X x.tx with
        | none =>
         have b3 := hbad 3 (by decide) (if_pos (.inr (.inr (.inl hrs))))
         simp only [q18]
         simp (maxSteps := 2000000) (disch := omega) only [go_sem, ↓reduceIte, hI, q0c, q0o, hx, Span.d, z3, z4]
         exact b3
        | some rs =>
         simp only [q18]
         by_cases h5 : x.tx = []
         ·have b3 := hbad 3 (by decide) (if_pos (.inr (.inr (.inr (.inl h5)))))
          simp (maxSteps := 2000000) (disch := omega) only [go_sem, ↓reduceIte, hI, q0c, q0o, hx, Span.d, z3, z4, h5]
          exact b3
         ·by_cases h6 : 40 < x.tx.length
          ·have b3 := hbad 3 (by decide) (if_pos (.inr (.inr (.inr (.inr h6)))))
           have z6 : (40 < (x.tx.length : Int)) = True := eq_true (by omega)
           simp (maxSteps := 2000000) (disch := omega) only [go_sem, ↓reduceIte, hI, q0c, q0o, hx, Span.d, z3, z4, h5, z6]
           exact b3
          ·have hgood : ¬ (x.to < x.fr ∨ (∃ p, q5g l i = some p ∧ x.fr ≤ p) ∨ q0X x.tx = none ∨ x.tx = [] ∨ 40 < x.tx.length) := by
            rintro (h | h | h | h | h)
            ·exact hC h
            ·exact hp h
            ·rw [hrs] at h; cases h
            ·exact h5 h
            ·exact h6 h
           rw [if_neg hgood] at hF
           simp only [if_neg hgood] at hbad
           have z6 : (40 < (x.tx.length : Int)) = False := eq_false (by omega)
           simp (maxSteps := 2000000) (disch := omega) only [go_sem, ↓reduceIte, hI, q0c, q0o, hx, Span.d, z3, z4, h5, z6]
           refine q0k.of (q8w x.tx (x.to - x.fr) (by omega) (by omega) (by omega)) ?_
           cases ho : onM x.tx (x.to - x.fr).toNat with
           | none =>
            have b3 := hbad 3 (by decide) (if_pos ho)
            simp only [q3i]
            simp (maxSteps := 2000000) (disch := omega) only [go_sem, ↓reduceIte]
            exact b3
           | some u =>
            simp only [q3i]
            simp only [ho, reduceCtorEq, if_false, if_true] at hF
            simp (maxSteps := 2000000) (disch := omega) only [go_sem, ↓reduceIte]
            refine ⟨i + 1, ?_, ⟨by omega, hF⟩, by omega⟩
            refine q0e ?_ trivial
            simp (maxSteps := 2000000) only [go_sem, ↓reduceIte, Sub, Int.natCast_add, Int.natCast_mul]
       ·have z4 : (0 < (i : Int)) = True := eq_true (by omega)
        obtain ⟨y, hy⟩ := get_some (l := l) (i := i - 1) (by omega)
        have gy : getI (q19 l) ((i : Int) - 1) = some (.agg [.int .i64 y.fr, .int .i64 y.to, .str y.tx]) := by
         rw [show ((i : Int) - 1) = ((i - 1 : Nat) : Int) by omega, q0c, q0o, hy]; rfl
        have hpv : q5g l i = some y.to := by unfold q5g; rw [if_neg hi0, hy]; rfl
        by_cases hq : x.fr ≤ y.to
        ·have b3 := hbad 3 (by decide) (if_pos (.inr (.inl ⟨y.to, hpv, hq⟩)))
         have z7 := eq_true hq
         cases hrs : q0X x.tx <;> (simp only [q18]; simp (maxSteps := 2000000) (disch := omega) only [go_sem, ↓reduceIte, z3, z4, gy, z7]; exact b3)
        ·have z7 := eq_false hq
         have hp : ¬ ∃ p, q5g l i = some p ∧ x.fr ≤ p := by rintro ⟨p, h1, h2⟩; rw [hpv] at h1; cases h1; exact hq h2
         cases hrs : q0X x.tx with
         | none =>
          have b3 := hbad 3 (by decide) (if_pos (.inr (.inr (.inl hrs))))
          simp only [q18]
          simp (maxSteps := 2000000) (disch := omega) only [go_sem, ↓reduceIte, hI, q0c, q0o, hx, Span.d, z3, z4, gy, z7]
          exact b3
         | some rs =>
          simp only [q18]
          by_cases h5 : x.tx = []
          ·have b3 := hbad 3 (by decide) (if_pos (.inr (.inr (.inr (.inl h5)))))
           simp (maxSteps := 2000000) (disch := omega) only [go_sem, ↓reduceIte, hI, q0c, q0o, hx, Span.d, z3, z4, gy, z7, h5]
           exact b3
          ·by_cases h6 : 40 < x.tx.length
           ·have b3 := hbad 3 (by decide) (if_pos (.inr (.inr (.inr (.inr h6)))))
            have z6 : (40 < (x.tx.length : Int)) = True := eq_true (by omega)
            simp (maxSteps := 2000000) (disch := omega) only [go_sem, ↓reduceIte, hI, q0c, q0o, hx, Span.d, z3, z4, gy, z7, h5, z6]
            exact b3
           ·have hgood : ¬ (x.to < x.fr ∨ (∃ p, q5g l i = some p ∧ x.fr ≤ p) ∨ q0X x.tx = none ∨ x.tx = [] ∨ 40 < x.tx.length) := by
             rintro (h | h | h | h | h)
             ·exact hC h
             ·exact hp h
             ·rw [hrs] at h; cases h
             ·exact h5 h
             ·exact h6 h
            rw [if_neg hgood] at hF
            simp only [if_neg hgood] at hbad
            have z6 : (40 < (x.tx.length : Int)) = False := eq_false (by omega)
            simp (maxSteps := 2000000) (disch := omega) only [go_sem, ↓reduceIte, hI, q0c, q0o, hx, Span.d, z3, z4, gy, z7, h5, z6]
            refine q0k.of (q8w x.tx (x.to - x.fr) (by omega) (by omega) (by omega)) ?_
            cases ho : onM x.tx (x.to - x.fr).toNat with
            | none =>
             have b3 := hbad 3 (by decide) (if_pos ho)
             simp only [q3i]
             simp (maxSteps := 2000000) (disch := omega) only [go_sem, ↓reduceIte]
             exact b3
            | some u =>
             simp only [q3i]
             simp only [ho, reduceCtorEq, if_false, if_true] at hF
             simp (maxSteps := 2000000) (disch := omega) only [go_sem, ↓reduceIte]
             refine ⟨i + 1, ?_, ⟨by omega, hF⟩, by omega⟩
             refine q0e ?_ trivial
             simp (maxSteps := 2000000) only [go_sem, ↓reduceIte, Sub, Int.natCast_add, Int.natCast_mul]
    ·have : l.drop i = [] := List.drop_eq_nil_of_le (by omega)
     rw [this] at hF
     simp only [q4A] at hF
     subst hF
     rfl
  ·have e5 : z4B wide = 255 := by rw [hwd]; rfl
   rw [e5] at hR
   refine q0s (fun i : Nat => ⟨[(0, .d (.list (q19 l))), (5, .d (.int .i64 255)), (6, .d (.int .i64 i))], [], []⟩)
    (fun i => i ≤ l.length ∧ q4A 255 (q5g l i) (l.drop i) = R) (fun i => l.length - i) 0 ?_ ?_ ?_
   ·refine q0e ?_ trivial
    simp (maxSteps := 2000000) only [go_sem, ↓reduceIte, Sub, Int.natCast_add, Int.natCast_mul]
   ·exact ⟨Nat.zero_le _, hR⟩
   ·rintro i ⟨hi, hF⟩
    simp (maxSteps := 2000000) only [go_sem, ↓reduceIte, hI]
    refine ⟨fun hlt => ?_, fun hge => ?_⟩
    ·obtain ⟨x, hx⟩ := get_some (l := l) (i := i) (by omega)
     obtain ⟨w1, w2, w3, w4, w5⟩ := hw x (List.mem_of_getElem? hx)
     rw [q1J hx, q4A] at hF
     have hprev : q5g l (i + 1) = some x.to := by unfold q5g; rw [if_neg (by omega), Nat.add_sub_cancel, hx]; rfl
     rw [← hprev] at hF
     have hbad : ∀ k : Nat, k ≠ 0 → q5b 255 (q5g l i) x = k → Res.one (.int .i64 (k : Int)) = Res.one (.int .i64 (R : Int)) := fun k h0 h => by rw [h, if_neg h0] at hF; rw [hF]
     unfold q5b at hF hbad
     by_cases hA : x.fr < 0 ∨ 255 < x.to
     ·have b1 := hbad 1 (by decide) (if_pos hA)
      by_cases hA1 : x.fr < 0
      ·have z1 := eq_true hA1
       simp (maxSteps := 2000000) (disch := omega) only [go_sem, ↓reduceIte, hI, q0c, q0o, hx, Span.d, z1]
       exact b1
      ·have z1 := eq_false hA1
       have z2 : (255 < x.to) = True := eq_true (by omega)
       simp (maxSteps := 2000000) (disch := omega) only [go_sem, ↓reduceIte, hI, q0c, q0o, hx, Span.d, z1, z2]
       exact b1
     ·rw [if_neg hA] at hF
      simp only [if_neg hA] at hbad
      have z1 : (x.fr < 0) = False := eq_false (by omega)
      have z2 : (255 < x.to) = False := eq_false (by omega)
      simp (maxSteps := 2000000) (disch := omega) only [go_sem, ↓reduceIte, hI, q0c, q0o, hx, Span.d, z1, z2]
      refine q0k.of (q9f x.tx (by omega)) ?_
      by_cases hC : x.to < x.fr
      ·have b3 := hbad 3 (by decide) (if_pos (.inl hC))
       have z3 := eq_true hC
       cases hrs : q0X x.tx <;> (simp only [q18]; simp (maxSteps := 2000000) (disch := omega) only [go_sem, ↓reduceIte, z3]; exact b3)
      ·have z3 := eq_false hC
       by_cases hi0 : i = 0
       ·have z4 : (0 < (i : Int)) = False := eq_false (by omega)
        have hp : ¬ ∃ p, q5g l i = some p ∧ x.fr ≤ p := by rintro ⟨p, h1, _⟩; unfold q5g at h1; rw [if_pos hi0] at h1; cases h1
        cases hrs : q0X x.tx with
        | none =>
         have b3 := hbad 3 (by decide) (if_pos (.inr (.inr (.inl hrs))))
         simp only [q18]
         simp (maxSteps := 2000000) (disch := omega) only [go_sem, ↓reduceIte, hI, q0c, q0o, hx, Span.d, z3, z4]
         exact b3
        | some rs =>
         simp only [q18]
         by_cases h5 : x.tx = []
         ·have b3 := hbad 3 (by decide) (if_pos (.inr (.inr (.inr (.inl h5)))))
          simp (maxSteps := 2000000) (disch := omega) only [go_sem, ↓reduceIte, hI, q0c, q0o, hx, Span.d, z3, z4, h5]
          exact b3
         ·by_cases h6 : 40 < x.tx.length
          ·have b3 := hbad 3 (by decide) (if_pos (.inr (.inr (.inr (.inr h6)))))
           have z6 : (40 < (x.tx.length : Int)) = True := eq_true (by omega)
           simp (maxSteps := 2000000) (disch := omega) only [go_sem, ↓reduceIte, hI, q0c, q0o, hx, Span.d, z3, z4, h5, z6]
           exact b3
          ·have hgood : ¬ (x.to < x.fr ∨ (∃ p, q5g l i = some p ∧ x.fr ≤ p) ∨ q0X x.tx = none ∨ x.tx = [] ∨ 40 < x.tx.length) := by
            rintro (h | h | h | h | h)
            ·exact hC h
            ·exact hp h
            ·rw [hrs] at h; cases h
            ·exact h5 h
            ·exact h6 h
           rw [if_neg hgood] at hF
           simp only [if_neg hgood] at hbad
           have z6 : (40 < (x.tx.length : Int)) = False := eq_false (by omega)
           simp (maxSteps := 2000000) (disch := omega) only [go_sem, ↓reduceIte, hI, q0c, q0o, hx, Span.d, z3, z4, h5, z6]
           refine q0k.of (q8w x.tx (x.to - x.fr) (by omega) (by omega) (by omega)) ?_
           cases ho : onM x.tx (x.to - x.fr).toNat with
           | none =>
            have b3 := hbad 3 (by decide) (if_pos ho)
            simp only [q3i]
            simp (maxSteps := 2000000) (disch := omega) only [go_sem, ↓reduceIte]
            exact b3
           | some u =>
            simp only [q3i]
            simp only [ho, reduceCtorEq, if_false, if_true] at hF
            simp (maxSteps := 2000000) (disch := omega) only [go_sem, ↓reduceIte]
            refine ⟨i + 1, ?_, ⟨by omega, hF⟩, by omega⟩
            refine q0e ?_ trivial
            simp (maxSteps := 2000000) only [go_sem, ↓reduceIte, Sub, Int.natCast_add, Int.natCast_mul]
       ·have z4 : (0 < (i : Int)) = True := eq_true (by omega)
        obtain ⟨y, hy⟩ := get_some (l := l) (i := i - 1) (by omega)
        have gy : getI (q19 l) ((i : Int) - 1) = some (.agg [.int .i64 y.fr, .int .i64 y.to, .str y.tx]) := by
         rw [show ((i : Int) - 1) = ((i - 1 : Nat) : Int) by omega, q0c, q0o, hy]; rfl
        have hpv : q5g l i = some y.to := by unfold q5g; rw [if_neg hi0, hy]; rfl
        by_cases hq : x.fr ≤ y.to
        ·have b3 := hbad 3 (by decide) (if_pos (.inr (.inl ⟨y.to, hpv, hq⟩)))
         have z7 := eq_true hq
         cases hrs : q0X x.tx <;> (simp only [q18]; simp (maxSteps := 2000000) (disch := omega) only [go_sem, ↓reduceIte, z3, z4, gy, z7]; exact b3)
        ·have z7 := eq_false hq
         have hp : ¬ ∃ p, q5g l i = some p ∧ x.fr ≤ p := by rintro ⟨p, h1, h2⟩; rw [hpv] at h1; cases h1; exact hq h2
         cases hrs : q0X x.tx with
         | none =>
          have b3 := hbad 3 (by decide) (if_pos (.inr (.inr (.inl hrs))))
          simp only [q18]
          simp (maxSteps := 2000000) (disch := omega) only [go_sem, ↓reduceIte, hI, q0c, q0o, hx, Span.d, z3, z4, gy, z7]
          exact b3
         | some rs =>
          simp only [q18]
          by_cases h5 : x.tx = []
          ·have b3 := hbad 3 (by decide) (if_pos (.inr (.inr (.inr (.inl h5)))))
           simp (maxSteps := 2000000) (disch := omega) only [go_sem, ↓reduceIte, hI, q0c, q0o, hx, Span.d, z3, z4, gy, z7, h5]
           exact b3
          ·by_cases h6 : 40 < x.tx.length
           ·have b3 := hbad 3 (by decide) (if_pos (.inr (.inr (.inr (.inr h6)))))
            have z6 : (40 < (x.tx.length : Int)) = True := eq_true (by omega)
            simp (maxSteps := 2000000) (disch := omega) only [go_sem, ↓reduceIte, hI, q0c, q0o, hx, Span.d, z3, z4, gy, z7, h5, z6]
            exact b3
           ·have hgood : ¬ (x.to < x.fr ∨ (∃ p, q5g l i = some p ∧ x.fr ≤ p) ∨ q0X x.tx = none ∨ x.tx = [] ∨ 40 < x.tx.length) := by
             rintro (h | h | h | h | h)
             ·exact hC h
             ·exact hp h
             ·rw [hrs] at h; cases h
             ·exact h5 h
             ·exact h6 h
            rw [if_neg hgood] at hF
            simp only [if_neg hgood] at hbad
            have z6 : (40 < (x.tx.length : Int)) = False := eq_false (by omega)
            simp (maxSteps := 2000000) (disch := omega) only [go_sem, ↓reduceIte, hI, q0c, q0o, hx, Span.d, z3, z4, gy, z7, h5, z6]
            refine q0k.of (q8w x.tx (x.to - x.fr) (by omega) (by omega) (by omega)) ?_
            cases ho : onM x.tx (x.to - x.fr).toNat with
            | none =>
             have b3 := hbad 3 (by decide) (if_pos ho)
             simp only [q3i]
             simp (maxSteps := 2000000) (disch := omega) only [go_sem, ↓reduceIte]
             exact b3
            | some u =>
             simp only [q3i]
             simp only [ho, reduceCtorEq, if_false, if_true] at hF
             simp (maxSteps := 2000000) (disch := omega) only [go_sem, ↓reduceIte]
             refine ⟨i + 1, ?_, ⟨by omega, hF⟩, by omega⟩
             refine q0e ?_ trivial
             simp (maxSteps := 2000000) only [go_sem, ↓reduceIte, Sub, Int.natCast_add, Int.natCast_mul]
    ·have : l.drop i = [] := List.drop_eq_nil_of_le (by omega)
     rw [this] at hF
     simp only [q4A] at hF
     subst hF
     rfl
def z3Z : List Span → Int → Option (List UInt8)
 | [], _ => none
 | x :: r, c => if x.fr ≤ c ∧ c ≤ x.to then onM x.tx (c - x.fr).toNat else z3Z r c
end Go.Av.Tryz
set_option linter.unusedSimpArgs false
namespace Go.Av.Tryz
open Go.Proofs Go.RowKit
open Go.Shelf
set_option maxRecDepth 100000
def z4m : Go.Shelf.Ren := ⟨fun | 271 => 151 | 120 => 153 | 197 => 154 | 260 => 155 | n => n, fun | 9 => 9 | 21 => 21 | 3 => 3 | 4 => 4 | 5 => 5 | 105 => 200 | 119 => 204 | 0 => 0 | 46 => 193 | 139 => 207 | 138 => 206 | n => n, fun | 3 => 1 | 4 => 2 | n => n⟩
theorem j1R : Go.Proofs.LaysM.n271 Tryz.prog z4m where
 mixed := by kernel_rfl
 f120 := Tryz.func153.trans (congrArg some (by kernel_rfl))
 f197 := Tryz.func154.trans (congrArg some (by kernel_rfl))
 f260 := Tryz.func155.trans (congrArg some (by kernel_rfl))
 f271 := Tryz.func151.trans (congrArg some (by kernel_rfl))
 t0 := Tryz.underlying0
 a0 := Tryz.isAgg0
 z0 := Tryz.sizeOf0
 v0 := Tryz.zeroValue0
 t3 := Tryz.underlying3
 a3 := Tryz.isAgg3
 z3 := Tryz.sizeOf3
 v3 := Tryz.zeroValue3
 t4 := Tryz.underlying4
 a4 := Tryz.isAgg4
 z4 := Tryz.sizeOf4
 v4 := Tryz.zeroValue4
 t5 := Tryz.underlying5
 a5 := Tryz.isAgg5
 z5 := Tryz.sizeOf5
 v5 := Tryz.zeroValue5
 t9 := Tryz.underlying9
 a9 := Tryz.isAgg9
 z9 := Tryz.sizeOf9
 v9 := Tryz.zeroValue9
 t21 := Tryz.underlying21
 a21 := Tryz.isAgg21
 z21 := Tryz.sizeOf21
 v21 := Tryz.zeroValue21
 t46 := Tryz.underlying193
 a46 := Tryz.isAgg193
 z46 := Tryz.sizeOf193
 v46 := Tryz.zeroValue193
 t105 := Tryz.underlying200
 a105 := Tryz.isAgg200
 z105 := Tryz.sizeOf200
 v105 := Tryz.zeroValue200
 t119 := Tryz.underlying204
 a119 := Tryz.isAgg204
 z119 := Tryz.sizeOf204
 t138 := Tryz.underlying206
 a138 := Tryz.isAgg206
 z138 := Tryz.sizeOf206
 v138 := Tryz.zeroValue206
 t139 := Tryz.underlying207
 a139 := Tryz.isAgg207
 z139 := Tryz.sizeOf207
 v139 := Tryz.zeroValue207
 g3 := by kernel_rfl
 g4 := by kernel_rfl
 i0 := by kernel_rfl
 i3 := by kernel_rfl
 i4 := by kernel_rfl
 i5 := by kernel_rfl
 i9 := by kernel_rfl
 i21 := by kernel_rfl
 i46 := by kernel_rfl
 i105 := by kernel_rfl
 i138 := by kernel_rfl
 i139 := by kernel_rfl
 m3 := by kernel_rfl
 m4 := by kernel_rfl
theorem j4N {f : Nat → Nat} {w : World} (hI : Inv.inv Tryz.prog f w) : Lib.Utf8Tabs 1 2 w := hI.2.2.1 _ _ (by kernel_rfl) (by kernel_rfl)
theorem j1h {f : Nat → Nat} {w w' : World} (h : Below w.heap.size w w') (ht : ∀ b, w.heap.size ≤ b → f b = 0) : Fr f w f w' :=
 ⟨h.size, fun b hb => ⟨h.block b hb, rfl⟩, fun b hb => ht b (Nat.le_trans h.size hb), h.os, h.tape, h.output⟩
theorem j5G {f : Nat → Nat} {w : World} {vs : Array Value} {s : List UInt8} (hsz : vs.size = 1) (h : RD f w (.str s) (vs.getD 0 undef)) : vs = #[.string ⟨s.toArray⟩] := by
 match vs, hsz with
 | ⟨[v]⟩, _ => cases h; rfl
theorem z0w (s : List UInt8) (hs : s.length ≤ 1000000000) : q0u Tryz.prog 151 [.str s] (fun r => r = .tup [.int .i32 (Lib.decodeLastL s).1, .int .i64 (Lib.decodeLastL s).2]) := by
 intro f w vs hI ht hsz hrd
 obtain rfl := j5G hsz (hrd 0 _ rfl)
 refine (Any.utf8_DecodeLastRuneInString j1R.ton271 ⟨s.toArray⟩ w (by show s.toArray.size ≤ _; simp; omega) (j4N hI)).mono fun e w' ⟨he, hw⟩ => ?_
 refine ⟨_, _, f, rfl, he, ⟨_, rfl, rfl, fun i y hi => ?_⟩, j1h hw ht⟩
 match i, hi with
 | 0, hi => cases hi; exact .int _ _
 | 1, hi => cases hi; exact .int _ _
 | (i + 2), hi => simp at hi
end Go.Av.Tryz
