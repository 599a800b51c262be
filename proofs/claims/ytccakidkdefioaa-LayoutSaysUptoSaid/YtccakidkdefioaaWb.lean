import Derived.Test.YtccakidkdefioaaWa
import Derived.Test.YtccakidkdefioaaAvG
import Derived.Lib.MapLaws
import Derived.Lib.RuneBytes
import Derived.Lib.SpaceUEq
import Derived.Lib.ValidLaws
import Derived.Test.YtccakidkdefioaaAvI
set_option linter.unusedSimpArgs false
set_option maxRecDepth 100000
set_option maxHeartbeats 2000000
namespace Go.Av.Try
open Go.Proofs
theorem intsSl : zeroOne Try.prog 3 = true := by kernel_rfl
theorem rowsSl : zeroOne Try.prog 26 = true := by kernel_rfl
def ordS : List Nat → Nat → AV
 | [], _ => .ns
 | _ :: r, c => .rs (.l 26) (r.length + 1) c
def ordL : List Nat → Nat → List (Nat × AObj)
 | [], _ => []
 | x :: r, c => [(26, .cells (rowN (x :: r) c))]
def outS : List (List Nat × Nat) → Nat → AV
 | [], _ => .ns
 | _ :: r, co => .rs (.l 79) (r.length + 1) co
def outL : List (List Nat × Nat) → Nat → List (Nat × AObj)
 | [], _ => []
 | p :: r, co => (79, .cells (outA (p :: r) co)) :: famL 1000 (p :: r)
theorem outS_snoc (rs : List (List Nat × Nat)) (p : List Nat × Nat) (co : Nat) : outS (rs ++ [p]) co = .rs (.l 79) (rs.length + 1) co := by
 cases rs <;> simp [outS]
theorem outL_snoc (rs : List (List Nat × Nat)) (p : List Nat × Nat) (co : Nat) : outL (rs ++ [p]) co = (79, .cells (outA (rs ++ [p]) co)) :: famL 1000 (rs ++ [p]) := by
 cases rs <;> rfl
structure Rws (l : List Gl) (O : List Nat) (j : Nat) (rows : List (List Nat × Nat)) (co : Nat) : Prop where
 eq : rows.map Prod.fst = (O.take j).foldl (grp1 l) []
 cap : ∀ p ∈ rows, p.1 ≠ [] ∧ p.1.length ≤ p.2 ∧ p.2 ≤ maxLen
 co : rows = [] ∨ (rows.length ≤ co ∧ co ≤ maxLen)
 len : rows.length ≤ j ∧ ∀ p ∈ rows, p.1.length ≤ j
 el : ∀ p ∈ rows, ∀ x ∈ p.1, x < l.length
theorem Rws.fold {l : List Gl} {O : List Nat} {j i co : Nat} {rows : List (List Nat × Nat)} (h : Rws l O j rows co) (hi : O[j]? = some i) : (O.take (j + 1)).foldl (grp1 l) [] = grp1 l (rows.map Prod.fst) i := by
 have htk : O.take (j + 1) = O.take j ++ [i] := by rw [List.take_add_one, hi]; rfl
 rw [htk, List.foldl_append, ← h.eq]; rfl
theorem Rws.new {l : List Gl} {O : List Nat} {j i co co' : Nat} {rows : List (List Nat × Nat)} (h : Rws l O j rows co) (hi : O[j]? = some i) (hil : i < l.length) (hg : grp1 l (rows.map Prod.fst) i = rows.map Prod.fst ++ [[i]]) (hc : rows.length + 1 ≤ co' ∧ co' ≤ maxLen) : Rws l O (j + 1) (rows ++ [([i], 1)]) co' := by
 refine ⟨by rw [h.fold hi, hg]; simp, fun p hp => ?_, .inr (by simpa using hc), ⟨by have := h.len.1; simp; omega, fun p hp => ?_⟩, fun p hp x hx => ?_⟩
 ·rcases List.mem_append.1 hp with hp | hp
  ·exact h.cap p hp
  ·rw [List.mem_singleton.1 hp]; exact ⟨by simp, by simp, by simp [maxLen]⟩
 ·rcases List.mem_append.1 hp with hp | hp
  ·have := h.len.2 p hp; omega
  ·rw [List.mem_singleton.1 hp]; simp
 ·rcases List.mem_append.1 hp with hp | hp
  ·exact h.el p hp x hx
  ·rw [List.mem_singleton.1 hp] at hx; rw [List.mem_singleton.1 hx]; exact hil
theorem Rws.ext {l : List Gl} {O : List Nat} {j i co c' : Nat} {rs : List (List Nat × Nat)} {p : List Nat × Nat} (h : Rws l O j (rs ++ [p]) co) (hi : O[j]? = some i) (hil : i < l.length) (hg : grp1 l ((rs ++ [p]).map Prod.fst) i = rs.map Prod.fst ++ [p.1 ++ [i]]) (hc : p.1.length + 1 ≤ c' ∧ c' ≤ maxLen) : Rws l O (j + 1) (rs ++ [(p.1 ++ [i], c')]) co := by
 have hp := h.cap p (by simp)
 refine ⟨by rw [h.fold hi, hg]; simp, fun q hq => ?_, .inr ?_, ⟨by have := h.len.1; simp at this ⊢; omega, fun q hq => ?_⟩, fun q hq x hx => ?_⟩
 ·rcases List.mem_append.1 hq with hq | hq
  ·exact h.cap q (by simp [hq])
  ·rw [List.mem_singleton.1 hq]; exact ⟨by simp, by simpa using hc.1, hc.2⟩
 ·have := h.co.resolve_left (by simp)
  simpa using this
 ·rcases List.mem_append.1 hq with hq | hq
  ·have := h.len.2 q (by simp [hq]); omega
  ·rw [List.mem_singleton.1 hq]
   have := h.len.2 p (by simp)
   simp; omega
 ·rcases List.mem_append.1 hq with hq | hq
  ·exact h.el q (by simp [hq]) x hx
  ·rw [List.mem_singleton.1 hq] at hx
   rcases List.mem_append.1 hx with hx | hx
   ·exact h.el p (by simp) x hx
   ·rw [List.mem_singleton.1 hx]; exact hil
def srtR (l : List Gl) (O : List Nat) (rows : List (List Nat × Nat)) (k : Nat) : List (List Nat × Nat) := (rows.take k).map (fun p => ((kyX l O).st p.1, p.2)) ++ rows.drop k
theorem srtR_len (l : List Gl) (O : List Nat) (rows : List (List Nat × Nat)) (k : Nat) : (srtR l O rows k).length = rows.length := by simp [srtR]; omega
theorem srtR_get {l : List Gl} {O : List Nat} {rows : List (List Nat × Nat)} {k : Nat} {p : List Nat × Nat} (h : rows[k]? = some p) : (srtR l O rows k)[k]? = some p := by
 have hk := (List.getElem?_eq_some_iff.1 h).1
 have : ((rows.take k).map (fun p => ((kyX l O).st p.1, p.2))).length = k := by simp; omega
 rw [srtR, List.getElem?_append_right (by omega), this, Nat.sub_self, List.getElem?_drop, Nat.add_zero, h]
theorem srtR_step {l : List Gl} {O : List Nat} {rows : List (List Nat × Nat)} {k : Nat} {p : List Nat × Nat} (h : rows[k]? = some p) : srtR l O rows (k + 1) = (srtR l O rows k).set k ((kyX l O).st p.1, p.2) := by
 have hk := (List.getElem?_eq_some_iff.1 h).1
 have hl : ((rows.take k).map (fun p => ((kyX l O).st p.1, p.2))).length = k := by simp; omega
 have hd : rows.drop k = p :: rows.drop (k + 1) := by
  rw [List.drop_eq_getElem_cons hk]; congr 1; exact (List.getElem?_eq_some_iff.1 h).2
 rw [srtR, srtR, List.take_add_one, h, hd, List.set_append_right _ _ (by omega), hl, Nat.sub_self]
 simp
def L_layout_lines : LCode :=
 .seq (.reg [⟨some 1, .box (.t 0), none⟩, ⟨some 2, .nils 26 1, none⟩]) (.seq (.alt [([], ⟨some 3, .nils 3 1, none⟩)] []) (.seq (.seq (.reg [Q 13 (.ld false 1 (.t 1)), Q 14 (.len 
 false (.t 13)), Q 15 (.cp (Ki 0))]) (.block 0 (.loop (.seq (.reg [Q 16 (.bin .lss (.t 15) (.t 14))]) (.seq (.cond (.t 16) .skip (.exit 0)) (.seq (.block 1 (.seq (.reg [Qc 17 15, 
 Q 18 (.ia 10 (.t 13) (.t 15)), Q 19 (.ld true 10 (.t 18)), ⟨some 5, .allo [.str [], .int .i64 0, .int .i64 0, .int .i64 0, .int .i64 0, .int .i64 0, .int .i64 0, .int .i64 0, 
 .int .i64 0, .int .i64 0], none⟩, Qa 4 17, ⟨none, .st 10 (.t 5) (.t 19), none⟩]) (.seq (.reg [Q 20 (.fa 0 (.t 5)), Q 21 (.ld false 1 (.t 20)), Q 22 (.bin .neq (.t 21) (.k (.d 
 (.str []))))]) (.cond (.t 22) (.alt [([Qc 23 3, Qc 24 4, ⟨some 25, .bsl 3 1 [.t 24], none⟩], ⟨some 26, .app 3 1 8 false (.t 23) (.t 25), none⟩)] [Qa 3 26]) .skip)))) (.reg [Q 27 
 (.bin .add (.t 15) (Ki 1)), Qc 15 27]))))))) (.seq (.reg [Qc 28 3, Q 29 (.mkF (.func 26) [] [.t 1]), ⟨some 30, .prim .call [.k (.fn (.func 25) [] []), .t 28, .t 29] [], none⟩]) 
 (.seq (.alt [([], ⟨some 6, .nils 26 1, none⟩)] []) (.seq (.seq (.reg [Qc 31 3, Q 32 (.len false (.t 31)), Q 33 (.cp (Ki 0))]) (.block 2 (.loop (.seq (.reg [Q 34 (.bin .lss (.t 
 33) (.t 32))]) (.seq (.cond (.t 34) .skip (.exit 2)) (.seq (.block 3 (.seq (.reg [Q 35 (.ia 1 (.t 31) (.t 33)), Q 36 (.ld false 1 (.t 35)), Qa 8 36]) (.seq (.reg [Qc 37 6, Q 38 
 (.len false (.t 37)), Q 39 (.bin .sub (.t 38) (Ki 1)), Qa 9 39]) (.seq (.join (.seq (.reg [Qc 40 9, Q 41 (.bin .geq (.t 40) (Ki 0))]) (.cond (.t 41) (.seq (.dreg [⟨some 10, .allo 
 [.str [], .int .i64 0, .int .i64 0, .int .i64 0, .int .i64 0, .int .i64 0, .int .i64 0, .int .i64 0, .int .i64 0, .int .i64 0], none⟩, Q 42 (.ld false 1 (.t 1)), Qc 43 6, Qc 44 
 9, Q 45 (.ia 1 (.t 43) (.t 44)), Q 46 (.ld false 1 (.t 45)), Q 47 (.ia 1 (.t 46) (Ki 0)), Q 48 (.ld false 1 (.t 47)), Q 49 (.ia 10 (.t 42) (.t 48)), Q 50 (.ld true 10 (.t 49)), 
 ⟨none, .st 10 (.t 10) (.t 50), none⟩]) (.seq (.dreg [Q 51 (.fa 1 (.t 10)), Q 52 (.fa 1 (.t 51)), Q 53 (.ld false 1 (.t 52)), Q 54 (.ld false 1 (.t 1)), Qc 55 8, Q 56 (.ia 10 (.t 
 54) (.t 55)), Q 57 (.fa 1 (.t 56)), Q 58 (.fa 1 (.t 57)), Q 59 (.ld false 1 (.t 58)), Q 60 (.bin .sub (.t 53) (.t 59)), Q 61 (.bin .mul (Ki 2) (.t 60)), Q 62 (.fa 5 (.t 10)), Q 
 63 (.ld false 1 (.t 62)), Q 64 (.bin .leq (.t 61) (.t 63))]) (.cond (.t 64) (.seq (.alt [([Qc 65 6, Qc 66 9, Qc 67 6, Qc 68 9, Q 69 (.ia 1 (.t 67) (.t 68)), Q 70 (.ld false 1 (.t 
 69)), Qc 71 8, ⟨some 72, .bsl 3 1 [.t 71], none⟩], ⟨some 73, .app 3 1 8 false (.t 70) (.t 72), none⟩)] [Q 74 (.ia 1 (.t 65) (.t 66)), ⟨none, .st 1 (.t 74) (.t 73), none⟩]) (.exit 
 3)) .skip))) .skip))) (.alt [([Qc 75 6, Qc 76 8], ⟨some 77, .bsl 3 1 [.t 76], none⟩), ([], ⟨some 78, .bsl 26 1 [.t 77], none⟩), ([], ⟨some 79, .app 26 1 24 false (.t 75) (.t 78), 
 none⟩)] [Qa 6 79]))))) (.reg [Q 80 (.bin .add (.t 33) (Ki 1)), Qc 33 80]))))))) (.seq (.seq (.reg [Qc 81 6, Q 82 (.len false (.t 81)), Q 83 (.cp (Ki 0))]) (.block 4 (.loop (.seq 
 (.reg [Q 84 (.bin .lss (.t 83) (.t 82))]) (.seq (.cond (.t 84) .skip (.exit 4)) (.seq (.block 5 (.seq (.reg [Q 85 (.ia 1 (.t 81) (.t 83)), Q 86 (.ld false 1 (.t 85)), Qa 12 86]) 
 (.reg [Qc 87 12, Q 88 (.mkF (.func 28) [] [.t 1]), ⟨some 89, .prim .call [.k (.fn (.func 25) [] []), .t 87, .t 88] [], none⟩]))) (.reg [Q 90 (.bin .add (.t 83) (Ki 1)), Qc 83 
 90]))))))) (.seq (.alt [([], Qc 91 6)] [Qa 2 91]) .ret)))))))
def R_layout_lines : List LRes := [.tmp 2]
theorem lift_layout_lines : Lifts Try.prog 21 92 L_layout_lines R_layout_lines := ⟨_, _, Try.func21, rfl, by kernel_rfl, by kernel_rfl, rfl⟩
theorem lines_call (l : List Gl) (hl : l.length ≤ 1000) (hok : ∀ g ∈ l, g.ok) : PCall Try.prog 21 [.list (glsD l)] (fun r => r = .one (.list ((linesF l).map fun r => .list (nsD r)))) := by
 have hI : ((glsD l).length : Int) = (l.length : Int) := by rw [glsD_length]
 refine lift_layout_lines.call rfl ?_
 simp (maxSteps := 2000000) only [go_sem, ↓reduceIte, L_layout_lines, R_layout_lines]
 refine AStep.nils ?_
 simp (maxSteps := 2000000) only [go_sem, ↓reduceIte, hI]
 refine run_loop (fun y : Nat × Nat => ⟨[(1, .ptr (.l 1) 0), (3, ordS (idxT l y.1) y.2), (13, .d (.list (glsD l))), (14, .d (.int .i64 l.length)), (15, .d (.int .i64 y.1))], (1, .cells [.d (.list (glsD l))]) :: ordL (idxT l y.1) y.2, []⟩)
  (fun y => y.1 ≤ l.length ∧ (idxT l y.1 = [] ∨ (idxT l y.1).length ≤ y.2 ∧ y.2 ≤ maxLen)) (fun y => l.length - y.1) (0, 0) ?_ ?_ ?_
 ·have e : idxT l 0 = [] := rfl
  refine Weak.mk ?_ ?_ ?_ <;> simp (maxSteps := 2000000) only [go_sem, ↓reduceIte, Sub, Int.natCast_add, Int.natCast_mul, e, ordS, ordL]
 ·exact ⟨Nat.zero_le _, .inl rfl⟩
 ·rintro ⟨i, c⟩ ⟨hi, hc⟩
  simp only at hi hc
  have hil := idxT_len l i
  have hsucc := idxT_succ l i
  simp (maxSteps := 2000000) only [go_sem, ↓reduceIte]
  refine ⟨fun hlt => ?_, fun hge => ?_⟩
  ·have hlt : i < l.length := by omega
   have hgx : (glsD l)[i]? = some (glAt l i).d := by rw [glsD_get, glAt_get hlt]; rfl
   by_cases ht : (glAt l i).tx = []
   ·have hT : hasT l i = false := by simp [hasT, ht]
    rw [hT] at hsucc
    simp only [Bool.false_eq_true, if_false, List.append_nil] at hsucc
    cases hO : idxT l i with
    | nil =>
     have hs : ordS ([] : List Nat) c = .ns := rfl
     have hb : ordL ([] : List Nat) c = [] := rfl
     rw [hO] at hsucc
     simp (maxSteps := 2000000) (disch := omega) only [go_sem, ↓reduceIte, hs, hb, hI, getI_nat, hgx, Gl.d, ht]
     refine ⟨(i + 1, 0), ?_, ⟨by simp only; omega, .inl hsucc⟩, by simp only; omega⟩
     simp only [hsucc]
     refine Weak.mk ?_ ?_ ?_ <;> simp (maxSteps := 2000000) only [go_sem, ↓reduceIte, Sub, Int.natCast_add, Int.natCast_mul, ordS, ordL]
    | cons x r =>
     have hs : ordS (x :: r) c = .rs (.l 26) (r.length + 1) c := rfl
     have hb : ordL (x :: r) c = [(26, .cells (rowN (x :: r) c))] := rfl
     rw [hO] at hsucc hc
     simp (maxSteps := 2000000) (disch := omega) only [go_sem, ↓reduceIte, hs, hb, hI, getI_nat, hgx, Gl.d, ht]
     refine ⟨(i + 1, c), ?_, ⟨by simp only; omega, .inr (by rw [hsucc]; exact hc.resolve_left (by simp))⟩, by simp only; omega⟩
     simp only [hsucc]
     refine Weak.mk ?_ ?_ ?_ <;> simp (maxSteps := 2000000) only [go_sem, ↓reduceIte, Sub, Int.natCast_add, Int.natCast_mul, ordS, ordL]
   ·have hT : hasT l i = true := by simp [hasT, ht]
    rw [hT] at hsucc
    simp only [if_true] at hsucc
    cases hO : idxT l i with
    | nil =>
     have hs : ordS ([] : List Nat) c = .ns := rfl
     have hb : ordL ([] : List Nat) c = [] := rfl
     rw [hO] at hsucc
     simp (maxSteps := 2000000) (disch := omega) only [go_sem, ↓reduceIte, hs, hb, hI, getI_nat, hgx, Gl.d, ht]
     refine AStep.app1 (r := 26) (c := 0) (cs := nsA []) intsSl (.inl ⟨rfl, rfl⟩) (Src1.own rfl) (nsA_ok [] 26) (int_ok _ _) (by simp [nsA, maxLen]) (fun c' h1 h2 => ?_)
     rw [rowN_snoc]
     simp (maxSteps := 2000000) (disch := omega) only [go_sem, ↓reduceIte]
     refine ⟨(i + 1, c'), ?_, ⟨by simp only; omega, .inr ⟨by rw [hsucc]; exact h1, h2⟩⟩, by simp only; omega⟩
     simp only [hsucc]
     refine Weak.mk ?_ ?_ ?_ <;> simp (maxSteps := 2000000) only [go_sem, ↓reduceIte, Sub, Int.natCast_add, Int.natCast_mul, ordS, ordL, nsA, List.map_nil]
    | cons x r =>
     have hs : ordS (x :: r) c = .rs (.l 26) (r.length + 1) c := rfl
     have hb : ordL (x :: r) c = [(26, .cells (rowN (x :: r) c))] := rfl
     rw [hO] at hsucc hc hil
     have hc' := hc.resolve_left (by simp)
     simp (maxSteps := 2000000) (disch := omega) only [go_sem, ↓reduceIte, hs, hb, hI, getI_nat, hgx, Gl.d, ht]
     simp only [List.length_cons] at hil hc'
     refine AStep.app1 (r := 26) (c := c) (cs := nsA (x :: r)) intsSl (.inr ⟨by rw [nsA_len]; rfl, rfl, by rw [nsA_len]; exact hc'.1, hc'.2⟩) (Src1.own rfl) (nsA_ok _ 26) (int_ok _ _) (by rw [nsA_len]; simp only [maxLen, List.length_cons]; omega) (fun c' h1 h2 => ?_)
     rw [rowN_snoc]
     rw [nsA_len] at h1 ⊢
     simp (maxSteps := 2000000) (disch := omega) only [go_sem, ↓reduceIte]
     refine ⟨(i + 1, c'), ?_, ⟨by simp only; omega, .inr ⟨by rw [hsucc]; simpa using h1, h2⟩⟩, by simp only; omega⟩
     simp only [hsucc]
     refine Weak.mk ?_ ?_ ?_ <;> simp (maxSteps := 2000000) only [go_sem, ↓reduceIte, Sub, Int.natCast_add, Int.natCast_mul, ordS, ordL, List.length_append]
  ·have hin : i = l.length := by omega
   subst hin
   have hup := idxT_up l l.length
   have hst := Ky.st_perm (K := kyY l) (idxT l l.length)
   have hO0 : ordF l = (kyY l).st (idxT l l.length) := rfl
   cases hO : idxT l l.length with
   | nil =>
    have hs : ordS [] c = .ns := rfl
    have hb : ordL [] c = [] := rfl
    have hOF : ordF l = [] := by rw [hO0, hO]; rfl
    have hlF : linesF l = [] := by
     have : grpF l = [] := by rw [grpF, hOF]; rfl
     rw [linesF, this]; rfl
    simp (maxSteps := 2000000) (disch := omega) only [go_sem, ↓reduceIte, hs, hb]
    refine PrimG.mc1 (.l 1) rfl (sortStable_none _ _) rfl rfl rfl rfl ⟨rfl, rfl⟩ ?_
    simp (maxSteps := 2000000) only [go_sem, ↓reduceIte]
    refine AStep.nils ?_
    simp (maxSteps := 2000000) only [go_sem, ↓reduceIte]
    refine run_unroll ?_
    simp (maxSteps := 2000000) only [go_sem, ↓reduceIte]
    refine run_unroll ?_
    simp (maxSteps := 2000000) only [go_sem, ↓reduceIte]
    refine AStep.step rfl (fun _ _ _ h => by cases h) rfl ?_
    simp (maxSteps := 2000000) only [go_sem, ↓reduceIte]
    rw [hlF]
    rfl
   | cons x r =>
    rw [← hO]
    have hs : ordS (idxT l l.length) c = .rs (.l 26) (r.length + 1) c := by rw [hO]; rfl
    have hb : ordL (idxT l l.length) c = [(26, .cells (rowN (idxT l l.length) c))] := by rw [hO]; rfl
    have hn : r.length + 1 = (idxT l l.length).length := by rw [hO]; rfl
    have hc' := hc.resolve_left (by rw [hO]; simp)
    rw [hn] at hs
    clear hn hO
    simp (maxSteps := 2000000) (disch := omega) only [go_sem, ↓reduceIte, hs, hb]
    refine PrimG.mc2 (.l 1) (.l 26) rfl (sortStable_call (cmpY_ok l) rfl hup (fun x hx => idxT_lt x hx) hc'.1 (by omega)) rfl rfl rfl rfl rfl ⟨box_row _, rowN_row _ _, box_row _, rowN_row _ _⟩ rfl ?_
    have hOl : (ordF l).length = (idxT l l.length).length := hst.length_eq
    rw [← hO0, ← hOl]
    rw [← hOl] at hc' hil
    have hOe : ∀ x ∈ ordF l, x < l.length := fun x hx => idxT_lt x (hst.subset hx)
    simp (maxSteps := 2000000) only [go_sem, ↓reduceIte]
    refine AStep.nils ?_
    simp (maxSteps := 2000000) only [go_sem, ↓reduceIte]
    have hOnd := ordF_nodup l
    have hOF : ordF l = ordF l := rfl
    have hgF : grpF l = (ordF l).foldl (grp1 l) [] := rfl
    have hlF : linesF l = (grpF l).map (kyX l (ordF l)).st := rfl
    clear hOF
    generalize ordF l = O at *
    generalize hn : O.length = n at *
    refine run_loop (fun y : Nat × List (List Nat × Nat) × Nat => ⟨[(1, .ptr (.l 1) 0), (6, outS y.2.1 y.2.2), (31, .rs (.l 26) n c), (32, .d (.int .i64 (n : Nat))), (33, .d (.int .i64 (y.1 : Nat)))], (1, .cells [.d (.list (glsD l))]) :: (26, .cells (rowN O c)) :: outL y.2.1 y.2.2, []⟩)
     (fun y => y.1 ≤ n ∧ Rws l O y.1 y.2.1 y.2.2) (fun y => n - y.1) (0, [], 0) ?_ ?_ ?_
    ·refine Weak.mk ?_ ?_ ?_ <;> simp (maxSteps := 2000000) only [go_sem, ↓reduceIte, Sub, Int.natCast_add, Int.natCast_mul, outS, outL]
    ·exact ⟨Nat.zero_le _, rfl, (fun p hp => by cases hp), .inl rfl, ⟨Nat.zero_le _, fun p hp => by cases hp⟩, fun p hp => by cases hp⟩
    ·clear hs hb hsucc hge hup hst hO0 hc hi hOl
     rintro ⟨j, rows, co⟩ ⟨hj, hR⟩
     simp only at hj hR
     simp (maxSteps := 2000000) only [go_sem, ↓reduceIte]
     refine ⟨fun hlt => ?_, fun hge => ?_⟩
     ·have hlt : j < n := by omega
      obtain ⟨i, hi⟩ := get_some (l := O) (i := j) (by omega)
      have hil' := hOe i (List.mem_of_getElem? hi)
      have hgi : (glsD l)[i]? = some (glAt l i).d := by rw [glsD_get, glAt_get hil']; rfl
      have hoi := hok (glAt l i) (List.mem_of_getElem? (glAt_get hil'))
      have l1 : (rowN O c)[((j : Nat) : Int).toNat * 1]? = some (.d (.int .i64 (i : Nat))) := by
       rw [show ((j : Nat) : Int).toNat * 1 = j by omega]; exact rowN_get hi
      have htk : O.take (j + 1) = O.take j ++ [i] := by rw [List.take_add_one, hi]; rfl
      rcases List.eq_nil_or_concat rows with rfl | ⟨rs, p, rfl⟩
      ·have hs0 : outS [] co = .ns := rfl
       have hb0 : outL [] co = [] := rfl
       simp (maxSteps := 2000000) (disch := omega) only [go_sem, ↓reduceIte, l1, hs0, hb0]
       refine ⟨⟨by omega, by omega⟩, ?_⟩
       refine run_joinX ⟨[(1, .ptr (.l 1) 0), (6, .ns), (8, .d (.int .i64 (i : Nat))), (31, .rs (.l 26) n c), (32, .d (.int .i64 (n : Nat))), (33, .d (.int .i64 (j : Nat)))], [(1, .cells [.d (.list (glsD l))]), (26, .cells (rowN O c))], []⟩ ?_ ?_
       ·simp (maxSteps := 2000000) (disch := omega) only [go_sem, ↓reduceIte]
        refine Gho.wk ?_
        refine Weak.mk ?_ ?_ ?_ <;> simp (maxSteps := 2000000) only [go_sem, ↓reduceIte, Sub, Int.natCast_add, Int.natCast_mul]
       ·simp (maxSteps := 2000000) (disch := omega) only [go_sem, ↓reduceIte]
        refine AStep.bsl1 (r := 1000) (y := .d (.int .i64 (i : Nat))) rfl (int_ok _ _) one_int ?_
        rw [show rowA [.d (.int .i64 (i : Nat))] 1 = rowN [i] 1 from rfl]
        simp (maxSteps := 2000000) (disch := omega) only [go_sem, ↓reduceIte]
        refine AStep.bsl1 (r := 78) (y := .rs (.l 1000) 1 1) rfl (rs_ok (by omega)) one_rs ?_
        simp (maxSteps := 2000000) (disch := omega) only [go_sem, ↓reduceIte]
        refine AStep.app1 (r := 79) (c := 0) (cs := []) (y := .rs (.l 1000) 1 1) rowsSl (.inl ⟨rfl, rfl⟩) (Src1.rs rfl) (fun z hz => by cases hz) (rs_ok (by omega)) (by simp [maxLen]) (fun c' h1 h2 => ?_)
        rw [show rowA ([] ++ [AV.rs (.l 1000) 1 1]) c' = outA [([i], 1)] c' from rfl]
        simp (maxSteps := 2000000) (disch := omega) only [go_sem, ↓reduceIte]
        refine ⟨(j + 1, [([i], 1)], c'), ?_, ⟨by simp only; omega, hR.new hi hil' rfl ⟨h1, h2⟩⟩, by simp only; omega⟩
        refine Weak.mk ?_ ?_ ?_ <;> simp (maxSteps := 2000000) only [go_sem, ↓reduceIte, Sub, Int.natCast_add, Int.natCast_mul, outS, outL, famL]
      ·rw [List.concat_eq_append] at *
       have hs0 := outS_snoc rs p co
       have hb0 := outL_snoc rs p co
       have hco := hR.co.resolve_left (by simp)
       have hp := hR.cap p (by simp)
       have hrl := hR.len.1
       have hpl := hR.len.2 p (by simp)
       simp only [List.length_append, List.length_cons, List.length_nil, Nat.zero_add] at hco hrl
       obtain ⟨f, pr, hpf⟩ : ∃ f pr, p.1 = f :: pr := by
        cases h : p.1 with
        | nil => exact absurd h hp.1
        | cons f pr => exact ⟨f, pr, rfl⟩
       have hfl := hR.el p (by simp) f (by rw [hpf]; simp)
       have hgf : (glsD l)[f]? = some (glAt l f).d := by rw [glsD_get, glAt_get hfl]; rfl
       have hof := hok (glAt l f) (List.mem_of_getElem? (glAt_get hfl))
       obtain ⟨o1, o2, o3, o4, o5⟩ := hoi
       obtain ⟨u1, u2, u3, u4, u5⟩ := hof
       unfold inB at o1 o2 o3 o4 o5 u1 u2 u3 u4 u5
       have hgr := grp1_snoc l (rs.map Prod.fst) p.1 i
       have hmap : (rs ++ [p]).map Prod.fst = rs.map Prod.fst ++ [p.1] := by simp
       have hnear : near l (p.1.headD 0) i = decide (2 * ((glAt l f).ay - (glAt l i).ay) ≤ (glAt l f).sz) := by rw [hpf]; rfl
       have ek : (((rs.length + 1 : Nat) : Int) - 1) = ((rs.length : Nat) : Int) := by omega
       have l2 : (outA (rs ++ [p]) co)[((rs.length : Nat) : Int).toNat * 1]? = some (.rs (.l (1000 + rs.length)) p.1.length p.2) := by
        rw [show ((rs.length : Nat) : Int).toNat * 1 = rs.length by omega]
        exact outA_get (by simp)
       have l3 : aget (famL 1000 (rs ++ [p])) (1000 + rs.length) = some (.cells (rowN p.1 p.2)) := famL_at (by simp)
       have n1 : (1 = 1000 + rs.length) = False := eq_false (by omega)
       have n2 : (26 = 1000 + rs.length) = False := eq_false (by omega)
       have n3 : (79 = 1000 + rs.length) = False := eq_false (by omega)
       have n4 : (10 = 1000 + rs.length) = False := eq_false (by omega)
       have l4 : (rowN p.1 p.2)[0]? = some (.d (.int .i64 (f : Nat))) := by
        refine rowN_get ?_
        rw [hpf]; rfl
       have l5 := outA_drop (d := 10) (co := co) (rs ++ [p]) (by omega)
       have l6 := amap_famL (.l 10) 1000 (rs ++ [p])
       have l7 : ∀ o : AObj, aset (famL 1000 (rs ++ [p])) 10 o = famL 1000 (rs ++ [p]) ++ [(10, o)] := fun o => aset_fam10 (by omega)
       have l8 : ∀ o : AObj, aget (famL 1000 (rs ++ [p]) ++ [(10, o)]) 10 = some o := fun o => by rw [aget_append, famL_off (by omega)]; rfl
       have l9 : ∀ o : AObj, aget (famL 1000 (rs ++ [p]) ++ [(10, o)]) (1000 + rs.length) = some (.cells (rowN p.1 p.2)) := fun o => by rw [aget_append, l3]; rfl
       have l10 : ∀ o o' : AObj, aset (famL 1000 (rs ++ [p]) ++ [(10, o)]) 10 o' = famL 1000 (rs ++ [p]) ++ [(10, o')] := fun o o' => by rw [aset_fam_off (by omega)]; rfl
       simp (maxSteps := 2000000) (disch := omega) only [go_sem, ↓reduceIte, l1, hs0, hb0, ek]
       refine ⟨⟨by omega, by omega⟩, ?_⟩
       have hp0 : 0 < p.1.length := by rw [hpf]; simp
       have z0 : (0 ≤ (rs.length : Int)) = True := eq_true (by omega)
       by_cases hn : 2 * ((glAt l f).ay - (glAt l i).ay) ≤ (glAt l f).sz
       ·have zn := eq_true hn
        refine run_joinP ?_
        simp (maxSteps := 2000000) (disch := omega) only [go_sem, ↓reduceIte, z0, zn, n1, n2, n3, n4, l2, l3, l4, l5, l6, l7, l8, l9, l10, getI_nat, hgf, hgi, Gl.d]
        refine ⟨by omega, by omega, by omega, ?_⟩
        have hne : near l (p.1.headD 0) i = true := by rw [hnear]; exact decide_eq_true hn
        rw [hne, if_pos rfl, ← hmap] at hgr
        have hpl2 : (nsA p.1).length = p.1.length := nsA_len _
        refine AStep.app1 (r := 1000 + rs.length) (c := p.2) (cs := nsA p.1) (y := .d (.int .i64 (i : Nat))) intsSl (.inr ⟨by rw [nsA_len]; rfl, ?_, by rw [nsA_len]; exact hp.2.1, hp.2.2⟩) (Src1.own rfl) (nsA_ok _ _) (int_ok _ _) (by rw [nsA_len]; simp only [maxLen]; omega) (fun c' h1 h2 => ?_)
        ·simp only [St.obj, aget, n1, n2, n3, if_false]
         exact l9 _
        rw [rowN_snoc, hpl2] at *
        have m1 : ∀ o : AObj, amap (dropObj (.l (1000 + rs.length))) (famL 1000 (rs ++ [p]) ++ [(10, o)]) = famL 1000 (rs ++ [p]) ++ [(10, dropObj (.l (1000 + rs.length)) o)] := fun o => by rw [amap_app, amap_famL]; rfl
        have m2 : ∀ m : List (Nat × AObj), aset (famL 1000 (rs ++ [p]) ++ m) (1000 + rs.length) (.cells (rowN (p.1 ++ [i]) c')) = famL 1000 (rs ++ [(p.1 ++ [i], c')]) ++ m := fun m => aset_fam_last (q := (p.1 ++ [i], c'))
        have m3 : ((outA (rs ++ [p]) co).map (AV.drop (.l (1000 + rs.length)))).set (((rs.length : Nat) : Int).toNat * 1) (.rs (.l (1000 + rs.length)) (p.1.length + 1) c') = outA (rs ++ [(p.1 ++ [i], c')]) co := by
         rw [show ((rs.length : Nat) : Int).toNat * 1 = rs.length by omega]
         have := outA_junk (rows := rs) (co := co) (p := p) (q := (p.1 ++ [i], c'))
         rw [List.length_append] at this
         exact this
        have m4 : ((outA (rs ++ [p]) co).map (AV.drop (.l (1000 + rs.length)))).length = co := by rw [List.length_map]; exact outA_len (by simp; omega)
        simp (maxSteps := 2000000) (disch := omega) only [go_sem, ↓reduceIte, n1, n2, n3, n4, m1, m2, m3, m4]
        refine ⟨⟨by omega, by omega⟩, by omega, (j + 1, rs ++ [(p.1 ++ [i], c')], co), ?_, ⟨by simp only; omega, hR.ext hi hil' hgr ⟨h1, h2⟩⟩, by simp only; omega⟩
        refine Weak.mk ?_ ?_ ?_ <;> simp (maxSteps := 2000000) only [go_sem, ↓reduceIte, Sub, Int.natCast_add, Int.natCast_mul, outS_snoc, outL_snoc]
        exact sub_fam_cons (by omega) (sub_fam_cons (by omega) (sub_fam_cons (by omega) sub_fam_app))
       ·have zn := eq_false hn
        have hne : near l (p.1.headD 0) i = false := by rw [hnear]; exact decide_eq_false hn
        rw [hne, if_neg (by simp), ← hmap] at hgr
        refine run_joinX ⟨[(1, .ptr (.l 1) 0), (6, .rs (.l 79) (rs ++ [p]).length co), (8, .d (.int .i64 (i : Nat))), (31, .rs (.l 26) n c), (32, .d (.int .i64 (n : Nat))), (33, .d (.int .i64 (j : Nat)))], (1, .cells [.d (.list (glsD l))]) :: (26, .cells (rowN O c)) :: (79, .cells (outA (rs ++ [p]) co)) :: famL 1000 (rs ++ [p]), []⟩ ?_ ?_
        ·simp (maxSteps := 2000000) (disch := omega) only [go_sem, ↓reduceIte, z0, zn, n1, n2, n3, n4, l2, l3, l4, l5, l6, l7, l8, l9, l10, getI_nat, hgf, hgi, Gl.d]
         refine ⟨by omega, by omega, ?_⟩
         refine Gho.wk ?_
         refine Weak.mk ?_ ?_ ?_ <;> simp (maxSteps := 2000000) only [go_sem, ↓reduceIte, Sub, Int.natCast_add, Int.natCast_mul, List.length_append]
         exact sub_fam_cons (by omega) (sub_fam_cons (by omega) (sub_fam_cons (by omega) sub_fam_app))
        ·clear l2 l3 l4 l5 l6 l7 l8 l9 l10 n1 n2 n3 n4 hs0 hb0
         have hRl : (rs ++ [p]).length = rs.length + 1 := by simp
         have hgr : grp1 l ((rs ++ [p]).map Prod.fst) i = (rs ++ [p]).map Prod.fst ++ [[i]] := hgr
         rw [← hRl] at hco hrl
         generalize rs ++ [p] = R at *
         clear hmap
         have n1 : (1 = 1000 + R.length) = False := eq_false (by omega)
         have n2 : (26 = 1000 + R.length) = False := eq_false (by omega)
         have n3 : (79 = 1000 + R.length) = False := eq_false (by omega)
         have n4 : (78 = 1000 + R.length) = False := eq_false (by omega)
         have m1 := outA_dropN (co := co) R
         have m2 := amap_famL (.l (1000 + R.length)) 1000 R
         have m3 : aset (famL 1000 R) (1000 + R.length) (.cells (rowN [i] 1)) = famL 1000 (R ++ [([i], 1)]) := aset_fam_new (q := ([i], 1))
         simp (maxSteps := 2000000) (disch := omega) only [go_sem, ↓reduceIte]
         refine AStep.bsl1 (r := 1000 + R.length) (y := .d (.int .i64 (i : Nat))) rfl (int_ok _ _) one_int ?_
         rw [show rowA [.d (.int .i64 (i : Nat))] 1 = rowN [i] 1 from rfl]
         simp (maxSteps := 2000000) (disch := omega) only [go_sem, ↓reduceIte, n1, n2, n3, m1, m2, m3]
         have d1 := outA_drop (d := 78) (co := co) R (by omega)
         have d2 := amap_famL (.l 78) 1000 (R ++ [([i], 1)])
         have d3 : ∀ o : AObj, aset (famL 1000 (R ++ [([i], 1)])) 78 o = famL 1000 (R ++ [([i], 1)]) ++ [(78, o)] := fun o => aset_fam10 (by omega)
         refine AStep.bsl1 (r := 78) (y := .rs (.l (1000 + R.length)) 1 1) rfl (rs_ok (by omega)) one_rs ?_
         simp (maxSteps := 2000000) (disch := omega) only [go_sem, ↓reduceIte, d1, d2, d3]
         have e1 := outA_drop (d := 79) (co := co) R (by omega)
         have e2 : ∀ o : AObj, amap (dropObj (.l 79)) (famL 1000 (R ++ [([i], 1)]) ++ [(78, o)]) = famL 1000 (R ++ [([i], 1)]) ++ [(78, dropObj (.l 79) o)] := fun o => by rw [amap_app, amap_famL]; rfl
         have hcl : (outC 1000 (rowsD R)).length = R.length := by rw [outC_len, rowsD_len]
         refine AStep.app1 (r := 79) (c := co) (cs := outC 1000 (rowsD R)) (y := .rs (.l (1000 + R.length)) 1 1) rowsSl (.inr ⟨by rw [hcl]; rfl, rfl, by rw [hcl]; exact hco.1, hco.2⟩) (Src1.rs (cs := []) ?_) (fun z hz => outC_has hz (.inl (by omega))) (rs_ok (by omega)) (by rw [hcl]; simp only [maxLen]; omega) (fun c' h1 h2 => ?_)
         ·simp only [St.obj, aget, Nat.reduceEqDiff, ↓reduceIte]
          rw [aget_append, famL_off (by omega)]; rfl
         have e3 : rowA (outC 1000 (rowsD R) ++ [AV.rs (.l (1000 + R.length)) 1 1]) c' = outA (R ++ [([i], 1)]) c' := outC_new (q := ([i], 1))
         rw [e3, hcl]
         rw [hcl] at h1
         simp (maxSteps := 2000000) (disch := omega) only [go_sem, ↓reduceIte, e1, e2]
         refine ⟨(j + 1, R ++ [([i], 1)], c'), ?_, ⟨by simp only; omega, hR.new hi hil' hgr ⟨h1, h2⟩⟩, by simp only; omega⟩
         refine Weak.mk ?_ ?_ ?_ <;> simp (maxSteps := 2000000) only [go_sem, ↓reduceIte, Sub, Int.natCast_add, Int.natCast_mul, outS_snoc, outL_snoc]
         exact sub_fam_cons (by omega) (sub_fam_cons (by omega) (sub_fam_cons (by omega) sub_fam_app))
     ·have hjn : j = n := by omega
      subst hjn
      have hrw : rows.map Prod.fst = grpF l := by rw [hgF, hR.eq, List.take_of_length_le (by omega)]
      have hfl : (rows.map Prod.fst).flatten = O := by rw [hrw, hgF, grp_flat]; rfl
      rw [← hrw] at hlF
      clear hge hj hrw hgF
      cases hrows : rows with
      | nil =>
       have hs0 : outS [] co = .ns := rfl
       have hb0 : outL [] co = [] := rfl
       rw [hrows] at hlF
       simp (maxSteps := 2000000) (disch := omega) only [go_sem, ↓reduceIte, hs0, hb0]
       refine run_unroll ?_
       simp (maxSteps := 2000000) (disch := omega) only [go_sem, ↓reduceIte]
       refine AStep.step rfl (fun _ _ _ h => by cases h) rfl ?_
       simp (maxSteps := 2000000) (disch := omega) only [go_sem, ↓reduceIte]
       rw [hlF]
       rfl
      | cons q qs =>
       have hs0 : outS (q :: qs) co = .rs (.l 79) (q :: qs).length co := rfl
       have hb0 : outL (q :: qs) co = (79, .cells (outA (q :: qs) co)) :: famL 1000 (q :: qs) := rfl
       have hco := hR.co.resolve_left (by rw [hrows]; simp)
       rw [← hrows] at hs0 hb0 ⊢
       clear hrows
       simp (maxSteps := 2000000) (disch := omega) only [go_sem, ↓reduceIte, hs0, hb0]
       refine run_loop (fun k : Nat => ⟨[(1, .ptr (.l 1) 0), (6, .rs (.l 79) rows.length co), (81, .rs (.l 79) rows.length co), (82, .d (.int .i64 (rows.length : Nat))), (83, .d (.int .i64 (k : Nat)))], (1, .cells [.d (.list (glsD l))]) :: (79, .cells (outA rows co)) :: famL 1000 (srtR l O rows k), []⟩)
        (fun k => k ≤ rows.length) (fun k => rows.length - k) 0 ?_ (Nat.zero_le _) ?_
       ·rw [show srtR l O rows 0 = rows by simp [srtR]]
        refine Weak.mk ?_ ?_ ?_ <;> simp (maxSteps := 2000000) only [go_sem, ↓reduceIte, Sub, Int.natCast_add, Int.natCast_mul]
        exact sub_fam_cons (by omega) (sub_fam_cons (by omega) (sub_fam_cons (by omega) sub_fam))
       ·intro k hk
        have hsl := srtR_len l O rows k
        have hrj := hR.len.1
        simp (maxSteps := 2000000) only [go_sem, ↓reduceIte]
        refine ⟨fun hlt => ?_, fun hge => ?_⟩
        ·obtain ⟨p, hp⟩ := get_some (l := rows) (i := k) (by omega)
         have hpm := List.mem_of_getElem? hp
         have hcap := hR.cap p hpm
         have hup := row_up (l := l) hOnd hfl (List.mem_map_of_mem (f := Prod.fst) hpm)
         have hpl := hR.len.2 p hpm
         have l2 : (outA rows co)[((k : Nat) : Int).toNat * 1]? = some (.rs (.l (1000 + k)) p.1.length p.2) := by
          rw [show ((k : Nat) : Int).toNat * 1 = k by omega]
          exact outA_get hp
         have l3 : aget (famL 1000 (srtR l O rows k)) (1000 + k) = some (.cells (rowN p.1 p.2)) := famL_at (srtR_get hp)
         have n1 : (1 = 1000 + k) = False := eq_false (by omega)
         have n3 : (79 = 1000 + k) = False := eq_false (by omega)
         simp (maxSteps := 2000000) (disch := omega) only [go_sem, ↓reduceIte, l2]
         refine ⟨⟨by omega, by omega⟩, ?_⟩
         refine PrimG.mc2 (.l 1) (.l (1000 + k)) rfl (sortStable_call (cmpX_ok l O) (d := p.1) rfl hup (hR.el p hpm) hcap.2.1 (by omega)) rfl rfl rfl ?_ (by simp [nodupR, nodupR1, memR]; omega) ⟨box_row _, rowN_row _ _, box_row _, rowN_row _ _⟩ rfl ?_
         ·simp only [St.obj, aget, n1, n3, if_false]
          exact l3
         have l4 : aset (famL 1000 (srtR l O rows k)) (1000 + k) (.cells (rowN ((kyX l O).st p.1) p.2)) = famL 1000 (srtR l O rows (k + 1)) := by
          rw [srtR_step hp]
          exact aset_fam_at (q := ((kyX l O).st p.1, p.2)) (by omega)
         simp (maxSteps := 2000000) (disch := omega) only [go_sem, ↓reduceIte, n1, n3, l4]
         refine ⟨k + 1, ?_, by omega, by omega⟩
         refine Weak.mk ?_ ?_ ?_ <;> simp (maxSteps := 2000000) only [go_sem, ↓reduceIte, Sub, Int.natCast_add, Int.natCast_mul]
         exact sub_fam_cons (by omega) (sub_fam_cons (by omega) sub_fam)
        ·have hkn : k = rows.length := by omega
         subst hkn
         have hsr : srtR l O rows rows.length = rows.map (fun p => ((kyX l O).st p.1, p.2)) := by
          rw [srtR, List.take_length, List.drop_length, List.append_nil]
         have hln : ∀ r : List Nat, ((kyX l O).st r).length = r.length := fun r => (Ky.st_perm r).length_eq
         have hoA : outA rows co = outA (srtR l O rows rows.length) co := outA_same (by rw [hsr, List.map_map]; exact List.map_congr_left fun p _ => by simp [hln])
         rw [hoA]
         have hcapS : ∀ p ∈ srtR l O rows rows.length, p.1.length ≤ p.2 := fun p hp => by
          rw [hsr] at hp
          obtain ⟨q, hq, rfl⟩ := List.mem_map.1 hp
          rw [hln]; exact (hR.cap q hq).2.1
         have hres : (rowsD (srtR l O rows rows.length)).map (fun p => D.list p.1) = (linesF l).map fun r => .list (nsD r) := by
          rw [hsr, hlF]
          simp [rowsD]
         generalize srtR l O rows rows.length = R at *
         rw [← hsl] at hco ⊢
         refine AStep.ghost (AStep.step rfl (fun _ _ _ h => by cases h) rfl ?_)
         refine ⟨⟨[(91, .d (.list ((linesF l).map fun r => .list (nsD r))))], [], []⟩, Gh.rows (o := 79) (a := 1000) (co := co) (s := 91) (rows := rowsD R) ⟨fun t x hx ht => ?_, fun r ob h => ?_⟩ (.inl (by omega)) (fun p hp => ?_) (by rw [rowsD_len]; exact hco.1) ⟨?_, ?_, fun k p _ hp => ?_, fun t x hx ht => ?_, fun r ob h => ?_⟩ ?_, ?_⟩
         ·simp only [aget] at hx
          split at hx
          ·rename_i e; exact absurd e.symm ht
          ·cases hx
         ·cases r <;> cases h
         ·obtain ⟨q, hq, rfl⟩ := List.mem_map.1 hp
          exact ⟨nsD_one _, by rw [nsD_len]; exact hcapS q hq⟩
         ·rw [rowsD_len]; rfl
         ·rfl
         ·rw [rowsD_get] at hp
          cases hk : R[k]? with
          | none => rw [hk] at hp; cases hp
          | some q =>
           rw [hk] at hp
           cases hp
           rw [St.obj_put]
           simp only [St.obj, aget]
           rw [if_neg (by omega), if_neg (by omega), famL_at hk, rowN, nsA_nsD]
         ·simp only [aget] at hx
          split at hx
          ·rename_i e; exact absurd e.symm ht
          ·cases hx
         ·cases r <;> cases h
         ·simp only [aget, if_true]
          rw [hres]
         ·simp (maxSteps := 2000000) only [go_sem, ↓reduceIte]
theorem drop_at {α : Type} {l : List α} {i : Nat} {x : α} (h : l[i]? = some x) : l.drop i = x :: l.drop (i + 1) := by
 obtain ⟨h1, h2⟩ := List.getElem?_eq_some_iff.1 h
 rw [List.drop_eq_getElem_cons h1, h2]
open Go.Lib (decodeL decodeN decodeN_shape decodeL_N encodeRune encodeRuneZ decodeLastL validD)
def vrune (r : Nat) : Prop := r < 55296 ∨ (57344 ≤ r ∧ r ≤ 1114111)
instance (r : Nat) : Decidable (vrune r) := by unfold vrune; infer_instance
def enc (r : Nat) : List UInt8 := encodeRune (r : Int)
def bad (l : List UInt8) : Bool := decide ((decodeL l).1 = 65533) && decide ((decodeL l).2 = 1)
theorem bad_iff {l : List UInt8} : bad l = true ↔ (decodeL l).1 = 65533 ∧ (decodeL l).2 = 1 := by simp [bad]
theorem dec_facts {l : List UInt8} (hne : l ≠ []) : 1 ≤ (decodeL l).2 ∧ (decodeL l).2 ≤ 4 ∧ (decodeL l).2 ≤ l.length ∧ vrune (decodeL l).1 ∧ (bad l = false → l.take (decodeL l).2 = enc (decodeL l).1) := by
 refine ⟨?_, ?_, Lib.decodeL_le l hne, ?_, fun hb => ?_⟩
 ·have hl : 0 < l.length := List.length_pos_iff.2 hne
  rw [decodeL_N]
  rcases decodeN_shape l.length (l.getD 0 0).toNat (l.getD 1 0).toNat (l.getD 2 0).toNat (l.getD 3 0).toNat with ⟨c, e⟩ | ⟨c1, c2, c3, cv, e⟩ | ⟨c1, c2, c3, c4, cv, cs, e⟩ | ⟨c1, c2, c3, c4, c5, cv, cw, e⟩ | e
  all_goals (rw [e]; dsimp only; omega)
 ·rw [decodeL_N]
  rcases decodeN_shape l.length (l.getD 0 0).toNat (l.getD 1 0).toNat (l.getD 2 0).toNat (l.getD 3 0).toNat with ⟨c, e⟩ | ⟨c1, c2, c3, cv, e⟩ | ⟨c1, c2, c3, c4, cv, cs, e⟩ | ⟨c1, c2, c3, c4, c5, cv, cw, e⟩ | e
  all_goals (rw [e]; dsimp only; omega)
 ·have k1 := (l.getD 1 0).toNat_lt
  rw [decodeL_N]
  unfold vrune
  rcases decodeN_shape l.length (l.getD 0 0).toNat (l.getD 1 0).toNat (l.getD 2 0).toNat (l.getD 3 0).toNat with ⟨c, e⟩ | ⟨c1, c2, c3, cv, e⟩ | ⟨c1, c2, c3, c4, cv, cs, e⟩ | ⟨c1, c2, c3, c4, c5, cv, cw, e⟩ | e
  all_goals (rw [e]; dsimp only; omega)
 ·exact (Lib.encode_decode l hne (fun h => by rw [bad_iff.2 h] at hb; cases hb)).symm
/-! ### A text's signs -/
def runesF : Nat → List UInt8 → Option (List Nat)
 | 0, _ => some []
 | f + 1, l => if l = [] then some [] else if bad l = true then none else (runesF f (l.drop (decodeL l).2)).map ((decodeL l).1 :: ·)
def runesM (l : List UInt8) : Option (List Nat) := runesF l.length l
theorem runesF_nil : ∀ f, runesF f [] = some []
 | 0 => rfl
 | f + 1 => by simp [runesF]
theorem runesF_fuel : ∀ (f g : Nat) (l : List UInt8), l.length ≤ f → l.length ≤ g → runesF f l = runesF g l
 | 0, g, l, h, _ => by have : l = [] := List.length_eq_zero_iff.1 (by omega); subst this; rw [runesF_nil, runesF_nil]
 | f + 1, 0, l, _, h => by have : l = [] := List.length_eq_zero_iff.1 (by omega); subst this; rw [runesF_nil, runesF_nil]
 | f + 1, g + 1, l, h1, h2 => by
  simp only [runesF]
  by_cases hl : l = []
  ·simp [hl]
  ·have := (dec_facts hl).1
   have := List.length_pos_iff.2 hl
   rw [runesF_fuel f g (l.drop (decodeL l).2) (by simp; omega) (by simp; omega)]
theorem runesM_nil : runesM [] = some [] := rfl
theorem runesM_step {l : List UInt8} (hl : l ≠ []) : runesM l = if bad l = true then none else (runesM (l.drop (decodeL l).2)).map ((decodeL l).1 :: ·) := by
 unfold runesM
 obtain ⟨c, r, rfl⟩ : ∃ c r, l = c :: r := by cases l with | nil => exact absurd rfl hl | cons c r => exact ⟨c, r, rfl⟩
 have h1 := (dec_facts hl).1
 conv => lhs; rw [List.length_cons, runesF, if_neg hl]
 rw [runesF_fuel r.length _ (List.drop _ _) (by simp; omega) (Nat.le_refl _)]
def encM (rs : List Nat) : List UInt8 := rs.flatMap enc
theorem runesM_enc : ∀ (n : Nat) {l : List UInt8} {rs : List Nat}, l.length ≤ n → runesM l = some rs → encM rs = l ∧ ∀ r ∈ rs, vrune r
 | n, [], rs, _, h => by cases h; exact ⟨rfl, by simp⟩
 | 0, c :: l, rs, h, _ => by simp at h
 | n + 1, c :: l, rs, hn, h => by
  have hne : c :: l ≠ [] := by simp
  rw [runesM_step hne] at h
  obtain ⟨f1, f2, f3, f4, f5⟩ := dec_facts hne
  split at h
  ·cases h
  ·rename_i hb
   obtain ⟨rs', h1, rfl⟩ := Option.map_eq_some_iff.1 h
   obtain ⟨e1, e2⟩ := runesM_enc n (by simp at hn ⊢; omega) h1
   refine ⟨?_, fun r hr => ?_⟩
   ·show enc _ ++ encM rs' = _
    rw [e1, ← f5 (by simpa using hb)]; exact List.take_append_drop _ _
   ·rcases List.mem_cons.1 hr with rfl | hr
    ·exact f4
    ·exact e2 r hr
/-! ### A sign's bytes, read -/
theorem enc_cases {r : Nat} (h : vrune r) :
  (r < 128 ∧ enc r = [UInt8.ofNat r]) ∨ (128 ≤ r ∧ r < 2048 ∧ enc r = [UInt8.ofNat (192 + r / 64), UInt8.ofNat (128 + r % 64)]) ∨
  (2048 ≤ r ∧ r < 65536 ∧ enc r = [UInt8.ofNat (224 + r / 4096), UInt8.ofNat (128 + r / 64 % 64), UInt8.ofNat (128 + r % 64)]) ∨
  (65536 ≤ r ∧ r ≤ 1114111 ∧ enc r = [UInt8.ofNat (240 + r / 262144), UInt8.ofNat (128 + r / 4096 % 64), UInt8.ofNat (128 + r / 64 % 64), UInt8.ofNat (128 + r % 64)]) := by
 unfold vrune at h
 have t : ∀ (z : Int) (k : Nat), z = (k : Int) → z.toNat.toUInt8 = UInt8.ofNat k := fun z k e => by rw [e]; rfl
 by_cases h1 : r < 128
 ·left; refine ⟨h1, ?_⟩
  unfold enc encodeRune
  rw [Lib.encodeRuneZ_one (by omega) (by omega)]
  simp only [List.map_cons, List.map_nil]; rw [t r r rfl]
 ·by_cases h2 : r < 2048
  ·right; left; refine ⟨by omega, h2, ?_⟩
   unfold enc encodeRune
   rw [Lib.encodeRuneZ_two (by omega) (by omega)]
   simp only [List.map_cons, List.map_nil]; rw [t (192 + (r : Int) / 64) (192 + r / 64) (by omega), t (128 + (r : Int) % 64) (128 + r % 64) (by omega)]
  ·by_cases h3 : r < 65536
   ·right; right; left; refine ⟨by omega, h3, ?_⟩
    unfold enc encodeRune
    rw [Lib.encodeRuneZ_three (by omega)]
    simp only [List.map_cons, List.map_nil]; rw [t (224 + (r : Int) / 4096) (224 + r / 4096) (by omega), t (128 + (r : Int) / 64 % 64) (128 + r / 64 % 64) (by omega), t (128 + (r : Int) % 64) (128 + r % 64) (by omega)]
   ·right; right; right; refine ⟨by omega, by omega, ?_⟩
    unfold enc encodeRune
    rw [Lib.encodeRuneZ_four (by omega) (by omega)]
    simp only [List.map_cons, List.map_nil]
    rw [t (240 + (r : Int) / 262144) (240 + r / 262144) (by omega), t (128 + (r : Int) / 4096 % 64) (128 + r / 4096 % 64) (by omega), t (128 + (r : Int) / 64 % 64) (128 + r / 64 % 64) (by omega), t (128 + (r : Int) % 64) (128 + r % 64) (by omega)]
theorem ofNat_toNat {k : Nat} (h : k < 256) : (UInt8.ofNat k).toNat = k := by simp [UInt8.toNat_ofNat']; omega
theorem decode_enc {r : Nat} (h : vrune r) (t : List UInt8) : decodeL (enc r ++ t) = (r, (enc r).length) := by
 rw [decodeL_N]
 unfold vrune at h
 rcases enc_cases h with ⟨a, e⟩ | ⟨a, b, e⟩ | ⟨a, b, e⟩ | ⟨a, b, e⟩
 all_goals rw [e]
 ·simp only [List.cons_append, List.nil_append, List.getD_cons_zero, List.length_cons, List.length_nil]
  rw [ofNat_toNat (by omega), decodeN, if_pos a]
 ·simp only [List.cons_append, List.nil_append, List.getD_cons_zero, List.getD_cons_succ, List.length_cons, List.length_nil]
  rw [ofNat_toNat (by omega), ofNat_toNat (by omega), decodeN, if_neg (by omega), if_pos (by omega), if_pos (by omega)]
  congr 1; omega
 ·simp only [List.cons_append, List.nil_append, List.getD_cons_zero, List.getD_cons_succ, List.length_cons, List.length_nil]
  rw [ofNat_toNat (by omega), ofNat_toNat (by omega), ofNat_toNat (by omega), decodeN, if_neg (by omega), if_neg (by omega), if_pos (by omega), if_pos (by omega)]
  congr 1; omega
 ·simp only [List.cons_append, List.nil_append, List.getD_cons_zero, List.getD_cons_succ, List.length_cons, List.length_nil]
  rw [ofNat_toNat (by omega), ofNat_toNat (by omega), ofNat_toNat (by omega), ofNat_toNat (by omega), decodeN, if_neg (by omega), if_neg (by omega), if_neg (by omega), if_pos (by omega), if_pos (by omega)]
  congr 1; omega
theorem enc_len {r : Nat} (h : vrune r) : 1 ≤ (enc r).length ∧ (enc r).length ≤ 4 ∧ enc r ≠ [] := by
 rcases enc_cases h with ⟨a, e⟩ | ⟨a, b, e⟩ | ⟨a, b, e⟩ | ⟨a, b, e⟩ <;> (rw [e]; simp)
def intsD (l : List Int) : List D := l.map fun n => D.int .i64 n
theorem intsD_length (l : List Int) : (intsD l).length = l.length := by simp [intsD]
theorem intsD_get (l : List Int) (j : Nat) : (intsD l)[j]? = (l[j]?).map fun n => D.int .i64 n := by simp [intsD]
def L_foliowrightref_SameNumbers : LCode :=
 .seq (.reg [Qx 4 KF]) (.seq (.seq (.reg [Qc 6 0, Q 7 (.len false (.t 6)), Qc 8 1, Q 9 (.len false (.t 8)), Q 10 (.bin .neq (.t 7) (.t 9))]) (.cond (.t 10) (.seq (.reg [Qx 4 KF]) 
 .ret) .skip)) (.seq (.seq (.reg [Qx 5 (Ki 0)]) (.block 0 (.loop (.seq (.seq (.reg [Qc 11 5, Qc 12 0, Q 13 (.len false (.t 12)), Q 14 (.bin .lss (.t 11) (.t 13))]) (.cond (.t 14) 
 .skip (.exit 0))) (.seq (.block 1 (.seq (.dreg [Qc 17 0, Qc 18 5, Q 19 (.ia 1 (.t 17) (.t 18)), Q 20 (.ld false 1 (.t 19)), Qc 21 1, Qc 22 5, Q 23 (.ia 1 (.t 21) (.t 22)), Q 24 
 (.ld false 1 (.t 23)), Q 25 (.bin .neq (.t 20) (.t 24))]) (.cond (.t 25) (.seq (.reg [Qx 4 KF]) .ret) .skip))) (.reg [Qc 15 5, Q 16 (.bin .add (.t 15) (Ki 1)), Qa 5 16])))))) 
 (.seq (.reg [Qx 4 KT]) .ret)))
def R_foliowrightref_SameNumbers : List LRes := [.tmp 4]
theorem lift_foliowrightref_SameNumbers : Lifts Try.prog 11 26 L_foliowrightref_SameNumbers R_foliowrightref_SameNumbers := ⟨_, _, Try.func11, rfl, by kernel_rfl, by kernel_rfl, rfl⟩
theorem sameNumbers_call (a : List Int) (h : a.length ≤ 1000000000) : PCall Try.prog 11 [.list (intsD a), .list (intsD a)] (fun r => r = .one (.bool true)) := by
 refine lift_foliowrightref_SameNumbers.call rfl ?_
 have hI : ((intsD a).length : Int) = (a.length : Int) := by rw [intsD_length]
 simp (maxSteps := 2000000) only [go_sem, ↓reduceIte, L_foliowrightref_SameNumbers, R_foliowrightref_SameNumbers, hI]
 refine run_loop (fun i : Nat => ⟨[(0, .d (.list (intsD a))), (1, .d (.list (intsD a))), (5, .d (.int .i64 i))], [], []⟩)
  (fun i => i ≤ a.length) (fun i => a.length - i) 0 ?_ ?_ ?_
 ·refine weak_mk ?_ trivial
  simp (maxSteps := 2000000) only [go_sem, ↓reduceIte, Sub, Int.natCast_add, Int.natCast_mul]
 ·omega
 ·intro i hi
  simp (maxSteps := 2000000) only [go_sem, ↓reduceIte, hI]
  intro q
  obtain ⟨x, hx⟩ := get_some (l := a) (i := i) (by omega)
  simp (maxSteps := 2000000) (disch := omega) only [go_sem, ↓reduceIte, getI_nat, intsD_get, hx]
  refine ⟨i + 1, ?_, by omega, by omega⟩
  refine weak_mk ?_ trivial
  simp (maxSteps := 2000000) only [go_sem, ↓reduceIte, Sub, Int.natCast_add, Int.natCast_mul]
end Go.Av.Try
set_option linter.unusedSimpArgs false
set_option maxRecDepth 100000
namespace Go.Av.Try
open Go.Proofs
open Go.Lib (decodeL decodeN decodeN_shape decodeL_N)
def natsU (l : List Nat) : List D := l.map fun (n : Nat) => D.int .i64 (n : Int)
theorem natsU_length (l : List Nat) : (natsU l).length = l.length := by simp [natsU]
theorem natsU_append (a b : List Nat) : natsU (a ++ b) = natsU a ++ natsU b := by simp [natsU]
theorem natsU_get (l : List Nat) (j : Nat) : (natsU l)[j]? = (l[j]?).map fun (n : Nat) => D.int .i64 (n : Int) := by simp [natsU]
def cumR (l : List UInt8) (r0 : Nat) : Nat → Nat
 | 0 => r0
 | j + 1 => 64 * cumR l r0 j + (l.getD (j + 1) 0).toNat - 128
def contB (l : List UInt8) (j : Nat) : Prop := 128 ≤ (l.getD j 0).toNat ∧ (l.getD j 0).toNat ≤ 191
def leadR (c n r0 : Nat) : Prop := (c < 128 ∧ n = 0 ∧ r0 = c) ∨ (194 ≤ c ∧ c < 224 ∧ n = 1 ∧ r0 = c - 192) ∨ (224 ≤ c ∧ c < 240 ∧ n = 2 ∧ r0 = c - 224) ∨ (240 ≤ c ∧ c < 245 ∧ n = 3 ∧ r0 = c - 240)
theorem bad_N (l : List UInt8) (h : decodeN l.length (l.getD 0 0).toNat (l.getD 1 0).toNat (l.getD 2 0).toNat (l.getD 3 0).toNat = (65533, 1)) : bad l = true := by
 have e : decodeL l = (65533, 1) := (decodeL_N l).trans h
 simp only [bad, e, decide_true, Bool.and_self]
theorem lead_none {l : List UInt8} (hl : 0 < l.length) (h : ∀ n r0, ¬ leadR (l.getD 0 0).toNat n r0) : bad l = true := by
 refine bad_N l (Lib.decodeN_bad _ _ _ _ _ ?_)
 have k0 := (l.getD 0 0).toNat_lt
 by_cases a : (l.getD 0 0).toNat < 128
 ·exact absurd (.inl ⟨a, rfl, rfl⟩) (h 0 (l.getD 0 0).toNat)
 ·by_cases b : 194 ≤ (l.getD 0 0).toNat ∧ (l.getD 0 0).toNat < 224
  ·exact absurd (.inr (.inl ⟨b.1, b.2, rfl, rfl⟩)) (h 1 ((l.getD 0 0).toNat - 192))
  ·by_cases c : 224 ≤ (l.getD 0 0).toNat ∧ (l.getD 0 0).toNat < 240
   ·exact absurd (.inr (.inr (.inl ⟨c.1, c.2, rfl, rfl⟩))) (h 2 ((l.getD 0 0).toNat - 224))
   ·by_cases d : 240 ≤ (l.getD 0 0).toNat ∧ (l.getD 0 0).toNat < 245
    ·exact absurd (.inr (.inr (.inr ⟨d.1, d.2, rfl, rfl⟩))) (h 3 ((l.getD 0 0).toNat - 240))
    ·omega
theorem lead_short {l : List UInt8} {n r0 : Nat} (hl : 0 < l.length) (h : leadR (l.getD 0 0).toNat n r0) (hn : l.length ≤ n) : bad l = true := by
 refine bad_N l ?_
 unfold leadR at h
 rcases decodeN_shape l.length (l.getD 0 0).toNat (l.getD 1 0).toNat (l.getD 2 0).toNat (l.getD 3 0).toNat with ⟨c, e⟩ | ⟨c1, c2, c3, cv, e⟩ | ⟨c1, c2, c3, c4, cv, cs, e⟩ | ⟨c1, c2, c3, c4, c5, cv, cw, e⟩ | e
 all_goals first | exact e | (exfalso; omega)
theorem lead_cont {l : List UInt8} {n r0 j : Nat} (hl : 0 < l.length) (h : leadR (l.getD 0 0).toNat n r0) (h1 : 1 ≤ j) (hj : j ≤ n) (hc : ¬ contB l j) : bad l = true := by
 refine bad_N l ?_
 unfold leadR at h
 unfold contB at hc
 have k1 := (l.getD 1 0).toNat_lt
 have k2 := (l.getD 2 0).toNat_lt
 have k3 := (l.getD 3 0).toNat_lt
 have hj3 : j = 1 ∨ j = 2 ∨ j = 3 := by omega
 rcases decodeN_shape l.length (l.getD 0 0).toNat (l.getD 1 0).toNat (l.getD 2 0).toNat (l.getD 3 0).toNat with ⟨c, e⟩ | ⟨c1, c2, c3, cv, e⟩ | ⟨c1, c2, c3, c4, cv, cs, e⟩ | ⟨c1, c2, c3, c4, c5, cv, cw, e⟩ | e
 all_goals first
  | exact e
  | (exfalso; omega)
  | (exfalso; rcases hj3 with rfl | rfl | rfl <;> omega)
theorem lead_fin {l : List UInt8} {n r0 : Nat} (h : leadR (l.getD 0 0).toNat n r0) (hl : n < l.length) (hc : ∀ j, 1 ≤ j → j ≤ n → contB l j) :
  (((n = 2 ∧ cumR l r0 n < 2048) ∨ (n = 3 ∧ cumR l r0 n < 65536) ∨ 1114111 < cumR l r0 n ∨ (55295 < cumR l r0 n ∧ cumR l r0 n < 57344)) ∧ bad l = true) ∨
  (¬ ((n = 2 ∧ cumR l r0 n < 2048) ∨ (n = 3 ∧ cumR l r0 n < 65536) ∨ 1114111 < cumR l r0 n ∨ (55295 < cumR l r0 n ∧ cumR l r0 n < 57344)) ∧ bad l = false ∧ decodeL l = (cumR l r0 n, n + 1)) := by
 have hb : ∀ r k, decodeN l.length (l.getD 0 0).toNat (l.getD 1 0).toNat (l.getD 2 0).toNat (l.getD 3 0).toNat = (r, k) → (r ≠ 65533 ∨ k ≠ 1) → bad l = false ∧ decodeL l = (r, k) := fun r k e hk => by
  refine ⟨?_, by rw [decodeL_N, e]⟩
  rw [Bool.eq_false_iff]; intro hb
  rw [bad_iff, decodeL_N, e] at hb
  simp only at hb
  rcases hk with hk | hk
  ·exact hk hb.1
  ·exact hk hb.2
 have k0 := (l.getD 0 0).toNat_lt
 unfold leadR at h
 rcases h with ⟨a, rfl, rfl⟩ | ⟨a, b, rfl, rfl⟩ | ⟨a, b, rfl, rfl⟩ | ⟨a, b, rfl, rfl⟩
 ·right
  simp only [cumR]
  refine ⟨by omega, hb _ _ ?_ (.inl (by omega))⟩
  rw [decodeN, if_pos a]
 ·right
  obtain ⟨c1, c2⟩ := hc 1 (by omega) (by omega)
  have e : cumR l ((l.getD 0 0).toNat - 192) 1 = (l.getD 0 0).toNat % 32 * 64 + (l.getD 1 0).toNat % 64 := by simp only [cumR, Nat.zero_add, Nat.reduceAdd]; omega
  rw [e]
  refine ⟨by omega, hb _ _ ?_ (.inr (by omega))⟩
  rw [decodeN, if_neg (by omega), if_pos (by omega), if_pos (by omega)]
 ·obtain ⟨c1, c2⟩ := hc 1 (by omega) (by omega)
  obtain ⟨d1, d2⟩ := hc 2 (by omega) (by omega)
  have e : cumR l ((l.getD 0 0).toNat - 224) 2 = (l.getD 0 0).toNat % 16 * 4096 + (l.getD 1 0).toNat % 64 * 64 + (l.getD 2 0).toNat % 64 := by simp only [cumR, Nat.zero_add, Nat.reduceAdd]; omega
  rw [e]
  by_cases hx : (l.getD 0 0).toNat % 16 * 4096 + (l.getD 1 0).toNat % 64 * 64 + (l.getD 2 0).toNat % 64 < 2048 ∨ (55295 < (l.getD 0 0).toNat % 16 * 4096 + (l.getD 1 0).toNat % 64 * 64 + (l.getD 2 0).toNat % 64 ∧ (l.getD 0 0).toNat % 16 * 4096 + (l.getD 1 0).toNat % 64 * 64 + (l.getD 2 0).toNat % 64 < 57344)
  ·left
   refine ⟨by omega, bad_N l ?_⟩
   rw [decodeN, if_neg (by omega), if_neg (by omega), if_pos (by omega), if_neg (by omega)]
  ·right
   refine ⟨by omega, hb _ _ ?_ (.inr (by omega))⟩
   rw [decodeN, if_neg (by omega), if_neg (by omega), if_pos (by omega), if_pos (by omega)]
 ·obtain ⟨c1, c2⟩ := hc 1 (by omega) (by omega)
  obtain ⟨d1, d2⟩ := hc 2 (by omega) (by omega)
  obtain ⟨f1, f2⟩ := hc 3 (by omega) (by omega)
  have e : cumR l ((l.getD 0 0).toNat - 240) 3 = (l.getD 0 0).toNat % 8 * 262144 + (l.getD 1 0).toNat % 64 * 4096 + (l.getD 2 0).toNat % 64 * 64 + (l.getD 3 0).toNat % 64 := by simp only [cumR, Nat.zero_add, Nat.reduceAdd]; omega
  rw [e]
  by_cases hx : (l.getD 0 0).toNat % 8 * 262144 + (l.getD 1 0).toNat % 64 * 4096 + (l.getD 2 0).toNat % 64 * 64 + (l.getD 3 0).toNat % 64 < 65536 ∨ 1114111 < (l.getD 0 0).toNat % 8 * 262144 + (l.getD 1 0).toNat % 64 * 4096 + (l.getD 2 0).toNat % 64 * 64 + (l.getD 3 0).toNat % 64
  ·left
   refine ⟨by omega, bad_N l ?_⟩
   rw [decodeN, if_neg (by omega), if_neg (by omega), if_neg (by omega), if_pos (by omega), if_neg (by omega)]
  ·right
   refine ⟨by omega, hb _ _ ?_ (.inr (by omega))⟩
   rw [decodeN, if_neg (by omega), if_neg (by omega), if_neg (by omega), if_pos (by omega), if_pos (by omega)]
def runesRes (o : Option (List Nat)) : Res := match o with
 | some rs => .tup [.list (natsU rs), .bool true]
 | none => .tup [.list [], .bool false]
theorem lead_le {l : List UInt8} {n r0 : Nat} (h : leadR (l.getD 0 0).toNat n r0) : n ≤ 3 ∧ r0 < 128 := by unfold leadR at h; omega
theorem cum_le {l : List UInt8} {n r0 : Nat} (h : r0 < 128) : ∀ j, j ≤ 3 → cumR l r0 j < 50000000 := by
 intro j hj
 have k1 := (l.getD (0 + 1) 0).toNat_lt
 have k2 := (l.getD (1 + 1) 0).toNat_lt
 have k3 := (l.getD (2 + 1) 0).toNat_lt
 match j, hj with
 | 0, _ => simp only [cumR]; omega
 | 1, _ => simp only [cumR]; omega
 | 2, _ => simp only [cumR]; omega
 | 3, _ => simp only [cumR]; omega
 | j + 4, h => omega
def L_foliowrightref_Runes : LCode :=
 .seq (.reg [⟨some 2, .nils 3 1, none⟩, Qx 3 KF]) (.seq (.reg [⟨some 4, .nils 3 1, none⟩]) (.seq (.reg [Qx 5 (Ki 0)]) (.seq (.block 0 (.loop (.seq (.seq (.reg [Qc 11 5, Qc 12 0, Q 
 13 (.len true (.t 12)), Q 14 (.bin .lss (.t 11) (.t 13))]) (.cond (.t 14) .skip (.exit 0))) (.block 1 (.seq (.reg [Qc 15 0, Qc 16 5, Q 17 (.idxS (.t 15) (.t 16)), Q 18 (.cvI .i64 
 (.t 17)), Qa 6 18]) (.seq (.reg [Qx 7 (Ki 0)]) (.seq (.reg [Qc 19 6, Qa 8 19]) (.seq (.block 2 (.seq (.reg [Qc 21 6, Q 22 (.bin .lss (.t 21) (Ki 128)), Qa 20 22]) (.cond (.t 20) 
 .skip (.seq (.reg [Qc 24 6, Q 25 (.bin .geq (.t 24) (Ki 194)), Qc 26 25, Qd 27 6 26 true, Qg 28 (.bin .lss (.t 27) (Ki 224)) 26 true, Q 29 (.pick (.t 26) (.t 28) KF), Qa 23 29]) 
 (.cond (.t 23) (.seq (.reg [Qx 7 (Ki 1)]) (.reg [Qc 30 6, Q 31 (.bin .sub (.t 30) (Ki 192)), Qa 8 31])) (.seq (.reg [Qc 33 6, Q 34 (.bin .geq (.t 33) (Ki 224)), Qc 35 34, Qd 36 6 
 35 true, Qg 37 (.bin .lss (.t 36) (Ki 240)) 35 true, Q 38 (.pick (.t 35) (.t 37) KF), Qa 32 38]) (.cond (.t 32) (.seq (.reg [Qx 7 (Ki 2)]) (.reg [Qc 39 6, Q 40 (.bin .sub (.t 39) 
 (Ki 224)), Qa 8 40])) (.seq (.reg [Qc 42 6, Q 43 (.bin .geq (.t 42) (Ki 240)), Qc 44 43, Qd 45 6 44 true, Qg 46 (.bin .lss (.t 45) (Ki 245)) 44 true, Q 47 (.pick (.t 44) (.t 46) 
 KF), Qa 41 47]) (.cond (.t 41) (.seq (.reg [Qx 7 (Ki 3)]) (.reg [Qc 48 6, Q 49 (.bin .sub (.t 48) (Ki 240)), Qa 8 49])) (.seq (.reg [⟨some 2, .nils 3 1, none⟩, Qx 3 KF]) 
 .ret)))))))))) (.seq (.seq (.reg [Qc 50 5, Qc 51 7, Q 52 (.bin .add (.t 50) (.t 51)), Qc 53 0, Q 54 (.len true (.t 53)), Q 55 (.bin .geq (.t 52) (.t 54))]) (.cond (.t 55) (.seq 
 (.reg [⟨some 2, .nils 3 1, none⟩, Qx 3 KF]) .ret) .skip)) (.seq (.seq (.reg [Qx 9 (Ki 1)]) (.block 3 (.loop (.seq (.seq (.reg [Qc 56 9, Qc 57 7, Q 58 (.bin .leq (.t 56) (.t 
 57))]) (.cond (.t 58) .skip (.exit 3))) (.seq (.block 4 (.seq (.reg [Qc 61 0, Qc 62 5, Qc 63 9, Q 64 (.bin .add (.t 62) (.t 63)), Q 65 (.idxS (.t 61) (.t 64)), Q 66 (.cvI .i64 
 (.t 65)), Qa 10 66]) (.seq (.seq (.reg [Qc 67 10, Q 68 (.bin .lss (.t 67) (Ki 128)), Qc 69 68, Qd 70 10 69 false, Qg 71 (.bin .gtr (.t 70) (Ki 191)) 69 false, Q 72 (.pick (.t 69) 
 KT (.t 71))]) (.cond (.t 72) (.seq (.reg [⟨some 2, .nils 3 1, none⟩, Qx 3 KF]) .ret) .skip)) (.reg [Qc 73 8, Q 74 (.bin .mul (Ki 64) (.t 73)), Qc 75 10, Q 76 (.bin .add (.t 74) 
 (.t 75)), Q 77 (.bin .sub (.t 76) (Ki 128)), Qa 8 77])))) (.reg [Qc 59 9, Q 60 (.bin .add (.t 59) (Ki 1)), Qa 9 60])))))) (.seq (.seq (.reg [Qc 78 7, Q 79 (.bin .eql (.t 78) (Ki 
 2)), Qc 80 79, Qd 81 8 80 true, Qg 82 (.bin .lss (.t 81) (Ki 2048)) 80 true, Q 83 (.pick (.t 80) (.t 82) KF), Qc 84 83, Qd 85 7 84 false, Qg 86 (.bin .eql (.t 85) (Ki 3)) 84 
 false, Qd 87 86 84 false, Qd 88 8 87 true, Qg 89 (.bin .lss (.t 88) (Ki 65536)) 87 true, Qg 90 (.pick (.t 87) (.t 89) KF) 84 false, Q 91 (.pick (.t 84) KT (.t 90)), Qc 92 91, Qd 
 93 8 92 false, Qg 94 (.bin .gtr (.t 93) (Ki 1114111)) 92 false, Q 95 (.pick (.t 92) KT (.t 94)), Qc 96 95, Qd 97 8 96 false, Qg 98 (.bin .gtr (.t 97) (Ki 55295)) 96 false, Qd 99 
 98 96 false, Qd 100 8 99 true, Qg 101 (.bin .lss (.t 100) (Ki 57344)) 99 true, Qg 102 (.pick (.t 99) (.t 101) KF) 96 false, Q 103 (.pick (.t 96) KT (.t 102))]) (.cond (.t 103) 
 (.seq (.reg [⟨some 2, .nils 3 1, none⟩, Qx 3 KF]) .ret) .skip)) (.seq (.reg [Qc 104 4, Qc 105 8, ⟨some 106, .bsl 3 1 [.t 105], none⟩, ⟨some 107, .app 3 1 8 false (.t 104) (.t 
 106), none⟩, Qa 4 107]) (.reg [Qc 108 5, Qc 109 7, Q 110 (.bin .add (.t 108) (.t 109)), Q 111 (.bin .add (.t 110) (Ki 1)), Qa 5 111]))))))))))))) (.seq (.reg [Qc 112 4, Qa 2 112, 
 Qx 3 KT]) .ret))))
def R_foliowrightref_Runes : List LRes := [.tmp 2, .tmp 3]
theorem lift_foliowrightref_Runes : Lifts Try.prog 17 113 L_foliowrightref_Runes R_foliowrightref_Runes := ⟨_, _, Try.func17, rfl, by kernel_rfl, by kernel_rfl, rfl⟩
theorem runes_call (s : List UInt8) (hs : s.length ≤ 1000000000) : PCall Try.prog 17 [.str s] (fun r => r = runesRes (runesM s)) := by
 refine lift_foliowrightref_Runes.call rfl ?_
 simp (maxSteps := 2000000) only [go_sem, ↓reduceIte, L_foliowrightref_Runes, R_foliowrightref_Runes]
 refine run_loop (fun y : Nat × List Nat => ⟨[(0, .d (.str s)), (4, .own (.t 4) 3 1 (natsU y.2)), (5, .d (.int .i64 y.1))], [], []⟩)
  (fun y => y.1 ≤ s.length ∧ y.2.length ≤ y.1 ∧ (runesM (s.drop y.1)).map (y.2 ++ ·) = runesM s) (fun y => s.length - y.1) (0, []) ?_ ?_ ?_
 ·refine weak_mk ?_ trivial
  simp (maxSteps := 2000000) only [go_sem, ↓reduceIte, Sub, Int.natCast_add, Int.natCast_mul, natsU]
 ·exact ⟨Nat.zero_le _, Nat.le_refl _, by simp⟩
 ·rintro ⟨i, acc⟩ ⟨hi, ha, hF⟩
  simp only at hi ha hF
  have hacc := natsU_length acc
  simp (maxSteps := 2000000) only [go_sem, ↓reduceIte]
  refine ⟨fun hlt => ?_, fun hge => ?_⟩
  ·obtain ⟨c, hc⟩ := get_some (l := s) (i := i) (by omega)
   have hc8 := u8_lt c
   have hne : s.drop i ≠ [] := fun h => by have := List.drop_eq_nil_iff.1 h; omega
   have hlen : (s.drop i).length = s.length - i := List.length_drop
   have hg0 : (s.drop i).getD 0 0 = c := by rw [List.getD_eq_getElem?_getD, List.getElem?_drop]; simp [hc]
   rw [runesM_step hne] at hF
   have bad' : bad (s.drop i) = true → Res.tup [D.list [], D.bool false] = runesRes (runesM s) := fun h => by rw [if_pos h] at hF; rw [← hF]; rfl
   by_cases a : c.toNat < 128
   ·have z0 : ((c.toNat : Int) < 128) = True := eq_true (by omega)
    have hlead : leadR ((s.drop i).getD 0 0).toNat 0 (c.toNat) := by rw [hg0]; unfold leadR; omega
    obtain ⟨q1, q2⟩ := lead_le hlead
    have e0 : ((cumR (s.drop i) (c.toNat) 0 : Nat) : Int) = (c.toNat : Int) := by unfold cumR; omega
    simp (maxSteps := 2000000) (disch := omega) only [go_sem, ↓reduceIte, getI_nat, hc, z0]
    refine ⟨fun h => bad' (lead_short (by omega) hlead (by omega)), fun h => ?_⟩
    refine run_loop (fun j : Nat => ⟨[(0, .d (.str s)), (4, .own (.t 4) 3 1 (natsU acc)), (5, .d (.int .i64 i)), (7, .d (.int .i64 0)), (8, .d (.int .i64 (cumR (s.drop i) (c.toNat) j : Nat))), (9, .d (.int .i64 ((j : Int) + 1)))], [], []⟩)
     (fun j => j ≤ 0 ∧ ∀ k, 1 ≤ k → k ≤ j → contB (s.drop i) k) (fun j => 0 - j) 0 ?_ ?_ ?_
    ·refine weak_mk ?_ trivial
     simp (maxSteps := 2000000) only [go_sem, ↓reduceIte, Sub, Int.natCast_add, Int.natCast_mul, e0]
    ·exact ⟨by omega, fun k h1 h2 => by omega⟩
    ·rintro j ⟨hj, hcj⟩
     have hcum := cum_le (l := s.drop i) (n := 0) q2 j (by omega)
     have zj : (((j : Int) + 1 ≤ 0)) = (j < 0) := propext (by omega)
     simp (maxSteps := 2000000) (disch := omega) only [go_sem, ↓reduceIte, zj]
     refine ⟨fun hj1 => ?_, fun hj1 => ?_⟩
     ·obtain ⟨d, hd⟩ := get_some (l := s) (i := i + (j + 1)) (by omega)
      have hd8 := u8_lt d
      have hgd : getI s ((i : Int) + ((j : Int) + 1)) = some d := by rw [← hd, ← getI_nat]; congr 1
      have hgd' : (s.drop i).getD (j + 1) 0 = d := by rw [List.getD_eq_getElem?_getD, List.getElem?_drop]; simp [hd]
      have hbad : ¬ (128 ≤ d.toNat ∧ d.toNat ≤ 191) → bad (s.drop i) = true := fun h => lead_cont (by omega) hlead (j := j + 1) (by omega) (by omega) (by unfold contB; rw [hgd']; exact h)
      have hnext : 128 ≤ d.toNat → ((cumR (s.drop i) (c.toNat) (j + 1) : Nat) : Int) = 64 * (cumR (s.drop i) (c.toNat) j : Nat) + d.toNat - 128 := fun h => by simp only [cumR, hgd']; omega
      simp (maxSteps := 2000000) (disch := omega) only [go_sem, ↓reduceIte, hgd]
      refine ⟨fun h1 => ⟨fun h2 => bad' (hbad (by omega)), fun h2 => ⟨j + 1, ?_, ⟨by omega, fun k k1 k2 => ?_⟩, by omega⟩⟩, fun h1 => bad' (hbad (by omega))⟩
      ·have hn := hnext (by omega)
       refine weak_mk ?_ trivial
       simp (maxSteps := 2000000) only [go_sem, ↓reduceIte, Sub, Int.natCast_add, Int.natCast_mul, hn]
      ·by_cases hk : k = j + 1
       ·subst hk; unfold contB; rw [hgd']; omega
       ·exact hcj k k1 (by omega)
     ·have hjN : j = 0 := by omega
      subst hjN
      have hfin := lead_fin hlead (by omega) (fun k k1 k2 => hcj k k1 k2)
      generalize cumR (s.drop i) (c.toNat) 0 = R at *
      clear e0
      simp (maxSteps := 2000000) (disch := omega) only [go_sem, ↓reduceIte]
      have eN : ((i + 1 : Nat) : Int) = (i : Int) + 0 + 1 := by omega
      have zz : natsU acc ++ [D.int .i64 (R : Int)] = natsU (acc ++ [R]) := by rw [natsU_append]; rfl
      rcases hfin with ⟨hx, hb⟩ | ⟨hx, hb, hdec⟩
      ·repeat' (first | intro _ | apply And.intro)
       all_goals first | exact bad' hb | (exfalso; omega)
      ·rw [hb, if_neg (by decide), hdec] at hF
       simp only at hF
       have hF2 : (runesM (s.drop (i + 1))).map ((acc ++ [R]) ++ ·) = runesM s := by
        rw [List.drop_drop] at hF
        rw [← hF]
        cases runesM (s.drop (i + 1)) <;> simp
       repeat' (first | intro _ | apply And.intro)
       all_goals first | (exfalso; omega) | omega | skip
       all_goals refine ⟨(i + 1, acc ++ [R]), ?_, ⟨by simp only; omega, by simp only [List.length_append, List.length_cons, List.length_nil]; omega, hF2⟩, by simp only; omega⟩
       all_goals (refine weak_mk ?_ trivial; simp (maxSteps := 2000000) only [go_sem, ↓reduceIte, Sub, Int.natCast_add, Int.natCast_mul, zz, eN])
   by_cases b : 194 ≤ c.toNat ∧ c.toNat < 224
   ·have z0 : ((c.toNat : Int) < 128) = False := eq_false (by omega)
    have z1 : (194 ≤ (c.toNat : Int)) = True := eq_true (by omega)
    have z2 : ((c.toNat : Int) < 224) = True := eq_true (by omega)
    have hlead : leadR ((s.drop i).getD 0 0).toNat 1 (c.toNat - 192) := by rw [hg0]; unfold leadR; omega
    obtain ⟨q1, q2⟩ := lead_le hlead
    have e0 : ((cumR (s.drop i) (c.toNat - 192) 0 : Nat) : Int) = (c.toNat : Int) - 192 := by unfold cumR; omega
    simp (maxSteps := 2000000) (disch := omega) only [go_sem, ↓reduceIte, getI_nat, hc, z0, z1, z2]
    refine ⟨fun h => bad' (lead_short (by omega) hlead (by omega)), fun h => ?_⟩
    refine run_loop (fun j : Nat => ⟨[(0, .d (.str s)), (4, .own (.t 4) 3 1 (natsU acc)), (5, .d (.int .i64 i)), (7, .d (.int .i64 1)), (8, .d (.int .i64 (cumR (s.drop i) (c.toNat - 192) j : Nat))), (9, .d (.int .i64 ((j : Int) + 1)))], [], []⟩)
     (fun j => j ≤ 1 ∧ ∀ k, 1 ≤ k → k ≤ j → contB (s.drop i) k) (fun j => 1 - j) 0 ?_ ?_ ?_
    ·refine weak_mk ?_ trivial
     simp (maxSteps := 2000000) only [go_sem, ↓reduceIte, Sub, Int.natCast_add, Int.natCast_mul, e0]
    ·exact ⟨by omega, fun k h1 h2 => by omega⟩
    ·rintro j ⟨hj, hcj⟩
     have hcum := cum_le (l := s.drop i) (n := 1) q2 j (by omega)
     have zj : (((j : Int) + 1 ≤ 1)) = (j < 1) := propext (by omega)
     simp (maxSteps := 2000000) (disch := omega) only [go_sem, ↓reduceIte, zj]
     refine ⟨fun hj1 => ?_, fun hj1 => ?_⟩
     ·obtain ⟨d, hd⟩ := get_some (l := s) (i := i + (j + 1)) (by omega)
      have hd8 := u8_lt d
      have hgd : getI s ((i : Int) + ((j : Int) + 1)) = some d := by rw [← hd, ← getI_nat]; congr 1
      have hgd' : (s.drop i).getD (j + 1) 0 = d := by rw [List.getD_eq_getElem?_getD, List.getElem?_drop]; simp [hd]
      have hbad : ¬ (128 ≤ d.toNat ∧ d.toNat ≤ 191) → bad (s.drop i) = true := fun h => lead_cont (by omega) hlead (j := j + 1) (by omega) (by omega) (by unfold contB; rw [hgd']; exact h)
      have hnext : 128 ≤ d.toNat → ((cumR (s.drop i) (c.toNat - 192) (j + 1) : Nat) : Int) = 64 * (cumR (s.drop i) (c.toNat - 192) j : Nat) + d.toNat - 128 := fun h => by simp only [cumR, hgd']; omega
      simp (maxSteps := 2000000) (disch := omega) only [go_sem, ↓reduceIte, hgd]
      refine ⟨fun h1 => ⟨fun h2 => bad' (hbad (by omega)), fun h2 => ⟨j + 1, ?_, ⟨by omega, fun k k1 k2 => ?_⟩, by omega⟩⟩, fun h1 => bad' (hbad (by omega))⟩
      ·have hn := hnext (by omega)
       refine weak_mk ?_ trivial
       simp (maxSteps := 2000000) only [go_sem, ↓reduceIte, Sub, Int.natCast_add, Int.natCast_mul, hn]
      ·by_cases hk : k = j + 1
       ·subst hk; unfold contB; rw [hgd']; omega
       ·exact hcj k k1 (by omega)
     ·have hjN : j = 1 := by omega
      subst hjN
      have hfin := lead_fin hlead (by omega) (fun k k1 k2 => hcj k k1 k2)
      generalize cumR (s.drop i) (c.toNat - 192) 1 = R at *
      clear e0
      simp (maxSteps := 2000000) (disch := omega) only [go_sem, ↓reduceIte]
      have eN : ((i + 2 : Nat) : Int) = (i : Int) + 1 + 1 := by omega
      have zz : natsU acc ++ [D.int .i64 (R : Int)] = natsU (acc ++ [R]) := by rw [natsU_append]; rfl
      rcases hfin with ⟨hx, hb⟩ | ⟨hx, hb, hdec⟩
      ·repeat' (first | intro _ | apply And.intro)
       all_goals first | exact bad' hb | (exfalso; omega)
      ·rw [hb, if_neg (by decide), hdec] at hF
       simp only at hF
       have hF2 : (runesM (s.drop (i + 2))).map ((acc ++ [R]) ++ ·) = runesM s := by
        rw [List.drop_drop] at hF
        rw [← hF]
        cases runesM (s.drop (i + 2)) <;> simp
       repeat' (first | intro _ | apply And.intro)
       all_goals first | (exfalso; omega) | omega | skip
       all_goals refine ⟨(i + 2, acc ++ [R]), ?_, ⟨by simp only; omega, by simp only [List.length_append, List.length_cons, List.length_nil]; omega, hF2⟩, by simp only; omega⟩
       all_goals (refine weak_mk ?_ trivial; simp (maxSteps := 2000000) only [go_sem, ↓reduceIte, Sub, Int.natCast_add, Int.natCast_mul, zz, eN])
   by_cases b2 : 224 ≤ c.toNat ∧ c.toNat < 240
   ·have z0 : ((c.toNat : Int) < 128) = False := eq_false (by omega)
    have z1 : (194 ≤ (c.toNat : Int)) = True := eq_true (by omega)
    have z2 : ((c.toNat : Int) < 224) = False := eq_false (by omega)
    have z3 : (224 ≤ (c.toNat : Int)) = True := eq_true (by omega)
    have z4 : ((c.toNat : Int) < 240) = True := eq_true (by omega)
    have hlead : leadR ((s.drop i).getD 0 0).toNat 2 (c.toNat - 224) := by rw [hg0]; unfold leadR; omega
    obtain ⟨q1, q2⟩ := lead_le hlead
    have e0 : ((cumR (s.drop i) (c.toNat - 224) 0 : Nat) : Int) = (c.toNat : Int) - 224 := by unfold cumR; omega
    simp (maxSteps := 2000000) (disch := omega) only [go_sem, ↓reduceIte, getI_nat, hc, z0, z1, z2, z3, z4]
    refine ⟨fun h => bad' (lead_short (by omega) hlead (by omega)), fun h => ?_⟩
    refine run_loop (fun j : Nat => ⟨[(0, .d (.str s)), (4, .own (.t 4) 3 1 (natsU acc)), (5, .d (.int .i64 i)), (7, .d (.int .i64 2)), (8, .d (.int .i64 (cumR (s.drop i) (c.toNat - 224) j : Nat))), (9, .d (.int .i64 ((j : Int) + 1)))], [], []⟩)
     (fun j => j ≤ 2 ∧ ∀ k, 1 ≤ k → k ≤ j → contB (s.drop i) k) (fun j => 2 - j) 0 ?_ ?_ ?_
    ·refine weak_mk ?_ trivial
     simp (maxSteps := 2000000) only [go_sem, ↓reduceIte, Sub, Int.natCast_add, Int.natCast_mul, e0]
    ·exact ⟨by omega, fun k h1 h2 => by omega⟩
    ·rintro j ⟨hj, hcj⟩
     have hcum := cum_le (l := s.drop i) (n := 2) q2 j (by omega)
     have zj : (((j : Int) + 1 ≤ 2)) = (j < 2) := propext (by omega)
     simp (maxSteps := 2000000) (disch := omega) only [go_sem, ↓reduceIte, zj]
     refine ⟨fun hj1 => ?_, fun hj1 => ?_⟩
     ·obtain ⟨d, hd⟩ := get_some (l := s) (i := i + (j + 1)) (by omega)
      have hd8 := u8_lt d
      have hgd : getI s ((i : Int) + ((j : Int) + 1)) = some d := by rw [← hd, ← getI_nat]; congr 1
      have hgd' : (s.drop i).getD (j + 1) 0 = d := by rw [List.getD_eq_getElem?_getD, List.getElem?_drop]; simp [hd]
      have hbad : ¬ (128 ≤ d.toNat ∧ d.toNat ≤ 191) → bad (s.drop i) = true := fun h => lead_cont (by omega) hlead (j := j + 1) (by omega) (by omega) (by unfold contB; rw [hgd']; exact h)
      have hnext : 128 ≤ d.toNat → ((cumR (s.drop i) (c.toNat - 224) (j + 1) : Nat) : Int) = 64 * (cumR (s.drop i) (c.toNat - 224) j : Nat) + d.toNat - 128 := fun h => by simp only [cumR, hgd']; omega
      simp (maxSteps := 2000000) (disch := omega) only [go_sem, ↓reduceIte, hgd]
      refine ⟨fun h1 => ⟨fun h2 => bad' (hbad (by omega)), fun h2 => ⟨j + 1, ?_, ⟨by omega, fun k k1 k2 => ?_⟩, by omega⟩⟩, fun h1 => bad' (hbad (by omega))⟩
      ·have hn := hnext (by omega)
       refine weak_mk ?_ trivial
       simp (maxSteps := 2000000) only [go_sem, ↓reduceIte, Sub, Int.natCast_add, Int.natCast_mul, hn]
      ·by_cases hk : k = j + 1
       ·subst hk; unfold contB; rw [hgd']; omega
       ·exact hcj k k1 (by omega)
     ·have hjN : j = 2 := by omega
      subst hjN
      have hfin := lead_fin hlead (by omega) (fun k k1 k2 => hcj k k1 k2)
      generalize cumR (s.drop i) (c.toNat - 224) 2 = R at *
      clear e0
      simp (maxSteps := 2000000) (disch := omega) only [go_sem, ↓reduceIte]
      have eN : ((i + 3 : Nat) : Int) = (i : Int) + 2 + 1 := by omega
      have zz : natsU acc ++ [D.int .i64 (R : Int)] = natsU (acc ++ [R]) := by rw [natsU_append]; rfl
      rcases hfin with ⟨hx, hb⟩ | ⟨hx, hb, hdec⟩
      ·repeat' (first | intro _ | apply And.intro)
       all_goals first | exact bad' hb | (exfalso; omega)
      ·rw [hb, if_neg (by decide), hdec] at hF
       simp only at hF
       have hF2 : (runesM (s.drop (i + 3))).map ((acc ++ [R]) ++ ·) = runesM s := by
        rw [List.drop_drop] at hF
        rw [← hF]
        cases runesM (s.drop (i + 3)) <;> simp
       repeat' (first | intro _ | apply And.intro)
       all_goals first | (exfalso; omega) | omega | skip
       all_goals refine ⟨(i + 3, acc ++ [R]), ?_, ⟨by simp only; omega, by simp only [List.length_append, List.length_cons, List.length_nil]; omega, hF2⟩, by simp only; omega⟩
       all_goals (refine weak_mk ?_ trivial; simp (maxSteps := 2000000) only [go_sem, ↓reduceIte, Sub, Int.natCast_add, Int.natCast_mul, zz, eN])
   by_cases b3 : 240 ≤ c.toNat ∧ c.toNat < 245
   ·have z0 : ((c.toNat : Int) < 128) = False := eq_false (by omega)
    have z1 : (194 ≤ (c.toNat : Int)) = True := eq_true (by omega)
    have z2 : ((c.toNat : Int) < 224) = False := eq_false (by omega)
    have z3 : (224 ≤ (c.toNat : Int)) = True := eq_true (by omega)
    have z4 : ((c.toNat : Int) < 240) = False := eq_false (by omega)
    have z5 : (240 ≤ (c.toNat : Int)) = True := eq_true (by omega)
    have z6 : ((c.toNat : Int) < 245) = True := eq_true (by omega)
    have hlead : leadR ((s.drop i).getD 0 0).toNat 3 (c.toNat - 240) := by rw [hg0]; unfold leadR; omega
    obtain ⟨q1, q2⟩ := lead_le hlead
    have e0 : ((cumR (s.drop i) (c.toNat - 240) 0 : Nat) : Int) = (c.toNat : Int) - 240 := by unfold cumR; omega
    simp (maxSteps := 2000000) (disch := omega) only [go_sem, ↓reduceIte, getI_nat, hc, z0, z1, z2, z3, z4, z5, z6]
    refine ⟨fun h => bad' (lead_short (by omega) hlead (by omega)), fun h => ?_⟩
    refine run_loop (fun j : Nat => ⟨[(0, .d (.str s)), (4, .own (.t 4) 3 1 (natsU acc)), (5, .d (.int .i64 i)), (7, .d (.int .i64 3)), (8, .d (.int .i64 (cumR (s.drop i) (c.toNat - 240) j : Nat))), (9, .d (.int .i64 ((j : Int) + 1)))], [], []⟩)
     (fun j => j ≤ 3 ∧ ∀ k, 1 ≤ k → k ≤ j → contB (s.drop i) k) (fun j => 3 - j) 0 ?_ ?_ ?_
    ·refine weak_mk ?_ trivial
     simp (maxSteps := 2000000) only [go_sem, ↓reduceIte, Sub, Int.natCast_add, Int.natCast_mul, e0]
    ·exact ⟨by omega, fun k h1 h2 => by omega⟩
    ·rintro j ⟨hj, hcj⟩
     have hcum := cum_le (l := s.drop i) (n := 3) q2 j (by omega)
     have zj : (((j : Int) + 1 ≤ 3)) = (j < 3) := propext (by omega)
     simp (maxSteps := 2000000) (disch := omega) only [go_sem, ↓reduceIte, zj]
     refine ⟨fun hj1 => ?_, fun hj1 => ?_⟩
     ·obtain ⟨d, hd⟩ := get_some (l := s) (i := i + (j + 1)) (by omega)
      have hd8 := u8_lt d
      have hgd : getI s ((i : Int) + ((j : Int) + 1)) = some d := by rw [← hd, ← getI_nat]; congr 1
      have hgd' : (s.drop i).getD (j + 1) 0 = d := by rw [List.getD_eq_getElem?_getD, List.getElem?_drop]; simp [hd]
      have hbad : ¬ (128 ≤ d.toNat ∧ d.toNat ≤ 191) → bad (s.drop i) = true := fun h => lead_cont (by omega) hlead (j := j + 1) (by omega) (by omega) (by unfold contB; rw [hgd']; exact h)
      have hnext : 128 ≤ d.toNat → ((cumR (s.drop i) (c.toNat - 240) (j + 1) : Nat) : Int) = 64 * (cumR (s.drop i) (c.toNat - 240) j : Nat) + d.toNat - 128 := fun h => by simp only [cumR, hgd']; omega
      simp (maxSteps := 2000000) (disch := omega) only [go_sem, ↓reduceIte, hgd]
      refine ⟨fun h1 => ⟨fun h2 => bad' (hbad (by omega)), fun h2 => ⟨j + 1, ?_, ⟨by omega, fun k k1 k2 => ?_⟩, by omega⟩⟩, fun h1 => bad' (hbad (by omega))⟩
      ·have hn := hnext (by omega)
       refine weak_mk ?_ trivial
       simp (maxSteps := 2000000) only [go_sem, ↓reduceIte, Sub, Int.natCast_add, Int.natCast_mul, hn]
      ·by_cases hk : k = j + 1
       ·subst hk; unfold contB; rw [hgd']; omega
       ·exact hcj k k1 (by omega)
     ·have hjN : j = 3 := by omega
      subst hjN
      have hfin := lead_fin hlead (by omega) (fun k k1 k2 => hcj k k1 k2)
      generalize cumR (s.drop i) (c.toNat - 240) 3 = R at *
      clear e0
      simp (maxSteps := 2000000) (disch := omega) only [go_sem, ↓reduceIte]
      have eN : ((i + 4 : Nat) : Int) = (i : Int) + 3 + 1 := by omega
      have zz : natsU acc ++ [D.int .i64 (R : Int)] = natsU (acc ++ [R]) := by rw [natsU_append]; rfl
      rcases hfin with ⟨hx, hb⟩ | ⟨hx, hb, hdec⟩
      ·repeat' (first | intro _ | apply And.intro)
       all_goals first | exact bad' hb | (exfalso; omega)
      ·rw [hb, if_neg (by decide), hdec] at hF
       simp only at hF
       have hF2 : (runesM (s.drop (i + 4))).map ((acc ++ [R]) ++ ·) = runesM s := by
        rw [List.drop_drop] at hF
        rw [← hF]
        cases runesM (s.drop (i + 4)) <;> simp
       repeat' (first | intro _ | apply And.intro)
       all_goals first | (exfalso; omega) | omega | skip
       all_goals refine ⟨(i + 4, acc ++ [R]), ?_, ⟨by simp only; omega, by simp only [List.length_append, List.length_cons, List.length_nil]; omega, hF2⟩, by simp only; omega⟩
       all_goals (refine weak_mk ?_ trivial; simp (maxSteps := 2000000) only [go_sem, ↓reduceIte, Sub, Int.natCast_add, Int.natCast_mul, zz, eN])
   have hnone : bad (s.drop i) = true := lead_none (by omega) (by rw [hg0]; intro n r0 h; unfold leadR at h; omega)
   have z0 : ((c.toNat : Int) < 128) = False := eq_false (by omega)
   simp (maxSteps := 2000000) (disch := omega) only [go_sem, ↓reduceIte, getI_nat, hc, z0]
   repeat' (first | intro _ | apply And.intro)
   all_goals first | exact bad' hnone | (exfalso; omega)
  ·have : s.drop i = [] := List.drop_eq_nil_of_le (by omega)
   rw [this, runesM_nil] at hF
   rw [← hF]
   simp (maxSteps := 2000000) only [go_sem, ↓reduceIte]
   simp [runesRes]
end Go.Av.Try
set_option linter.unusedSimpArgs false
set_option maxRecDepth 100000
set_option maxHeartbeats 2000000
namespace Go.Av.Try
open Go.Proofs
def rnD (l : List Nat) : List D := l.map fun (n : Nat) => .int .i32 (n : Int)
def inD (l : List Int) : List D := l.map fun n => .int .i64 n
def txO (r : Ref) (S : List Nat) (O L : List Int) : AObj := .cells [.own (.c r 0) 21 1 (rnD S), .own (.c r 1) 3 1 (inD O), .own (.c r 2) 3 1 (inD L)]
theorem encM_app (a b : List Nat) : encM (a ++ b) = encM a ++ encM b := by simp [encM]
theorem runeAt_encL {c : Nat} (h : vrune c) (a b : List UInt8) : runeAt (a ++ (enc c ++ b)) a.length = (c, (enc c).length) := by
 have h1 := Lib.decodeL_drop ⟨(a ++ (enc c ++ b)).toArray⟩ a.length
 unfold runeAt
 rw [← h1]
 show Lib.decodeL ((a ++ (enc c ++ b)).drop a.length) = _
 rw [List.drop_left, decode_enc h]
theorem rnD_len (l : List Nat) : (rnD l).length = l.length := by simp [rnD]
theorem inD_len (l : List Int) : (inD l).length = l.length := by simp [inD]
def L___layout_Text__put : LCode :=
 .seq (.reg [Qc 8 0, Qc 9 0, Q 10 (.nck (.t 9)), Q 11 (.fa 0 (.t 10)), Q 12 (.ld false 1 (.t 11)), Qc 13 1, ⟨some 14, .bsl 21 1 [.t 13], none⟩, ⟨some 15, .app 21 1 4 false (.t 12) 
 (.t 14), none⟩, Q 16 (.nck (.t 8)), Q 17 (.fa 0 (.t 16)), ⟨none, .st 1 (.t 17) (.t 15), none⟩]) (.seq (.reg [Qc 18 0, Qc 19 0, Q 20 (.nck (.t 19)), Q 21 (.fa 1 (.t 20)), Q 22 
 (.ld false 1 (.t 21)), Qc 23 2, ⟨some 24, .bsl 3 1 [.t 23], none⟩, ⟨some 25, .app 3 1 8 false (.t 22) (.t 24), none⟩, Q 26 (.nck (.t 18)), Q 27 (.fa 1 (.t 26)), ⟨none, .st 1 (.t 
 27) (.t 25), none⟩]) (.reg [Qc 28 0, Qc 29 0, Q 30 (.nck (.t 29)), Q 31 (.fa 2 (.t 30)), Q 32 (.ld false 1 (.t 31)), Qc 33 3, ⟨some 34, .bsl 3 1 [.t 33], none⟩, ⟨some 35, .app 3 
 1 8 false (.t 32) (.t 34), none⟩, Q 36 (.nck (.t 28)), Q 37 (.fa 2 (.t 36)), ⟨none, .st 1 (.t 37) (.t 35), none⟩]))
def R___layout_Text__put : List LRes := []
theorem lift___layout_Text__put : Lifts Try.prog 22 38 L___layout_Text__put R___layout_Text__put := ⟨_, _, Try.func22, rfl, by kernel_rfl, by kernel_rfl, rfl⟩
theorem put_call (S : List Nat) (O L : List Int) (c : Nat) (o n : Int) (h : S.length ≤ 1000000 ∧ O.length ≤ 1000000 ∧ L.length ≤ 1000000) : MCallE Try.prog 22 [.ptr (.x 0) 0, .d (.int .i32 (c : Nat)), .d (.int .i64 o), .d (.int .i64 n)] [txO (.x 0) S O L] (.tuple []) [txO (.x 0) (S ++ [c]) (O ++ [o]) (L ++ [n])] := by
 unfold txO
 refine lift___layout_Text__put.mcall (by kernel_rfl) rfl ?_
 simp (maxSteps := 2000000) (disch := omega) only [go_sem, ↓reduceIte, L___layout_Text__put, R___layout_Text__put]
 refine ⟨⟨?_, ?_⟩, ⟨?_, ?_⟩, ⟨?_, ?_⟩, ?_⟩
 all_goals first | (simp only [rnD, inD, List.length_map]; omega) | simp [rnD, inD]
/-! ### The whole -/
abbrev Tri := Nat × Int × Int
def txT (r : Ref) : List Tri → AObj
 | [] => .cells [.ns, .ns, .ns]
 | t :: T => txO r ((t :: T).map (·.1)) ((t :: T).map (·.2.1)) ((t :: T).map (·.2.2))
theorem txT_snoc (r : Ref) (T : List Tri) (t : Tri) : txT r (T ++ [t]) = txO r (T.map (·.1) ++ [t.1]) (T.map (·.2.1) ++ [t.2.1]) (T.map (·.2.2) ++ [t.2.2]) := by
 cases T <;> simp [txT]
theorem put_at (T : List Tri) (c : Nat) (o n : Int) (h : T.length ≤ 1000000) : MCallE Try.prog 22 [.ptr (.x 0) 0, .d (.int .i32 (c : Nat)), .d (.int .i64 o), .d (.int .i64 n)] [txT (.x 0) T] (.tuple []) [txT (.x 0) (T ++ [(c, o, n)])] := by
 rw [txT_snoc]
 cases T with
 | nil =>
  unfold txO txT
  refine lift___layout_Text__put.mcall (by kernel_rfl) rfl ?_
  simp (maxSteps := 2000000) (disch := omega) only [go_sem, ↓reduceIte, L___layout_Text__put, R___layout_Text__put]
  simp [rnD, inD]
 | cons t T =>
  refine put_call _ _ _ c o n ?_
  simp only [List.length_map]
  exact ⟨h, h, h⟩
theorem txT_ren (T : List Tri) : (txT (.x 0) T).ren [.l 3] = txT (.l 3) T := by cases T <;> rfl
theorem txT_wf (T : List Tri) : wfO 1 [txT (.x 0) T] = true := by cases T <;> rfl
theorem txT_back (T : List Tri) : backOK [.l 3] 1 [.l 3] [txT (.x 0) T] = true := by cases T <;> rfl
theorem txT_drop (r : Ref) (T : List Tri) : dropObj r (txT (.l 3) T) = txT (.l 3) T := by cases T <;> rfl
theorem put_rule {dst : Option Nat} {K : St → Prop} {σ : St} {args : List LX} (T : List Tri) (c : Nat) (o n : Int) (h : T.length ≤ 1000000) (he : evL σ args = [.ptr (.l 3) 0, .d (.int .i32 (c : Nat)), .d (.int .i64 o), .d (.int .i64 n)]) (ho : σ.obj (.l 3) = some (txT (.l 3) T))
  (hK : K (retO ((σ.unownL [.l 3]).setObj (.l 3) (txT (.l 3) (T ++ [(c, o, n)]))) dst [.l 3] (.tuple []))) : PrimG Try.prog dst .call (.k (.fn (.func 22) [] []) :: args) K σ := by
 refine PrimG.mc1 (.l 3) rfl (put_at T c o n h) (by rw [he]; rfl) rfl (by rw [txT_ren]; exact ho) (txT_wf T) ⟨rfl, txT_back _⟩ ?_
 have e : backS (eraseL σ (labsQ [])) [.l 3] [txT (.x 0) (T ++ [(c, o, n)])] = (σ.unownL [.l 3]).setObj (.l 3) (txT (.l 3) (T ++ [(c, o, n)])) := by
  simp only [backS, setObjs, txT_ren, labsQ, eraseL, St.unownL]
 rw [e]; exact hK
def rnG (g : Gl) : List Nat := (runesM g.tx).getD []
def glyT (l : List Gl) (n : Int) (i : Nat) : List Tri := (rnG (glAt l i)).map fun r => (r, (i : Int), n)
def room (l : List Gl) (j i : Nat) : Bool := decide ((glAt l j).sz < 4 * ((glAt l i).ax - (glAt l j).ex))
def gapT (l : List Gl) (n : Int) (last : Option Nat) (i : Nat) : List Tri := match last with
 | some j => if room l j i = true then [(32, -1, n)] else []
 | none => []
def lineT (l : List Gl) (n : Int) : Option Nat → List Nat → List Tri
 | _, [] => []
 | last, i :: r => gapT l n last i ++ (glyT l n i ++ lineT l n (some i) r)
def pageT (l : List Gl) : Nat → List (List Nat) → List Tri
 | _, [] => []
 | n, r :: rs => (if n = 0 then [] else [(10, -1, (n : Int) - 1)]) ++ (lineT l n none r ++ pageT l (n + 1) rs)
def textF (l : List Gl) : List Tri := pageT l 0 (linesF l)
def txR (T : List Tri) : Res := .one (.agg [.list (rnD (T.map (·.1))), .list (inD (T.map (·.2.1))), .list (inD (T.map (·.2.2)))])
theorem linesF_lt {l : List Gl} : ∀ r ∈ linesF l, ∀ i ∈ r, i < l.length := fun r hr i hi => by
 obtain ⟨q, hq, rfl⟩ := List.mem_map.1 hr
 have h1 := (Ky.st_perm q).subset hi
 have h2 : i ∈ (grpF l).flatten := List.mem_flatten.2 ⟨q, hq, h1⟩
 rw [grpF, grp_flat, List.flatten_nil, List.nil_append] at h2
 exact idxT_lt i ((Ky.st_perm _).subset h2)
theorem linesF_row {l : List Gl} : ∀ r ∈ linesF l, r.length ≤ l.length := fun r hr => by
 obtain ⟨q, hq, rfl⟩ := List.mem_map.1 hr
 have h3 : (ordF l).length ≤ l.length := by rw [ordF, (Ky.st_perm _).length_eq]; exact idxT_len l _
 have h4 : (grpF l).flatten = ordF l := by rw [grpF, grp_flat, List.flatten_nil, List.nil_append]
 have h5 := (List.sublist_flatten_of_mem hq).length_le
 rw [h4] at h5
 rw [(Ky.st_perm q).length_eq]; omega
theorem linesF_len (l : List Gl) : (linesF l).length ≤ l.length := by
 have h : ∀ (O : List Nat) (rows : List (List Nat)), (O.foldl (grp1 l) rows).length ≤ rows.length + O.length := fun O => by
  induction O with
  | nil => intro rows; simp
  | cons i O ih =>
   intro rows
   have h1 : (grp1 l rows i).length ≤ rows.length + 1 := by
    rcases List.eq_nil_or_concat rows with rfl | ⟨rs, r, rfl⟩
    ·simp [grp1]
    ·rw [List.concat_eq_append, grp1_snoc]; split <;> simp
   have := ih (grp1 l rows i)
   simp only [List.foldl_cons, List.length_cons]
   omega
 have h2 := h (ordF l) []
 have h3 : (ordF l).length ≤ l.length := by rw [ordF, (Ky.st_perm _).length_eq]; exact idxT_len l _
 rw [linesF, List.length_map, grpF]
 simp at h2; omega
def L_layout_Of : LCode :=
 .seq (.reg [⟨some 2, .allo [.list [], .list [], .list []], none⟩]) (.seq (.reg [⟨some 3, .allo [.list [], .list [], .list []], none⟩]) (.seq (.seq (.reg [Qc 11 0, ⟨some 12, .call 
 21 [.t 11], none⟩, Q 13 (.len false (.t 12)), Q 14 (.cp (Ki 0))]) (.block 0 (.loop (.seq (.reg [Q 15 (.bin .lss (.t 14) (.t 13))]) (.seq (.cond (.t 15) .skip (.exit 0)) (.seq 
 (.block 1 (.seq (.reg [Qc 16 14, Q 17 (.ia 1 (.t 12) (.t 14)), Q 18 (.ld false 1 (.t 17)), Qa 4 16, Qa 5 18]) (.seq (.join (.seq (.reg [Qc 19 4, Q 20 (.bin .gtr (.t 19) (Ki 0))]) 
 (.cond (.t 20) (.reg [Qc 21 4, Q 22 (.bin .sub (.t 21) (Ki 1)), ⟨some 23, .prim .call [.k (.fn (.func 22) [] []), .t 3, .k (.d (.int .i32 10)), .k (.d (.int .i64 (-1))), .t 22] 
 [], none⟩]) .skip))) (.seq (.reg [Qc 24 5, Q 25 (.len false (.t 24)), Q 26 (.cp (Ki 0))]) (.block 2 (.loop (.seq (.reg [Q 27 (.bin .lss (.t 26) (.t 25))]) (.seq (.cond (.t 27) 
 .skip (.exit 2)) (.seq (.block 3 (.seq (.reg [Qc 28 26, Q 29 (.ia 1 (.t 24) (.t 26)), Q 30 (.ld false 1 (.t 29)), Qa 6 28, Qa 7 30]) (.seq (.join (.seq (.reg [Qc 31 6, Q 32 (.bin 
 .gtr (.t 31) (Ki 0))]) (.cond (.t 32) (.seq (.reg [Qc 33 0, Qc 34 5, Qc 35 6, Q 36 (.bin .sub (.t 35) (Ki 1)), Q 37 (.ia 1 (.t 34) (.t 36)), Q 38 (.ld false 1 (.t 37)), Q 39 (.ia 
 10 (.t 33) (.t 38)), Q 40 (.ld true 10 (.t 39)), ⟨some 8, .allo [.str [], .int .i64 0, .int .i64 0, .int .i64 0, .int .i64 0, .int .i64 0, .int .i64 0, .int .i64 0, .int .i64 0, 
 .int .i64 0], none⟩, ⟨none, .st 10 (.t 8) (.t 40), none⟩]) (.seq (.dreg [Qc 41 0, Qc 42 7, Q 43 (.ia 10 (.t 41) (.t 42)), Q 44 (.fa 1 (.t 43)), Q 45 (.fa 0 (.t 44)), Q 46 (.ld 
 false 1 (.t 45)), Q 47 (.fa 3 (.t 8)), Q 48 (.fa 0 (.t 47)), Q 49 (.ld false 1 (.t 48)), Q 50 (.bin .sub (.t 46) (.t 49)), Q 51 (.bin .mul (Ki 4) (.t 50)), Q 52 (.fa 5 (.t 8)), Q 
 53 (.ld false 1 (.t 52)), Q 54 (.bin .gtr (.t 51) (.t 53))]) (.cond (.t 54) (.reg [Qc 55 4, ⟨some 56, .prim .call [.k (.fn (.func 22) [] []), .t 3, .k (.d (.int .i32 32)), .k (.d 
 (.int .i64 (-1))), .t 55] [], none⟩]) .skip))) .skip))) (.seq (.reg [Qc 57 0, Qc 58 7, Q 59 (.ia 10 (.t 57) (.t 58)), Q 60 (.fa 0 (.t 59)), Q 61 (.ld false 1 (.t 60)), ⟨some 62, 
 .prim (.range 9) [.t 61] [], none⟩]) (.block 4 (.loop (.seq (.reg [⟨some 63, .prim (.next true 0) [.t 62] [], none⟩, Q 64 (.ext 0 (.t 63))]) (.seq (.cond (.t 64) .skip (.exit 4)) 
 (.block 5 (.seq (.reg [Q 65 (.ext 2 (.t 63)), Qa 10 65]) (.reg [Qc 66 10, Qc 67 7, Qc 68 4, ⟨some 69, .prim .call [.k (.fn (.func 22) [] []), .t 3, .t 66, .t 67, .t 68] [], 
 none⟩]))))))))))) (.reg [Q 70 (.bin .add (.t 26) (Ki 1)), Qc 26 70])))))))))) (.reg [Q 71 (.bin .add (.t 14) (Ki 1)), Qc 14 71]))))))) (.seq (.reg [Q 72 (.ld true 3 (.t 3)), 
 ⟨none, .st 3 (.t 2) (.t 72), none⟩]) .ret)))
def R_layout_Of : List LRes := [.cell 2 true 3]
theorem lift_layout_Of : Lifts Try.prog 9 73 L_layout_Of R_layout_Of := ⟨_, _, Try.func9, rfl, by kernel_rfl, by kernel_rfl, rfl⟩
theorem of_call (l : List Gl) (hl : l.length ≤ 1000) (hok : ∀ g ∈ l, g.ok) (hr : ∀ g ∈ l, ∃ rs, runesM g.tx = some rs) (hb : (textF l).length ≤ 1000000) : PCall Try.prog 9 [.list (glsD l)] (fun r => r = txR (textF l)) := by
 have hlt := linesF_lt (l := l)
 have hrw := linesF_row (l := l)
 have hll := linesF_len l
 refine lift_layout_Of.call rfl ?_
 simp (maxSteps := 2000000) (disch := omega) only [go_sem, ↓reduceIte, L_layout_Of, R_layout_Of]
 refine CallG.of (lines_call l hl hok) ?_
 have hres : textF l = pageT l 0 (linesF l) := rfl
 generalize linesF l = W at *
 generalize textF l = F at *
 have hWl : (W.map fun r => D.list (nsD r)).length = W.length := by simp
 simp (maxSteps := 2000000) only [go_sem, ↓reduceIte, hWl]
 refine run_loop (fun y : List Tri × Nat => ⟨[(0, .d (.list (glsD l))), (2, .ptr (.l 2) 0), (3, .ptr (.l 3) 0), (12, .d (.list (W.map fun r => D.list (nsD r)))), (13, .d (.int .i64 (W.length : Nat))), (14, .d (.int .i64 (y.2 : Nat)))], [(2, .cells [.ns, .ns, .ns]), (3, txT (.l 3) y.1)], []⟩)
  (fun y => y.2 ≤ W.length ∧ F = y.1 ++ pageT l y.2 (W.drop y.2)) (fun y => W.length - y.2) ([], 0) ?_ ?_ ?_
 ·refine Weak.mk ?_ ?_ ?_ <;> simp (maxSteps := 2000000) only [go_sem, ↓reduceIte, Sub, Int.natCast_add, Int.natCast_mul, txT]
 ·exact ⟨Nat.zero_le _, hres⟩
 ·rintro ⟨T, n⟩ ⟨hn, hT⟩
  simp only at hn hT
  have hTl : T.length ≤ 1000000 := by rw [hT] at hb; simp at hb; omega
  simp (maxSteps := 2000000) only [go_sem, ↓reduceIte]
  refine ⟨fun hlt1 => ?_, fun hge => ?_⟩
  ·obtain ⟨row, hrow⟩ := get_some (l := W) (i := n) (by omega)
   have hrl := hlt row (List.mem_of_getElem? hrow)
   have hrwl := hrw row (List.mem_of_getElem? hrow)
   have hget : (W.map fun r => D.list (nsD r))[n]? = some (.list (nsD row)) := by rw [List.getElem?_map, hrow]; rfl
   have hd : W.drop n = row :: W.drop (n + 1) := drop_at hrow
   rw [hd, pageT] at hT
   have hlenr : ((nsD row).length : Int) = (row.length : Int) := by rw [nsD_len]
   simp (maxSteps := 2000000) (disch := omega) only [go_sem, ↓reduceIte, hWl, getI_nat, hget]
   refine run_join ⟨[(0, .d (.list (glsD l))), (2, .ptr (.l 2) 0), (3, .ptr (.l 3) 0), (4, .d (.int .i64 (n : Nat))), (5, .d (.list (nsD row))), (12, .d (.list (W.map fun r => D.list (nsD r)))), (13, .d (.int .i64 (W.length : Nat))), (14, .d (.int .i64 (n : Nat)))], [(2, .cells [.ns, .ns, .ns]), (3, txT (.l 3) (T ++ (if n = 0 then [] else [(10, -1, (n : Int) - 1)])))], []⟩ ?_ ?_
   ·by_cases h0 : n = 0
    ·have z : (0 < (n : Int)) = False := eq_false (by omega)
     rw [if_pos h0, List.append_nil]
     simp (maxSteps := 2000000) (disch := omega) only [go_sem, ↓reduceIte, z]
     refine Gho.wk ?_
     refine Weak.mk ?_ ?_ ?_ <;> simp (maxSteps := 2000000) only [go_sem, ↓reduceIte, Sub, Int.natCast_add, Int.natCast_mul]
    ·have z : (0 < (n : Int)) = True := eq_true (by omega)
     rw [if_neg h0]
     simp (maxSteps := 2000000) (disch := omega) only [go_sem, ↓reduceIte, z]
     refine put_rule T 10 (-1) ((n : Int) - 1) hTl rfl rfl ?_
     simp (maxSteps := 2000000) only [go_sem, ↓reduceIte]
     refine Gho.wk ?_
     refine Weak.mk ?_ ?_ ?_ <;> simp (maxSteps := 2000000) only [go_sem, ↓reduceIte, Sub, Int.natCast_add, Int.natCast_mul]
   ·rw [← List.append_assoc] at hT
    generalize T ++ (if n = 0 then [] else [(10, -1, (n : Int) - 1)]) = T1 at *
    simp (maxSteps := 2000000) only [go_sem, ↓reduceIte, hlenr]
    refine run_loop (fun y : List Tri × Nat => ⟨[(0, .d (.list (glsD l))), (2, .ptr (.l 2) 0), (3, .ptr (.l 3) 0), (4, .d (.int .i64 (n : Nat))), (5, .d (.list (nsD row))), (24, .d (.list (nsD row))), (25, .d (.int .i64 (row.length : Nat))), (26, .d (.int .i64 (y.2 : Nat))), (12, .d (.list (W.map fun r => D.list (nsD r)))), (13, .d (.int .i64 (W.length : Nat))), (14, .d (.int .i64 (n : Nat)))], [(2, .cells [.ns, .ns, .ns]), (3, txT (.l 3) y.1)], []⟩)
     (fun y => y.2 ≤ row.length ∧ F = y.1 ++ (lineT l n (if y.2 = 0 then none else row[y.2 - 1]?) (row.drop y.2) ++ pageT l (n + 1) (W.drop (n + 1)))) (fun y => row.length - y.2) (T1, 0) ?_ ?_ ?_
    ·refine Weak.mk ?_ ?_ ?_ <;> simp (maxSteps := 2000000) only [go_sem, ↓reduceIte, Sub, Int.natCast_add, Int.natCast_mul]
    ·exact ⟨Nat.zero_le _, hT⟩
    ·clear hT hTl T T1
     rintro ⟨T, k⟩ ⟨hk, hT⟩
     simp only at hk hT
     have hTl : T.length ≤ 1000000 := by rw [hT] at hb; simp at hb; omega
     simp (maxSteps := 2000000) only [go_sem, ↓reduceIte]
     refine ⟨fun hlt2 => ?_, fun hge2 => ?_⟩
     ·obtain ⟨i, hi⟩ := get_some (l := row) (i := k) (by omega)
      have hil := hrl i (List.mem_of_getElem? hi)
      have hgi : (glsD l)[i]? = some (glAt l i).d := by rw [glsD_get, glAt_get hil]; rfl
      have hni : (nsD row)[k]? = some (.int .i64 (i : Nat)) := by rw [nsD_get, hi]; rfl
      have hmi := List.mem_of_getElem? (glAt_get hil)
      have hoi := hok (glAt l i) hmi
      obtain ⟨rs, hrs⟩ := hr (glAt l i) hmi
      obtain ⟨o1, o2, o3, o4, o5⟩ := hoi
      unfold inB at o1 o2 o3 o4 o5
      rw [drop_at hi, lineT] at hT
      simp (maxSteps := 2000000) (disch := omega) only [go_sem, ↓reduceIte, hlenr, getI_nat, hni]
      refine run_join ⟨[(0, .d (.list (glsD l))), (2, .ptr (.l 2) 0), (3, .ptr (.l 3) 0), (4, .d (.int .i64 (n : Nat))), (5, .d (.list (nsD row))), (7, .d (.int .i64 (i : Nat))), (24, .d (.list (nsD row))), (25, .d (.int .i64 (row.length : Nat))), (26, .d (.int .i64 (k : Nat))), (12, .d (.list (W.map fun r => D.list (nsD r)))), (13, .d (.int .i64 (W.length : Nat))), (14, .d (.int .i64 (n : Nat)))], [(2, .cells [.ns, .ns, .ns]), (3, txT (.l 3) (T ++ gapT l n (if k = 0 then none else row[k - 1]?) i))], []⟩ ?_ ?_
      ·by_cases h0 : k = 0
       ·have z : (0 < (k : Int)) = False := eq_false (by omega)
        rw [if_pos h0, show gapT l n none i = [] from rfl, List.append_nil]
        simp (maxSteps := 2000000) (disch := omega) only [go_sem, ↓reduceIte, z]
        refine Gho.wk ?_
        refine Weak.mk ?_ ?_ ?_ <;> simp (maxSteps := 2000000) only [go_sem, ↓reduceIte, Sub, Int.natCast_add, Int.natCast_mul]
       ·have z : (0 < (k : Int)) = True := eq_true (by omega)
        obtain ⟨j, hj⟩ := get_some (l := row) (i := k - 1) (by omega)
        have hjl := hrl j (List.mem_of_getElem? hj)
        have hgj : (glsD l)[j]? = some (glAt l j).d := by rw [glsD_get, glAt_get hjl]; rfl
        have hnj : (nsD row)[k - 1]? = some (.int .i64 (j : Nat)) := by rw [nsD_get, hj]; rfl
        have hoj := hok (glAt l j) (List.mem_of_getElem? (glAt_get hjl))
        obtain ⟨u1, u2, u3, u4, u5⟩ := hoj
        unfold inB at u1 u2 u3 u4 u5
        have e1 : ((k : Int) - 1) = ((k - 1 : Nat) : Int) := by omega
        rw [if_neg h0, hj]
        have hroom : room l j i = decide ((glAt l j).sz < 4 * ((glAt l i).ax - (glAt l j).ex)) := rfl
        have h8 := txT_drop (.l 8) T
        simp only [dropObj] at h8
        by_cases hrm : (glAt l j).sz < 4 * ((glAt l i).ax - (glAt l j).ex)
        ·have z2 := eq_true hrm
         rw [show gapT l n (some j) i = [(32, -1, (n : Int))] by rw [gapT, hroom, decide_eq_true hrm]; rfl]
         simp (maxSteps := 2000000) (disch := omega) only [go_sem, ↓reduceIte, z, z2, e1, getI_nat, hnj, hgj, hgi, Gl.d, h8]
         refine put_rule T 32 (-1) (n : Int) hTl rfl rfl ?_
         simp (maxSteps := 2000000) only [go_sem, ↓reduceIte]
         refine Gho.wk ?_
         refine Weak.mk ?_ ?_ ?_ <;> simp (maxSteps := 2000000) only [go_sem, ↓reduceIte, Sub, Int.natCast_add, Int.natCast_mul]
        ·have z2 := eq_false hrm
         rw [show gapT l n (some j) i = [] by rw [gapT, hroom, decide_eq_false hrm]; rfl, List.append_nil]
         simp (maxSteps := 2000000) (disch := omega) only [go_sem, ↓reduceIte, z, z2, e1, getI_nat, hnj, hgj, hgi, Gl.d, h8]
         refine Gho.wk ?_
         refine Weak.mk ?_ ?_ ?_ <;> simp (maxSteps := 2000000) only [go_sem, ↓reduceIte, Sub, Int.natCast_add, Int.natCast_mul]
      ·obtain ⟨e1, e2⟩ := runesM_enc (glAt l i).tx.length (Nat.le_refl _) hrs
       have hgT : glyT l n i = rs.map fun r => (r, (i : Int), (n : Int)) := by rw [glyT, rnG, hrs]; rfl
       rw [hgT] at hT
       generalize hT2 : T ++ gapT l n (if k = 0 then none else row[k - 1]?) i = T2 at *
       have hT3 : F = T2 ++ (rs.map (fun r => (r, (i : Int), (n : Int))) ++ (lineT l n (some i) (row.drop (k + 1)) ++ pageT l (n + 1) (W.drop (n + 1)))) := by rw [hT, ← hT2]; simp
       clear hT hT2 hTl T
       have h62 := txT_drop (.l 62) T2
       simp only [dropObj] at h62
       simp (maxSteps := 2000000) (disch := omega) only [go_sem, ↓reduceIte, getI_nat, hgi, Gl.d]
       refine PrimG.rangeStr rfl (by kernel_rfl) ?_
       simp (maxSteps := 2000000) only [go_sem, ↓reduceIte, h62]
       refine run_loop (fun y : List Nat × List Nat => ⟨[(0, .d (.list (glsD l))), (2, .ptr (.l 2) 0), (3, .ptr (.l 3) 0), (4, .d (.int .i64 (n : Nat))), (5, .d (.list (nsD row))), (7, .d (.int .i64 (i : Nat))), (24, .d (.list (nsD row))), (25, .d (.int .i64 (row.length : Nat))), (26, .d (.int .i64 (k : Nat))), (12, .d (.list (W.map fun r => D.list (nsD r)))), (13, .d (.int .i64 (W.length : Nat))), (14, .d (.int .i64 (n : Nat))), (62, .ptr (.l 62) 0)], [(2, .cells [.ns, .ns, .ns]), (3, txT (.l 3) (T2 ++ y.1.map fun r => (r, (i : Int), (n : Int)))), (62, .siter (glAt l i).tx (encM y.1).length)], []⟩)
        (fun y => y.1 ++ y.2 = rs) (fun y => y.2.length) ([], rs) ?_ rfl ?_
       ·refine Weak.mk ?_ ?_ ?_ <;> simp (maxSteps := 2000000) only [go_sem, ↓reduceIte, Sub, Int.natCast_add, Int.natCast_mul, encM]
        simp
       ·rintro ⟨pre, rest⟩ hpr
        simp only at hpr
        have hs2 : (glAt l i).tx = encM pre ++ encM rest := by rw [← e1, ← hpr, encM_app]
        have hTl : (T2 ++ pre.map fun r => (r, (i : Int), (n : Int))).length ≤ 1000000 := by
         rw [hT3, ← hpr] at hb
         simp at hb ⊢; omega
        simp (maxSteps := 2000000) only [go_sem, ↓reduceIte]
        refine PrimG.nextStr rfl rfl (fun hle => ?_) (fun hlt3 => ?_)
        ·have hr0 : rest = [] := by
          cases rest with
          | nil => rfl
          | cons c r =>
           exfalso
           have hc := e2 c (by rw [← hpr]; simp)
           have := (enc_len hc).1
           rw [hs2, List.length_append, show encM (c :: r) = enc c ++ encM r from rfl, List.length_append] at hle
           omega
         subst hr0
         rw [List.append_nil] at hpr
         subst hpr
         simp (maxSteps := 2000000) (disch := omega) only [go_sem, ↓reduceIte]
         refine ⟨(T2 ++ pre.map fun r => (r, (i : Int), (n : Int)), k + 1), ?_, ⟨by simp only; omega, ?_⟩, by simp only; omega⟩
         ·refine Weak.mk ?_ ?_ ?_ <;> simp (maxSteps := 2000000) only [go_sem, ↓reduceIte, Sub, Int.natCast_add, Int.natCast_mul]
         ·simp only
          rw [if_neg (by omega), Nat.add_sub_cancel, hi, hT3, List.append_assoc]
        ·cases rest with
         | nil =>
          exfalso
          rw [hs2, show encM [] = [] from rfl, List.append_nil] at hlt3
          omega
         | cons c r =>
          have hc := e2 c (by rw [← hpr]; simp)
          have hra : runeAt (glAt l i).tx (encM pre).length = (c, (enc c).length) := by rw [hs2, show encM (c :: r) = enc c ++ encM r from rfl]; exact runeAt_encL hc _ _
          rw [hra]
          simp (maxSteps := 2000000) only [go_sem, ↓reduceIte]
          refine put_rule _ c (i : Int) (n : Int) hTl rfl rfl ?_
          simp (maxSteps := 2000000) only [go_sem, ↓reduceIte]
          refine ⟨(pre ++ [c], r), ?_, by rw [← hpr]; simp, by simp⟩
          have e3 : (T2 ++ pre.map fun r => (r, (i : Int), (n : Int))) ++ [(c, (i : Int), (n : Int))] = T2 ++ (pre ++ [c]).map fun r => (r, (i : Int), (n : Int)) := by simp
          have e4 : (encM (pre ++ [c])).length = (encM pre).length + (enc c).length := by rw [encM_app, List.length_append]; simp [encM]
          refine Weak.mk ?_ ?_ ?_ <;> simp (maxSteps := 2000000) only [go_sem, ↓reduceIte, Sub, Int.natCast_add, Int.natCast_mul, e3, e4]
     ·have hkn : k = row.length := by omega
      subst hkn
      rw [List.drop_length, lineT, List.nil_append] at hT
      simp (maxSteps := 2000000) (disch := omega) only [go_sem, ↓reduceIte]
      refine ⟨(T, n + 1), ?_, ⟨by simp only; omega, hT⟩, by simp only; omega⟩
      refine Weak.mk ?_ ?_ ?_ <;> simp (maxSteps := 2000000) only [go_sem, ↓reduceIte, Sub, Int.natCast_add, Int.natCast_mul]
  ·have hnn : n = W.length := by omega
   subst hnn
   rw [List.drop_length, pageT, List.append_nil] at hT
   subst hT
   cases F with
   | nil =>
    simp (maxSteps := 2000000) only [go_sem, ↓reduceIte, txT]
    rfl
   | cons t F =>
    simp (maxSteps := 2000000) only [go_sem, ↓reduceIte, txT, txO]
    rfl
end Go.Av.Try
set_option linter.unusedSimpArgs false
set_option maxRecDepth 100000
set_option maxHeartbeats 2000000
namespace Go.Av.Try
open Go.Proofs
def fixOK (n : Int) : Bool := decide (-1000000000 ≤ n ∧ n ≤ 1000000000)
def flt (n : Int) : Int := if fixOK n = true then 0 else 1
def L_foliowrightref_FixFault : LCode :=
 .seq (.reg [Qx 2 (Ki 0)]) (.seq (.seq (.reg [Qc 3 0, Q 4 (.bin .lss (.t 3) (Ki (-1000000000))), Qc 5 4, Qd 6 0 5 false, Qg 7 (.bin .gtr (.t 6) (Ki 1000000000)) 5 false, Q 8 (.pick 
 (.t 5) KT (.t 7))]) (.cond (.t 8) (.seq (.reg [Qx 2 (Ki 1)]) .ret) .skip)) (.seq (.reg [Qx 2 (Ki 0)]) .ret))
def R_foliowrightref_FixFault : List LRes := [.tmp 2]
theorem lift_foliowrightref_FixFault : Lifts Try.prog 20 9 L_foliowrightref_FixFault R_foliowrightref_FixFault := ⟨_, _, Try.func20, rfl, by kernel_rfl, by kernel_rfl, rfl⟩
theorem flt_call (n : Int) : PCall Try.prog 20 [.int .i64 n] (fun r => r = .one (.int .i64 (flt n))) := by
 refine lift_foliowrightref_FixFault.call rfl ?_
 simp (maxSteps := 2000000) only [go_sem, ↓reduceIte, L_foliowrightref_FixFault, R_foliowrightref_FixFault]
 unfold flt fixOK
 by_cases h1 : n < -1000000000
 ·have z1 := eq_true h1
  rw [if_neg (by simp; omega)]
  simp (maxSteps := 2000000) only [go_sem, ↓reduceIte, z1]
 ·have z1 := eq_false h1
  by_cases h2 : 1000000000 < n
  ·have z2 := eq_true h2
   rw [if_neg (by simp; omega)]
   simp (maxSteps := 2000000) only [go_sem, ↓reduceIte, z1, z2]
  ·have z2 := eq_false h2
   rw [if_pos (by simp; omega)]
   simp (maxSteps := 2000000) only [go_sem, ↓reduceIte, z1, z2]
def lightG1 (g : Gl) : Bool := decide (g.tx.length ≤ 60) && ((runesM g.tx).isSome && (fixOK g.sz && (fixOK g.ax && (fixOK g.ay && (fixOK g.ex && fixOK g.ey)))))
def lightGM (l : List Gl) : Bool := decide (l.length ≤ 150) && l.all lightG1
theorem flt_sum (a b c d e : Int) : (0 < flt a + flt b + flt c + flt d + flt e) ↔ (fixOK a && (fixOK b && (fixOK c && (fixOK d && fixOK e)))) = false := by
 unfold flt
 cases fixOK a <;> cases fixOK b <;> cases fixOK c <;> cases fixOK d <;> cases fixOK e <;> simp
theorem flt_01 (n : Int) : 0 ≤ flt n ∧ flt n ≤ 1 := by unfold flt; split <;> omega
theorem light_ok {l : List Gl} (h : lightGM l = true) : l.length ≤ 150 ∧ (∀ g ∈ l, g.ok) ∧ (∀ g ∈ l, ∃ rs, runesM g.tx = some rs) ∧ ∀ g ∈ l, g.tx.length ≤ 60 := by
 unfold lightGM at h
 simp only [Bool.and_eq_true, decide_eq_true_eq, List.all_eq_true] at h
 refine ⟨h.1, fun g hg => ?_, fun g hg => ?_, fun g hg => ?_⟩
 all_goals
  have h1 := h.2 g hg
  unfold lightG1 fixOK at h1
  simp only [Bool.and_eq_true, decide_eq_true_eq] at h1
  obtain ⟨a, b, c, d, e, f, i⟩ := h1
 ·exact ⟨d, e, f, i, c⟩
 ·cases hr : runesM g.tx with
  | none => rw [hr] at b; cases b
  | some rs => exact ⟨rs, rfl⟩
 ·exact a
def L_foliowrightlaw_LightGlyphs : LCode :=
 .seq (.reg [Qx 2 KF]) (.seq (.seq (.reg [Qc 7 0, Q 8 (.len false (.t 7)), Q 9 (.bin .gtr (.t 8) (Ki 150))]) (.cond (.t 9) (.seq (.reg [Qx 2 KF]) .ret) .skip)) (.seq (.seq (.reg [Qx 
 3 (Ki 0)]) (.block 0 (.loop (.seq (.seq (.reg [Qc 10 3, Qc 11 0, Q 12 (.len false (.t 11)), Q 13 (.bin .lss (.t 10) (.t 12))]) (.cond (.t 13) .skip (.exit 0))) (.seq (.block 1 
 (.seq (.reg [Qc 16 0, Qc 17 3, Q 18 (.ia 10 (.t 16) (.t 17)), Q 19 (.ld true 10 (.t 18)), ⟨some 4, .allo [.str [], .int .i64 0, .int .i64 0, .int .i64 0, .int .i64 0, .int .i64 
 0, .int .i64 0, .int .i64 0, .int .i64 0, .int .i64 0], none⟩, ⟨none, .st 10 (.t 4) (.t 19), none⟩]) (.seq (.reg [Q 21 (.fa 0 (.t 4)), Q 22 (.ld false 1 (.t 21)), ⟨some 23, .call 
 17 [.t 22], none⟩, Qc 20 23, Q 24 (.ext 0 (.t 20)), Q 25 (.ext 1 (.t 20)), Qa 5 24, Qa 6 25]) (.seq (.dreg [Q 26 (.fa 0 (.t 4)), Q 27 (.ld false 1 (.t 26)), Q 28 (.len true (.t 
 27)), Q 29 (.bin .gtr (.t 28) (Ki 60)), Qc 30 29, Qd 31 6 30 false, Qg 32 (.not (.t 31)) 30 false, Q 33 (.pick (.t 30) KT (.t 32)), Qc 34 33, Qg 35 (.fa 5 (.t 4)) 34 false, Qg 36 
 (.ld false 1 (.t 35)) 34 false, ⟨some 37, .call 20 [.t 36], some (34, false)⟩, Qg 38 (.fa 1 (.t 4)) 34 false, Qg 39 (.fa 0 (.t 38)) 34 false, Qg 40 (.ld false 1 (.t 39)) 34 
 false, ⟨some 41, .call 20 [.t 40], some (34, false)⟩, Qg 42 (.bin .add (.t 37) (.t 41)) 34 false, Qg 43 (.fa 1 (.t 4)) 34 false, Qg 44 (.fa 1 (.t 43)) 34 false, Qg 45 (.ld false 
 1 (.t 44)) 34 false, ⟨some 46, .call 20 [.t 45], some (34, false)⟩, Qg 47 (.bin .add (.t 42) (.t 46)) 34 false, Qg 48 (.fa 3 (.t 4)) 34 false, Qg 49 (.fa 0 (.t 48)) 34 false, Qg 
 50 (.ld false 1 (.t 49)) 34 false, ⟨some 51, .call 20 [.t 50], some (34, false)⟩, Qg 52 (.bin .add (.t 47) (.t 51)) 34 false, Qg 53 (.fa 3 (.t 4)) 34 false, Qg 54 (.fa 1 (.t 53)) 
 34 false, Qg 55 (.ld false 1 (.t 54)) 34 false, ⟨some 56, .call 20 [.t 55], some (34, false)⟩, Qg 57 (.bin .add (.t 52) (.t 56)) 34 false, Qg 58 (.bin .gtr (.t 57) (Ki 0)) 34 
 false, Q 59 (.pick (.t 34) KT (.t 58))]) (.cond (.t 59) (.seq (.reg [Qx 2 KF]) .ret) .skip))))) (.reg [Qc 14 3, Q 15 (.bin .add (.t 14) (Ki 1)), Qa 3 15])))))) (.seq (.reg [Qx 2 
 KT]) .ret)))
def R_foliowrightlaw_LightGlyphs : List LRes := [.tmp 2]
theorem lift_foliowrightlaw_LightGlyphs : Lifts Try.prog 8 60 L_foliowrightlaw_LightGlyphs R_foliowrightlaw_LightGlyphs := ⟨_, _, Try.func8, rfl, by kernel_rfl, by kernel_rfl, rfl⟩
theorem lightGlyphs_call (l : List Gl) (hl : l.length ≤ 9223372036854775807) (ht : ∀ g ∈ l, g.tx.length ≤ 1000000000) : PCall Try.prog 8 [.list (glsD l)] (fun r => r = .one (.bool (lightGM l))) := by
 have hI : ((glsD l).length : Int) = (l.length : Int) := by rw [glsD_length]
 refine lift_foliowrightlaw_LightGlyphs.call rfl ?_
 unfold lightGM
 simp (maxSteps := 2000000) only [go_sem, ↓reduceIte, L_foliowrightlaw_LightGlyphs, R_foliowrightlaw_LightGlyphs, hI]
 by_cases h150 : l.length ≤ 150
 ·have z1 : (150 < (l.length : Int)) = False := eq_false (by omega)
  rw [decide_eq_true h150, Bool.true_and]
  generalize hR : l.all lightG1 = R
  simp (maxSteps := 2000000) only [go_sem, ↓reduceIte, z1]
  refine run_loop (fun i : Nat => ⟨[(0, .d (.list (glsD l))), (3, .d (.int .i64 i))], [], []⟩)
   (fun i => i ≤ l.length ∧ (l.drop i).all lightG1 = R) (fun i => l.length - i) 0 ?_ ?_ ?_
  ·refine weak_mk ?_ trivial
   simp (maxSteps := 2000000) only [go_sem, ↓reduceIte, Sub, Int.natCast_add, Int.natCast_mul]
  ·exact ⟨Nat.zero_le _, hR⟩
  ·rintro i ⟨hi, hF⟩
   simp (maxSteps := 2000000) only [go_sem, ↓reduceIte, hI]
   refine ⟨fun hlt => ?_, fun hge => ?_⟩
   ·obtain ⟨g, hg⟩ := get_some (l := l) (i := i) (by omega)
    have hgm := List.mem_of_getElem? hg
    have hgd : (glsD l)[i]? = some g.d := by rw [glsD_get, hg]; rfl
    rw [drop_at hg, List.all_cons] at hF
    simp (maxSteps := 2000000) (disch := omega) only [go_sem, ↓reduceIte, hI, getI_nat, hgd, Gl.d]
    refine CallG.of (runes_call g.tx (ht g hgm)) ?_
    obtain ⟨rsD, ok, hrs, hok⟩ : ∃ rsD ok, runesRes (runesM g.tx) = .tup [.list rsD, .bool ok] ∧ ok = (runesM g.tx).isSome := by
     cases runesM g.tx <;> exact ⟨_, _, rfl, rfl⟩
    rw [hrs]
    have f1 := flt_01 g.sz
    have f2 := flt_01 g.ax
    have f3 := flt_01 g.ay
    have f4 := flt_01 g.ex
    have f5 := flt_01 g.ey
    have hsum := flt_sum g.sz g.ax g.ay g.ex g.ey
    by_cases h60 : g.tx.length ≤ 60
    ·have z2 : (60 < (g.tx.length : Int)) = False := eq_false (by omega)
     cases ok with
     | false =>
      have : lightG1 g = false := by unfold lightG1; rw [← hok]; simp
      rw [this] at hF
      simp (maxSteps := 2000000) (disch := omega) only [go_sem, ↓reduceIte, z2]
      simpa using hF
     | true =>
      simp (maxSteps := 2000000) (disch := omega) only [go_sem, ↓reduceIte, z2]
      refine CallD.of (flt_call _) ?_
      simp (maxSteps := 2000000) (disch := omega) only [go_sem, ↓reduceIte]
      refine CallD.of (flt_call _) ?_
      simp (maxSteps := 2000000) (disch := omega) only [go_sem, ↓reduceIte]
      refine CallD.of (flt_call _) ?_
      simp (maxSteps := 2000000) (disch := omega) only [go_sem, ↓reduceIte]
      refine CallD.of (flt_call _) ?_
      simp (maxSteps := 2000000) (disch := omega) only [go_sem, ↓reduceIte]
      refine CallD.of (flt_call _) ?_
      simp (maxSteps := 2000000) (disch := omega) only [go_sem, ↓reduceIte]
      have hL : lightG1 g = (fixOK g.sz && (fixOK g.ax && (fixOK g.ay && (fixOK g.ex && fixOK g.ey)))) := by unfold lightG1; rw [← hok, decide_eq_true h60, Bool.true_and, Bool.true_and]
      rw [hL] at hF
      refine ⟨fun h => ?_, fun h => ⟨i + 1, ?_, ⟨by omega, ?_⟩, by omega⟩⟩
      ·rw [hsum.1 h, Bool.false_and] at hF
       rw [← hF]
      ·refine weak_mk ?_ trivial
       simp (maxSteps := 2000000) only [go_sem, ↓reduceIte, Sub, Int.natCast_add, Int.natCast_mul]
      ·cases hb : (fixOK g.sz && (fixOK g.ax && (fixOK g.ay && (fixOK g.ex && fixOK g.ey)))) with
       | false => exact absurd (hsum.2 hb) h
       | true => rw [hb, Bool.true_and] at hF; exact hF
    ·have z2 : (60 < (g.tx.length : Int)) = True := eq_true (by omega)
     have : lightG1 g = false := by unfold lightG1; rw [decide_eq_false h60]; rfl
     rw [this] at hF
     simp (maxSteps := 2000000) (disch := omega) only [go_sem, ↓reduceIte, z2]
     simpa using hF
   ·have : l.drop i = [] := List.drop_eq_nil_of_le (by omega)
    rw [this] at hF
    subst hF
    rfl
 ·have z1 : (150 < (l.length : Int)) = True := eq_true (by omega)
  rw [decide_eq_false h150, Bool.false_and]
  simp (maxSteps := 2000000) only [go_sem, ↓reduceIte, z1]
def laysL : List Gl := [⟨[98], 9000, 0, 9500, 0, 1000, 0, 0, 0, 0⟩, ⟨[97], 0, 0, 500, 0, 1000, 0, 0, 0, 0⟩]
theorem lays_text : textF laysL = [(97, 1, 0), (32, -1, 0), (98, 0, 0)] := by decide +kernel
theorem runes_ab : (runesBytes [97, 32, 98]).data.toList = [97, 32, 98] := by decide +kernel
theorem lays_ok : (∀ g ∈ laysL, g.ok) ∧ ∀ g ∈ laysL, ∃ rs, runesM g.tx = some rs := by
 refine ⟨fun g hg => ?_, fun g hg => ?_⟩
 all_goals
  simp only [laysL, List.mem_cons, List.not_mem_nil, or_false] at hg
  rcases hg with rfl | rfl
 ·unfold Gl.ok inB; decide
 ·unfold Gl.ok inB; decide
 ·exact ⟨[98], by decide +kernel⟩
 ·exact ⟨[97], by decide +kernel⟩
def L_foliowrightlaw_lays : LCode :=
 .seq (.reg [Qx 0 KF]) (.seq (.reg [Q 2 (.bld [(0, 1), (1, 1)] [.int .i64 0, .int .i64 0] [] [(0, .k (.d (.int .i64 9000)))]), Q 3 (.bld [(0, 1), (1, 1)] [.int .i64 0, .int .i64 0] 
 [] [(0, .k (.d (.int .i64 9500)))]), Q 4 (.bld [(0, 1), (1, 2), (3, 2), (5, 1), (6, 4)] [.str [], .int .i64 0, .int .i64 0, .int .i64 0, .int .i64 0, .int .i64 0, .int .i64 0, 
 .int .i64 0, .int .i64 0, .int .i64 0] [] [(0, .k (.d (.str [98]))), (1, .t 2), (2, .t 3), (3, .k (.d (.int .i64 1000)))]), Q 5 (.bld [(0, 1), (1, 1)] [.int .i64 0, .int .i64 0] 
 [] [(0, .k (.d (.int .i64 500)))]), Q 6 (.bld [(0, 1), (1, 2), (3, 2), (5, 1), (6, 4)] [.str [], .int .i64 0, .int .i64 0, .int .i64 0, .int .i64 0, .int .i64 0, .int .i64 0, 
 .int .i64 0, .int .i64 0, .int .i64 0] [] [(0, .k (.d (.str [97]))), (2, .t 5), (3, .k (.d (.int .i64 1000)))]), ⟨some 7, .bsl 44 10 [.t 4, .t 6], none⟩, ⟨some 8, .call 9 [.t 7], 
 none⟩, ⟨some 1, .allo [.list [], .list [], .list []], none⟩, ⟨none, .st 3 (.t 1) (.t 8), none⟩]) (.seq (.reg [Q 9 (.fa 0 (.t 1)), Q 10 (.ld false 1 (.t 9)), ⟨some 11, .prim 
 (.conv 25 9) [.t 10] [], none⟩, Q 12 (.bin .eql (.t 11) (.k (.d (.str [97, 32, 98])))), Qc 13 12, Qg 14 (.fa 1 (.t 1)) 13 true, Qg 15 (.ld false 1 (.t 14)) 13 true, Qg 16 (.len 
 false (.t 15)) 13 true, Qg 17 (.bin .eql (.t 16) (Ki 3)) 13 true, Q 18 (.pick (.t 13) (.t 17) KF), Qc 19 18, Qg 20 (.fa 1 (.t 1)) 19 true, Qg 21 (.ld false 1 (.t 20)) 19 true, Qg 
 22 (.ia 1 (.t 21) (Ki 1)) 19 true, Qg 23 (.ld false 1 (.t 22)) 19 true, Qg 24 (.bin .lss (.t 23) (Ki 0)) 19 true, Q 25 (.pick (.t 19) (.t 24) KF), Qa 0 25]) .ret))
def R_foliowrightlaw_lays : List LRes := [.tmp 0]
theorem lift_foliowrightlaw_lays : Lifts Try.prog 7 26 L_foliowrightlaw_lays R_foliowrightlaw_lays := ⟨_, _, Try.func7, rfl, by kernel_rfl, by kernel_rfl, rfl⟩
theorem lays_call : PCall Try.prog 7 [] (fun r => r = .one (.bool true)) := by
 have h := of_call laysL (by decide) lays_ok.1 lays_ok.2 (by rw [lays_text]; decide)
 rw [lays_text] at h
 simp only [laysL, glsD, List.map_cons, List.map_nil, Gl.d, txR, rnD, inD] at h
 refine lift_foliowrightlaw_lays.call rfl ?_
 simp (maxSteps := 2000000) only [go_sem, ↓reduceIte, L_foliowrightlaw_lays, R_foliowrightlaw_lays]
 refine CallG.of h ?_
 simp (maxSteps := 2000000) only [go_sem, ↓reduceIte]
 refine PrimG.runesStr (e := 21) (ns := [97, 32, 98]) rfl (by kernel_rfl) (by kernel_rfl) (by kernel_rfl) ?_
 rw [runes_ab]
 have hg1 : getI [D.int IntKind.i64 1, D.int IntKind.i64 (-1), D.int IntKind.i64 0] 1 = some (.int .i64 (-1)) := rfl
 simp (maxSteps := 2000000) only [go_sem, ↓reduceIte, hg1]
theorem grp_ne (l : List Gl) : ∀ (O : List Nat) (rows : List (List Nat)), (∀ r ∈ rows, r ≠ []) → ∀ r ∈ O.foldl (grp1 l) rows, r ≠ []
 | [], rows, h => h
 | i :: O, rows, h => by
  refine grp_ne l O (grp1 l rows i) fun r hr => ?_
  rcases List.eq_nil_or_concat rows with rfl | ⟨rs, p, rfl⟩
  ·rw [grp1_nil] at hr
   rw [List.mem_singleton.1 hr]; simp
  ·rw [List.concat_eq_append] at h hr
   rw [grp1_snoc] at hr
   split at hr
   ·rcases List.mem_append.1 hr with hr | hr
    ·exact h r (by simp [hr])
    ·rw [List.mem_singleton.1 hr]; simp
   ·rcases List.mem_append.1 hr with hr | hr
    ·exact h r hr
    ·rw [List.mem_singleton.1 hr]; simp
theorem linesF_ne {l : List Gl} : ∀ r ∈ linesF l, r ≠ [] := fun r hr => by
 obtain ⟨q, hq, rfl⟩ := List.mem_map.1 hr
 have h1 : q ≠ [] := grp_ne l (ordF l) [] (fun r hr => by cases hr) q hq
 intro e
 have := (Ky.st_perm (K := kyX l (ordF l)) q).length_eq
 rw [e] at this
 exact h1 (List.length_eq_zero_iff.1 (by simpa using this.symm))
theorem flat_perm {K : Ky} : ∀ rows : List (List Nat), (rows.map K.st).flatten.Perm rows.flatten
 | [] => .refl _
 | r :: rows => by
  rw [List.map_cons, List.flatten_cons, List.flatten_cons]
  exact (Ky.st_perm r).append (flat_perm rows)
theorem linesF_perm (l : List Gl) : (linesF l).flatten.Perm (idxT l l.length) := by
 refine (flat_perm _).trans ?_
 have : (grpF l).flatten = ordF l := by rw [grpF, grp_flat, List.flatten_nil, List.nil_append]
 rw [this]
 exact Ky.st_perm _
theorem lineT_len {l : List Gl} (hb : ∀ g ∈ l, (rnG g).length ≤ 60) (n : Int) : ∀ (row : List Nat) (last : Option Nat), (∀ i ∈ row, i < l.length) → (lineT l n last row).length ≤ 61 * row.length
 | [], _, _ => by simp [lineT]
 | i :: r, last, h => by
  have ih := lineT_len hb n r (some i) fun j hj => h j (by simp [hj])
  have h1 : (gapT l n last i).length ≤ 1 := by
   unfold gapT
   split
   ·split <;> simp
   ·simp
  have h2 : (glyT l n i).length ≤ 60 := by
   rw [glyT, List.length_map]
   exact hb _ (List.mem_of_getElem? (glAt_get (h i (by simp))))
  rw [lineT, List.length_append, List.length_append, List.length_cons]; omega
theorem pageT_len {l : List Gl} (hb : ∀ g ∈ l, (rnG g).length ≤ 60) : ∀ (rows : List (List Nat)) (n : Nat), (∀ r ∈ rows, ∀ i ∈ r, i < l.length) → (pageT l n rows).length ≤ rows.length + 61 * rows.flatten.length
 | [], _, _ => by simp [pageT]
 | r :: rows, n, h => by
  have ih := pageT_len hb rows (n + 1) fun q hq => h q (by simp [hq])
  have h1 := lineT_len hb n r none (h r (by simp))
  have h2 : (if n = 0 then ([] : List Tri) else [(10, -1, (n : Int) - 1)]).length ≤ 1 := by split <;> simp
  rw [pageT, List.length_append, List.length_append, List.length_cons, List.flatten_cons, List.length_append]; omega
theorem encM_ge' : ∀ {l : List Nat}, (∀ r ∈ l, vrune r) → l.length ≤ (encM l).length
 | [], _ => by simp [encM]
 | r :: l, h => by
  have h1 := encM_ge' (l := l) (fun x hx => h x (by simp [hx]))
  have h2 := (enc_len (h r (by simp))).1
  have e : encM (r :: l) = enc r ++ encM l := rfl
  rw [e, List.length_append, List.length_cons]; omega
theorem textF_len {l : List Gl} (hl : l.length ≤ 150) (hr : ∀ g ∈ l, ∃ rs, runesM g.tx = some rs) (ht : ∀ g ∈ l, g.tx.length ≤ 60) : (textF l).length ≤ 9300 := by
 have hb : ∀ g ∈ l, (rnG g).length ≤ 60 := fun g hg => by
  obtain ⟨rs, h⟩ := hr g hg
  obtain ⟨e1, e2⟩ := runesM_enc _ (Nat.le_refl _) h
  have := encM_ge' e2
  have := ht g hg
  rw [rnG, h, Option.getD_some]
  rw [e1] at *; omega
 have h1 := pageT_len hb (linesF l) 0 linesF_lt
 have h2 := linesF_len l
 have h3 : (linesF l).flatten.length ≤ l.length := by rw [(linesF_perm l).length_eq]; exact idxT_len l _
 show (pageT l 0 (linesF l)).length ≤ _
 omega
end Go.Av.Try
