import Derived.Test.YtccakidkdefioaaWb
import Derived.Test.YtccakidkdefioaaAvG
set_option linter.unusedSimpArgs false
set_option maxRecDepth 100000
set_option maxHeartbeats 2000000
namespace Go.Av.Try
open Go.Proofs
def extW (rows : List (List Nat)) (i : Nat) : List (List Nat) := rows.dropLast ++ [rows.getLastD [] ++ [i]]
def addW (l : List Gl) (last : Option Nat) (rows : List (List Nat)) (i : Nat) : List (List Nat) := match last with
 | some j => if room l j i = true then rows ++ [[i]] else extW rows i
 | none => rows ++ [[i]]
def wordsR (l : List Gl) : Option Nat → List (List Nat) → List Nat → List (List Nat)
 | _, rows, [] => rows
 | last, rows, i :: r => wordsR l (some i) (addW l last rows i) r
def wordsOf (l : List Gl) (row : List Nat) : List (List Nat) := wordsR l none [] row
theorem extW_snoc (rs : List (List Nat)) (r : List Nat) (i : Nat) : extW (rs ++ [r]) i = rs ++ [r ++ [i]] := by
 simp [extW, List.getLastD_eq_getLast?]
def outS6 : List (List Nat × Nat) → Nat → AV
 | [], _ => .ns
 | _ :: r, co => .rs (.l 66) (r.length + 1) co
def outL6 : List (List Nat × Nat) → Nat → List (Nat × AObj)
 | [], _ => []
 | p :: r, co => (66, .cells (outA (p :: r) co)) :: famL 1000 (p :: r)
theorem outS6_snoc (rs : List (List Nat × Nat)) (p : List Nat × Nat) (co : Nat) : outS6 (rs ++ [p]) co = .rs (.l 66) (rs.length + 1) co := by
 cases rs <;> simp [outS6]
theorem outL6_snoc (rs : List (List Nat × Nat)) (p : List Nat × Nat) (co : Nat) : outL6 (rs ++ [p]) co = (66, .cells (outA (rs ++ [p]) co)) :: famL 1000 (rs ++ [p]) := by
 cases rs <;> rfl
structure Rwz (j : Nat) (rows : List (List Nat × Nat)) (co : Nat) : Prop where
 cap : ∀ p ∈ rows, p.1.length ≤ p.2 ∧ p.2 ≤ maxLen
 co : rows = [] ∨ (rows.length ≤ co ∧ co ≤ maxLen)
 len : rows.length ≤ j ∧ ∀ p ∈ rows, p.1.length ≤ j
 ne : 0 < j → rows ≠ []
theorem Rwz.zero : Rwz 0 [] 0 := ⟨fun p hp => (by cases hp), .inl rfl, ⟨Nat.zero_le _, fun p hp => by cases hp⟩, fun h => by cases h⟩
theorem Rwz.new {j i co co' : Nat} {rows : List (List Nat × Nat)} (h : Rwz j rows co) (hc : rows.length + 1 ≤ co' ∧ co' ≤ maxLen) : Rwz (j + 1) (rows ++ [([i], 1)]) co' := by
 refine ⟨fun p hp => ?_, .inr (by simpa using hc), ⟨by have := h.len.1; simp; omega, fun p hp => ?_⟩, fun _ => by simp⟩
 ·rcases List.mem_append.1 hp with hp | hp
  ·exact h.cap p hp
  ·rw [List.mem_singleton.1 hp]; exact ⟨by simp, by simp [maxLen]⟩
 ·rcases List.mem_append.1 hp with hp | hp
  ·have := h.len.2 p hp; omega
  ·rw [List.mem_singleton.1 hp]; simp
theorem Rwz.ext {j i co c' : Nat} {rs : List (List Nat × Nat)} {p : List Nat × Nat} (h : Rwz j (rs ++ [p]) co) (hc : p.1.length + 1 ≤ c' ∧ c' ≤ maxLen) : Rwz (j + 1) (rs ++ [(p.1 ++ [i], c')]) co := by
 refine ⟨fun q hq => ?_, .inr ?_, ⟨by have := h.len.1; simp at this ⊢; omega, fun q hq => ?_⟩, fun _ => by simp⟩
 ·rcases List.mem_append.1 hq with hq | hq
  ·exact h.cap q (by simp [hq])
  ·rw [List.mem_singleton.1 hq]; exact ⟨by simpa using hc.1, hc.2⟩
 ·have := h.co.resolve_left (by simp)
  simpa using this
 ·rcases List.mem_append.1 hq with hq | hq
  ·have := h.len.2 q (by simp [hq]); omega
  ·rw [List.mem_singleton.1 hq]
   have := h.len.2 p (by simp)
   simp; omega
def wordsD (W : List (List (List Nat))) : List D := W.map fun ws => .list (ws.map fun w => .list (nsD w))
def L_layout_Words : LCode :=
 .seq (.reg [⟨some 2, .nils 36 1, none⟩]) (.seq (.reg [⟨some 3, .nils 36 1, none⟩]) (.seq (.seq (.reg [Qc 10 0, ⟨some 11, .call 21 [.t 10], none⟩, Q 12 (.len false (.t 11)), Q 13 
 (.cp (Ki 0))]) (.block 0 (.loop (.seq (.reg [Q 14 (.bin .lss (.t 13) (.t 12))]) (.seq (.cond (.t 14) .skip (.exit 0)) (.seq (.block 1 (.seq (.reg [Q 15 (.ia 1 (.t 11) (.t 13)), Q 
 16 (.ld false 1 (.t 15)), Qa 5 16]) (.seq (.alt [([], ⟨some 6, .nils 26 1, none⟩)] []) (.seq (.seq (.reg [Qc 17 5, Q 18 (.len false (.t 17)), Q 19 (.cp (Ki 0))]) (.block 2 (.loop 
 (.seq (.reg [Q 20 (.bin .lss (.t 19) (.t 18))]) (.seq (.cond (.t 20) .skip (.exit 2)) (.seq (.block 3 (.seq (.reg [Qc 21 19, Q 22 (.ia 1 (.t 17) (.t 19)), Q 23 (.ld false 1 (.t 
 22)), Qa 7 21, Qa 8 23]) (.seq (.join (.seq (.reg [Qc 24 7, Q 25 (.bin .gtr (.t 24) (Ki 0))]) (.cond (.t 25) (.seq (.reg [Qc 26 0, Qc 27 5, Qc 28 7, Q 29 (.bin .sub (.t 28) (Ki 
 1)), Q 30 (.ia 1 (.t 27) (.t 29)), Q 31 (.ld false 1 (.t 30)), Q 32 (.ia 10 (.t 26) (.t 31)), Q 33 (.ld true 10 (.t 32)), ⟨some 9, .allo [.str [], .int .i64 0, .int .i64 0, .int 
 .i64 0, .int .i64 0, .int .i64 0, .int .i64 0, .int .i64 0, .int .i64 0, .int .i64 0], none⟩, ⟨none, .st 10 (.t 9) (.t 33), none⟩]) (.seq (.dreg [Qc 34 0, Qc 35 8, Q 36 (.ia 10 
 (.t 34) (.t 35)), Q 37 (.fa 1 (.t 36)), Q 38 (.fa 0 (.t 37)), Q 39 (.ld false 1 (.t 38)), Q 40 (.fa 3 (.t 9)), Q 41 (.fa 0 (.t 40)), Q 42 (.ld false 1 (.t 41)), Q 43 (.bin .sub 
 (.t 39) (.t 42)), Q 44 (.bin .mul (Ki 4) (.t 43)), Q 45 (.fa 5 (.t 9)), Q 46 (.ld false 1 (.t 45)), Q 47 (.bin .leq (.t 44) (.t 46))]) (.cond (.t 47) (.seq (.alt [([Qc 48 6, Qc 
 49 6, Q 50 (.len false (.t 49)), Q 51 (.bin .sub (.t 50) (Ki 1)), Qc 52 6, Qc 53 6, Q 54 (.len false (.t 53)), Q 55 (.bin .sub (.t 54) (Ki 1)), Q 56 (.ia 1 (.t 52) (.t 55)), Q 57 
 (.ld false 1 (.t 56)), Qc 58 8, ⟨some 59, .bsl 3 1 [.t 58], none⟩], ⟨some 60, .app 3 1 8 false (.t 57) (.t 59), none⟩)] [Q 61 (.ia 1 (.t 48) (.t 51)), ⟨none, .st 1 (.t 61) (.t 
 60), none⟩]) (.exit 3)) .skip))) .skip))) (.alt [([Qc 62 6, Qc 63 8], ⟨some 64, .bsl 3 1 [.t 63], none⟩), ([], ⟨some 65, .bsl 26 1 [.t 64], none⟩), ([], ⟨some 66, .app 26 1 24 
 false (.t 62) (.t 65), none⟩)] [Qa 6 66])))) (.reg [Q 67 (.bin .add (.t 19) (Ki 1)), Qc 19 67]))))))) (.alt [([Qc 68 3], Qc 69 6)] [⟨some 70, .bsl 36 1 [.t 69], none⟩, ⟨some 71, 
 .app 36 1 24 false (.t 68) (.t 70), none⟩, Qa 3 71]))))) (.reg [Q 72 (.bin .add (.t 13) (Ki 1)), Qc 13 72]))))))) (.seq (.reg [Qc 73 3, Qa 2 73]) .ret)))
def R_layout_Words : List LRes := [.tmp 2]
theorem lift_layout_Words : Lifts Try.prog 13 74 L_layout_Words R_layout_Words := ⟨_, _, Try.func13, rfl, by kernel_rfl, by kernel_rfl, rfl⟩
theorem words_call (l : List Gl) (hl : l.length ≤ 1000) (hok : ∀ g ∈ l, g.ok) : PCall Try.prog 13 [.list (glsD l)] (fun r => r = .one (.list (wordsD ((linesF l).map (wordsOf l))))) := by
 have hlt := linesF_lt (l := l)
 have hrw := linesF_row (l := l)
 have hll := linesF_len l
 have hne := linesF_ne (l := l)
 refine lift_layout_Words.call rfl ?_
 simp (maxSteps := 2000000) (disch := omega) only [go_sem, ↓reduceIte, L_layout_Words, R_layout_Words]
 refine CallG.of (lines_call l hl hok) ?_
 generalize linesF l = W at *
 have hWl : (W.map fun r => D.list (nsD r)).length = W.length := by simp
 simp (maxSteps := 2000000) only [go_sem, ↓reduceIte, hWl]
 refine run_loop (fun n : Nat => ⟨[(0, .d (.list (glsD l))), (3, .own (.t 3) 36 1 (wordsD ((W.take n).map (wordsOf l)))), (11, .d (.list (W.map fun r => D.list (nsD r)))), (12, .d (.int .i64 (W.length : Nat))), (13, .d (.int .i64 (n : Nat)))], [], []⟩)
  (fun n => n ≤ W.length) (fun n => W.length - n) 0 ?_ (Nat.zero_le _) ?_
 ·refine Weak.mk ?_ ?_ ?_ <;> simp (maxSteps := 2000000) only [go_sem, ↓reduceIte, Sub, Int.natCast_add, Int.natCast_mul, wordsD]
 ·intro n hn
  simp (maxSteps := 2000000) only [go_sem, ↓reduceIte]
  refine ⟨fun hlt1 => ?_, fun hge => ?_⟩
  ·obtain ⟨row, hrow⟩ := get_some (l := W) (i := n) (by omega)
   have hrl := hlt row (List.mem_of_getElem? hrow)
   have hrwl := hrw row (List.mem_of_getElem? hrow)
   have hget : (W.map fun r => D.list (nsD r))[n]? = some (.list (nsD row)) := by rw [List.getElem?_map, hrow]; rfl
   have hlenr : ((nsD row).length : Int) = (row.length : Int) := by rw [nsD_len]
   simp (maxSteps := 2000000) (disch := omega) only [go_sem, ↓reduceIte, hWl, getI_nat, hget]
   refine AStep.nils ?_
   simp (maxSteps := 2000000) only [go_sem, ↓reduceIte, hlenr]
   refine run_loop (fun y : Nat × List (List Nat × Nat) × Nat => ⟨[(0, .d (.list (glsD l))), (3, .own (.t 3) 36 1 (wordsD ((W.take n).map (wordsOf l)))), (5, .d (.list (nsD row))), (6, outS6 y.2.1 y.2.2), (11, .d (.list (W.map fun r => D.list (nsD r)))), (12, .d (.int .i64 (W.length : Nat))), (13, .d (.int .i64 (n : Nat))), (17, .d (.list (nsD row))), (18, .d (.int .i64 (row.length : Nat))), (19, .d (.int .i64 (y.1 : Nat)))], outL6 y.2.1 y.2.2, []⟩)
    (fun y => y.1 ≤ row.length ∧ Rwz y.1 y.2.1 y.2.2 ∧ wordsOf l row = wordsR l (if y.1 = 0 then none else row[y.1 - 1]?) (y.2.1.map Prod.fst) (row.drop y.1)) (fun y => row.length - y.1) (0, [], 0) ?_ ?_ ?_
   ·refine Weak.mk ?_ ?_ ?_ <;> simp (maxSteps := 2000000) only [go_sem, ↓reduceIte, Sub, Int.natCast_add, Int.natCast_mul, outS6, outL6]
   ·exact ⟨Nat.zero_le _, Rwz.zero, rfl⟩
   ·rintro ⟨k, rows, co⟩ ⟨hk, hR, hF⟩
    simp only at hk hR hF
    simp (maxSteps := 2000000) only [go_sem, ↓reduceIte]
    refine ⟨fun hlt2 => ?_, fun hge2 => ?_⟩
    ·obtain ⟨i, hi⟩ := get_some (l := row) (i := k) (by omega)
     have hil := hrl i (List.mem_of_getElem? hi)
     have hgi : (glsD l)[i]? = some (glAt l i).d := by rw [glsD_get, glAt_get hil]; rfl
     have hni : (nsD row)[k]? = some (.int .i64 (i : Nat)) := by rw [nsD_get, hi]; rfl
     have hmi := List.mem_of_getElem? (glAt_get hil)
     have hoi := hok (glAt l i) hmi
     obtain ⟨o1, o2, o3, o4, o5⟩ := hoi
     unfold inB at o1 o2 o3 o4 o5
     rw [drop_at hi, wordsR] at hF
     have hnx : (if k + 1 = 0 then none else row[k + 1 - 1]?) = some i := by rw [if_neg (by omega), Nat.add_sub_cancel, hi]
     simp (maxSteps := 2000000) (disch := omega) only [go_sem, ↓reduceIte, hlenr, getI_nat, hni]
     by_cases h0 : k = 0
     ·have z : (0 < (k : Int)) = False := eq_false (by omega)
      rw [if_pos h0] at hF
      have hr0 : rows = [] := List.length_eq_zero_iff.1 (by have := hR.len.1; omega)
      subst hr0
      have hs0 : outS6 [] co = .ns := rfl
      have hb0 : outL6 [] co = [] := rfl
      refine run_joinX ⟨[(0, .d (.list (glsD l))), (3, .own (.t 3) 36 1 (wordsD ((W.take n).map (wordsOf l)))), (5, .d (.list (nsD row))), (6, .ns), (8, .d (.int .i64 (i : Nat))), (11, .d (.list (W.map fun r => D.list (nsD r)))), (12, .d (.int .i64 (W.length : Nat))), (13, .d (.int .i64 (n : Nat))), (17, .d (.list (nsD row))), (18, .d (.int .i64 (row.length : Nat))), (19, .d (.int .i64 (k : Nat)))], [], []⟩ ?_ ?_
      ·simp (maxSteps := 2000000) (disch := omega) only [go_sem, ↓reduceIte, z, hs0, hb0]
       refine Gho.wk ?_
       refine Weak.mk ?_ ?_ ?_ <;> simp (maxSteps := 2000000) only [go_sem, ↓reduceIte, Sub, Int.natCast_add, Int.natCast_mul]
      ·simp (maxSteps := 2000000) (disch := omega) only [go_sem, ↓reduceIte]
       refine AStep.bsl1 (r := 1000) (y := .d (.int .i64 (i : Nat))) rfl (int_ok _ _) one_int ?_
       rw [show rowA [.d (.int .i64 (i : Nat))] 1 = rowN [i] 1 from rfl]
       simp (maxSteps := 2000000) (disch := omega) only [go_sem, ↓reduceIte]
       refine AStep.bsl1 (r := 65) (y := .rs (.l 1000) 1 1) rfl (rs_ok (by omega)) one_rs ?_
       simp (maxSteps := 2000000) (disch := omega) only [go_sem, ↓reduceIte]
       refine AStep.app1 (r := 66) (c := 0) (cs := []) (y := .rs (.l 1000) 1 1) rowsSl (.inl ⟨rfl, rfl⟩) (Src1.rs rfl) (fun z hz => by cases hz) (rs_ok (by omega)) (by simp [maxLen]) (fun c' h1 h2 => ?_)
       rw [show rowA ([] ++ [AV.rs (.l 1000) 1 1]) c' = outA [([i], 1)] c' from rfl]
       simp (maxSteps := 2000000) (disch := omega) only [go_sem, ↓reduceIte]
       refine ⟨(k + 1, [([i], 1)], c'), ?_, ⟨by simp only; omega, hR.new ⟨h1, h2⟩, ?_⟩, by simp only; omega⟩
       ·refine Weak.mk ?_ ?_ ?_ <;> simp (maxSteps := 2000000) only [go_sem, ↓reduceIte, Sub, Int.natCast_add, Int.natCast_mul, outS6, outL6, famL]
       ·simp only [hnx]; exact hF
     ·have z : (0 < (k : Int)) = True := eq_true (by omega)
      obtain ⟨j, hj⟩ := get_some (l := row) (i := k - 1) (by omega)
      have hjl := hrl j (List.mem_of_getElem? hj)
      have hgj : (glsD l)[j]? = some (glAt l j).d := by rw [glsD_get, glAt_get hjl]; rfl
      have hnj : (nsD row)[k - 1]? = some (.int .i64 (j : Nat)) := by rw [nsD_get, hj]; rfl
      have hoj := hok (glAt l j) (List.mem_of_getElem? (glAt_get hjl))
      obtain ⟨u1, u2, u3, u4, u5⟩ := hoj
      unfold inB at u1 u2 u3 u4 u5
      have e1 : ((k : Int) - 1) = ((k - 1 : Nat) : Int) := by omega
      rw [if_neg h0, hj] at hF
      have hroom : room l j i = decide ((glAt l j).sz < 4 * ((glAt l i).ax - (glAt l j).ex)) := rfl
      rcases List.eq_nil_or_concat rows with rfl | ⟨rs, p, rfl⟩
      ·exact absurd rfl (hR.ne (by omega))
      rw [List.concat_eq_append] at *
      have hs0 := outS6_snoc rs p co
      have hb0 := outL6_snoc rs p co
      have hco := hR.co.resolve_left (by simp)
      have hp := hR.cap p (by simp)
      have hrl' := hR.len.1
      have hpl := hR.len.2 p (by simp)
      simp only [List.length_append, List.length_cons, List.length_nil, Nat.zero_add] at hco hrl'
      have hmap : (rs ++ [p]).map Prod.fst = rs.map Prod.fst ++ [p.1] := by simp
      have ek : (((rs.length + 1 : Nat) : Int) - 1) = ((rs.length : Nat) : Int) := by omega
      have l2 : (outA (rs ++ [p]) co)[((rs.length : Nat) : Int).toNat * 1]? = some (.rs (.l (1000 + rs.length)) p.1.length p.2) := by
       rw [show ((rs.length : Nat) : Int).toNat * 1 = rs.length by omega]
       exact outA_get (by simp)
      have l3 : aget (famL 1000 (rs ++ [p])) (1000 + rs.length) = some (.cells (rowN p.1 p.2)) := famL_at (by simp)
      have n3 : (66 = 1000 + rs.length) = False := eq_false (by omega)
      have n4 : (9 = 1000 + rs.length) = False := eq_false (by omega)
      have l5 := outA_drop (d := 9) (co := co) (rs ++ [p]) (by omega)
      have l6 := amap_famL (.l 9) 1000 (rs ++ [p])
      have l7 : ∀ o : AObj, aset (famL 1000 (rs ++ [p])) 9 o = famL 1000 (rs ++ [p]) ++ [(9, o)] := fun o => aset_fam10 (by omega)
      have l8 : ∀ o : AObj, aget (famL 1000 (rs ++ [p]) ++ [(9, o)]) 9 = some o := fun o => by rw [aget_append, famL_off (by omega)]; rfl
      have l9 : ∀ o : AObj, aget (famL 1000 (rs ++ [p]) ++ [(9, o)]) (1000 + rs.length) = some (.cells (rowN p.1 p.2)) := fun o => by rw [aget_append, l3]; rfl
      have l10 : ∀ o o' : AObj, aset (famL 1000 (rs ++ [p]) ++ [(9, o)]) 9 o' = famL 1000 (rs ++ [p]) ++ [(9, o')] := fun o o' => by rw [aset_fam_off (by omega)]; rfl
      by_cases hrm : (glAt l j).sz < 4 * ((glAt l i).ax - (glAt l j).ex)
      ·have zn : (4 * ((glAt l i).ax - (glAt l j).ex) ≤ (glAt l j).sz) = False := eq_false (by omega)
       have hF : wordsOf l row = wordsR l (some i) ((rs ++ [p]).map Prod.fst ++ [[i]]) (row.drop (k + 1)) := by
        rw [hF, addW, hroom, decide_eq_true hrm, if_pos rfl]
       refine run_joinX ⟨[(0, .d (.list (glsD l))), (3, .own (.t 3) 36 1 (wordsD ((W.take n).map (wordsOf l)))), (5, .d (.list (nsD row))), (6, .rs (.l 66) (rs ++ [p]).length co), (8, .d (.int .i64 (i : Nat))), (11, .d (.list (W.map fun r => D.list (nsD r)))), (12, .d (.int .i64 (W.length : Nat))), (13, .d (.int .i64 (n : Nat))), (17, .d (.list (nsD row))), (18, .d (.int .i64 (row.length : Nat))), (19, .d (.int .i64 (k : Nat)))], (66, .cells (outA (rs ++ [p]) co)) :: famL 1000 (rs ++ [p]), []⟩ ?_ ?_
       ·simp (maxSteps := 2000000) (disch := omega) only [go_sem, ↓reduceIte, z, hs0, hb0, e1, zn, n3, n4, l5, l6, l7, l8, l9, l10, getI_nat, hnj, hgj, hgi, Gl.d]
        refine Gho.wk ?_
        refine Weak.mk ?_ ?_ ?_ <;> simp (maxSteps := 2000000) only [go_sem, ↓reduceIte, Sub, Int.natCast_add, Int.natCast_mul, List.length_append]
        exact sub_fam_cons (by omega) sub_fam_app
       ·clear l2 l3 l5 l6 l7 l8 l9 l10 n3 n4 hs0 hb0
        have hRl : (rs ++ [p]).length = rs.length + 1 := by simp
        rw [← hRl] at hco hrl'
        generalize rs ++ [p] = R at *
        clear hmap
        have n3 : (66 = 1000 + R.length) = False := eq_false (by omega)
        have n4 : (65 = 1000 + R.length) = False := eq_false (by omega)
        have m1 := outA_dropN (co := co) R
        have m2 := amap_famL (.l (1000 + R.length)) 1000 R
        have m3 : aset (famL 1000 R) (1000 + R.length) (.cells (rowN [i] 1)) = famL 1000 (R ++ [([i], 1)]) := aset_fam_new (q := ([i], 1))
        simp (maxSteps := 2000000) (disch := omega) only [go_sem, ↓reduceIte]
        refine AStep.bsl1 (r := 1000 + R.length) (y := .d (.int .i64 (i : Nat))) rfl (int_ok _ _) one_int ?_
        rw [show rowA [.d (.int .i64 (i : Nat))] 1 = rowN [i] 1 from rfl]
        simp (maxSteps := 2000000) (disch := omega) only [go_sem, ↓reduceIte, n3, m1, m2, m3]
        have d1 := outA_drop (d := 65) (co := co) R (by omega)
        have d2 := amap_famL (.l 65) 1000 (R ++ [([i], 1)])
        have d3 : ∀ o : AObj, aset (famL 1000 (R ++ [([i], 1)])) 65 o = famL 1000 (R ++ [([i], 1)]) ++ [(65, o)] := fun o => aset_fam10 (by omega)
        refine AStep.bsl1 (r := 65) (y := .rs (.l (1000 + R.length)) 1 1) rfl (rs_ok (by omega)) one_rs ?_
        simp (maxSteps := 2000000) (disch := omega) only [go_sem, ↓reduceIte, d1, d2, d3]
        have e1 := outA_drop (d := 66) (co := co) R (by omega)
        have e2 : ∀ o : AObj, amap (dropObj (.l 66)) (famL 1000 (R ++ [([i], 1)]) ++ [(65, o)]) = famL 1000 (R ++ [([i], 1)]) ++ [(65, dropObj (.l 66) o)] := fun o => by rw [amap_app, amap_famL]; rfl
        have hcl : (outC 1000 (rowsD R)).length = R.length := by rw [outC_len, rowsD_len]
        refine AStep.app1 (r := 66) (c := co) (cs := outC 1000 (rowsD R)) (y := .rs (.l (1000 + R.length)) 1 1) rowsSl (.inr ⟨by rw [hcl]; rfl, rfl, by rw [hcl]; exact hco.1, hco.2⟩) (Src1.rs (cs := []) ?_) (fun z hz => outC_has hz (.inl (by omega))) (rs_ok (by omega)) (by rw [hcl]; simp only [maxLen]; omega) (fun c' h1 h2 => ?_)
        ·simp only [St.obj, aget, Nat.reduceEqDiff, ↓reduceIte]
         rw [aget_append, famL_off (by omega)]; rfl
        have e3 : rowA (outC 1000 (rowsD R) ++ [AV.rs (.l (1000 + R.length)) 1 1]) c' = outA (R ++ [([i], 1)]) c' := outC_new (q := ([i], 1))
        rw [e3, hcl]
        rw [hcl] at h1
        simp (maxSteps := 2000000) (disch := omega) only [go_sem, ↓reduceIte, e1, e2]
        refine ⟨(k + 1, R ++ [([i], 1)], c'), ?_, ⟨by simp only; omega, hR.new ⟨h1, h2⟩, ?_⟩, by simp only; omega⟩
        ·refine Weak.mk ?_ ?_ ?_ <;> simp (maxSteps := 2000000) only [go_sem, ↓reduceIte, Sub, Int.natCast_add, Int.natCast_mul, outS6_snoc, outL6_snoc]
         exact sub_fam_cons (by omega) sub_fam_app
        ·simp only [hnx]
         rw [hF]; simp
      ·have zn : (4 * ((glAt l i).ax - (glAt l j).ex) ≤ (glAt l j).sz) = True := eq_true (by omega)
       have hF : wordsOf l row = wordsR l (some i) (rs.map Prod.fst ++ [p.1 ++ [i]]) (row.drop (k + 1)) := by
        rw [hF, addW, hroom, decide_eq_false hrm, if_neg (by simp), hmap, extW_snoc]
       refine run_joinP ?_
       simp (maxSteps := 2000000) (disch := omega) only [go_sem, ↓reduceIte, z, hs0, hb0, e1, zn, n3, n4, l2, l3, l5, l6, l7, l8, l9, l10, ek, getI_nat, hnj, hgj, hgi, Gl.d]
       refine ⟨⟨by omega, by omega⟩, ?_⟩
       have hpl2 : (nsA p.1).length = p.1.length := nsA_len _
       refine AStep.app1 (r := 1000 + rs.length) (c := p.2) (cs := nsA p.1) (y := .d (.int .i64 (i : Nat))) intsSl (.inr ⟨by rw [nsA_len]; rfl, ?_, by rw [nsA_len]; exact hp.1, hp.2⟩) (Src1.own rfl) (nsA_ok _ _) (int_ok _ _) (by rw [nsA_len]; simp only [maxLen]; omega) (fun c' h1 h2 => ?_)
       ·simp only [St.obj, aget, n3, if_false]
        exact l9 _
       rw [rowN_snoc, hpl2] at *
       have m1 : ∀ o : AObj, amap (dropObj (.l (1000 + rs.length))) (famL 1000 (rs ++ [p]) ++ [(9, o)]) = famL 1000 (rs ++ [p]) ++ [(9, dropObj (.l (1000 + rs.length)) o)] := fun o => by rw [amap_app, amap_famL]; rfl
       have m2 : ∀ m : List (Nat × AObj), aset (famL 1000 (rs ++ [p]) ++ m) (1000 + rs.length) (.cells (rowN (p.1 ++ [i]) c')) = famL 1000 (rs ++ [(p.1 ++ [i], c')]) ++ m := fun m => aset_fam_last (q := (p.1 ++ [i], c'))
       have m3 : ((outA (rs ++ [p]) co).map (AV.drop (.l (1000 + rs.length)))).set (((rs.length : Nat) : Int).toNat * 1) (.rs (.l (1000 + rs.length)) (p.1.length + 1) c') = outA (rs ++ [(p.1 ++ [i], c')]) co := by
        rw [show ((rs.length : Nat) : Int).toNat * 1 = rs.length by omega]
        have := outA_junk (rows := rs) (co := co) (p := p) (q := (p.1 ++ [i], c'))
        rw [List.length_append] at this
        exact this
       have m4 : ((outA (rs ++ [p]) co).map (AV.drop (.l (1000 + rs.length)))).length = co := by rw [List.length_map]; exact outA_len (by simp; omega)
       simp (maxSteps := 2000000) (disch := omega) only [go_sem, ↓reduceIte, n3, n4, m1, m2, m3, m4]
       refine ⟨by omega, by omega, (k + 1, rs ++ [(p.1 ++ [i], c')], co), ?_, ⟨by simp only; omega, hR.ext ⟨h1, h2⟩, ?_⟩, by simp only; omega⟩
       ·refine Weak.mk ?_ ?_ ?_ <;> simp (maxSteps := 2000000) only [go_sem, ↓reduceIte, Sub, Int.natCast_add, Int.natCast_mul, outS6_snoc, outL6_snoc]
        exact sub_fam_cons (by omega) sub_fam_app
       ·simp only [hnx]
        rw [hF]; simp
    ·have hkn : k = row.length := by omega
     subst hkn
     have hrne := hR.ne (List.length_pos_iff.2 (hne row (List.mem_of_getElem? hrow)))
     rw [List.drop_length, wordsR] at hF
     have hs0 : outS6 rows co = .rs (.l 66) rows.length co := by
      cases rows with
      | nil => exact absurd rfl hrne
      | cons q qs => rfl
     have hb0 : outL6 rows co = (66, .cells (outA rows co)) :: famL 1000 rows := by
      cases rows with
      | nil => exact absurd rfl hrne
      | cons q qs => rfl
     have hco := hR.co.resolve_left hrne
     have hrj := hR.len.1
     rw [hs0, hb0]
     refine AStep.ghost (AStep.step rfl (fun _ _ _ h => by cases h) rfl ?_)
     have hres : (rowsD rows).map (fun p => D.list p.1) = (wordsOf l row).map fun r => .list (nsD r) := by
      rw [hF]
      simp [rowsD]
     refine ⟨⟨[(0, .d (.list (glsD l))), (3, .own (.t 3) 36 1 (wordsD ((W.take n).map (wordsOf l)))), (11, .d (.list (W.map fun r => D.list (nsD r)))), (12, .d (.int .i64 (W.length : Nat))), (13, .d (.int .i64 (n : Nat))), (68, .own (.t 3) 36 1 (wordsD ((W.take n).map (wordsOf l)))), (69, .d (.list ((wordsOf l row).map fun r => .list (nsD r))))], [], []⟩, Gh.rows (o := 66) (a := 1000) (co := co) (s := 69) (rows := rowsD rows) ⟨fun t x hx ht => ?_, fun r ob h => ?_⟩ (.inl (by omega)) (fun p hp => ?_) (by rw [rowsD_len]; exact hco.1) ⟨?_, ?_, fun k p _ hp => ?_, fun t x hx ht => ?_, fun r ob h => ?_⟩ ?_, ?_⟩
     ·simp only [aget] at hx
      repeat' split at hx
      all_goals first | (cases hx; trivial) | cases hx
     ·cases r <;> cases h
     ·obtain ⟨q, hq, rfl⟩ := List.mem_map.1 hp
      exact ⟨nsD_one _, by rw [nsD_len]; exact (hR.cap q hq).1⟩
     ·rw [rowsD_len]; rfl
     ·rfl
     ·rw [rowsD_get] at hp
      cases hk : rows[k]? with
      | none => rw [hk] at hp; cases hp
      | some q =>
       rw [hk] at hp
       cases hp
       rw [St.obj_put]
       simp only [St.obj, aget]
       rw [if_neg (by omega), famL_at hk, rowN, nsA_nsD]
     ·simp only [aget] at hx
      repeat' split at hx
      all_goals first | (cases hx; subst_vars; first | rfl | exact absurd rfl ht) | cases hx
     ·cases r <;> cases h
     ·rw [hres]; rfl
     ·have hwl : (wordsD ((W.take n).map (wordsOf l))).length = n := by simp [wordsD]; omega
      have hwn : wordsD ((W.take n).map (wordsOf l)) ++ [.list ((wordsOf l row).map fun r => .list (nsD r))] = wordsD ((W.take (n + 1)).map (wordsOf l)) := by
       rw [List.take_add_one, hrow]; simp [wordsD]
      simp (maxSteps := 2000000) (disch := omega) only [go_sem, ↓reduceIte, hwn]
      refine ⟨⟨by omega, by omega⟩, n + 1, ?_, by omega, by omega⟩
      refine Weak.mk ?_ ?_ ?_ <;> simp (maxSteps := 2000000) only [go_sem, ↓reduceIte, Sub, Int.natCast_add, Int.natCast_mul]
  ·have hnn : n = W.length := by omega
   subst hnn
   rw [List.take_length]
end Go.Av.Try
set_option linter.unusedSimpArgs false
set_option maxRecDepth 100000
set_option maxHeartbeats 2000000
namespace Go.Av.Try
open Go.Proofs
def chkW (l : List Gl) : Option Nat → Bool → List Nat → Prop
 | _, _, [] => True
 | last, f, g :: r => (∀ j, last = some j → (glAt l j).ax ≤ (glAt l g).ax ∧ room l j g = f) ∧ chkW l (some g) false r
def lst : Option Nat → List Nat → Option Nat
 | last, [] => last
 | _, g :: r => lst (some g) r
def chkR (l : List Gl) : Option Nat → List (List Nat) → Prop
 | _, [] => True
 | last, w :: ws => chkW l last true w ∧ chkR l (lst last w) ws
theorem lst_app (a b : List Nat) : ∀ last, lst last (a ++ b) = lst (lst last a) b := by
 induction a with
 | nil => intro _; rfl
 | cons g a ih => intro last; exact ih (some g)
theorem chkW_app {l : List Gl} {b : List Nat} : ∀ {a : List Nat} {last : Option Nat} {f : Bool}, chkW l last f (a ++ b) ↔ chkW l last f a ∧ chkW l (lst last a) (if a = [] then f else false) b
 | [], last, f => by simp [chkW, lst]
 | g :: a, last, f => by
  simp only [List.cons_append, chkW, chkW_app (a := a), lst, and_assoc]
  by_cases ha : a = [] <;> simp [ha]
theorem chkR_app {l : List Gl} {b : List (List Nat)} : ∀ {a : List (List Nat)} {last : Option Nat}, chkR l last (a ++ b) ↔ chkR l last a ∧ chkR l (lst last a.flatten) b
 | [], last => by simp [chkR, lst]
 | w :: a, last => by
  simp only [List.cons_append, chkR, chkR_app (a := a), List.flatten_cons, lst_app, and_assoc]
structure WOk (l : List Gl) (last : Option Nat) (rows : List (List Nat)) : Prop where
 chk : chkR l none rows
 fin : lst none rows.flatten = last
 ne : ∀ w ∈ rows, w ≠ []
 inh : last ≠ none → rows ≠ []
theorem WOk.add {l : List Gl} {last : Option Nat} {rows : List (List Nat)} {i : Nat} (h : WOk l last rows) (hs : ∀ j, last = some j → (glAt l j).ax ≤ (glAt l i).ax) : WOk l (some i) (addW l last rows i) ∧ (addW l last rows i).flatten = rows.flatten ++ [i] := by
 have hnew : (∀ j, last = some j → room l j i = true) → WOk l (some i) (rows ++ [[i]]) ∧ (rows ++ [[i]]).flatten = rows.flatten ++ [i] := fun hr => by
  refine ⟨⟨chkR_app.2 ⟨h.chk, ⟨⟨fun j hj => ?_, trivial⟩, trivial⟩⟩, ?_, fun w hw => ?_, fun _ => by simp⟩, by simp⟩
  ·rw [h.fin] at hj
   exact ⟨hs j hj, hr j hj⟩
  ·simp [lst_app, lst]
  ·rcases List.mem_append.1 hw with hw | hw
   ·exact h.ne w hw
   ·rw [List.mem_singleton.1 hw]; simp
 cases last with
 | none => exact hnew fun j hj => by cases hj
 | some j =>
  simp only [addW]
  by_cases hr : room l j i = true
  ·rw [if_pos hr]
   exact hnew fun j' hj => by cases hj; exact hr
  ·rw [if_neg hr]
   rcases List.eq_nil_or_concat rows with rfl | ⟨rs, r, rfl⟩
   ·exact absurd rfl (h.inh (by simp))
   ·rw [List.concat_eq_append] at *
    have hrn := h.ne r (by simp)
    obtain ⟨c1, c2⟩ := chkR_app.1 h.chk
    have hl := h.fin
    rw [List.flatten_append, lst_app] at hl
    rw [extW_snoc]
    refine ⟨⟨chkR_app.2 ⟨c1, chkW_app.2 ⟨c2.1, fun j' hj => ?_, trivial⟩, trivial⟩, ?_, fun w hw => ?_, fun _ => by simp⟩, by simp⟩
    ·have e : lst (lst none rs.flatten) r = some j := by simpa using hl
     rw [e] at hj
     cases hj
     exact ⟨hs j rfl, by simpa [hrn] using hr⟩
    ·simp [lst_app, lst]
    ·rcases List.mem_append.1 hw with hw | hw
     ·exact h.ne w (by simp [hw])
     ·rw [List.mem_singleton.1 hw]; simp
theorem wordsR_ok {l : List Gl} : ∀ (r : List Nat) (last : Option Nat) (rows : List (List Nat)), WOk l last rows → (∀ j, last = some j → ∀ i ∈ r, (glAt l j).ax ≤ (glAt l i).ax) → r.Pairwise (fun i j => (glAt l i).ax ≤ (glAt l j).ax) →
  (∃ e, WOk l e (wordsR l last rows r)) ∧ (wordsR l last rows r).flatten = rows.flatten ++ r
 | [], last, rows, h, _, _ => ⟨⟨last, h⟩, by simp [wordsR]⟩
 | i :: r, last, rows, h, h1, h2 => by
  obtain ⟨a1, a2⟩ := h.add (i := i) fun j hj => h1 j hj i (by simp)
  obtain ⟨b1, b2⟩ := wordsR_ok r (some i) _ a1 (fun j hj k hk => by cases hj; exact List.rel_of_pairwise_cons h2 hk) (List.Pairwise.of_cons h2)
  exact ⟨b1, by rw [wordsR, b2, a2]; simp⟩
theorem linesF_srt {l : List Gl} : ∀ r ∈ linesF l, r.Pairwise (fun i j => (glAt l i).ax ≤ (glAt l j).ax) := fun r hr => by
 obtain ⟨q, hq, rfl⟩ := List.mem_map.1 hr
 have hf : (grpF l).flatten = ordF l := by rw [grpF, grp_flat, List.flatten_nil, List.nil_append]
 have h := Ky.st_srt (Ky.up_tot (row_up (l := l) (ordF_nodup l) hf hq))
 exact List.Pairwise.imp (fun {a b} h => by
  have h : (kyX l (ordF l)).T a b := h
  unfold Ky.T kyX at h
  simp only at h
  omega) h
theorem words_ok {l : List Gl} {r : List Nat} (hr : r ∈ linesF l) : chkR l none (wordsOf l r) ∧ (wordsOf l r).flatten = r ∧ ∀ w ∈ wordsOf l r, w ≠ [] := by
 obtain ⟨⟨e, h1⟩, h2⟩ := wordsR_ok (l := l) r none [] ⟨trivial, rfl, (fun w hw => by cases hw), fun h => absurd rfl h⟩ (fun j hj => by cases hj) (linesF_srt r hr)
 exact ⟨h1.chk, by simpa [wordsOf] using h2, h1.ne⟩
/-! ### What has been seen -/
def cellsB (A : List Nat) (n : Nat) : List AV := (List.range n).map fun i => .d (.bool (decide (i ∈ A)))
theorem cellsB_nil (n : Nat) : List.replicate n (AV.d (.bool false)) = cellsB [] n := by
 refine List.ext_getElem (by simp [cellsB]) fun i h1 h2 => ?_
 simp [cellsB]
theorem cellsB_len (A : List Nat) (n : Nat) : (cellsB A n).length = n := by simp [cellsB]
theorem cellsB_get {A : List Nat} {n i : Nat} (h : i < n) : (cellsB A n)[i]? = some (.d (.bool (decide (i ∈ A)))) := by
 simp [cellsB, h]
theorem cellsB_set {A : List Nat} {n g : Nat} : (cellsB A n).set g (.d (.bool true)) = cellsB (A ++ [g]) n := by
 refine List.ext_getElem (by simp [cellsB]) fun i h1 h2 => ?_
 simp only [cellsB, List.getElem_set, List.getElem_map, List.getElem_range, List.mem_append, List.mem_singleton]
 by_cases h : g = i
 ·subst h; simp
 ·rw [if_neg h]
  have : ¬ i = g := fun e => h e.symm
  simp [this]
theorem cellsB_drop (r : Ref) (A : List Nat) (n : Nat) : (cellsB A n).map (AV.drop r) = cellsB A n := by
 refine (List.map_congr_left fun x hx => ?_).trans (List.map_id _)
 simp only [cellsB, List.mem_map] at hx
 obtain ⟨i, _, rfl⟩ := hx
 rfl
attribute [go_sem] cellsB_drop
def L_foliowrightref_Apart : LCode :=
 .seq (.reg [⟨some 2, .box (.t 0), none⟩, ⟨some 3, .box (.t 1), none⟩, Qx 4 KF]) (.seq (.reg [Q 5 (.fa 1 (.t 3)), Q 6 (.fa 0 (.t 5)), Q 7 (.ld false 1 (.t 6)), Q 8 (.fa 3 (.t 2)), Q 
 9 (.fa 0 (.t 8)), Q 10 (.ld false 1 (.t 9)), Q 11 (.bin .sub (.t 7) (.t 10)), Q 12 (.bin .mul (Ki 4) (.t 11)), Q 13 (.fa 5 (.t 2)), Q 14 (.ld false 1 (.t 13)), Q 15 (.bin .gtr 
 (.t 12) (.t 14)), Qa 4 15]) .ret)
def R_foliowrightref_Apart : List LRes := [.tmp 4]
theorem lift_foliowrightref_Apart : Lifts Try.prog 15 16 L_foliowrightref_Apart R_foliowrightref_Apart := ⟨_, _, Try.func15, rfl, by kernel_rfl, by kernel_rfl, rfl⟩
theorem apart_call (l : List Gl) (hok : ∀ g ∈ l, g.ok) {j i : Nat} (hj : j < l.length) (hi : i < l.length) : PCall Try.prog 15 [(glAt l j).d, (glAt l i).d] (fun r => r = .one (.bool (room l j i))) := by
 obtain ⟨o1, o2, o3, o4, o5⟩ := hok _ (List.mem_of_getElem? (glAt_get hi))
 obtain ⟨u1, u2, u3, u4, u5⟩ := hok _ (List.mem_of_getElem? (glAt_get hj))
 unfold inB at o1 o2 o3 o4 o5 u1 u2 u3 u4 u5
 unfold Gl.d
 refine lift_foliowrightref_Apart.call rfl ?_
 simp (maxSteps := 2000000) (disch := omega) only [go_sem, ↓reduceIte, L_foliowrightref_Apart, R_foliowrightref_Apart, room]
theorem len_flat : ∀ {ws : List (List Nat)}, (∀ w ∈ ws, w ≠ []) → ws.length ≤ ws.flatten.length
 | [], _ => Nat.zero_le _
 | w :: ws, h => by
  have h1 := len_flat (ws := ws) fun x hx => h x (by simp [hx])
  have h2 := List.length_pos_iff.2 (h w (by simp))
  simp only [List.length_cons, List.flatten_cons, List.length_append]; omega
theorem idxT_mono (l : List Gl) {a b : Nat} (h : a ≤ b) : (idxT l a).length ≤ (idxT l b).length := by
 have e : List.range b = List.range a ++ (List.range' a (b - a)) := by
  rw [List.range_eq_range', List.range_eq_range', show b = a + (b - a) by omega, ← List.range'_append_1]
  simp
 rw [idxT, idxT, e, List.filter_append, List.length_append]; omega
theorem boolRow0 : liftSl Try.prog 47 = some (4, 1, 1) := by kernel_rfl
def lstI : Option Nat → Int
 | none => -1
 | some g => g
def L_foliowrighttop_TopLines : LCode :=
 .seq (.reg [Qx 2 KF]) (.seq (.reg [⟨some 13, .call 16 [], none⟩, Qa 3 13]) (.seq (.seq (.reg [Qc 14 3, Q 15 (.not (.t 14))]) (.cond (.t 15) (.seq (.reg [Qx 2 KF]) .ret) .skip)) 
 (.seq (.seq (.reg [Qc 16 0, ⟨some 17, .call 8 [.t 16], none⟩, Q 18 (.not (.t 17))]) (.cond (.t 18) (.seq (.reg [Qx 2 KT]) .ret) .skip)) (.seq (.reg [Qc 19 0, Q 20 (.len false (.t 
 19)), ⟨some 21, .prim (.mkSlice 47) [.t 20, .t 20] [], none⟩, Qa 4 21]) (.seq (.reg [Qx 5 (Ki 0)]) (.seq (.reg [Qc 22 0, ⟨some 23, .call 13 [.t 22], none⟩, Qa 6 23]) (.seq (.seq 
 (.reg [Qx 7 (Ki 0)]) (.block 0 (.loop (.seq (.seq (.reg [Qc 24 7, Qc 25 6, Q 26 (.len false (.t 25)), Q 27 (.bin .lss (.t 24) (.t 26))]) (.cond (.t 27) .skip (.exit 0))) (.seq 
 (.block 1 (.seq (.reg [Qx 8 (Ki (-1))]) (.seq (.seq (.reg [Qx 9 (Ki 0)]) (.block 2 (.loop (.seq (.seq (.reg [Qc 30 9, Qc 31 6, Qc 32 7, Q 33 (.ia 1 (.t 31) (.t 32)), Q 34 (.ld 
 false 1 (.t 33)), Q 35 (.len false (.t 34)), Q 36 (.bin .lss (.t 30) (.t 35))]) (.cond (.t 36) .skip (.exit 2))) (.seq (.block 3 (.seq (.reg [Qx 10 (Ki 0)]) (.block 4 (.loop 
 (.seq (.seq (.reg [Qc 39 10, Qc 40 6, Qc 41 7, Q 42 (.ia 1 (.t 40) (.t 41)), Q 43 (.ld false 1 (.t 42)), Qc 44 9, Q 45 (.ia 1 (.t 43) (.t 44)), Q 46 (.ld false 1 (.t 45)), Q 47 
 (.len false (.t 46)), Q 48 (.bin .lss (.t 39) (.t 47))]) (.cond (.t 48) .skip (.exit 4))) (.seq (.block 5 (.seq (.reg [Qc 51 6, Qc 52 7, Q 53 (.ia 1 (.t 51) (.t 52)), Q 54 (.ld 
 false 1 (.t 53)), Qc 55 9, Q 56 (.ia 1 (.t 54) (.t 55)), Q 57 (.ld false 1 (.t 56)), Qc 58 10, Q 59 (.ia 1 (.t 57) (.t 58)), Q 60 (.ld false 1 (.t 59)), Qa 11 60]) (.seq (.seq 
 (.reg [Qc 61 11, Q 62 (.bin .lss (.t 61) (Ki 0)), Qc 63 62, Qd 64 11 63 false, Qd 65 0 63 false, Qg 66 (.len false (.t 65)) 63 false, Qg 67 (.bin .geq (.t 64) (.t 66)) 63 false, 
 Q 68 (.pick (.t 63) KT (.t 67)), Qc 69 68, Qd 70 4 69 false, Qd 71 11 69 false, Qg 72 (.ia 1 (.t 70) (.t 71)) 69 false, Qg 73 (.ld false 1 (.t 72)) 69 false, Q 74 (.pick (.t 69) 
 KT (.t 73)), Qc 75 74, Qd 76 0 75 false, Qd 77 11 75 false, Qg 78 (.ia 10 (.t 76) (.t 77)) 75 false, Qg 79 (.fa 0 (.t 78)) 75 false, Qg 80 (.ld false 1 (.t 79)) 75 false, Qg 81 
 (.bin .eql (.t 80) (.k (.d (.str [])))) 75 false, Q 82 (.pick (.t 75) KT (.t 81))]) (.cond (.t 82) (.seq (.reg [Qx 2 KF]) .ret) .skip)) (.seq (.reg [Qc 83 4, Qc 84 11, Q 85 (.ia 
 1 (.t 83) (.t 84)), ⟨none, .st 1 (.t 85) KT, none⟩]) (.seq (.reg [Qc 86 5, Q 87 (.bin .add (.t 86) (Ki 1)), Qa 5 87]) (.seq (.seq (.dreg [Qc 88 8, Q 89 (.bin .geq (.t 88) (Ki 
 0)), Qc 90 89, Qd 91 0 90 true, Qd 92 8 90 true, Qg 93 (.ia 10 (.t 91) (.t 92)) 90 true, Qg 94 (.fa 1 (.t 93)) 90 true, Qg 95 (.fa 0 (.t 94)) 90 true, Qg 96 (.ld false 1 (.t 95)) 
 90 true, Qd 97 0 90 true, Qd 98 11 90 true, Qg 99 (.ia 10 (.t 97) (.t 98)) 90 true, Qg 100 (.fa 1 (.t 99)) 90 true, Qg 101 (.fa 0 (.t 100)) 90 true, Qg 102 (.ld false 1 (.t 101)) 
 90 true, Qg 103 (.bin .gtr (.t 96) (.t 102)) 90 true, Qd 104 103 90 true, Qd 105 0 104 false, Qd 106 8 104 false, Qg 107 (.ia 10 (.t 105) (.t 106)) 104 false, Qg 108 (.ld true 10 
 (.t 107)) 104 false, Qd 109 0 104 false, Qd 110 11 104 false, Qg 111 (.ia 10 (.t 109) (.t 110)) 104 false, Qg 112 (.ld true 10 (.t 111)) 104 false, ⟨some 113, .call 15 [.t 108, 
 .t 112], some (104, false)⟩, Qd 114 10 104 false, Qg 115 (.bin .eql (.t 114) (Ki 0)) 104 false, Qg 116 (.eqB true (.t 113) (.t 115)) 104 false, Qg 117 (.pick (.t 104) KT (.t 
 116)) 90 true, Q 118 (.pick (.t 90) (.t 117) KF)]) (.cond (.t 118) (.seq (.reg [Qx 2 KF]) .ret) .skip)) (.reg [Qc 119 11, Qa 8 119]))))))) (.reg [Qc 49 10, Q 50 (.bin .add (.t 
 49) (Ki 1)), Qa 10 50]))))))) (.reg [Qc 37 9, Q 38 (.bin .add (.t 37) (Ki 1)), Qa 9 38])))))) (.seq (.reg [Qc 120 8, Q 121 (.bin .lss (.t 120) (Ki 0))]) (.cond (.t 121) (.seq 
 (.reg [Qx 2 KF]) .ret) .skip))))) (.reg [Qc 28 7, Q 29 (.bin .add (.t 28) (Ki 1)), Qa 7 29])))))) (.seq (.seq (.reg [Qx 12 (Ki 0)]) (.block 6 (.loop (.seq (.seq (.reg [Qc 122 12, 
 Qc 123 0, Q 124 (.len false (.t 123)), Q 125 (.bin .lss (.t 122) (.t 124))]) (.cond (.t 125) .skip (.exit 6))) (.seq (.block 7 (.seq (.reg [Qc 128 0, Qc 129 12, Q 130 (.ia 10 (.t 
 128) (.t 129)), Q 131 (.fa 0 (.t 130)), Q 132 (.ld false 1 (.t 131)), Q 133 (.bin .neq (.t 132) (.k (.d (.str []))))]) (.cond (.t 133) (.reg [Qc 134 5, Q 135 (.bin .sub (.t 134) 
 (Ki 1)), Qa 5 135]) .skip))) (.reg [Qc 126 12, Q 127 (.bin .add (.t 126) (Ki 1)), Qa 12 127])))))) (.seq (.reg [Qc 136 5, Q 137 (.bin .eql (.t 136) (Ki 0)), Qa 2 137]) 
 .ret)))))))))
def R_foliowrighttop_TopLines : List LRes := [.tmp 2]
theorem lift_foliowrighttop_TopLines : Lifts Try.prog 5 138 L_foliowrighttop_TopLines R_foliowrighttop_TopLines := ⟨_, _, Try.func5, rfl, by kernel_rfl, by kernel_rfl, rfl⟩
theorem topLines_call (l : List Gl) (hl0 : l.length ≤ 9223372036854775807) (ht0 : ∀ g ∈ l, g.tx.length ≤ 1000000000) : PCall Try.prog 5 [.list (glsD l)] (fun r => r = .one (.bool true)) := by
 have hI : ((glsD l).length : Int) = (l.length : Int) := by rw [glsD_length]
 refine lift_foliowrighttop_TopLines.call rfl ?_
 simp (maxSteps := 2000000) only [go_sem, ↓reduceIte, L_foliowrighttop_TopLines, R_foliowrighttop_TopLines]
 refine CallG.of laid_call ?_
 simp (maxSteps := 2000000) only [go_sem, ↓reduceIte]
 refine CallG.of (lightGlyphs_call l hl0 ht0) ?_
 cases hlt : lightGM l with
 | false => simp (maxSteps := 2000000) only [go_sem, ↓reduceIte]
 | true =>
  obtain ⟨hl, hok, hr, ht⟩ := light_ok hlt
  simp (maxSteps := 2000000) only [go_sem, ↓reduceIte, hI]
  refine PrimG.mkRow (r := 40) (n := l.length) (z := .bool false) (zv := .bool false) rfl rfl boolRow0 (by kernel_rfl) rfl rfl (fun f w => .bool _) (by omega) (by omega) ?_
  rw [cellsB_nil]
  simp (maxSteps := 2000000) only [go_sem, ↓reduceIte]
  refine CallG.of (words_call l (by omega) hok) ?_
  have hWp : ((linesF l).map (wordsOf l)).map List.flatten = linesF l := by
   rw [List.map_map]
   exact (List.map_congr_left fun r hr => (words_ok hr).2.1).trans (List.map_id _)
  have hperm := linesF_perm l
  rw [← hWp] at hperm
  have hW : ∀ ws ∈ (linesF l).map (wordsOf l), chkR l none ws ∧ (∀ w ∈ ws, w ≠ []) ∧ ws.flatten ≠ [] := fun ws hws => by
   obtain ⟨r, hr, rfl⟩ := List.mem_map.1 hws
   obtain ⟨a, b, c⟩ := words_ok hr
   exact ⟨a, c, by rw [b]; exact linesF_ne r hr⟩
  have hWn : ((linesF l).map (wordsOf l)).length ≤ 150 := by rw [List.length_map]; have := linesF_len l; omega
  generalize (linesF l).map (wordsOf l) = W at *
  generalize hAll : (W.map List.flatten).flatten = all at *
  have hnd : all.Nodup := hperm.nodup_iff.2 (List.nodup_range.filter _)
  have hel : ∀ g ∈ all, g < l.length ∧ (glAt l g).tx ≠ [] := fun g hg => mem_idxT.1 (hperm.subset hg)
  have hlen : all.length = (idxT l l.length).length := hperm.length_eq
  have hle := idxT_len l l.length
  have hWl : ((wordsD W).length : Int) = (W.length : Int) := by simp [wordsD]
  have hWg : ∀ {i : Nat} {ws : List (List Nat)}, W[i]? = some ws → (wordsD W)[i]? = some (.list (ws.map fun w => .list (nsD w))) := fun {i ws} h => by rw [wordsD, List.getElem?_map, h]; rfl
  simp (maxSteps := 2000000) only [go_sem, ↓reduceIte]
  refine run_loop (fun y : Nat × List Nat => ⟨[(0, .d (.list (glsD l))), (4, .rs (.l 40) l.length l.length), (5, .d (.int .i64 (y.2.length : Nat))), (6, .d (.list (wordsD W))), (7, .d (.int .i64 (y.1 : Nat)))], [(40, .cells (cellsB y.2 l.length))], []⟩)
   (fun y => y.1 ≤ W.length ∧ all = y.2 ++ ((W.drop y.1).map List.flatten).flatten) (fun y => W.length - y.1) (0, []) ?_ ?_ ?_
  ·refine Weak.mk ?_ ?_ ?_ <;> simp (maxSteps := 2000000) only [go_sem, ↓reduceIte, Sub, Int.natCast_add, Int.natCast_mul]
  ·exact ⟨Nat.zero_le _, hAll.symm⟩
  ·rintro ⟨i, A⟩ ⟨hi, hA⟩
   simp only at hi hA
   simp (maxSteps := 2000000) only [go_sem, ↓reduceIte, hWl]
   refine ⟨fun hlt1 => ?_, fun hge => ?_⟩
   ·obtain ⟨ws, hws⟩ := get_some (l := W) (i := i) (by omega)
    obtain ⟨c1, c2, c3⟩ := hW ws (List.mem_of_getElem? hws)
    have hwsD := hWg hws
    rw [drop_at hws, List.map_cons, List.flatten_cons] at hA
    generalize hrest : ((W.drop (i + 1)).map List.flatten).flatten = rest at *
    have hwl : (((ws.map fun w => D.list (nsD w)).length : Nat) : Int) = (ws.length : Int) := by simp
    have hwn : ws.length ≤ 150 := by
     have h1 : ws.length ≤ ws.flatten.length := len_flat c2
     have h2 : ws.flatten.length ≤ all.length := by rw [hA]; simp only [List.length_append]; omega
     omega
    refine run_loop (fun y : Nat × List Nat × Option Nat => ⟨[(0, .d (.list (glsD l))), (4, .rs (.l 40) l.length l.length), (5, .d (.int .i64 (y.2.1.length : Nat))), (6, .d (.list (wordsD W))), (7, .d (.int .i64 (i : Nat))), (8, .d (.int .i64 (lstI y.2.2))), (9, .d (.int .i64 (y.1 : Nat)))], [(40, .cells (cellsB y.2.1 l.length))], []⟩)
     (fun y => y.1 ≤ ws.length ∧ all = y.2.1 ++ ((ws.drop y.1).flatten ++ rest) ∧ chkR l y.2.2 (ws.drop y.1) ∧ (y.2.2 = none → (ws.drop y.1).flatten ≠ []) ∧ ∀ g, y.2.2 = some g → g < l.length) (fun y => ws.length - y.1) (0, A, none) ?_ ?_ ?_
    ·refine Weak.mk ?_ ?_ ?_ <;> simp (maxSteps := 2000000) only [go_sem, ↓reduceIte, Sub, Int.natCast_add, Int.natCast_mul, lstI]
    ·exact ⟨Nat.zero_le _, hA, c1, fun _ => c3, fun g hg => by cases hg⟩
    ·clear hA A c1 c3
     rintro ⟨j, A, last⟩ ⟨hj, hA, c1, c3, c4⟩
     simp only at hj hA c1 c3 c4
     simp (maxSteps := 2000000) (disch := omega) only [go_sem, ↓reduceIte, getI_nat, hwsD, hWl, hwl]
     refine ⟨fun hlt2 => ?_, fun hge2 => ?_⟩
     ·obtain ⟨w, hw⟩ := get_some (l := ws) (i := j) (by omega)
      have hwD : (ws.map fun w => D.list (nsD w))[j]? = some (.list (nsD w)) := by rw [List.getElem?_map, hw]; rfl
      rw [drop_at hw] at hA c1 c3
      rw [List.flatten_cons] at hA c3
      obtain ⟨d1, d2⟩ := c1
      generalize hmore : ws.drop (j + 1) = more at *
      have hnl : (((nsD w).length : Nat) : Int) = (w.length : Int) := by rw [nsD_len]
      have hwk : w.length ≤ 150 := by
       have h2 : w.length ≤ all.length := by rw [hA]; simp only [List.length_append]; omega
       omega
      refine run_loop (fun y : Nat × List Nat × Option Nat => ⟨[(0, .d (.list (glsD l))), (4, .rs (.l 40) l.length l.length), (5, .d (.int .i64 (y.2.1.length : Nat))), (6, .d (.list (wordsD W))), (7, .d (.int .i64 (i : Nat))), (8, .d (.int .i64 (lstI y.2.2))), (9, .d (.int .i64 (j : Nat))), (10, .d (.int .i64 (y.1 : Nat)))], [(40, .cells (cellsB y.2.1 l.length))], []⟩)
       (fun y => y.1 ≤ w.length ∧ all = y.2.1 ++ (w.drop y.1 ++ (more.flatten ++ rest)) ∧ chkW l y.2.2 (decide (y.1 = 0)) (w.drop y.1) ∧ chkR l (lst y.2.2 (w.drop y.1)) more ∧ (y.2.2 = none → w.drop y.1 ++ more.flatten ≠ []) ∧ ∀ g, y.2.2 = some g → g < l.length) (fun y => w.length - y.1) (0, A, last) ?_ ?_ ?_
      ·refine Weak.mk ?_ ?_ ?_ <;> simp (maxSteps := 2000000) only [go_sem, ↓reduceIte, Sub, Int.natCast_add, Int.natCast_mul]
      ·exact ⟨Nat.zero_le _, by rw [hA]; simp, d1, d2, c3, c4⟩
      ·clear hA d1 d2 c3 c4 A last
       rintro ⟨k, A, last⟩ ⟨hk, hA, d1, d2, c3, c4⟩
       simp only at hk hA d1 d2 c3 c4
       simp (maxSteps := 2000000) (disch := omega) only [go_sem, ↓reduceIte, getI_nat, hwsD, hwD, hWl, hwl, hnl]
       refine ⟨fun hlt3 => ?_, fun hge3 => ?_⟩
       ·obtain ⟨g, hg⟩ := get_some (l := w) (i := k) (by omega)
        have hnk : (nsD w)[k]? = some (.int .i64 (g : Nat)) := by rw [nsD_get, hg]; rfl
        rw [drop_at hg] at hA d1 d2 c3
        rw [List.cons_append] at hA
        obtain ⟨d1, d3⟩ := d1
        have hgall : g ∈ all := by rw [hA]; simp
        obtain ⟨hgl, htx⟩ := hel g hgall
        have hgA : ¬ g ∈ A := fun h => by
         rw [hA] at hnd
         exact (List.nodup_append.1 hnd).2.2 g h g (by simp) rfl
        have hgi : (glsD l)[g]? = some (glAt l g).d := by rw [glsD_get, glAt_get hgl]; rfl
        have l1 : (cellsB A l.length)[((g : Nat) : Int).toNat * 1]? = some (.d (.bool false)) := by
         rw [show ((g : Nat) : Int).toNat * 1 = g by omega, cellsB_get hgl, decide_eq_false hgA]
        have l3 : (cellsB A l.length).set (((g : Nat) : Int).toNat * 1) (.d (.bool true)) = cellsB (A ++ [g]) l.length := by
         rw [show ((g : Nat) : Int).toNat * 1 = g by omega]; exact cellsB_set
        have l4 := cellsB_len A l.length
        have z1 : ((g : Int) < 0) = False := eq_false (by omega)
        have z2 : ((l.length : Int) ≤ (g : Int)) = False := eq_false (by omega)
        have hAl : A.length ≤ 150 := by
         have h2 : A.length ≤ all.length := by rw [hA]; simp only [List.length_append]; omega
         omega
        have hA' : all = (A ++ [g]) ++ (w.drop (k + 1) ++ (more.flatten ++ rest)) := by rw [hA]; simp
        have hAl' : ((A ++ [g]).length : Int) = (A.length : Int) + 1 := by simp
        have hli2 : lstI (some g) = (g : Int) := rfl
        cases last with
        | none =>
         have hli : lstI none = -1 := rfl
         simp (maxSteps := 2000000) (disch := omega) only [go_sem, ↓reduceIte, getI_nat, hwsD, hwD, hnk, hgi, hWl, hwl, hnl, hI, l1, l3, l4, z1, z2, htx, hli, Gl.d]
         refine ⟨⟨by omega, by omega⟩, ⟨by omega, by omega⟩, by omega, ?_⟩
         refine ⟨(k + 1, A ++ [g], some g), ?_, ⟨by simp only; omega, hA', by simpa using d3, d2, (fun h => by cases h), fun g' hg' => by cases hg'; exact hgl⟩, by simp only; omega⟩
         refine Weak.mk ?_ ?_ ?_ <;> simp (maxSteps := 2000000) only [go_sem, ↓reduceIte, Sub, Int.natCast_add, Int.natCast_mul, hAl', hli2]
        | some j' =>
         have hli : lstI (some j') = (j' : Int) := rfl
         have hjl := c4 j' rfl
         obtain ⟨x1, x2⟩ := d1 j' rfl
         have hgj : (glsD l)[j']? = some (glAt l j').d := by rw [glsD_get, glAt_get hjl]; rfl
         have z3 : (0 ≤ (j' : Int)) = True := eq_true (by omega)
         have z4 : ((glAt l g).ax < (glAt l j').ax) = False := eq_false (by omega)
         simp (maxSteps := 2000000) (disch := omega) only [go_sem, ↓reduceIte, getI_nat, hwsD, hwD, hnk, hgi, hgj, hWl, hwl, hnl, hI, l1, l3, l4, z1, z2, z3, z4, htx, hli, Gl.d]
         refine ⟨⟨by omega, by omega⟩, ⟨by omega, by omega⟩, by omega, ?_⟩
         refine CallD.of (apart_call l hok hjl hgl) ?_
         rw [x2]
         by_cases h0 : k = 0
         ·have z5 : ((k : Int) = 0) = True := eq_true (by omega)
          have z6 : (k = 0) = True := eq_true h0
          simp (maxSteps := 2000000) (disch := omega) only [go_sem, ↓reduceIte, z5, z6]
          refine ⟨(k + 1, A ++ [g], some g), ?_, ⟨by simp only; omega, hA', by simpa using d3, d2, (fun h => by cases h), fun g' hg' => by cases hg'; exact hgl⟩, by simp only; omega⟩
          refine Weak.mk ?_ ?_ ?_ <;> simp (maxSteps := 2000000) only [go_sem, ↓reduceIte, Sub, Int.natCast_add, Int.natCast_mul, hAl', hli2]
         ·have z5 : ((k : Int) = 0) = False := eq_false (by omega)
          have z6 : (k = 0) = False := eq_false h0
          simp (maxSteps := 2000000) (disch := omega) only [go_sem, ↓reduceIte, z5, z6]
          refine ⟨(k + 1, A ++ [g], some g), ?_, ⟨by simp only; omega, hA', by simpa using d3, d2, (fun h => by cases h), fun g' hg' => by cases hg'; exact hgl⟩, by simp only; omega⟩
          refine Weak.mk ?_ ?_ ?_ <;> simp (maxSteps := 2000000) only [go_sem, ↓reduceIte, Sub, Int.natCast_add, Int.natCast_mul, hAl', hli2]
       ·have hkn : k = w.length := by omega
        subst hkn
        rw [List.drop_length] at hA d1 d2 c3
        rw [List.nil_append] at hA c3
        refine ⟨(j + 1, A, last), ?_, ⟨by simp only; omega, by rw [hmore]; exact hA, by rw [hmore]; exact d2, by rw [hmore]; exact c3, c4⟩, by simp only; omega⟩
        refine Weak.mk ?_ ?_ ?_ <;> simp (maxSteps := 2000000) only [go_sem, ↓reduceIte, Sub, Int.natCast_add, Int.natCast_mul]
     ·have hjn : j = ws.length := by omega
      subst hjn
      rw [List.drop_length] at hA c1 c3
      have hls : ∃ g, last = some g := by
       cases last with
       | none => exact absurd rfl (c3 rfl)
       | some g => exact ⟨g, rfl⟩
      obtain ⟨g, rfl⟩ := hls
      have hli : lstI (some g) = (g : Int) := rfl
      rw [hli]
      refine ⟨fun h => by omega, fun _ => ⟨(i + 1, A), ?_, ⟨by simp only; omega, by rw [hA, ← hrest]; simp⟩, by simp only; omega⟩⟩
      refine Weak.mk ?_ ?_ ?_ <;> simp (maxSteps := 2000000) only [go_sem, ↓reduceIte, Sub, Int.natCast_add, Int.natCast_mul]
   ·have hin : i = W.length := by omega
    subst hin
    rw [List.drop_length, List.map_nil, List.flatten_nil, List.append_nil] at hA
    subst hA
    have hm0 : (idxT l 0).length = 0 := rfl
    refine run_loop (fun i : Nat => ⟨[(0, .d (.list (glsD l))), (5, .d (.int .i64 (((all.length - (idxT l i).length : Nat) : Nat) : Int))), (12, .d (.int .i64 (i : Nat)))], [], []⟩)
     (fun i => i ≤ l.length) (fun i => l.length - i) 0 ?_ (Nat.zero_le _) ?_
    ·refine Weak.mk ?_ ?_ ?_ <;> simp (maxSteps := 2000000) only [go_sem, ↓reduceIte, Sub, Int.natCast_add, Int.natCast_mul, hm0, Nat.sub_zero]
    ·intro i hi2
     have hs := idxT_succ l i
     simp (maxSteps := 2000000) only [go_sem, ↓reduceIte, hI]
     refine ⟨fun hlt4 => ?_, fun hge4 => ?_⟩
     ·have hil : i < l.length := by omega
      have hgi : (glsD l)[i]? = some (glAt l i).d := by rw [glsD_get, glAt_get hil]; rfl
      have hmono := (idxT_mono l (show i + 1 ≤ l.length by omega))
      by_cases htx : (glAt l i).tx = []
      ·have hT : hasT l i = false := by simp [hasT, htx]
       rw [hT] at hs
       simp only [Bool.false_eq_true, if_false, List.append_nil] at hs
       simp (maxSteps := 2000000) (disch := omega) only [go_sem, ↓reduceIte, getI_nat, hgi, hI, htx, Gl.d]
       refine ⟨i + 1, ?_, by omega, by omega⟩
       rw [hs]
       refine Weak.mk ?_ ?_ ?_ <;> simp (maxSteps := 2000000) only [go_sem, ↓reduceIte, Sub, Int.natCast_add, Int.natCast_mul]
      ·have hT : hasT l i = true := by simp [hasT, htx]
       rw [hT] at hs
       simp only [if_true] at hs
       have hsl : (idxT l (i + 1)).length = (idxT l i).length + 1 := by rw [hs]; simp
       simp (maxSteps := 2000000) (disch := omega) only [go_sem, ↓reduceIte, getI_nat, hgi, hI, htx, Gl.d]
       refine ⟨i + 1, ?_, by omega, by omega⟩
       have e1 : (((all.length - (idxT l i).length : Nat) : Int) - 1) = ((all.length - (idxT l (i + 1)).length : Nat) : Int) := by omega
       refine Weak.mk ?_ ?_ ?_ <;> simp (maxSteps := 2000000) only [go_sem, ↓reduceIte, Sub, Int.natCast_add, Int.natCast_mul, e1]
     ·have hil : i = l.length := by omega
      subst hil
      have e1 : ((all.length - (idxT l l.length).length : Nat) : Int) = 0 := by omega
      simp (maxSteps := 2000000) (disch := omega) only [go_sem, ↓reduceIte, e1]
end Go.Av.Try
set_option linter.unusedSimpArgs false
set_option maxRecDepth 100000
namespace Go.Av.Try
open Go.Proofs
theorem w_int : Try.prog.cellsOf 3 = 1 := by kernel_rfl
theorem w_str : Try.prog.cellsOf 9 = 1 := by kernel_rfl
theorem w_point : Try.prog.cellsOf 40 = 2 := by kernel_rfl
theorem w_box : Try.prog.cellsOf 42 = 4 := by kernel_rfl
theorem w_glyph : Try.prog.cellsOf 44 = 10 := by kernel_rfl
theorem point_of {k : Nat} {ds : List D} (h : OfT Try.prog k 40 ds) : ∃ x y : Int, ds = [.int .i64 x, .int .i64 y] := by
 cases k with
 | zero => exact h.elim
 | succ k =>
  unfold OfT at h
  rw [Try.underlying40] at h
  obtain ⟨h1, h2⟩ := h
  rw [w_point] at h1
  match ds, h1 with
  | [a, b], _ =>
   have f0 : OfT Try.prog k 3 (([a, b].drop 0).take (Try.prog.cellsOf 3)) := h2 0 _ rfl
   have f1 : OfT Try.prog k 3 (([a, b].drop 1).take (Try.prog.cellsOf 3)) := h2 1 _ rfl
   simp only [w_int, List.drop_zero, List.drop_succ_cons, List.take_succ_cons, List.take_zero] at f0 f1
   obtain ⟨n0, e0, _⟩ := f0.int Try.underlying3
   obtain ⟨n1, e1, _⟩ := f1.int Try.underlying3
   simp only [List.cons.injEq, and_true] at e0 e1
   exact ⟨n0, n1, by rw [e0, e1]⟩
theorem box_of {k : Nat} {ds : List D} (h : OfT Try.prog k 42 ds) : ∃ x y u v : Int, ds = [.int .i64 x, .int .i64 y, .int .i64 u, .int .i64 v] := by
 cases k with
 | zero => exact h.elim
 | succ k =>
  unfold OfT at h
  rw [Try.underlying42] at h
  obtain ⟨h1, h2⟩ := h
  rw [w_box] at h1
  match ds, h1 with
  | [a, b, c, d], _ =>
   have f0 : OfT Try.prog k 3 (([a, b, c, d].drop 0).take (Try.prog.cellsOf 3)) := h2 0 _ rfl
   have f1 : OfT Try.prog k 3 (([a, b, c, d].drop 1).take (Try.prog.cellsOf 3)) := h2 1 _ rfl
   have f2 : OfT Try.prog k 3 (([a, b, c, d].drop 2).take (Try.prog.cellsOf 3)) := h2 2 _ rfl
   have f3 : OfT Try.prog k 3 (([a, b, c, d].drop 3).take (Try.prog.cellsOf 3)) := h2 3 _ rfl
   simp only [w_int, List.drop_zero, List.drop_succ_cons, List.take_succ_cons, List.take_zero] at f0 f1 f2 f3
   obtain ⟨n0, e0, _⟩ := f0.int Try.underlying3
   obtain ⟨n1, e1, _⟩ := f1.int Try.underlying3
   obtain ⟨n2, e2, _⟩ := f2.int Try.underlying3
   obtain ⟨n3, e3, _⟩ := f3.int Try.underlying3
   simp only [List.cons.injEq, and_true] at e0 e1 e2 e3
   exact ⟨n0, n1, n2, n3, by rw [e0, e1, e2, e3]⟩
theorem gl_of {k : Nat} {ds : List D} (h : OfT Try.prog k 44 ds) : ∃ g : Gl, mkD ds = g.d := by
 cases k with
 | zero => exact h.elim
 | succ k =>
  unfold OfT at h
  rw [Try.underlying44] at h
  obtain ⟨h1, h2⟩ := h
  rw [w_glyph] at h1
  match ds, h1 with
  | [a, b, c, d, e, f, g, i, j, m], _ =>
   have f0 : OfT Try.prog k 9 (([a, b, c, d, e, f, g, i, j, m].drop 0).take (Try.prog.cellsOf 9)) := h2 0 _ rfl
   have f1 : OfT Try.prog k 40 (([a, b, c, d, e, f, g, i, j, m].drop 1).take (Try.prog.cellsOf 40)) := h2 1 _ rfl
   have f2 : OfT Try.prog k 40 (([a, b, c, d, e, f, g, i, j, m].drop 3).take (Try.prog.cellsOf 40)) := h2 2 _ rfl
   have f3 : OfT Try.prog k 3 (([a, b, c, d, e, f, g, i, j, m].drop 5).take (Try.prog.cellsOf 3)) := h2 3 _ rfl
   have f4 : OfT Try.prog k 42 (([a, b, c, d, e, f, g, i, j, m].drop 6).take (Try.prog.cellsOf 42)) := h2 4 _ rfl
   simp only [w_int, w_str, w_point, w_box, List.drop_zero, List.drop_succ_cons, List.take_succ_cons, List.take_zero] at f0 f1 f2 f3 f4
   obtain ⟨s, e0, _⟩ := f0.string Try.underlying9
   obtain ⟨n1, n2, e1⟩ := point_of f1
   obtain ⟨n3, n4, e2⟩ := point_of f2
   obtain ⟨n5, e3, _⟩ := f3.int Try.underlying3
   obtain ⟨n6, n7, n8, n9, e4⟩ := box_of f4
   simp only [List.cons.injEq, and_true] at e0 e1 e2 e3 e4
   exact ⟨⟨s, n1, n2, n3, n4, n5, n6, n7, n8, n9⟩, by rw [e0, e1.1, e1.2, e2.1, e2.2, e3, e4.1, e4.2.1, e4.2.2.1, e4.2.2.2]; rfl⟩
theorem all_gls : ∀ {l : List D}, (∀ x ∈ l, ∃ g : Gl, x = g.d) → ∃ gs : List Gl, l = glsD gs
 | [], _ => ⟨[], rfl⟩
 | x :: r, h => by
  obtain ⟨g, hg⟩ := h x (by simp)
  obtain ⟨gs, hr⟩ := all_gls (l := r) fun y hy => h y (by simp [hy])
  exact ⟨g :: gs, by rw [hg, hr]; rfl⟩
theorem gls_of {k : Nat} {x : D} (h : OfT Try.prog k 22 [x]) : ∃ l : List Gl, x = .list (glsD l) ∧ l.length ≤ maxLen := by
 obtain ⟨l, m, _, h1, h2, h3⟩ := h.slice Try.underlying22
 obtain ⟨gs, rfl⟩ := all_gls (l := l) fun y hy => by
  obtain ⟨cs, h4, h5⟩ := h3 y hy
  obtain ⟨g, h6⟩ := gl_of h5
  exact ⟨g, by rw [h4, h6]⟩
 cases h1
 exact ⟨gs, rfl, by rw [glsD_length] at h2; exact h2⟩
theorem bk_gls : ∀ {l : List Gl}, ∀ g ∈ l, g.tx.length + 1 ≤ bkL (glsD l)
 | [], g, h => by cases h
 | x :: r, g, h => by
  have e : bkL (glsD (x :: r)) = bkD x.d + bkL (glsD r) := rfl
  have e2 : x.tx.length + 1 ≤ bkD x.d := by simp only [Gl.d, bkD, bkL]; omega
  rcases List.mem_cons.1 h with rfl | h
  ·omega
  ·have := bk_gls g h
   omega
theorem gls_small {l : List Gl} (h : bkD (.list (glsD l)) ≤ 1048576) : ∀ g ∈ l, g.tx.length ≤ 1000000000 := fun g hg => by
 have := bk_gls g hg
 simp only [bkD] at h
 omega
end Go.Av.Try
