import Derived.Test.YtccakidkdefioaaWb
import Derived.Test.YtccakidkdefioaaAvI
set_option linter.unusedSimpArgs false
set_option maxRecDepth 100000
set_option maxHeartbeats 2000000
namespace Go.Av.Try
open Go.Proofs
def extW (rows : List (List Nat)) (i : Nat) : List (List Nat) := rows.dropLast ++ [rows.getLastD [] ++ [i]]
def addW (l : List Gl) (last : Option Nat) (rows : List (List Nat)) (i : Nat) : List (List Nat) := match last with
 | some j => if room l j i = true then rows ++ [[i]] else extW rows i
 | none => rows ++ [[i]]
def wordsR (l : List Gl) : Option Nat → List (List Nat) → List Nat → List (List Nat)
 | _, rows, [] => rows
 | last, rows, i :: r => wordsR l (some i) (addW l last rows i) r
def wordsOf (l : List Gl) (row : List Nat) : List (List Nat) := wordsR l none [] row
theorem extW_snoc (rs : List (List Nat)) (r : List Nat) (i : Nat) : extW (rs ++ [r]) i = rs ++ [r ++ [i]] := by
 simp [extW, List.getLastD_eq_getLast?]
def outS6 : List (List Nat × Nat) → Nat → AV
 | [], _ => .ns
 | _ :: r, co => .rs (.l 66) (r.length + 1) co
def outL6 : List (List Nat × Nat) → Nat → List (Nat × AObj)
 | [], _ => []
 | p :: r, co => (66, .cells (outA (p :: r) co)) :: famL 1000 (p :: r)
theorem outS6_snoc (rs : List (List Nat × Nat)) (p : List Nat × Nat) (co : Nat) : outS6 (rs ++ [p]) co = .rs (.l 66) (rs.length + 1) co := by
 cases rs <;> simp [outS6]
theorem outL6_snoc (rs : List (List Nat × Nat)) (p : List Nat × Nat) (co : Nat) : outL6 (rs ++ [p]) co = (66, .cells (outA (rs ++ [p]) co)) :: famL 1000 (rs ++ [p]) := by
 cases rs <;> rfl
structure Rwz (j : Nat) (rows : List (List Nat × Nat)) (co : Nat) : Prop where
 cap : ∀ p ∈ rows, p.1.length ≤ p.2 ∧ p.2 ≤ maxLen
 co : rows = [] ∨ (rows.length ≤ co ∧ co ≤ maxLen)
 len : rows.length ≤ j ∧ ∀ p ∈ rows, p.1.length ≤ j
 ne : 0 < j → rows ≠ []
theorem Rwz.zero : Rwz 0 [] 0 := ⟨fun p hp => (by cases hp), .inl rfl, ⟨Nat.zero_le _, fun p hp => by cases hp⟩, fun h => by cases h⟩
theorem Rwz.new {j i co co' : Nat} {rows : List (List Nat × Nat)} (h : Rwz j rows co) (hc : rows.length + 1 ≤ co' ∧ co' ≤ maxLen) : Rwz (j + 1) (rows ++ [([i], 1)]) co' := by
 refine ⟨fun p hp => ?_, .inr (by simpa using hc), ⟨by have := h.len.1; simp; omega, fun p hp => ?_⟩, fun _ => by simp⟩
 ·rcases List.mem_append.1 hp with hp | hp
  ·exact h.cap p hp
  ·rw [List.mem_singleton.1 hp]; exact ⟨by simp, by simp [maxLen]⟩
 ·rcases List.mem_append.1 hp with hp | hp
  ·have := h.len.2 p hp; omega
  ·rw [List.mem_singleton.1 hp]; simp
theorem Rwz.ext {j i co c' : Nat} {rs : List (List Nat × Nat)} {p : List Nat × Nat} (h : Rwz j (rs ++ [p]) co) (hc : p.1.length + 1 ≤ c' ∧ c' ≤ maxLen) : Rwz (j + 1) (rs ++ [(p.1 ++ [i], c')]) co := by
 refine ⟨fun q hq => ?_, .inr ?_, ⟨by have := h.len.1; simp at this ⊢; omega, fun q hq => ?_⟩, fun _ => by simp⟩
 ·rcases List.mem_append.1 hq with hq | hq
  ·exact h.cap q (by simp [hq])
  ·rw [List.mem_singleton.1 hq]; exact ⟨by simpa using hc.1, hc.2⟩
 ·have := h.co.resolve_left (by simp)
  simpa using this
 ·rcases List.mem_append.1 hq with hq | hq
  ·have := h.len.2 q (by simp [hq]); omega
  ·rw [List.mem_singleton.1 hq]
   have := h.len.2 p (by simp)
   simp; omega
def wordsD (W : List (List (List Nat))) : List D := W.map fun ws => .list (ws.map fun w => .list (nsD w))
def L_layout_Words : LCode :=
 .seq (.reg [⟨some 2, .nils 36 1, none⟩]) (.seq (.reg [⟨some 3, .nils 36 1, none⟩]) (.seq (.seq (.reg [Qc 10 0, ⟨some 11, .call 21 [.t 10], none⟩, Q 12 (.len false (.t 11)), Q 13 
 (.cp (Ki 0))]) (.block 0 (.loop (.seq (.reg [Q 14 (.bin .lss (.t 13) (.t 12))]) (.seq (.cond (.t 14) .skip (.exit 0)) (.seq (.block 1 (.seq (.reg [Q 15 (.ia 1 (.t 11) (.t 13)), Q 
 16 (.ld false 1 (.t 15)), Qa 5 16]) (.seq (.alt [([], ⟨some 6, .nils 26 1, none⟩)] []) (.seq (.seq (.reg [Qc 17 5, Q 18 (.len false (.t 17)), Q 19 (.cp (Ki 0))]) (.block 2 (.loop 
 (.seq (.reg [Q 20 (.bin .lss (.t 19) (.t 18))]) (.seq (.cond (.t 20) .skip (.exit 2)) (.seq (.block 3 (.seq (.reg [Qc 21 19, Q 22 (.ia 1 (.t 17) (.t 19)), Q 23 (.ld false 1 (.t 
 22)), Qa 7 21, Qa 8 23]) (.seq (.join (.seq (.reg [Qc 24 7, Q 25 (.bin .gtr (.t 24) (Ki 0))]) (.cond (.t 25) (.seq (.reg [Qc 26 0, Qc 27 5, Qc 28 7, Q 29 (.bin .sub (.t 28) (Ki 
 1)), Q 30 (.ia 1 (.t 27) (.t 29)), Q 31 (.ld false 1 (.t 30)), Q 32 (.ia 10 (.t 26) (.t 31)), Q 33 (.ld true 10 (.t 32)), ⟨some 9, .allo [.str [], .int .i64 0, .int .i64 0, .int 
 .i64 0, .int .i64 0, .int .i64 0, .int .i64 0, .int .i64 0, .int .i64 0, .int .i64 0], none⟩, ⟨none, .st 10 (.t 9) (.t 33), none⟩]) (.seq (.dreg [Qc 34 0, Qc 35 8, Q 36 (.ia 10 
 (.t 34) (.t 35)), Q 37 (.fa 1 (.t 36)), Q 38 (.fa 0 (.t 37)), Q 39 (.ld false 1 (.t 38)), Q 40 (.fa 3 (.t 9)), Q 41 (.fa 0 (.t 40)), Q 42 (.ld false 1 (.t 41)), Q 43 (.bin .sub 
 (.t 39) (.t 42)), Q 44 (.bin .mul (Ki 4) (.t 43)), Q 45 (.fa 5 (.t 9)), Q 46 (.ld false 1 (.t 45)), Q 47 (.bin .leq (.t 44) (.t 46))]) (.cond (.t 47) (.seq (.alt [([Qc 48 6, Qc 
 49 6, Q 50 (.len false (.t 49)), Q 51 (.bin .sub (.t 50) (Ki 1)), Qc 52 6, Qc 53 6, Q 54 (.len false (.t 53)), Q 55 (.bin .sub (.t 54) (Ki 1)), Q 56 (.ia 1 (.t 52) (.t 55)), Q 57 
 (.ld false 1 (.t 56)), Qc 58 8, ⟨some 59, .bsl 3 1 [.t 58], none⟩], ⟨some 60, .app 3 1 8 false (.t 57) (.t 59), none⟩)] [Q 61 (.ia 1 (.t 48) (.t 51)), ⟨none, .st 1 (.t 61) (.t 
 60), none⟩]) (.exit 3)) .skip))) .skip))) (.alt [([Qc 62 6, Qc 63 8], ⟨some 64, .bsl 3 1 [.t 63], none⟩), ([], ⟨some 65, .bsl 26 1 [.t 64], none⟩), ([], ⟨some 66, .app 26 1 24 
 false (.t 62) (.t 65), none⟩)] [Qa 6 66])))) (.reg [Q 67 (.bin .add (.t 19) (Ki 1)), Qc 19 67]))))))) (.alt [([Qc 68 3], Qc 69 6)] [⟨some 70, .bsl 36 1 [.t 69], none⟩, ⟨some 71, 
 .app 36 1 24 false (.t 68) (.t 70), none⟩, Qa 3 71]))))) (.reg [Q 72 (.bin .add (.t 13) (Ki 1)), Qc 13 72]))))))) (.seq (.reg [Qc 73 3, Qa 2 73]) .ret)))
def R_layout_Words : List LRes := [.tmp 2]
theorem lift_layout_Words : Lifts Try.prog 13 74 L_layout_Words R_layout_Words := ⟨_, _, Try.func13, rfl, by kernel_rfl, by kernel_rfl, rfl⟩
theorem words_call (l : List Gl) (hl : l.length ≤ 1000) (hok : ∀ g ∈ l, g.ok) : PCall Try.prog 13 [.list (glsD l)] (fun r => r = .one (.list (wordsD ((linesF l).map (wordsOf l))))) := by
 have hlt := linesF_lt (l := l)
 have hrw := linesF_row (l := l)
 have hll := linesF_len l
 have hne := linesF_ne (l := l)
 refine lift_layout_Words.call rfl ?_
 simp (maxSteps := 2000000) (disch := omega) only [go_sem, ↓reduceIte, L_layout_Words, R_layout_Words]
 refine CallG.of (lines_call l hl hok) ?_
 generalize linesF l = W at *
 have hWl : (W.map fun r => D.list (nsD r)).length = W.length := by simp
 simp (maxSteps := 2000000) only [go_sem, ↓reduceIte, hWl]
 refine run_loop (fun n : Nat => ⟨[(0, .d (.list (glsD l))), (3, .own (.t 3) 36 1 (wordsD ((W.take n).map (wordsOf l)))), (11, .d (.list (W.map fun r => D.list (nsD r)))), (12, .d (.int .i64 (W.length : Nat))), (13, .d (.int .i64 (n : Nat)))], [], []⟩)
  (fun n => n ≤ W.length) (fun n => W.length - n) 0 ?_ (Nat.zero_le _) ?_
 ·refine Weak.mk ?_ ?_ ?_ <;> simp (maxSteps := 2000000) only [go_sem, ↓reduceIte, Sub, Int.natCast_add, Int.natCast_mul, wordsD]
 ·intro n hn
  simp (maxSteps := 2000000) only [go_sem, ↓reduceIte]
  refine ⟨fun hlt1 => ?_, fun hge => ?_⟩
  ·obtain ⟨row, hrow⟩ := get_some (l := W) (i := n) (by omega)
   have hrl := hlt row (List.mem_of_getElem? hrow)
   have hrwl := hrw row (List.mem_of_getElem? hrow)
   have hget : (W.map fun r => D.list (nsD r))[n]? = some (.list (nsD row)) := by rw [List.getElem?_map, hrow]; rfl
   have hlenr : ((nsD row).length : Int) = (row.length : Int) := by rw [nsD_len]
   simp (maxSteps := 2000000) (disch := omega) only [go_sem, ↓reduceIte, hWl, getI_nat, hget]
   refine AStep.nils ?_
   simp (maxSteps := 2000000) only [go_sem, ↓reduceIte, hlenr]
   refine run_loop (fun y : Nat × List (List Nat × Nat) × Nat => ⟨[(0, .d (.list (glsD l))), (3, .own (.t 3) 36 1 (wordsD ((W.take n).map (wordsOf l)))), (5, .d (.list (nsD row))), (6, outS6 y.2.1 y.2.2), (11, .d (.list (W.map fun r => D.list (nsD r)))), (12, .d (.int .i64 (W.length : Nat))), (13, .d (.int .i64 (n : Nat))), (17, .d (.list (nsD row))), (18, .d (.int .i64 (row.length : Nat))), (19, .d (.int .i64 (y.1 : Nat)))], outL6 y.2.1 y.2.2, []⟩)
    (fun y => y.1 ≤ row.length ∧ Rwz y.1 y.2.1 y.2.2 ∧ wordsOf l row = wordsR l (if y.1 = 0 then none else row[y.1 - 1]?) (y.2.1.map Prod.fst) (row.drop y.1)) (fun y => row.length - y.1) (0, [], 0) ?_ ?_ ?_
   ·refine Weak.mk ?_ ?_ ?_ <;> simp (maxSteps := 2000000) only [go_sem, ↓reduceIte, Sub, Int.natCast_add, Int.natCast_mul, outS6, outL6]
   ·exact ⟨Nat.zero_le _, Rwz.zero, rfl⟩
   ·rintro ⟨k, rows, co⟩ ⟨hk, hR, hF⟩
    simp only at hk hR hF
    simp (maxSteps := 2000000) only [go_sem, ↓reduceIte]
    refine ⟨fun hlt2 => ?_, fun hge2 => ?_⟩
    ·obtain ⟨i, hi⟩ := get_some (l := row) (i := k) (by omega)
     have hil := hrl i (List.mem_of_getElem? hi)
     have hgi : (glsD l)[i]? = some (glAt l i).d := by rw [glsD_get, glAt_get hil]; rfl
     have hni : (nsD row)[k]? = some (.int .i64 (i : Nat)) := by rw [nsD_get, hi]; rfl
     have hmi := List.mem_of_getElem? (glAt_get hil)
     have hoi := hok (glAt l i) hmi
     obtain ⟨o1, o2, o3, o4, o5⟩ := hoi
     unfold inB at o1 o2 o3 o4 o5
     rw [drop_at hi, wordsR] at hF
     have hnx : (if k + 1 = 0 then none else row[k + 1 - 1]?) = some i := by rw [if_neg (by omega), Nat.add_sub_cancel, hi]
     simp (maxSteps := 2000000) (disch := omega) only [go_sem, ↓reduceIte, hlenr, getI_nat, hni]
     by_cases h0 : k = 0
     ·have z : (0 < (k : Int)) = False := eq_false (by omega)
      rw [if_pos h0] at hF
      have hr0 : rows = [] := List.length_eq_zero_iff.1 (by have := hR.len.1; omega)
      subst hr0
      have hs0 : outS6 [] co = .ns := rfl
      have hb0 : outL6 [] co = [] := rfl
      refine run_joinX ⟨[(0, .d (.list (glsD l))), (3, .own (.t 3) 36 1 (wordsD ((W.take n).map (wordsOf l)))), (5, .d (.list (nsD row))), (6, .ns), (8, .d (.int .i64 (i : Nat))), (11, .d (.list (W.map fun r => D.list (nsD r)))), (12, .d (.int .i64 (W.length : Nat))), (13, .d (.int .i64 (n : Nat))), (17, .d (.list (nsD row))), (18, .d (.int .i64 (row.length : Nat))), (19, .d (.int .i64 (k : Nat)))], [], []⟩ ?_ ?_
      ·simp (maxSteps := 2000000) (disch := omega) only [go_sem, ↓reduceIte, z, hs0, hb0]
       refine Gho.wk ?_
       refine Weak.mk ?_ ?_ ?_ <;> simp (maxSteps := 2000000) only [go_sem, ↓reduceIte, Sub, Int.natCast_add, Int.natCast_mul]
      ·simp (maxSteps := 2000000) (disch := omega) only [go_sem, ↓reduceIte]
       refine AStep.bsl1 (r := 1000) (y := .d (.int .i64 (i : Nat))) rfl (int_ok _ _) one_int ?_
       rw [show rowA [.d (.int .i64 (i : Nat))] 1 = rowN [i] 1 from rfl]
       simp (maxSteps := 2000000) (disch := omega) only [go_sem, ↓reduceIte]
       refine AStep.bsl1 (r := 65) (y := .rs (.l 1000) 1 1) rfl (rs_ok (by omega)) one_rs ?_
       simp (maxSteps := 2000000) (disch := omega) only [go_sem, ↓reduceIte]
       refine AStep.app1 (r := 66) (c := 0) (cs := []) (y := .rs (.l 1000) 1 1) rowsSl (.inl ⟨rfl, rfl⟩) (Src1.rs rfl) (fun z hz => by cases hz) (rs_ok (by omega)) (by simp [maxLen]) (fun c' h1 h2 => ?_)
       rw [show rowA ([] ++ [AV.rs (.l 1000) 1 1]) c' = outA [([i], 1)] c' from rfl]
       simp (maxSteps := 2000000) (disch := omega) only [go_sem, ↓reduceIte]
       refine ⟨(k + 1, [([i], 1)], c'), ?_, ⟨by simp only; omega, hR.new ⟨h1, h2⟩, ?_⟩, by simp only; omega⟩
       ·refine Weak.mk ?_ ?_ ?_ <;> simp (maxSteps := 2000000) only [go_sem, ↓reduceIte, Sub, Int.natCast_add, Int.natCast_mul, outS6, outL6, famL]
       ·simp only [hnx]; exact hF
     ·have z : (0 < (k : Int)) = True := eq_true (by omega)
      obtain ⟨j, hj⟩ := get_some (l := row) (i := k - 1) (by omega)
      have hjl := hrl j (List.mem_of_getElem? hj)
      have hgj : (glsD l)[j]? = some (glAt l j).d := by rw [glsD_get, glAt_get hjl]; rfl
      have hnj : (nsD row)[k - 1]? = some (.int .i64 (j : Nat)) := by rw [nsD_get, hj]; rfl
      have hoj := hok (glAt l j) (List.mem_of_getElem? (glAt_get hjl))
      obtain ⟨u1, u2, u3, u4, u5⟩ := hoj
      unfold inB at u1 u2 u3 u4 u5
      have e1 : ((k : Int) - 1) = ((k - 1 : Nat) : Int) := by omega
      rw [if_neg h0, hj] at hF
      have hroom : room l j i = decide ((glAt l j).sz < 4 * ((glAt l i).ax - (glAt l j).ex)) := rfl
      rcases List.eq_nil_or_concat rows with rfl | ⟨rs, p, rfl⟩
      ·exact absurd rfl (hR.ne (by omega))
      rw [List.concat_eq_append] at *
      have hs0 := outS6_snoc rs p co
      have hb0 := outL6_snoc rs p co
      have hco := hR.co.resolve_left (by simp)
      have hp := hR.cap p (by simp)
      have hrl' := hR.len.1
      have hpl := hR.len.2 p (by simp)
      simp only [List.length_append, List.length_cons, List.length_nil, Nat.zero_add] at hco hrl'
      have hmap : (rs ++ [p]).map Prod.fst = rs.map Prod.fst ++ [p.1] := by simp
      have ek : (((rs.length + 1 : Nat) : Int) - 1) = ((rs.length : Nat) : Int) := by omega
      have l2 : (outA (rs ++ [p]) co)[((rs.length : Nat) : Int).toNat * 1]? = some (.rs (.l (1000 + rs.length)) p.1.length p.2) := by
       rw [show ((rs.length : Nat) : Int).toNat * 1 = rs.length by omega]
       exact outA_get (by simp)
      have l3 : aget (famL 1000 (rs ++ [p])) (1000 + rs.length) = some (.cells (rowN p.1 p.2)) := famL_at (by simp)
      have n3 : (66 = 1000 + rs.length) = False := eq_false (by omega)
      have n4 : (9 = 1000 + rs.length) = False := eq_false (by omega)
      have l5 := outA_drop (d := 9) (co := co) (rs ++ [p]) (by omega)
      have l6 := amap_famL (.l 9) 1000 (rs ++ [p])
      have l7 : ∀ o : AObj, aset (famL 1000 (rs ++ [p])) 9 o = famL 1000 (rs ++ [p]) ++ [(9, o)] := fun o => aset_fam10 (by omega)
      have l8 : ∀ o : AObj, aget (famL 1000 (rs ++ [p]) ++ [(9, o)]) 9 = some o := fun o => by rw [aget_append, famL_off (by omega)]; rfl
      have l9 : ∀ o : AObj, aget (famL 1000 (rs ++ [p]) ++ [(9, o)]) (1000 + rs.length) = some (.cells (rowN p.1 p.2)) := fun o => by rw [aget_append, l3]; rfl
      have l10 : ∀ o o' : AObj, aset (famL 1000 (rs ++ [p]) ++ [(9, o)]) 9 o' = famL 1000 (rs ++ [p]) ++ [(9, o')] := fun o o' => by rw [aset_fam_off (by omega)]; rfl
      by_cases hrm : (glAt l j).sz < 4 * ((glAt l i).ax - (glAt l j).ex)
      ·have zn : (4 * ((glAt l i).ax - (glAt l j).ex) ≤ (glAt l j).sz) = False := eq_false (by omega)
       have hF : wordsOf l row = wordsR l (some i) ((rs ++ [p]).map Prod.fst ++ [[i]]) (row.drop (k + 1)) := by
        rw [hF, addW, hroom, decide_eq_true hrm, if_pos rfl]
       refine run_joinX ⟨[(0, .d (.list (glsD l))), (3, .own (.t 3) 36 1 (wordsD ((W.take n).map (wordsOf l)))), (5, .d (.list (nsD row))), (6, .rs (.l 66) (rs ++ [p]).length co), (8, .d (.int .i64 (i : Nat))), (11, .d (.list (W.map fun r => D.list (nsD r)))), (12, .d (.int .i64 (W.length : Nat))), (13, .d (.int .i64 (n : Nat))), (17, .d (.list (nsD row))), (18, .d (.int .i64 (row.length : Nat))), (19, .d (.int .i64 (k : Nat)))], (66, .cells (outA (rs ++ [p]) co)) :: famL 1000 (rs ++ [p]), []⟩ ?_ ?_
       ·simp (maxSteps := 2000000) (disch := omega) only [go_sem, ↓reduceIte, z, hs0, hb0, e1, zn, n3, n4, l5, l6, l7, l8, l9, l10, getI_nat, hnj, hgj, hgi, Gl.d]
        refine Gho.wk ?_
        refine Weak.mk ?_ ?_ ?_ <;> simp (maxSteps := 2000000) only [go_sem, ↓reduceIte, Sub, Int.natCast_add, Int.natCast_mul, List.length_append]
        exact sub_fam_cons (by omega) sub_fam_app
       ·clear l2 l3 l5 l6 l7 l8 l9 l10 n3 n4 hs0 hb0
        have hRl : (rs ++ [p]).length = rs.length + 1 := by simp
        rw [← hRl] at hco hrl'
        generalize rs ++ [p] = R at *
        clear hmap
        have n3 : (66 = 1000 + R.length) = False := eq_false (by omega)
        have n4 : (65 = 1000 + R.length) = False := eq_false (by omega)
        have m1 := outA_dropN (co := co) R
        have m2 := amap_famL (.l (1000 + R.length)) 1000 R
        have m3 : aset (famL 1000 R) (1000 + R.length) (.cells (rowN [i] 1)) = famL 1000 (R ++ [([i], 1)]) := aset_fam_new (q := ([i], 1))
        simp (maxSteps := 2000000) (disch := omega) only [go_sem, ↓reduceIte]
        refine AStep.bsl1 (r := 1000 + R.length) (y := .d (.int .i64 (i : Nat))) rfl (int_ok _ _) one_int ?_
        rw [show rowA [.d (.int .i64 (i : Nat))] 1 = rowN [i] 1 from rfl]
        simp (maxSteps := 2000000) (disch := omega) only [go_sem, ↓reduceIte, n3, m1, m2, m3]
        have d1 := outA_drop (d := 65) (co := co) R (by omega)
        have d2 := amap_famL (.l 65) 1000 (R ++ [([i], 1)])
        have d3 : ∀ o : AObj, aset (famL 1000 (R ++ [([i], 1)])) 65 o = famL 1000 (R ++ [([i], 1)]) ++ [(65, o)] := fun o => aset_fam10 (by omega)
        refine AStep.bsl1 (r := 65) (y := .rs (.l (1000 + R.length)) 1 1) rfl (rs_ok (by omega)) one_rs ?_
        simp (maxSteps := 2000000) (disch := omega) only [go_sem, ↓reduceIte, d1, d2, d3]
        have e1 := outA_drop (d := 66) (co := co) R (by omega)
        have e2 : ∀ o : AObj, amap (dropObj (.l 66)) (famL 1000 (R ++ [([i], 1)]) ++ [(65, o)]) = famL 1000 (R ++ [([i], 1)]) ++ [(65, dropObj (.l 66) o)] := fun o => by rw [amap_app, amap_famL]; rfl
        have hcl : (outC 1000 (rowsD R)).length = R.length := by rw [outC_len, rowsD_len]
        refine AStep.app1 (r := 66) (c := co) (cs := outC 1000 (rowsD R)) (y := .rs (.l (1000 + R.length)) 1 1) rowsSl (.inr ⟨by rw [hcl]; rfl, rfl, by rw [hcl]; exact hco.1, hco.2⟩) (Src1.rs (cs := []) ?_) (fun z hz => outC_has hz (.inl (by omega))) (rs_ok (by omega)) (by rw [hcl]; simp only [maxLen]; omega) (fun c' h1 h2 => ?_)
        ·simp only [St.obj, aget, Nat.reduceEqDiff, ↓reduceIte]
         rw [aget_append, famL_off (by omega)]; rfl
        have e3 : rowA (outC 1000 (rowsD R) ++ [AV.rs (.l (1000 + R.length)) 1 1]) c' = outA (R ++ [([i], 1)]) c' := outC_new (q := ([i], 1))
        rw [e3, hcl]
        rw [hcl] at h1
        simp (maxSteps := 2000000) (disch := omega) only [go_sem, ↓reduceIte, e1, e2]
        refine ⟨(k + 1, R ++ [([i], 1)], c'), ?_, ⟨by simp only; omega, hR.new ⟨h1, h2⟩, ?_⟩, by simp only; omega⟩
        ·refine Weak.mk ?_ ?_ ?_ <;> simp (maxSteps := 2000000) only [go_sem, ↓reduceIte, Sub, Int.natCast_add, Int.natCast_mul, outS6_snoc, outL6_snoc]
         exact sub_fam_cons (by omega) sub_fam_app
        ·simp only [hnx]
         rw [hF]; simp
      ·have zn : (4 * ((glAt l i).ax - (glAt l j).ex) ≤ (glAt l j).sz) = True := eq_true (by omega)
       have hF : wordsOf l row = wordsR l (some i) (rs.map Prod.fst ++ [p.1 ++ [i]]) (row.drop (k + 1)) := by
        rw [hF, addW, hroom, decide_eq_false hrm, if_neg (by simp), hmap, extW_snoc]
       refine run_joinP ?_
       simp (maxSteps := 2000000) (disch := omega) only [go_sem, ↓reduceIte, z, hs0, hb0, e1, zn, n3, n4, l2, l3, l5, l6, l7, l8, l9, l10, ek, getI_nat, hnj, hgj, hgi, Gl.d]
       refine ⟨⟨by omega, by omega⟩, ?_⟩
       have hpl2 : (nsA p.1).length = p.1.length := nsA_len _
       refine AStep.app1 (r := 1000 + rs.length) (c := p.2) (cs := nsA p.1) (y := .d (.int .i64 (i : Nat))) intsSl (.inr ⟨by rw [nsA_len]; rfl, ?_, by rw [nsA_len]; exact hp.1, hp.2⟩) (Src1.own rfl) (nsA_ok _ _) (int_ok _ _) (by rw [nsA_len]; simp only [maxLen]; omega) (fun c' h1 h2 => ?_)
       ·simp only [St.obj, aget, n3, if_false]
        exact l9 _
       rw [rowN_snoc, hpl2] at *
       have m1 : ∀ o : AObj, amap (dropObj (.l (1000 + rs.length))) (famL 1000 (rs ++ [p]) ++ [(9, o)]) = famL 1000 (rs ++ [p]) ++ [(9, dropObj (.l (1000 + rs.length)) o)] := fun o => by rw [amap_app, amap_famL]; rfl
       have m2 : ∀ m : List (Nat × AObj), aset (famL 1000 (rs ++ [p]) ++ m) (1000 + rs.length) (.cells (rowN (p.1 ++ [i]) c')) = famL 1000 (rs ++ [(p.1 ++ [i], c')]) ++ m := fun m => aset_fam_last (q := (p.1 ++ [i], c'))
       have m3 : ((outA (rs ++ [p]) co).map (AV.drop (.l (1000 + rs.length)))).set (((rs.length : Nat) : Int).toNat * 1) (.rs (.l (1000 + rs.length)) (p.1.length + 1) c') = outA (rs ++ [(p.1 ++ [i], c')]) co := by
        rw [show ((rs.length : Nat) : Int).toNat * 1 = rs.length by omega]
        have := outA_junk (rows := rs) (co := co) (p := p) (q := (p.1 ++ [i], c'))
        rw [List.length_append] at this
        exact this
       have m4 : ((outA (rs ++ [p]) co).map (AV.drop (.l (1000 + rs.length)))).length = co := by rw [List.length_map]; exact outA_len (by simp; omega)
       simp (maxSteps := 2000000) (disch := omega) only [go_sem, ↓reduceIte, n3, n4, m1, m2, m3, m4]
       refine ⟨by omega, by omega, (k + 1, rs ++ [(p.1 ++ [i], c')], co), ?_, ⟨by simp only; omega, hR.ext ⟨h1, h2⟩, ?_⟩, by simp only; omega⟩
       ·refine Weak.mk ?_ ?_ ?_ <;> simp (maxSteps := 2000000) only [go_sem, ↓reduceIte, Sub, Int.natCast_add, Int.natCast_mul, outS6_snoc, outL6_snoc]
        exact sub_fam_cons (by omega) sub_fam_app
       ·simp only [hnx]
        rw [hF]; simp
    ·have hkn : k = row.length := by omega
     subst hkn
     have hrne := hR.ne (List.length_pos_iff.2 (hne row (List.mem_of_getElem? hrow)))
     rw [List.drop_length, wordsR] at hF
     have hs0 : outS6 rows co = .rs (.l 66) rows.length co := by
      cases rows with
      | nil => exact absurd rfl hrne
      | cons q qs => rfl
     have hb0 : outL6 rows co = (66, .cells (outA rows co)) :: famL 1000 rows := by
      cases rows with
      | nil => exact absurd rfl hrne
      | cons q qs => rfl
     have hco := hR.co.resolve_left hrne
     have hrj := hR.len.1
     rw [hs0, hb0]
     refine AStep.ghost (AStep.step rfl (fun _ _ _ h => by cases h) rfl ?_)
     have hres : (rowsD rows).map (fun p => D.list p.1) = (wordsOf l row).map fun r => .list (nsD r) := by
      rw [hF]
      simp [rowsD]
     refine ⟨⟨[(0, .d (.list (glsD l))), (3, .own (.t 3) 36 1 (wordsD ((W.take n).map (wordsOf l)))), (11, .d (.list (W.map fun r => D.list (nsD r)))), (12, .d (.int .i64 (W.length : Nat))), (13, .d (.int .i64 (n : Nat))), (68, .own (.t 3) 36 1 (wordsD ((W.take n).map (wordsOf l)))), (69, .d (.list ((wordsOf l row).map fun r => .list (nsD r))))], [], []⟩, Gh.rows (o := 66) (a := 1000) (co := co) (s := 69) (rows := rowsD rows) ⟨fun t x hx ht => ?_, fun r ob h => ?_⟩ (.inl (by omega)) (fun p hp => ?_) (by rw [rowsD_len]; exact hco.1) ⟨?_, ?_, fun k p _ hp => ?_, fun t x hx ht => ?_, fun r ob h => ?_⟩ ?_, ?_⟩
     ·simp only [aget] at hx
      repeat' split at hx
      all_goals first | (cases hx; trivial) | cases hx
     ·cases r <;> cases h
     ·obtain ⟨q, hq, rfl⟩ := List.mem_map.1 hp
      exact ⟨nsD_one _, by rw [nsD_len]; exact (hR.cap q hq).1⟩
     ·rw [rowsD_len]; rfl
     ·rfl
     ·rw [rowsD_get] at hp
      cases hk : rows[k]? with
      | none => rw [hk] at hp; cases hp
      | some q =>
       rw [hk] at hp
       cases hp
       rw [St.obj_put]
       simp only [St.obj, aget]
       rw [if_neg (by omega), famL_at hk, rowN, nsA_nsD]
     ·simp only [aget] at hx
      repeat' split at hx
      all_goals first | (cases hx; subst_vars; first | rfl | exact absurd rfl ht) | cases hx
     ·cases r <;> cases h
     ·rw [hres]; rfl
     ·have hwl : (wordsD ((W.take n).map (wordsOf l))).length = n := by simp [wordsD]; omega
      have hwn : wordsD ((W.take n).map (wordsOf l)) ++ [.list ((wordsOf l row).map fun r => .list (nsD r))] = wordsD ((W.take (n + 1)).map (wordsOf l)) := by
       rw [List.take_add_one, hrow]; simp [wordsD]
      simp (maxSteps := 2000000) (disch := omega) only [go_sem, ↓reduceIte, hwn]
      refine ⟨⟨by omega, by omega⟩, n + 1, ?_, by omega, by omega⟩
      refine Weak.mk ?_ ?_ ?_ <;> simp (maxSteps := 2000000) only [go_sem, ↓reduceIte, Sub, Int.natCast_add, Int.natCast_mul]
  ·have hnn : n = W.length := by omega
   subst hnn
   rw [List.take_length]
end Go.Av.Try
set_option linter.unusedSimpArgs false
set_option maxRecDepth 100000
set_option maxHeartbeats 2000000
namespace Go.Av.Try
open Go.Proofs
def cellsV (V : List (List Nat)) : List AV := V.map fun r => .d (.list (nsD r))
theorem cellsV_len (V : List (List Nat)) : (cellsV V).length = V.length := by simp [cellsV]
def outS7 : List (List Nat) → Nat → AV
 | [], _ => .ns
 | _ :: V, c => .rs (.l 120) (V.length + 1) c
def outL7 : List (List Nat) → Nat → List (Nat × AObj)
 | [], _ => []
 | r :: V, c => [(120, .cells (rowA (cellsV (r :: V)) c))]
theorem outS7_of {V : List (List Nat)} {c : Nat} (h : V ≠ []) : outS7 V c = .rs (.l 120) V.length c := by
 cases V with
 | nil => exact absurd rfl h
 | cons x r => rfl
theorem outL7_of {V : List (List Nat)} {c : Nat} (h : V ≠ []) : outL7 V c = [(120, .cells (rowA (cellsV V) c))] := by
 cases V with
 | nil => exact absurd rfl h
 | cons x r => rfl
theorem cellsV_ok (V : List (List Nat)) (d : Nat) : ∀ y ∈ cellsV V, okCell d y := fun y hy => by
 simp only [cellsV, List.mem_map] at hy
 obtain ⟨n, _, rfl⟩ := hy
 exact ⟨rfl, rfl, fun e he => by cases he⟩
theorem rowV_drop (r : Ref) (V : List (List Nat)) (c : Nat) : (rowA (cellsV V) c).map (AV.drop r) = rowA (cellsV V) c := by
 refine (List.map_congr_left fun x hx => ?_).trans (List.map_id _)
 rcases List.mem_append.1 hx with hx | hx
 ·simp only [cellsV, List.mem_map] at hx
  obtain ⟨n, _, rfl⟩ := hx
  rfl
 ·rw [(List.mem_replicate.1 hx).2]; rfl
attribute [go_sem] rowV_drop
theorem rowV_frz (a : Nat) (fs : List D) (k : Nat) (V : List (List Nat)) (c : Nat) : frzLO a fs k (.cells (rowA (cellsV V) c)) = .cells (rowA (cellsV V) c) := by
 refine congrArg AObj.cells ((List.map_congr_left fun x hx => ?_).trans (List.map_id _))
 rcases List.mem_append.1 hx with hx | hx
 ·simp only [cellsV, List.mem_map] at hx
  obtain ⟨n, _, rfl⟩ := hx
  rfl
 ·rw [(List.mem_replicate.1 hx).2]; rfl
theorem rowV_set {W : List (List Nat)} {x y : List Nat} {c n : Nat} (h : n = W.length) : (rowA (cellsV (W ++ [x])) c).set n (.d (.list (nsD y))) = rowA (cellsV (W ++ [y])) c := by
 subst h
 have e : ∀ z, rowA (cellsV (W ++ [z])) c = cellsV W ++ (.d (.list (nsD z)) :: List.replicate (c - (W.length + 1)) .junk) := fun z => by simp [rowA, cellsV]
 have hl : (cellsV W).length = W.length := cellsV_len W
 rw [e, e, List.set_append_right _ _ (by omega), hl, Nat.sub_self, List.set_cons_zero]
/-! ### The row with one more: made in any order -/
def famFL (O : List Nat) (V : List (List Nat)) (r' : List Nat) (co j i m : Nat) : List (Nat × Nat × AV) :=
 [(0, 125, .rs (.l 120) V.length co), (1, 126, .d (.int .i64 ((m : Int) + 1))), (2, 127, .d (.int .i64 (m : Nat))), (3, 128, .ptr (.l 120) (m * 1)), (4, 129, .d (.list (nsD r'))),
  (6, 131, .d (.list (nsD O))), (7, 132, .d (.int .i64 (j : Nat))), (8, 133, .dptr [.int .i64 (i : Nat)]), (9, 134, .d (.int .i64 (i : Nat))), (10, 135, .own (.t 135) 3 1 [.int .i64 (i : Nat)])]
theorem famFL_ok (O : List Nat) (V : List (List Nat)) (r' : List Nat) (co j i m : Nat) : FactsOK (famFL O V r' co j i m) := by
 constructor <;> simp [famFL]
def famBL (l : List Gl) (O : List Nat) (V : List (List Nat)) (co f j m : Nat) : List (Nat × AV) :=
 [(0, .d (.list (glsD l))), (3, .d (.list (nsD O))), (7, .rs (.l 120) V.length co), (8, .d (.int .i64 (f : Nat))), (9, .d (.int .i64 (j : Nat))), (11, .d (.int .i64 ((m : Int) + 1)))]
def famOL (V : List (List Nat)) (co : Nat) : List (Ref × AObj) := [(.l 120, .cells (rowA (cellsV V) co))]
structure famJ (r' : List Nat) (i : Nat) (done : Nat → Bool) (τ : St) : Prop where
 a : done 5 = true → done 11 = false → ∃ c, r'.length ≤ c ∧ c ≤ maxLen ∧ aget τ.ρ 130 = some (.rs (.l 130) r'.length c) ∧ τ.obj (.l 130) = some (.cells (rowC 1 (nsD r') c))
 b : done 11 = true → done 5 = true ∧ ∃ c, r'.length + 1 ≤ c ∧ c ≤ maxLen ∧ aget τ.ρ 136 = some (.rs (.l 130) (r'.length + 1) c) ∧ τ.obj (.l 130) = some (.cells (rowC 1 (nsD (r' ++ [i])) c)) ∧ (done 12 = true → aget τ.ρ 12 = some (.rs (.l 130) (r'.length + 1) c))
 c : done 12 = true → done 11 = true
theorem famJ.put {r' : List Nat} {i : Nat} {done : Nat → Bool} {τ : St} (h : famJ r' i done τ) {k d : Nat} {z : AV} (hk : k ≠ 5 ∧ k ≠ 11 ∧ k ≠ 12) (hd : d ≠ 130 ∧ d ≠ 136 ∧ d ≠ 12) : famJ r' i (fun x => x == k || done x) (τ.put d z) := by
 have e5 : (5 == k) = false := by simpa using fun e : 5 = k => hk.1 e.symm
 have e11 : (11 == k) = false := by simpa using fun e : 11 = k => hk.2.1 e.symm
 have e12 : (12 == k) = false := by simpa using fun e : 12 = k => hk.2.2 e.symm
 refine ⟨fun h5 h11 => ?_, fun h11 => ?_, fun h12 => ?_⟩
 ·simp only [e5, e11, Bool.false_or] at h5 h11
  obtain ⟨c, c1, c2, c3, c4⟩ := h.a h5 h11
  exact ⟨c, c1, c2, by simp only [St.put, aget_acons]; rw [if_neg hd.1]; exact c3, by rw [St.obj_put]; exact c4⟩
 ·simp only [e5, e11, e12, Bool.false_or] at h11 ⊢
  obtain ⟨h5, c, c1, c2, c3, c4, c5⟩ := h.b h11
  exact ⟨h5, c, c1, c2, by simp only [St.put, aget_acons]; rw [if_neg hd.2.1]; exact c3, by rw [St.obj_put]; exact c4, fun e => by simp only [St.put, aget_acons]; rw [if_neg hd.2.2]; exact c5 e⟩
 ·simp only [e11, e12, Bool.false_or] at h12 ⊢
  exact h.c h12
theorem famJ.erase {r' : List Nat} {i : Nat} {done : Nat → Bool} {τ : St} (h : famJ r' i done τ) {q : Nat} : famJ r' i done (τ.erase (.t q)) := by
 have ho : (τ.erase (.t q)).obj (.l 130) = τ.obj (.l 130) := rfl
 refine ⟨fun h5 h11 => ?_, fun h11 => ?_, h.c⟩
 ·obtain ⟨c, c1, c2, c3, c4⟩ := h.a h5 h11
  exact ⟨c, c1, c2, by rw [erase_ρ, aget_amap, c3]; rfl, by rw [ho]; exact c4⟩
 ·obtain ⟨h5, c, c1, c2, c3, c4, c5⟩ := h.b h11
  exact ⟨h5, c, c1, c2, by rw [erase_ρ, aget_amap, c3]; rfl, by rw [ho]; exact c4, fun e => by rw [erase_ρ, aget_amap, c5 e]; rfl⟩
structure famI (l : List Gl) (O : List Nat) (V : List (List Nat)) (r' : List Nat) (co f j i m : Nat) (done : Nat → Bool) (τ : St) : Prop where
 F : Facts (famFL O V r' co j i m) done τ
 B : BFacts (famBL l O V co f j m) τ
 O : OFacts (famOL V co) τ
 J : famJ r' i done τ
theorem famI_0 {l : List Gl} {O : List Nat} {V : List (List Nat)} {r' : List Nat} {co f j i m : Nat} {τ : St} (hB : BFacts (famBL l O V co f j m) τ) (hO : OFacts (famOL V co) τ) : famI l O V r' co f j i m (fun _ => false) τ :=
 ⟨fun e he h => (by cases h), hB, hO, ⟨fun h => (by cases h), fun h => (by cases h), fun h => by cases h⟩⟩
theorem famI.val {l : List Gl} {O : List Nat} {V : List (List Nat)} {r' : List Nat} {co f j i m : Nat} {done : Nat → Bool} {τ : St} (h : famI l O V r' co f j i m done τ) {k d : Nat} {z : AV} (hm : (k, d, z) ∈ famFL O V r' co j i m) (hk : k ≠ 5 ∧ k ≠ 11 ∧ k ≠ 12) (hd : 125 ≤ d ∧ d ≠ 130 ∧ d ≠ 136) : famI l O V r' co f j i m (fun x => x == k || done x) (τ.put d z) :=
 ⟨h.F.put (famFL_ok ..) hm, h.B.put (fun e he => by
  simp only [famBL, List.mem_cons, List.not_mem_nil, or_false] at he
  rcases he with rfl | rfl | rfl | rfl | rfl | rfl <;> simp only <;> omega), h.O.put, h.J.put hk (by omega)⟩
theorem famFL_drop {O : List Nat} {V : List (List Nat)} {r' : List Nat} {co j i m : Nat} : ∀ e ∈ famFL O V r' co j i m, e.2.2.drop (.l 130) = e.2.2 := fun e he => by
 simp only [famFL, List.mem_cons, List.not_mem_nil, or_false] at he
 rcases he with rfl | rfl | rfl | rfl | rfl | rfl | rfl | rfl | rfl | rfl <;> rfl
theorem famBL_drop {l : List Gl} {O : List Nat} {V : List (List Nat)} {co f j m : Nat} : ∀ e ∈ famBL l O V co f j m, e.2.drop (.l 130) = e.2 := fun e he => by
 simp only [famBL, List.mem_cons, List.not_mem_nil, or_false] at he
 rcases he with rfl | rfl | rfl | rfl | rfl | rfl <;> rfl
theorem famBL_erase {l : List Gl} {O : List Nat} {V : List (List Nat)} {co f j m : Nat} : ∀ e ∈ famBL l O V co f j m, e.2.erase (.t 135) = e.2 := fun e he => by
 simp only [famBL, List.mem_cons, List.not_mem_nil, or_false] at he
 rcases he with rfl | rfl | rfl | rfl | rfl | rfl <;> rfl
theorem famOL_drop {V : List (List Nat)} {co : Nat} : ∀ e ∈ famOL V co, dropObj (.l 130) e.2 = e.2 := fun e he => by
 simp only [famOL, List.mem_singleton] at he
 subst he
 exact congrArg AObj.cells (rowV_drop _ V co)
def famOps : List LOper :=
 [Qc 125 7, Qc 126 11, Q 127 (.bin .sub (.t 126) (Ki 1)), Q 128 (.ia 1 (.t 125) (.t 127)), Q 129 (.ld false 1 (.t 128)), ⟨some 130, .prim (.bi .append [26, 26]) [.k (.d (.list [])), .t 129] [], none⟩,
  Qc 131 3, Qc 132 9, Q 133 (.ia 1 (.t 131) (.t 132)), Q 134 (.ld false 1 (.t 133)), ⟨some 135, .bsl 3 1 [.t 134], none⟩, ⟨some 136, .app 3 1 8 false (.t 130) (.t 135), none⟩, Qa 12 136]
def famDeps : List (List Nat) := [[], [], [1], [0, 2], [3], [4], [], [], [6, 7], [8], [9], [5, 10, 5], [11, 11, 0, 1, 2, 3, 4, 5, 6, 7, 8, 9, 10, 11]]
theorem famI_step {l : List Gl} {O : List Nat} {V : List (List Nat)} {r' : List Nat} {co f j i m : Nat} (hcell : (rowA (cellsV V) co)[m * 1]? = some (.d (.list (nsD r')))) (hVl : V.length = m + 1) (hm : m ≤ 1000) (hj : j ≤ 1000) (hni : (nsD O)[j]? = some (.int .i64 (i : Nat))) (hr0 : r' ≠ []) (hrl : r'.length ≤ 1000) :
  ∀ (done : Nat → Bool) (τ : St) (k : Nat) (x : LOper), famI l O V r' co f j i m done τ → famOps[k]? = some x → done k = false → (∀ q ∈ famDeps.getD k [], done q = true) →
   LOps Try.prog [x] (famI l O V r' co f j i m fun y => y == k || done y) τ ∨ AStep Try.prog x (famI l O V r' co f j i m fun y => y == k || done y) τ := by
 intro done τ k x h hx hk hd
 have b3 : aget τ.ρ 3 = some (.d (.list (nsD O))) := h.B (3, .d (.list (nsD O))) (by simp [famBL])
 have b7 : aget τ.ρ 7 = some (.rs (.l 120) V.length co) := h.B (7, .rs (.l 120) V.length co) (by simp [famBL])
 have b9 : aget τ.ρ 9 = some (.d (.int .i64 (j : Nat))) := h.B (9, .d (.int .i64 (j : Nat))) (by simp [famBL])
 have b11 : aget τ.ρ 11 = some (.d (.int .i64 ((m : Int) + 1))) := h.B (11, .d (.int .i64 ((m : Int) + 1))) (by simp [famBL])
 have aL : aget τ.L 120 = some (.cells (rowA (cellsV V) co)) := h.O (.l 120, .cells (rowA (cellsV V) co)) (by simp [famOL])
 match k, hx with
 | 0, hx =>
  cases hx
  exact .inl (fam_val (z := .rs (.l 120) V.length co) (by simp (maxSteps := 2000000) only [go_sem, ↓reduceIte, b7]) (h.val (by simp [famFL]) (by decide) (by decide)))
 | 1, hx =>
  cases hx
  exact .inl (fam_val (z := .d (.int .i64 ((m : Int) + 1))) (by simp (maxSteps := 2000000) only [go_sem, ↓reduceIte, b11]) (h.val (by simp [famFL]) (by decide) (by decide)))
 | 2, hx =>
  cases hx
  have a1 := h.F.get (i := 1) (s := 126) (z := .d (.int .i64 ((m : Int) + 1))) (by simp [famFL]) (hd 1 (by simp [famDeps]))
  have e1 : ((m : Int) + 1 - 1) = (m : Int) := by omega
  exact .inl (fam_val (z := .d (.int .i64 (m : Nat))) (by simp (maxSteps := 2000000) (disch := omega) only [go_sem, ↓reduceIte, a1, e1]) (h.val (by simp [famFL]) (by decide) (by decide)))
 | 3, hx =>
  cases hx
  have a0 := h.F.get (i := 0) (s := 125) (z := .rs (.l 120) V.length co) (by simp [famFL]) (hd 0 (by simp [famDeps]))
  have a2 := h.F.get (i := 2) (s := 127) (z := .d (.int .i64 (m : Nat))) (by simp [famFL]) (hd 2 (by simp [famDeps]))
  refine .inl (fam_val (z := .ptr (.l 120) (m * 1)) ?_ (h.val (by simp [famFL]) (by decide) (by decide)))
  simp (maxSteps := 2000000) (disch := omega) only [go_sem, ↓reduceIte, a0, a2]
  rw [if_pos ⟨by omega, by omega⟩]
  simp
 | 4, hx =>
  cases hx
  have a3 := h.F.get (i := 3) (s := 128) (z := .ptr (.l 120) (m * 1)) (by simp [famFL]) (hd 3 (by simp [famDeps]))
  refine .inl (fam_val (z := .d (.list (nsD r'))) ?_ (h.val (by simp [famFL]) (by decide) (by decide)))
  simp (maxSteps := 2000000) (disch := omega) only [go_sem, ↓reduceIte, a3, aL, hcell]
 | 5, hx =>
  cases hx
  have a4 := h.F.get (i := 4) (s := 129) (z := .d (.list (nsD r'))) (by simp [famFL]) (hd 4 (by simp [famDeps]))
  refine .inl (fam_prim (PrimG.appRow (c := 0) (fs := []) (ys := nsD r') (show liftSl Try.prog 26 = some (3, 1, 8) by kernel_rfl) intsSl (by kernel_rfl) (.inl ⟨.inr rfl, rfl⟩) (by simp (maxSteps := 2000000) only [go_sem, ↓reduceIte, a4]) (by simp [nsD, hr0]) (fun y hy => by rw [nsD_one r' y hy]; rfl) (fun y hy => by cases hy) (by rw [nsD_len]; simp [maxLen]; omega) fun c' q1 q2 => ?_))
  have no11 : done 11 = false := by
   cases h11 : done 11 with
   | false => rfl
   | true => rw [(h.J.b h11).1] at hk; cases hk
  simp only [List.nil_append, List.length_nil, Nat.zero_add] at q1 ⊢
  rw [nsD_len] at q1 ⊢
  refine ⟨((h.F.drop famFL_drop).setObj).other (by simp [famFL]) (by simp [famFL]), ((h.B.drop famBL_drop).setObj).put (by simp [famBL]), ((h.O.drop famOL_drop).setObj (by simp [famOL])).put, ⟨fun _ _ => ⟨c', q1, q2, ?_, ?_⟩, fun h11 => ?_, fun h12 => ?_⟩⟩
  ·simp [St.put, aget_acons]
  ·rw [St.obj_put, St.obj_setObj, if_pos rfl]
  ·have h11 : done 11 = true := by simpa using h11
   rw [no11] at h11; cases h11
  ·have h12 : done 12 = true := by simpa using h12
   simpa using h.J.c h12
 | 6, hx =>
  cases hx
  exact .inl (fam_val (z := .d (.list (nsD O))) (by simp (maxSteps := 2000000) only [go_sem, ↓reduceIte, b3]) (h.val (by simp [famFL]) (by decide) (by decide)))
 | 7, hx =>
  cases hx
  exact .inl (fam_val (z := .d (.int .i64 (j : Nat))) (by simp (maxSteps := 2000000) only [go_sem, ↓reduceIte, b9]) (h.val (by simp [famFL]) (by decide) (by decide)))
 | 8, hx =>
  cases hx
  have a6 := h.F.get (i := 6) (s := 131) (z := .d (.list (nsD O))) (by simp [famFL]) (hd 6 (by simp [famDeps]))
  have a7 := h.F.get (i := 7) (s := 132) (z := .d (.int .i64 (j : Nat))) (by simp [famFL]) (hd 7 (by simp [famDeps]))
  exact .inl (fam_val (z := .dptr [.int .i64 (i : Nat)]) (by simp (maxSteps := 2000000) (disch := omega) only [go_sem, ↓reduceIte, a6, a7, getI_nat, hni]) (h.val (by simp [famFL]) (by decide) (by decide)))
 | 9, hx =>
  cases hx
  have a8 := h.F.get (i := 8) (s := 133) (z := .dptr [.int .i64 (i : Nat)]) (by simp [famFL]) (hd 8 (by simp [famDeps]))
  exact .inl (fam_val (z := .d (.int .i64 (i : Nat))) (by simp (maxSteps := 2000000) (disch := omega) only [go_sem, ↓reduceIte, a8]) (h.val (by simp [famFL]) (by decide) (by decide)))
 | 10, hx =>
  cases hx
  have a9 := h.F.get (i := 9) (s := 134) (z := .d (.int .i64 (i : Nat))) (by simp [famFL]) (hd 9 (by simp [famDeps]))
  refine .inl (fam_bsl (σ' := (τ.erase (.t 135)).put 135 (.own (.t 135) 3 1 [.int .i64 (i : Nat)])) (by simp (maxSteps := 2000000) only [go_sem, ↓reduceIte, a9]) ?_)
  refine ⟨(h.F.erase fun e he hd' => ?_).put (famFL_ok ..) (by simp [famFL]), (h.B.erase famBL_erase).put (by simp [famBL]), h.O.erase.put, h.J.erase.put (by decide) (by decide)⟩
  simp only [famFL, List.mem_cons, List.not_mem_nil, or_false] at he
  rcases he with rfl | rfl | rfl | rfl | rfl | rfl | rfl | rfl | rfl | rfl <;> first | rfl | (simp only at hd'; rw [hk] at hd'; cases hd')
 | 11, hx =>
  cases hx
  have h5 := hd 5 (by simp [famDeps])
  have a10 := h.F.get (i := 10) (s := 135) (z := .own (.t 135) 3 1 [.int .i64 (i : Nat)]) (by simp [famFL]) (hd 10 (by simp [famDeps]))
  obtain ⟨c, c1, c2, c3, c4⟩ := h.J.a h5 hk
  refine .inr (AStep.appRow (r := 130) (c := c) (fs := nsD r') (ys := [.int .i64 (i : Nat)]) intsSl (.inr ⟨by rw [nsD_len]; simp (maxSteps := 2000000) only [go_sem, ↓reduceIte, c3], c4, by rw [nsD_len]; exact c1, c2⟩) (.inr ⟨.t 135, 3, by simp (maxSteps := 2000000) only [go_sem, ↓reduceIte, a10]⟩) (by simp) (fun y hy => by rw [List.mem_singleton.1 hy]; rfl) (fun y hy => by rw [nsD_one r' y hy]; rfl) (by rw [nsD_len]; simp [maxLen]; omega) fun c' q1 q2 => ?_)
  have en : nsD r' ++ [.int .i64 (i : Nat)] = nsD (r' ++ [i]) := by simp [nsD]
  rw [en]
  simp only [List.length_cons, List.length_nil] at q1 ⊢
  rw [nsD_len] at q1 ⊢
  refine ⟨((h.F.drop famFL_drop).setObj).other (by simp [famFL]) (by simp [famFL]), ((h.B.drop famBL_drop).setObj).put (by simp [famBL]), ((h.O.drop famOL_drop).setObj (by simp [famOL])).put, ⟨fun _ h11 => by simp at h11, fun _ => ⟨by simpa using h5, c', q1, q2, ?_, ?_, fun h12 => ?_⟩, fun _ => by simp⟩⟩
  ·simp [St.put, aget_acons]
  ·rw [St.obj_put, St.obj_setObj, if_pos rfl]
  ·have h12 : done 12 = true := by simpa using h12
   have := h.J.c h12
   rw [hk] at this; cases this
 | 12, hx =>
  cases hx
  obtain ⟨h5, c, c1, c2, c3, c4, _⟩ := h.J.b (hd 11 (by simp [famDeps]))
  have h11 := hd 11 (by simp [famDeps])
  have ha : asgS τ 12 (τ.ev (.t 136)) = τ.put 12 (.rs (.l 130) (r'.length + 1) c) := by
   have : τ.ev (.t 136) = .rs (.l 130) (r'.length + 1) c := by simp (maxSteps := 2000000) only [go_sem, ↓reduceIte, c3]
   rw [this]; rfl
  refine .inl (fam_asg ?_)
  rw [ha]
  refine ⟨h.F.other (by simp [famFL]) (by simp [famFL]), h.B.put (by simp [famBL]), h.O.put, ⟨fun _ hn => ?_, fun _ => ⟨by simpa using h5, c, c1, c2, ?_, ?_, fun _ => ?_⟩, fun _ => by simpa using h11⟩⟩
  ·have hn : done 11 = false := by simpa using hn
   rw [h11] at hn; cases hn
  ·simpa [St.put, aget_acons] using c3
  ·rw [St.obj_put]; exact c4
  ·simp [St.put, aget_acons]
 | k + 13, hx => cases hx
end Go.Av.Try
set_option linter.unusedSimpArgs false
set_option maxRecDepth 100000
set_option maxHeartbeats 2000000
namespace Go.Av.Try
open Go.Proofs
/-! ### Putting in, from behind -/
theorem ins_srt {K : Ky} {A B : List Nat} {x : Nat} (h : K.srt (A ++ B)) (hB : ∀ b ∈ B, K.key x < K.key b) (hA : ∀ a, A.getLast? = some a → ¬ K.key x < K.key a) (hp : ∀ y ∈ A ++ B, K.pos y < K.pos x) : K.srt (A ++ x :: B) := by
 obtain ⟨h1, h2, h3⟩ := List.pairwise_append.1 h
 have hax : ∀ a ∈ A, K.T a x := fun a ha => by
  rcases List.eq_nil_or_concat A with rfl | ⟨A', c, rfl⟩
  ·cases ha
  ·rw [List.concat_eq_append] at *
   have hc := hA c (by simp)
   have hcx : K.T c x := by
    have := hp c (by simp)
    unfold Ky.T; omega
   rcases List.mem_append.1 ha with ha | ha
   ·exact K.T_trans ((List.pairwise_append.1 h1).2.2 a ha c (by simp)) hcx
   ·rw [List.mem_singleton.1 ha]; exact hcx
 refine List.pairwise_append.2 ⟨h1, List.pairwise_cons.2 ⟨fun b hb => .inl (hB b hb), h2⟩, fun a ha b hb => ?_⟩
 rcases List.mem_cons.1 hb with rfl | hb
 ·exact hax a ha
 ·exact h3 a ha b hb
theorem ins_st {K : Ky} {A B l : List Nat} {x : Nat} (h : A ++ B = K.st l) (hu : K.up (l ++ [x])) (hB : ∀ b ∈ B, K.key x < K.key b) (hA : ∀ a, A.getLast? = some a → ¬ K.key x < K.key a) : A ++ x :: B = K.st (l ++ [x]) := by
 obtain ⟨u1, u2, u3⟩ := Ky.up_app.1 hu
 have hs : K.srt (A ++ B) := by rw [h]; exact Ky.st_srt (Ky.up_tot u1)
 have hp : ∀ y ∈ A ++ B, K.pos y < K.pos x := fun y hy => by
  rw [h] at hy
  exact u3 y ((Ky.st_perm l).subset hy) x (by simp)
 refine Ky.st_eq (ins_srt hs hB hA hp) ?_
 have h1 : (A ++ x :: B).Perm (x :: (A ++ B)) := List.perm_middle
 refine h1.trans ?_
 rw [h]
 exact ((Ky.st_perm l).cons x).trans (List.perm_append_comm (l₁ := [x]) (l₂ := l))
def ordS3 : List Nat → Nat → AV
 | [], _ => .ns
 | _ :: r, c => .rs (.l 30) (r.length + 1) c
def ordL3 : List Nat → Nat → List (Nat × AObj)
 | [], _ => []
 | x :: r, c => [(30, .cells (rowN (x :: r) c))]
theorem ordS3_of {O : List Nat} {c : Nat} (h : O ≠ []) : ordS3 O c = .rs (.l 30) O.length c := by
 cases O with
 | nil => exact absurd rfl h
 | cons x r => rfl
theorem ordL3_of {O : List Nat} {c : Nat} (h : O ≠ []) : ordL3 O c = [(30, .cells (rowN O c))] := by
 cases O with
 | nil => exact absurd rfl h
 | cons x r => rfl
theorem sub_ord3 {O : List Nat} {c : Nat} : Sub (ordL3 O c) (ordL3 O c) := by
 cases O with
 | nil => trivial
 | cons x r => exact ⟨rfl, trivial⟩
theorem bub_get {A B : List Nat} {x : Nat} : (A ++ x :: B)[A.length]? = some x := by simp
theorem bub_get1 {A B : List Nat} {a x : Nat} : (A ++ [a] ++ x :: B)[A.length]? = some a := by simp
theorem bub_set {A B : List Nat} {a x : Nat} : ((A ++ [a] ++ x :: B).set (A.length + 1) a).set A.length x = A ++ x :: (a :: B) := by
 rw [List.append_assoc, List.set_append_right _ _ (by omega), show A.length + 1 - A.length = 1 by omega]
 simp only [List.cons_append, List.nil_append, List.set_cons_succ, List.set_cons_zero]
 rw [List.set_append_right _ _ (Nat.le_refl _), Nat.sub_self, List.set_cons_zero]
def L_foliowrightref_Lines : LCode :=
 .seq (.reg [⟨some 2, .nils 26 1, none⟩]) (.seq (.alt [([], ⟨some 3, .nils 3 1, none⟩)] []) (.seq (.seq (.reg [Qx 4 (Ki 0)]) (.block 0 (.loop (.seq (.seq (.reg [Qc 15 4, Qc 16 0, Q 
 17 (.len false (.t 16)), Q 18 (.bin .lss (.t 15) (.t 17))]) (.cond (.t 18) .skip (.exit 0))) (.seq (.block 1 (.seq (.seq (.reg [Qc 21 0, Qc 22 4, Q 23 (.ia 10 (.t 21) (.t 22)), Q 
 24 (.fa 0 (.t 23)), Q 25 (.ld false 1 (.t 24)), Q 26 (.bin .eql (.t 25) (.k (.d (.str []))))]) (.cond (.t 26) (.exit 1) .skip)) (.seq (.alt [([Qc 27 3, Qc 28 4, ⟨some 29, .bsl 3 
 1 [.t 28], none⟩], ⟨some 30, .app 3 1 8 false (.t 27) (.t 29), none⟩)] [Qa 3 30]) (.seq (.reg [Qc 31 3, Q 32 (.len false (.t 31)), Q 33 (.bin .sub (.t 32) (Ki 1)), Qa 5 33]) 
 (.block 2 (.loop (.seq (.seq (.dreg [Qc 34 5, Q 35 (.bin .gtr (.t 34) (Ki 0)), Qc 36 35, Qd 37 0 36 true, Qd 38 3 36 true, Qd 39 5 36 true, Qg 40 (.ia 1 (.t 38) (.t 39)) 36 true, 
 Qg 41 (.ld false 1 (.t 40)) 36 true, Qg 42 (.ia 10 (.t 37) (.t 41)) 36 true, Qg 43 (.fa 1 (.t 42)) 36 true, Qg 44 (.fa 1 (.t 43)) 36 true, Qg 45 (.ld false 1 (.t 44)) 36 true, Qd 
 46 0 36 true, Qd 47 3 36 true, Qd 48 5 36 true, Qg 49 (.bin .sub (.t 48) (Ki 1)) 36 true, Qg 50 (.ia 1 (.t 47) (.t 49)) 36 true, Qg 51 (.ld false 1 (.t 50)) 36 true, Qg 52 (.ia 
 10 (.t 46) (.t 51)) 36 true, Qg 53 (.fa 1 (.t 52)) 36 true, Qg 54 (.fa 1 (.t 53)) 36 true, Qg 55 (.ld false 1 (.t 54)) 36 true, Qg 56 (.bin .gtr (.t 45) (.t 55)) 36 true, Q 57 
 (.pick (.t 36) (.t 56) KF)]) (.cond (.t 57) .skip (.exit 2))) (.seq (.block 3 (.seq (.reg [Qc 60 3, Qc 61 5, Q 62 (.ia 1 (.t 60) (.t 61)), Q 63 (.ld false 1 (.t 62)), Qa 6 63]) 
 (.seq (.reg [Qc 64 3, Qc 65 5, Qc 66 3, Qc 67 5, Q 68 (.bin .sub (.t 67) (Ki 1)), Q 69 (.ia 1 (.t 66) (.t 68)), Q 70 (.ld false 1 (.t 69)), Q 71 (.ia 1 (.t 64) (.t 65)), ⟨none, 
 .st 1 (.t 71) (.t 70), none⟩]) (.reg [Qc 72 3, Qc 73 5, Q 74 (.bin .sub (.t 73) (Ki 1)), Qc 75 6, Q 76 (.ia 1 (.t 72) (.t 74)), ⟨none, .st 1 (.t 76) (.t 75), none⟩])))) (.reg [Qc 
 58 5, Q 59 (.bin .sub (.t 58) (Ki 1)), Qa 5 59]))))))))) (.reg [Qc 19 4, Q 20 (.bin .add (.t 19) (Ki 1)), Qa 4 20])))))) (.seq (.alt [([], ⟨some 7, .nils 26 1, none⟩)] []) (.seq 
 (.reg [Qx 8 (Ki 0)]) (.seq (.seq (.reg [Qx 9 (Ki 0)]) (.block 4 (.loop (.seq (.seq (.reg [Qc 77 9, Qc 78 3, Q 79 (.len false (.t 78)), Q 80 (.bin .lss (.t 77) (.t 79))]) (.cond 
 (.t 80) .skip (.exit 4))) (.seq (.block 5 (.seq (.reg [Qc 83 0, Qc 84 3, Qc 85 9, Q 86 (.ia 1 (.t 84) (.t 85)), Q 87 (.ld false 1 (.t 86)), Q 88 (.ia 10 (.t 83) (.t 87)), Q 89 
 (.ld true 10 (.t 88)), ⟨some 10, .allo [.str [], .int .i64 0, .int .i64 0, .int .i64 0, .int .i64 0, .int .i64 0, .int .i64 0, .int .i64 0, .int .i64 0, .int .i64 0], none⟩, 
 ⟨none, .st 10 (.t 10) (.t 89), none⟩]) (.seq (.reg [Qc 90 7, Q 91 (.len false (.t 90)), Qa 11 91]) (.seq (.seq (.dreg [Qc 92 11, Q 93 (.bin .eql (.t 92) (Ki 0)), Qc 94 93, Qd 95 
 0 94 false, Qd 96 8 94 false, Qg 97 (.ia 10 (.t 95) (.t 96)) 94 false, Qg 98 (.fa 1 (.t 97)) 94 false, Qg 99 (.fa 1 (.t 98)) 94 false, Qg 100 (.ld false 1 (.t 99)) 94 false, Qg 
 101 (.fa 1 (.t 10)) 94 false, Qg 102 (.fa 1 (.t 101)) 94 false, Qg 103 (.ld false 1 (.t 102)) 94 false, Qg 104 (.bin .sub (.t 100) (.t 103)) 94 false, Qg 105 (.bin .mul (Ki 2) 
 (.t 104)) 94 false, Qd 106 0 94 false, Qd 107 8 94 false, Qg 108 (.ia 10 (.t 106) (.t 107)) 94 false, Qg 109 (.fa 5 (.t 108)) 94 false, Qg 110 (.ld false 1 (.t 109)) 94 false, Qg 
 111 (.bin .gtr (.t 105) (.t 110)) 94 false, Q 112 (.pick (.t 94) KT (.t 111))]) (.cond (.t 112) (.seq (.alt [([Qc 113 7, Qc 114 3, Qc 115 9, Q 116 (.ia 1 (.t 114) (.t 115)), Q 
 117 (.ld false 1 (.t 116)), ⟨some 118, .bsl 3 1 [.t 117], none⟩, ⟨some 119, .bsl 26 1 [.t 118], none⟩], ⟨some 120, .app 26 1 24 false (.t 113) (.t 119), none⟩)] [Qa 7 120]) (.seq 
 (.reg [Qc 121 3, Qc 122 9, Q 123 (.ia 1 (.t 121) (.t 122)), Q 124 (.ld false 1 (.t 123)), Qa 8 124]) (.exit 5))) .skip)) (.seq (.fam [Qc 125 7, Qc 126 11, Q 127 (.bin .sub (.t 
 126) (Ki 1)), Q 128 (.ia 1 (.t 125) (.t 127)), Q 129 (.ld false 1 (.t 128)), ⟨some 130, .prim (.bi .append [26, 26]) [.k (.d (.list [])), .t 129] [], none⟩, Qc 131 3, Qc 132 9, Q 
 133 (.ia 1 (.t 131) (.t 132)), Q 134 (.ld false 1 (.t 133)), ⟨some 135, .bsl 3 1 [.t 134], none⟩, ⟨some 136, .app 3 1 8 false (.t 130) (.t 135), none⟩, Qa 12 136] [[], [], [1], 
 [0, 2], [3], [4], [], [], [6, 7], [8], [9], [5, 10, 5], [11, 11, 0, 1, 2, 3, 4, 5, 6, 7, 8, 9, 10, 11]]) (.seq (.seq (.reg [Qc 137 12, Q 138 (.len false (.t 137)), Q 139 (.bin 
 .sub (.t 138) (Ki 1)), Qa 13 139]) (.block 6 (.loop (.seq (.seq (.dreg [Qc 140 13, Q 141 (.bin .gtr (.t 140) (Ki 0)), Qc 142 141, Qd 143 0 142 true, Qd 144 12 142 true, Qd 145 13 
 142 true, Qg 146 (.ia 1 (.t 144) (.t 145)) 142 true, Qg 147 (.ld false 1 (.t 146)) 142 true, Qg 148 (.ia 10 (.t 143) (.t 147)) 142 true, Qg 149 (.fa 1 (.t 148)) 142 true, Qg 150 
 (.fa 0 (.t 149)) 142 true, Qg 151 (.ld false 1 (.t 150)) 142 true, Qd 152 0 142 true, Qd 153 12 142 true, Qd 154 13 142 true, Qg 155 (.bin .sub (.t 154) (Ki 1)) 142 true, Qg 156 
 (.ia 1 (.t 153) (.t 155)) 142 true, Qg 157 (.ld false 1 (.t 156)) 142 true, Qg 158 (.ia 10 (.t 152) (.t 157)) 142 true, Qg 159 (.fa 1 (.t 158)) 142 true, Qg 160 (.fa 0 (.t 159)) 
 142 true, Qg 161 (.ld false 1 (.t 160)) 142 true, Qg 162 (.bin .lss (.t 151) (.t 161)) 142 true, Q 163 (.pick (.t 142) (.t 162) KF)]) (.cond (.t 163) .skip (.exit 6))) (.seq 
 (.block 7 (.seq (.reg [Qc 166 12, Qc 167 13, Q 168 (.ia 1 (.t 166) (.t 167)), Q 169 (.ld false 1 (.t 168)), Qa 14 169]) (.seq (.reg [Qc 170 12, Qc 171 13, Qc 172 12, Qc 173 13, Q 
 174 (.bin .sub (.t 173) (Ki 1)), Q 175 (.ia 1 (.t 172) (.t 174)), Q 176 (.ld false 1 (.t 175)), Q 177 (.ia 1 (.t 170) (.t 171)), ⟨none, .st 1 (.t 177) (.t 176), none⟩]) (.reg [Qc 
 178 12, Qc 179 13, Q 180 (.bin .sub (.t 179) (Ki 1)), Qc 181 14, Q 182 (.ia 1 (.t 178) (.t 180)), ⟨none, .st 1 (.t 182) (.t 181), none⟩])))) (.reg [Qc 164 13, Q 165 (.bin .sub 
 (.t 164) (Ki 1)), Qa 13 165])))))) (.alt [([Qc 183 7, Qc 184 11, Q 185 (.bin .sub (.t 184) (Ki 1))], Qc 186 12)] [Q 187 (.ia 1 (.t 183) (.t 185)), ⟨none, .st 1 (.t 187) (.t 186), 
 none⟩]))))))) (.reg [Qc 81 9, Q 82 (.bin .add (.t 81) (Ki 1)), Qa 9 82])))))) (.seq (.alt [([], Qc 188 7)] [Qa 2 188]) .ret))))))
def R_foliowrightref_Lines : List LRes := [.tmp 2]
theorem lift_foliowrightref_Lines : Lifts Try.prog 14 189 L_foliowrightref_Lines R_foliowrightref_Lines := ⟨_, _, Try.func14, rfl, by kernel_rfl, by kernel_rfl, rfl⟩
theorem refLines_call (l : List Gl) (hl : l.length ≤ 1000) (hok : ∀ g ∈ l, g.ok) : PCall Try.prog 14 [.list (glsD l)] (fun r => r = .one (.list ((linesF l).map fun r => .list (nsD r)))) := by
 have hI : ((glsD l).length : Int) = (l.length : Int) := by rw [glsD_length]
 refine lift_foliowrightref_Lines.call rfl ?_
 simp (maxSteps := 2000000) only [go_sem, ↓reduceIte, L_foliowrightref_Lines, R_foliowrightref_Lines]
 refine AStep.nils ?_
 simp (maxSteps := 2000000) only [go_sem, ↓reduceIte]
 refine run_loop (fun y : Nat × Nat => ⟨[(0, .d (.list (glsD l))), (3, ordS3 ((kyY l).st (idxT l y.1)) y.2), (4, .d (.int .i64 (y.1 : Nat)))], ordL3 ((kyY l).st (idxT l y.1)) y.2, []⟩)
  (fun y => y.1 ≤ l.length ∧ (idxT l y.1 = [] ∨ (idxT l y.1).length ≤ y.2 ∧ y.2 ≤ maxLen)) (fun y => l.length - y.1) (0, 0) ?_ ?_ ?_
 ·have e : (kyY l).st (idxT l 0) = [] := rfl
  refine Weak.mk ?_ ?_ ?_ <;> simp (maxSteps := 2000000) only [go_sem, ↓reduceIte, Sub, Int.natCast_add, Int.natCast_mul, e, ordS3, ordL3]
 ·exact ⟨Nat.zero_le _, .inl rfl⟩
 ·rintro ⟨i, c⟩ ⟨hi, hc⟩
  simp only at hi hc
  have hil := idxT_len l i
  have hsucc := idxT_succ l i
  have hup := idxT_up l (i + 1)
  have hstl : ((kyY l).st (idxT l i)).length = (idxT l i).length := (Ky.st_perm _).length_eq
  have hlt' : ∀ y ∈ (kyY l).st (idxT l i), y < i := fun y hy => idxT_lt y ((Ky.st_perm _).subset hy)
  simp (maxSteps := 2000000) only [go_sem, ↓reduceIte, hI]
  refine ⟨fun hlt => ?_, fun hge => ?_⟩
  ·have hlt : i < l.length := by omega
   have hgx : (glsD l)[i]? = some (glAt l i).d := by rw [glsD_get, glAt_get hlt]; rfl
   by_cases ht : (glAt l i).tx = []
   ·have hT : hasT l i = false := by simp [hasT, ht]
    rw [hT] at hsucc
    simp only [Bool.false_eq_true, if_false, List.append_nil] at hsucc
    simp (maxSteps := 2000000) (disch := omega) only [go_sem, ↓reduceIte, hI, getI_nat, hgx, Gl.d, ht]
    refine ⟨(i + 1, c), ?_, ⟨by simp only; omega, by simp only [hsucc]; exact hc⟩, by simp only; omega⟩
    simp only [hsucc]
    refine Weak.mk ?_ ?_ ?_ <;> simp (maxSteps := 2000000) only [go_sem, ↓reduceIte, Sub, Int.natCast_add, Int.natCast_mul]
    exact sub_ord3
   ·have hT : hasT l i = true := by simp [hasT, ht]
    rw [hT] at hsucc
    simp only [if_true] at hsucc
    rw [hsucc] at hup
    generalize hO : (kyY l).st (idxT l i) = O at *
    have m1 : ∀ o : AObj, aset (amap (dropObj (.l 30)) (ordL3 O c)) 30 o = [(30, o)] := fun o => by cases O <;> simp [ordL3, amap, aset]
    have hcO : O = [] ∨ (O.length ≤ c ∧ c ≤ maxLen) := hc.imp (fun h => by rw [h] at hstl; exact List.length_eq_zero_iff.1 (by simpa using hstl)) (fun h => by omega)
    simp (maxSteps := 2000000) (disch := omega) only [go_sem, ↓reduceIte, hI, getI_nat, hgx, Gl.d, ht]
    refine AStep.app1 (r := 30) (c := c) (cs := nsA O) intsSl (by
     cases O with
     | nil => exact .inl ⟨rfl, rfl⟩
     | cons y r => exact .inr ⟨by rw [nsA_len]; rfl, rfl, by rw [nsA_len]; exact (hcO.resolve_left (by simp)).1, (hcO.resolve_left (by simp)).2⟩) (Src1.own rfl) (nsA_ok O 30) (int_ok _ _) (by rw [nsA_len]; simp [maxLen]; omega) (fun c' h1 h2 => ?_)
    rw [rowN_snoc]
    rw [nsA_len] at h1 ⊢
    simp (maxSteps := 2000000) (disch := omega) only [go_sem, ↓reduceIte, m1]
    refine run_loop (fun y : List Nat × List Nat => ⟨[(0, .d (.list (glsD l))), (3, .rs (.l 30) (O.length + 1) c'), (4, .d (.int .i64 (i : Nat))), (5, .d (.int .i64 (y.1.length : Nat)))], [(30, .cells (rowN (y.1 ++ i :: y.2) c'))], []⟩)
     (fun y => y.1 ++ y.2 = O ∧ ∀ b ∈ y.2, (kyY l).key i < (kyY l).key b) (fun y => y.1.length) (O, []) ?_ ?_ ?_
    ·have e0 : ((O.length : Int) + 1 - 1) = (O.length : Int) := by omega
     refine Weak.mk ?_ ?_ ?_ <;> simp (maxSteps := 2000000) only [go_sem, ↓reduceIte, Sub, Int.natCast_add, Int.natCast_mul, e0]
    ·exact ⟨by simp, fun b hb => by cases hb⟩
    ·rintro ⟨A, B⟩ ⟨e1, e2⟩
     simp only at e1 e2
     have hAB : (A ++ i :: B).length = O.length + 1 := by rw [← e1]; simp only [List.length_append, List.length_cons]; omega
     have l1 : (rowN (A ++ i :: B) c')[((A.length : Nat) : Int).toNat * 1]? = some (.d (.int .i64 (i : Nat))) := by
      rw [show ((A.length : Nat) : Int).toNat * 1 = A.length by omega]; exact rowN_get bub_get
     rcases List.eq_nil_or_concat A with rfl | ⟨A', a, rfl⟩
     ·have hBO : B.length = O.length := by rw [← e1]; rfl
      simp (maxSteps := 2000000) (disch := omega) only [go_sem, ↓reduceIte]
      have fin_ : [] ++ i :: B = (kyY l).st (idxT l i ++ [i]) := ins_st (by rw [e1, hO]) hup e2 (fun a h => by cases h)
      refine ⟨(i + 1, c'), ?_, ⟨by simp only; omega, .inr (by rw [hsucc]; simp only [List.length_append, List.length_cons, List.length_nil]; omega)⟩, by simp only; omega⟩
      simp only
      rw [hsucc, ← fin_, ordS3_of (by simp), ordL3_of (by simp)]
      refine Weak.mk ?_ ?_ ?_ <;> simp (maxSteps := 2000000) only [go_sem, ↓reduceIte, Sub, Int.natCast_add, Int.natCast_mul, hAB, hBO]
     ·rw [List.concat_eq_append] at *
      have ha : a < i := hlt' a (by rw [← e1]; simp)
      have hga : (glsD l)[a]? = some (glAt l a).d := by rw [glsD_get, glAt_get (by omega)]; rfl
      have hAl : A'.length + 1 + B.length = O.length := by rw [← e1]; simp only [List.length_append, List.length_cons, List.length_nil]
      have eA : (((A' ++ [a]).length : Int) - 1) = ((A'.length : Nat) : Int) := by simp
      have z : (0 < ((A' ++ [a]).length : Int)) = True := eq_true (by simp)
      have l2 : (rowN (A' ++ [a] ++ i :: B) c')[((A'.length : Nat) : Int).toNat * 1]? = some (.d (.int .i64 (a : Nat))) := by
       rw [show ((A'.length : Nat) : Int).toNat * 1 = A'.length by omega]; exact rowN_get bub_get1
      by_cases hy : (glAt l a).ay < (glAt l i).ay
      ·have z2 := eq_true hy
       have l3 : (rowN (A' ++ [a] ++ i :: B) c').set ((((A' ++ [a]).length : Nat) : Int).toNat * 1) (.d (.int .i64 (a : Nat))) = rowN ((A' ++ [a] ++ i :: B).set (A'.length + 1) a) c' := by
        rw [show (((A' ++ [a]).length : Nat) : Int).toNat * 1 = A'.length + 1 by simp]; exact rowN_set (by simp)
       have l4 : (rowN ((A' ++ [a] ++ i :: B).set (A'.length + 1) a) c').set (((A'.length : Nat) : Int).toNat * 1) (.d (.int .i64 (i : Nat))) = rowN (A' ++ i :: a :: B) c' := by
        rw [show ((A'.length : Nat) : Int).toNat * 1 = A'.length by omega, ← bub_set]; exact rowN_set (by simp)
       have l6 : (rowN (A' ++ [a] ++ i :: B) c').length = c' := rowN_len (by rw [hAB]; exact h1)
       have l7 : (rowN ((A' ++ [a] ++ i :: B).set (A'.length + 1) a) c').length = c' := rowN_len (by rw [List.length_set, hAB]; exact h1)
       have hAA : (A' ++ [a]).length = A'.length + 1 := by simp
       simp (maxSteps := 2000000) (disch := omega) only [go_sem, ↓reduceIte, z, z2, eA, l1, l2, l3, l4, l6, l7, getI_nat, hga, hgx, Gl.d]
       refine ⟨⟨by omega, by omega⟩, ⟨by omega, by omega⟩, ⟨by omega, by omega⟩, ⟨by omega, by omega⟩, ⟨by omega, by omega⟩, by omega, ⟨by omega, by omega⟩, by omega, (A', a :: B), ?_, ⟨by rw [← e1]; simp, fun b hb => ?_⟩, by simp only [hAA]; omega⟩
       ·refine Weak.mk ?_ ?_ ?_ <;> simp (maxSteps := 2000000) only [go_sem, ↓reduceIte, Sub, Int.natCast_add, Int.natCast_mul]
       ·rcases List.mem_cons.1 hb with rfl | hb
        ·show -(glAt l i).ay < -(glAt l _).ay
         omega
        ·exact e2 b hb
      ·have z2 := eq_false hy
       have hAA : (A' ++ [a]).length = A'.length + 1 := by simp
       simp (maxSteps := 2000000) (disch := omega) only [go_sem, ↓reduceIte, z, z2, eA, l1, l2, getI_nat, hga, hgx, Gl.d]
       have fin_ : A' ++ [a] ++ i :: B = (kyY l).st (idxT l i ++ [i]) := ins_st (by rw [e1, hO]) hup e2 (fun b hb => by
        obtain rfl : a = b := by simpa using hb
        show ¬ (-(glAt l i).ay < -(glAt l a).ay)
        omega)
       refine ⟨⟨by omega, by omega⟩, ⟨by omega, by omega⟩, (i + 1, c'), ?_, ⟨by simp only; omega, .inr (by rw [hsucc]; simp only [List.length_append, List.length_cons, List.length_nil]; omega)⟩, by simp only; omega⟩
       simp only
       rw [hsucc, ← fin_, ordS3_of (by simp), ordL3_of (by simp)]
       refine Weak.mk ?_ ?_ ?_ <;> simp (maxSteps := 2000000) only [go_sem, ↓reduceIte, Sub, Int.natCast_add, Int.natCast_mul, hAB]
  ·have hin : i = l.length := by omega
   subst hin
   have hOF : (kyY l).st (idxT l l.length) = ordF l := rfl
   have hgF : grpF l = (ordF l).foldl (grp1 l) [] := rfl
   have hlF : linesF l = (grpF l).map (kyX l (ordF l)).st := rfl
   have hOnd := ordF_nodup l
   have hOl : (ordF l).length ≤ l.length := by rw [ordF, (Ky.st_perm _).length_eq]; exact idxT_len l _
   rw [hOF] at hlt' ⊢
   have hcO : ordF l = [] ∨ (ordF l).length ≤ c := by
    have : (ordF l).length = (idxT l l.length).length := (Ky.st_perm _).length_eq
    rcases hc with h | h
    ·left; rw [h] at this; exact List.length_eq_zero_iff.1 (by simpa using this)
    ·right; omega
   generalize ordF l = O at *
   by_cases hO0 : O = []
   ·subst hO0
    have hl0 : linesF l = [] := by rw [hlF, hgF]; rfl
    have hs : ordS3 ([] : List Nat) c = .ns := rfl
    have hb : ordL3 ([] : List Nat) c = [] := rfl
    rw [hs, hb]
    refine AStep.nils ?_
    simp (maxSteps := 2000000) only [go_sem, ↓reduceIte]
    refine run_unroll ?_
    simp (maxSteps := 2000000) only [go_sem, ↓reduceIte]
    refine AStep.step rfl (fun _ _ _ h => by cases h) rfl ?_
    simp (maxSteps := 2000000) only [go_sem, ↓reduceIte]
    rw [hl0]
    rfl
   ·rw [ordS3_of hO0, ordL3_of hO0]
    refine AStep.ghost (AStep.nils ?_)
    refine ⟨⟨[(0, .d (.list (glsD l))), (3, .d (.list (nsD O))), (7, .ns)], [], []⟩, Gh.trans (Gh.frzL (a := 30) (sz := 1) (fs := nsD O) (c := c) ?_ (fun y hy => by rw [nsD_one O y hy]; rfl) (by rw [nsD_len]; exact hcO.resolve_left hO0)) (Gh.wk ⟨fun t x hx => ?_, fun r ob h => by cases r <;> cases h⟩), ?_⟩
    ·rw [rowC_rowA (nsD_one O), ← nsA_nsD]; rfl
    ·simp only [aget] at hx
     repeat' split at hx
     ·rename_i e
      subst e; cases hx
      rw [St.ρ_frzL (x := .d (.list (glsD l))) rfl]; rfl
     ·rename_i e
      subst e; cases hx
      rw [St.ρ_frzL (x := .rs (.l 30) O.length c) rfl]
      simp [AV.frzL, nsD_len]
     ·rename_i e
      subst e; cases hx
      rw [St.ρ_frzL (x := .ns) rfl]; rfl
     ·cases hx
    ·simp (maxSteps := 2000000) only [go_sem, ↓reduceIte]
     refine run_loop (fun y : Nat × List (List Nat) × Nat => ⟨[(0, .d (.list (glsD l))), (3, .d (.list (nsD O))), (7, outS7 (y.2.1.map (kyX l O).st) y.2.2), (8, .d (.int .i64 (((y.2.1.getLastD []).headD 0 : Nat) : Int))), (9, .d (.int .i64 (y.1 : Nat)))], outL7 (y.2.1.map (kyX l O).st) y.2.2, []⟩)
      (fun y => y.1 ≤ O.length ∧ y.2.1 = (O.take y.1).foldl (grp1 l) [] ∧ (y.2.1 = [] ∨ (y.2.1.length ≤ y.2.2 ∧ y.2.2 ≤ maxLen)) ∧ y.2.1.length ≤ y.1) (fun y => O.length - y.1) (0, [], 0) ?_ ?_ ?_
     ·refine Weak.mk ?_ ?_ ?_ <;> simp (maxSteps := 2000000) only [go_sem, ↓reduceIte, Sub, Int.natCast_add, Int.natCast_mul, outS7, outL7]
      rfl
     ·exact ⟨Nat.zero_le _, rfl, .inl rfl, Nat.zero_le _⟩
     ·clear hO0 hcO hge
      rintro ⟨j, U, co⟩ ⟨hj, hU, hco, hUl⟩
      simp only at hj hU hco hUl
      have hOI : ((nsD O).length : Int) = (O.length : Int) := by rw [nsD_len]
      simp (maxSteps := 2000000) only [go_sem, ↓reduceIte, hOI]
      refine ⟨fun hlt1 => ?_, fun hge => ?_⟩
      ·obtain ⟨i, hi⟩ := get_some (l := O) (i := j) (by omega)
       have hil := hlt' i (List.mem_of_getElem? hi)
       have hgi : (glsD l)[i]? = some (glAt l i).d := by rw [glsD_get, glAt_get hil]; rfl
       have hni : (nsD O)[j]? = some (.int .i64 (i : Nat)) := by rw [nsD_get, hi]; rfl
       have hoi := hok (glAt l i) (List.mem_of_getElem? (glAt_get hil))
       have htk : O.take (j + 1) = O.take j ++ [i] := by rw [List.take_add_one, hi]; rfl
       have hgr : (O.take (j + 1)).foldl (grp1 l) [] = grp1 l U i := by rw [htk, List.foldl_append, ← hU]; rfl
       have hfl : U.flatten = O.take j := by rw [hU, grp_flat]; rfl
       have hne : ∀ r ∈ U, r ≠ [] := by rw [hU]; exact grp_ne l _ _ (fun r hr => by cases hr)
       obtain ⟨o1, o2, o3, o4, o5⟩ := hoi
       unfold inB at o1 o2 o3 o4 o5
       rcases List.eq_nil_or_concat U with rfl | ⟨Us, r, rfl⟩
       ·have hs : outS7 [] co = .ns := rfl
        have hb : outL7 [] co = [] := rfl
        simp (maxSteps := 2000000) (disch := omega) only [go_sem, ↓reduceIte, hs, hb, getI_nat, hni, hgi, Gl.d, hOI]
        have hgn : grp1 l [] i = [[i]] := rfl
        refine AStep.app1 (r := 120) (c := 0) (cs := []) (y := .d (.list [.int .i64 (i : Nat)])) rowsSl (.inl ⟨rfl, rfl⟩) (Src1.own rfl) (fun z hz => by cases hz) ⟨rfl, rfl, fun e he => by cases he⟩ (by simp [maxLen]) (fun c' h1 h2 => ?_)
        simp (maxSteps := 2000000) (disch := omega) only [go_sem, ↓reduceIte, getI_nat, hni, hOI]
        refine ⟨(j + 1, [[i]], c'), ?_, ⟨by simp only; omega, by simp only [hgr, hgn], .inr ⟨by simpa using h1, h2⟩, by simp⟩, by simp only; omega⟩
        have e1 : (kyX l O).st [i] = [i] := rfl
        refine Weak.mk ?_ ?_ ?_ <;> simp (maxSteps := 2000000) only [go_sem, ↓reduceIte, Sub, Int.natCast_add, Int.natCast_mul, outS7, outL7, e1, cellsV, nsD]
        rfl
       ·rw [List.concat_eq_append] at *
        have hmp : (Us ++ [r]).map (kyX l O).st = Us.map (kyX l O).st ++ [(kyX l O).st r] := by simp
        have hgl : ((Us ++ [r]).getLastD []) = r := by simp [List.getLastD_eq_getLast?]
        have hco := hco.resolve_left (by simp)
        have hr0 := hne r (by simp)
        obtain ⟨f, pr, hrf⟩ : ∃ f pr, r = f :: pr := by
         cases r with
         | nil => exact absurd rfl hr0
         | cons f pr => exact ⟨f, pr, rfl⟩
        have hrO : ∀ x ∈ r, x ∈ O := fun x hx => List.mem_of_mem_take (by rw [← hfl]; simp [hx])
        have hfl' := hlt' f (hrO f (by rw [hrf]; simp))
        have hgf : (glsD l)[f]? = some (glAt l f).d := by rw [glsD_get, glAt_get hfl']; rfl
        obtain ⟨u1, u2, u3, u4, u5⟩ := hok (glAt l f) (List.mem_of_getElem? (glAt_get hfl'))
        unfold inB at u1 u2 u3 u4 u5
        have hhd : r.headD 0 = f := by rw [hrf]; rfl
        have hnear : near l (r.headD 0) i = decide (2 * ((glAt l f).ay - (glAt l i).ay) ≤ (glAt l f).sz) := by rw [hhd]; rfl
        have hgs := grp1_snoc l Us r i
        have hVl : ((Us.map (kyX l O).st ++ [(kyX l O).st r]).length : Int) = (Us.length : Int) + 1 := by simp
        have hlen1 : (Us ++ [r]).length = Us.length + 1 := by simp
        rw [hmp, outS7_of (by simp), outL7_of (by simp), hgl, hhd]
        have z1 : ((Us.length : Int) + 1 = 0) = False := eq_false (by omega)
        by_cases hn : 2 * ((glAt l f).ay - (glAt l i).ay) ≤ (glAt l f).sz
        ·have zn : ((glAt l f).sz < 2 * ((glAt l f).ay - (glAt l i).ay)) = False := eq_false (by omega)
         rw [hnear, decide_eq_true hn, if_pos rfl] at hgs
         simp (maxSteps := 2000000) (disch := omega) only [go_sem, ↓reduceIte, getI_nat, hni, hgi, hgf, Gl.d, hOI, hVl, z1, zn]
         rw [run_fam]
         have hrl : r.length ≤ O.length := by
          have h1 : (Us ++ [r]).flatten.length = (O.take j).length := by rw [hfl]
          simp only [List.flatten_append, List.length_append, List.flatten_cons, List.flatten_nil, List.append_nil, List.length_take] at h1
          omega
         have hr'l : ((kyX l O).st r).length = r.length := (Ky.st_perm r).length_eq
         have hr'0 : (kyX l O).st r ≠ [] := fun e => hr0 (List.length_eq_zero_iff.1 (by rw [← hr'l, e]; rfl))
         have hcell : (rowA (cellsV (Us.map (kyX l O).st ++ [(kyX l O).st r])) co)[Us.length * 1]? = some (.d (.list (nsD ((kyX l O).st r)))) := by
          rw [rowA, List.getElem?_append_left (by simp [cellsV]), cellsV, List.getElem?_map]; simp
         generalize hV : Us.map (kyX l O).st ++ [(kyX l O).st r] = V at *
         generalize hr' : (kyX l O).st r = r' at *
         refine ⟨famI l O V r' co f j i Us.length, famI_0 ?_ ?_, famI_step hcell (by omega) (by omega) (by omega) hni hr'0 (by omega), fun done τ hall hIf => ?_⟩
         ·intro e he
          simp only [famBL, List.mem_cons, List.not_mem_nil, or_false] at he
          rcases he with rfl | rfl | rfl | rfl | rfl | rfl <;> rfl
         ·intro e he
          simp only [famOL, List.mem_singleton] at he
          subst he
          rfl
         obtain ⟨h5, c, c1, c2, c3, c4, c5⟩ := hIf.J.b (hall 11 (by decide))
         have c6 := c5 (hall 12 (by decide))
         have hcr : rowC 1 (nsD (r' ++ [i])) c = rowN (r' ++ [i]) c := by rw [rowC_rowA (nsD_one _), ← nsA_nsD]; rfl
         rw [hcr] at c4
         refine ⟨⟨[(0, .d (.list (glsD l))), (3, .d (.list (nsD O))), (7, .rs (.l 120) V.length co), (8, .d (.int .i64 (f : Nat))), (9, .d (.int .i64 (j : Nat))), (11, .d (.int .i64 ((Us.length : Int) + 1))), (12, .rs (.l 130) (r'.length + 1) c)], [(120, .cells (rowA (cellsV V) co)), (130, .cells (rowN (r' ++ [i]) c))], []⟩,
          Gho.wk ⟨⟨hIf.B (0, _) (by simp [famBL]), hIf.B (3, _) (by simp [famBL]), hIf.B (7, _) (by simp [famBL]), hIf.B (8, _) (by simp [famBL]), hIf.B (9, _) (by simp [famBL]), hIf.B (11, _) (by simp [famBL]), c6, trivial⟩, ⟨hIf.O (.l 120, _) (by simp [famOL]), c4, trivial⟩, trivial⟩, ?_⟩
         clear hIf hall c3 c4 c5 c6
         have hup2 : (kyX l O).up (r ++ [i]) := by
          refine List.Pairwise.sublist ?_ (idx_up hOnd)
          have hs2 : (r ++ [i]).Sublist (O.take (j + 1)) := by
           rw [htk, ← hfl]
           simp only [List.flatten_append, List.flatten_cons, List.flatten_nil, List.append_nil, List.append_assoc]
           exact List.sublist_append_right _ _
          exact hs2.trans (List.take_sublist _ _)
         have hrl' : ∀ a ∈ r', a < l.length := fun a ha => hlt' a (hrO a ((Ky.st_perm r).subset (by rw [hr']; exact ha)))
         have hVm : V.length = Us.length + 1 := by rw [← hV]; simp
         simp (maxSteps := 2000000) only [go_sem, ↓reduceIte]
         refine run_loop (fun y : List Nat × List Nat => ⟨[(0, .d (.list (glsD l))), (3, .d (.list (nsD O))), (7, .rs (.l 120) V.length co), (8, .d (.int .i64 (f : Nat))), (9, .d (.int .i64 (j : Nat))), (11, .d (.int .i64 ((Us.length : Int) + 1))), (12, .rs (.l 130) (r'.length + 1) c), (13, .d (.int .i64 (y.1.length : Nat)))], [(120, .cells (rowA (cellsV V) co)), (130, .cells (rowN (y.1 ++ i :: y.2) c))], []⟩)
          (fun y => y.1 ++ y.2 = r' ∧ ∀ b ∈ y.2, (kyX l O).key i < (kyX l O).key b) (fun y => y.1.length) (r', []) ?_ ?_ ?_
         ·have e0 : IntKind.i64.wrap ((r'.length : Int) + 1 - 1) = (r'.length : Int) := by rw [IntWalk.i64_in] <;> omega
          refine Weak.mk ?_ ?_ ?_ <;> simp (maxSteps := 2000000) only [go_sem, ↓reduceIte, Sub, Int.natCast_add, Int.natCast_mul, e0]
         ·exact ⟨by simp, fun b hb => by cases hb⟩
         ·rintro ⟨A, B⟩ ⟨e1, e2⟩
          simp only at e1 e2
          have hAB : (A ++ i :: B).length = r'.length + 1 := by rw [← e1]; simp only [List.length_append, List.length_cons]; omega
          have l1 : (rowN (A ++ i :: B) c)[((A.length : Nat) : Int).toNat * 1]? = some (.d (.int .i64 (i : Nat))) := by
           rw [show ((A.length : Nat) : Int).toNat * 1 = A.length by omega]; exact rowN_get bub_get
          have eM : ((Us.length : Int) + 1 - 1) = ((Us.length : Nat) : Int) := by omega
          rcases List.eq_nil_or_concat A with rfl | ⟨A', a, rfl⟩
          ·have hBO : B.length = r'.length := by rw [← e1]; rfl
           have fin_ : [] ++ i :: B = (kyX l O).st (r ++ [i]) := ins_st (by rw [e1, hr']) hup2 e2 (fun a h => by cases h)
           simp (maxSteps := 2000000) (disch := omega) only [go_sem, ↓reduceIte, eM]
           have hXl : (i :: B).length = r'.length + 1 := hAB
           refine AStep.ghost (AStep.step rfl (fun _ _ _ h => by cases h) rfl ?_)
           refine ⟨⟨[(0, .d (.list (glsD l))), (3, .d (.list (nsD O))), (7, .rs (.l 120) V.length co), (8, .d (.int .i64 (f : Nat))), (9, .d (.int .i64 (j : Nat))), (183, .rs (.l 120) V.length co), (185, .d (.int .i64 (Us.length : Nat))), (186, .d (.list (nsD (i :: B))))], [(120, .cells (rowA (cellsV V) co))], []⟩,
            Gh.trans (Gh.frzL (a := 130) (sz := 1) (fs := nsD (i :: B)) (c := c) ?_ (fun y hy => by rw [nsD_one (i :: B) y hy]; rfl) (by rw [nsD_len, hXl]; exact c1)) (Gh.wk ⟨fun t x hx => ?_, fun q ob h => ?_⟩), ?_⟩
           ·rw [rowC_rowA (nsD_one (i :: B)), ← nsA_nsD]; rfl
           ·simp only [aget] at hx
            repeat' split at hx
            all_goals first
             | (cases hx; done)
             | (rename_i e; subst e; cases hx; rw [St.ρ_frzL (x := .rs (.l 130) (r'.length + 1) c) rfl, AV.frzL, if_pos rfl, if_pos ⟨by rw [nsD_len, hXl], rfl⟩]; done)
             | (rename_i e; subst e; cases hx; exact (St.ρ_frzL rfl).trans rfl)
           ·have hq : q = .l 120 := by
             cases q with
             | l s =>
              simp only [St.obj, aget] at h
              split at h
              ·rename_i e; rw [e]
              ·cases h
             | x s => cases h
            subst hq
            cases h
            exact (St.obj_frzL_of (o := .cells (rowA (cellsV V) co)) rfl (by decide)).trans (by rw [rowV_frz])
           ·have hset : (rowA (cellsV V) co).set (((Us.length : Nat) : Int).toNat * 1) (.d (.list (nsD (i :: B)))) = rowA (cellsV (Us.map (kyX l O).st ++ [i :: B])) co := by
             rw [show ((Us.length : Nat) : Int).toNat * 1 = Us.length by omega, ← hV, rowV_set (by simp)]
            have hlen : (rowA (cellsV V) co).length = co := rowA_len (by rw [cellsV_len, hVm, ← hlen1]; exact hco.1)
            have hmp2 : (Us ++ [r ++ [i]]).map (kyX l O).st = Us.map (kyX l O).st ++ [i :: B] := by rw [List.map_append, List.map_cons, List.map_nil, ← fin_] <;> rfl
            have hgl2 : ((Us ++ [r ++ [i]]).getLastD []).headD 0 = f := by simp [List.getLastD_eq_getLast?, hrf]
            have hl2 : (Us.map (kyX l O).st ++ [i :: B]).length = V.length := by rw [hVm]; simp
            simp (maxSteps := 2000000) (disch := omega) only [go_sem, ↓reduceIte, hset, hlen]
            refine ⟨⟨by omega, by omega⟩, by omega, (j + 1, Us ++ [r ++ [i]], co), ?_, ⟨by simp only; omega, by simp only; rw [hgr, hgs], .inr ⟨by rw [show (Us ++ [r ++ [i]]).length = (Us ++ [r]).length by simp]; exact hco.1, hco.2⟩, by simp only [List.length_append, List.length_cons, List.length_nil] at hUl ⊢ <;> omega⟩, by simp only; omega⟩
            simp only
            rw [hmp2, outS7_of (by simp), outL7_of (by simp), hgl2]
            refine Weak.mk ?_ ?_ ?_ <;> simp (maxSteps := 2000000) only [go_sem, ↓reduceIte, Sub, Int.natCast_add, Int.natCast_mul, hl2]
          ·rw [List.concat_eq_append] at *
           have ha : a < l.length := hrl' a (by rw [← e1]; simp)
           have hga : (glsD l)[a]? = some (glAt l a).d := by rw [glsD_get, glAt_get (by omega)]; rfl
           have hAl : A'.length + 1 + B.length = r'.length := by rw [← e1]; simp only [List.length_append, List.length_cons, List.length_nil]
           have eA : (((A' ++ [a]).length : Int) - 1) = ((A'.length : Nat) : Int) := by simp
           have z : (0 < ((A' ++ [a]).length : Int)) = True := eq_true (by simp)
           have l2 : (rowN (A' ++ [a] ++ i :: B) c)[((A'.length : Nat) : Int).toNat * 1]? = some (.d (.int .i64 (a : Nat))) := by
            rw [show ((A'.length : Nat) : Int).toNat * 1 = A'.length by omega]; exact rowN_get bub_get1
           have hAA : (A' ++ [a]).length = A'.length + 1 := by simp
           by_cases hy : (glAt l i).ax < (glAt l a).ax
           ·have z2 := eq_true hy
            have l3 : (rowN (A' ++ [a] ++ i :: B) c).set ((((A' ++ [a]).length : Nat) : Int).toNat * 1) (.d (.int .i64 (a : Nat))) = rowN ((A' ++ [a] ++ i :: B).set (A'.length + 1) a) c := by
             rw [show (((A' ++ [a]).length : Nat) : Int).toNat * 1 = A'.length + 1 by simp]; exact rowN_set (by simp)
            have l4 : (rowN ((A' ++ [a] ++ i :: B).set (A'.length + 1) a) c).set (((A'.length : Nat) : Int).toNat * 1) (.d (.int .i64 (i : Nat))) = rowN (A' ++ i :: a :: B) c := by
             rw [show ((A'.length : Nat) : Int).toNat * 1 = A'.length by omega, ← bub_set]; exact rowN_set (by simp)
            have l6 : (rowN (A' ++ [a] ++ i :: B) c).length = c := rowN_len (by rw [hAB]; exact c1)
            have l7 : (rowN ((A' ++ [a] ++ i :: B).set (A'.length + 1) a) c).length = c := rowN_len (by rw [List.length_set, hAB]; exact c1)
            simp (maxSteps := 2000000) (disch := omega) only [go_sem, ↓reduceIte, z, z2, eA, l1, l2, l3, l4, l6, l7, getI_nat, hga, hgi, Gl.d]
            refine ⟨⟨by omega, by omega⟩, ⟨by omega, by omega⟩, ⟨by omega, by omega⟩, ⟨by omega, by omega⟩, ⟨by omega, by omega⟩, by omega, ⟨by omega, by omega⟩, by omega, (A', a :: B), ?_, ⟨by rw [← e1]; simp, fun b hb => ?_⟩, by simp only [hAA]; omega⟩
            ·refine Weak.mk ?_ ?_ ?_ <;> simp (maxSteps := 2000000) only [go_sem, ↓reduceIte, Sub, Int.natCast_add, Int.natCast_mul]
            ·rcases List.mem_cons.1 hb with rfl | hb
             ·exact hy
             ·exact e2 b hb
           ·have z2 := eq_false hy
            have fin_ : A' ++ [a] ++ i :: B = (kyX l O).st (r ++ [i]) := ins_st (by rw [e1, hr']) hup2 e2 (fun b hb => by
             obtain rfl : a = b := by simpa using hb
             exact hy)
            simp (maxSteps := 2000000) (disch := omega) only [go_sem, ↓reduceIte, z, z2, eA, l1, l2, getI_nat, hga, hgi, Gl.d, eM]
            refine ⟨⟨by omega, by omega⟩, ⟨by omega, by omega⟩, ?_⟩
            have hXl : (A' ++ [a] ++ i :: B).length = r'.length + 1 := hAB
            refine AStep.ghost (AStep.step rfl (fun _ _ _ h => by cases h) rfl ?_)
            refine ⟨⟨[(0, .d (.list (glsD l))), (3, .d (.list (nsD O))), (7, .rs (.l 120) V.length co), (8, .d (.int .i64 (f : Nat))), (9, .d (.int .i64 (j : Nat))), (183, .rs (.l 120) V.length co), (185, .d (.int .i64 (Us.length : Nat))), (186, .d (.list (nsD (A' ++ [a] ++ i :: B))))], [(120, .cells (rowA (cellsV V) co))], []⟩,
             Gh.trans (Gh.frzL (a := 130) (sz := 1) (fs := nsD (A' ++ [a] ++ i :: B)) (c := c) ?_ (fun y hy => by rw [nsD_one (A' ++ [a] ++ i :: B) y hy]; rfl) (by rw [nsD_len, hXl]; exact c1)) (Gh.wk ⟨fun t x hx => ?_, fun q ob h => ?_⟩), ?_⟩
            ·rw [rowC_rowA (nsD_one (A' ++ [a] ++ i :: B)), ← nsA_nsD]; rfl
            ·simp only [aget] at hx
             repeat' split at hx
             all_goals first
              | (cases hx; done)
              | (rename_i e; subst e; cases hx; rw [St.ρ_frzL (x := .rs (.l 130) (r'.length + 1) c) rfl, AV.frzL, if_pos rfl, if_pos ⟨by rw [nsD_len, hXl], rfl⟩]; done)
              | (rename_i e; subst e; cases hx; exact (St.ρ_frzL rfl).trans rfl)
            ·have hq : q = .l 120 := by
              cases q with
              | l s =>
               simp only [St.obj, aget] at h
               split at h
               ·rename_i e; rw [e]
               ·cases h
              | x s => cases h
             subst hq
             cases h
             exact (St.obj_frzL_of (o := .cells (rowA (cellsV V) co)) rfl (by decide)).trans (by rw [rowV_frz])
            ·have hset : (rowA (cellsV V) co).set (((Us.length : Nat) : Int).toNat * 1) (.d (.list (nsD (A' ++ [a] ++ i :: B)))) = rowA (cellsV (Us.map (kyX l O).st ++ [A' ++ [a] ++ i :: B])) co := by
              rw [show ((Us.length : Nat) : Int).toNat * 1 = Us.length by omega, ← hV, rowV_set (by simp)]
             have hlen : (rowA (cellsV V) co).length = co := rowA_len (by rw [cellsV_len, hVm, ← hlen1]; exact hco.1)
             have hmp2 : (Us ++ [r ++ [i]]).map (kyX l O).st = Us.map (kyX l O).st ++ [A' ++ [a] ++ i :: B] := by rw [List.map_append, List.map_cons, List.map_nil, ← fin_] <;> rfl
             have hgl2 : ((Us ++ [r ++ [i]]).getLastD []).headD 0 = f := by simp [List.getLastD_eq_getLast?, hrf]
             have hl2 : (Us.map (kyX l O).st ++ [A' ++ [a] ++ i :: B]).length = V.length := by rw [hVm]; simp
             simp (maxSteps := 2000000) (disch := omega) only [go_sem, ↓reduceIte, hset, hlen]
             refine ⟨⟨by omega, by omega⟩, by omega, (j + 1, Us ++ [r ++ [i]], co), ?_, ⟨by simp only; omega, by simp only; rw [hgr, hgs], .inr ⟨by rw [show (Us ++ [r ++ [i]]).length = (Us ++ [r]).length by simp]; exact hco.1, hco.2⟩, by simp only [List.length_append, List.length_cons, List.length_nil] at hUl ⊢ <;> omega⟩, by simp only; omega⟩
             simp only
             rw [hmp2, outS7_of (by simp), outL7_of (by simp), hgl2]
             refine Weak.mk ?_ ?_ ?_ <;> simp (maxSteps := 2000000) only [go_sem, ↓reduceIte, Sub, Int.natCast_add, Int.natCast_mul, hl2]
        ·have zn : ((glAt l f).sz < 2 * ((glAt l f).ay - (glAt l i).ay)) = True := eq_true (by omega)
         rw [hnear, decide_eq_false hn, if_neg (by simp)] at hgs
         simp (maxSteps := 2000000) (disch := omega) only [go_sem, ↓reduceIte, getI_nat, hni, hgi, hgf, Gl.d, hOI, hVl, z1, zn]
         refine AStep.app1 (r := 120) (c := co) (cs := cellsV (Us.map (kyX l O).st ++ [(kyX l O).st r])) (y := .d (.list [.int .i64 (i : Nat)])) rowsSl (.inr ⟨by rw [cellsV_len]; rfl, rfl, by rw [cellsV_len]; simp only [List.length_append, List.length_map, List.length_cons, List.length_nil]; omega, hco.2⟩) (Src1.own rfl) (cellsV_ok _ _) ⟨rfl, rfl, fun e he => by cases he⟩ (by rw [cellsV_len]; simp only [maxLen, List.length_append, List.length_map, List.length_cons, List.length_nil]; omega) (fun c' h1 h2 => ?_)
         rw [cellsV_len] at h1 ⊢
         rw [show rowA (cellsV (Us.map (kyX l O).st ++ [(kyX l O).st r]) ++ [AV.d (.list [.int .i64 (i : Nat)])]) c' = rowA (cellsV (Us.map (kyX l O).st ++ [(kyX l O).st r] ++ [[i]])) c' by simp [cellsV, nsD]]
         simp (maxSteps := 2000000) (disch := omega) only [go_sem, ↓reduceIte, getI_nat, hni, hOI]
         have hmp2 : (Us ++ [r] ++ [[i]]).map (kyX l O).st = Us.map (kyX l O).st ++ [(kyX l O).st r] ++ [[i]] := by simp; rfl
         have hgl2 : ((Us ++ [r] ++ [[i]]).getLastD []).headD 0 = i := by simp [List.getLastD_eq_getLast?]
         have hl2 : (Us.map (kyX l O).st ++ [(kyX l O).st r] ++ [[i]]).length = (Us.map (kyX l O).st ++ [(kyX l O).st r]).length + 1 := by simp
         refine ⟨(j + 1, Us ++ [r] ++ [[i]], c'), ?_, ⟨by simp only; omega, by simp only; rw [hgr, hgs], .inr ⟨?_, h2⟩, ?_⟩, by simp only; omega⟩
         ·simp only
          rw [hmp2, outS7_of (by simp), outL7_of (by simp), hgl2]
          refine Weak.mk ?_ ?_ ?_ <;> simp (maxSteps := 2000000) only [go_sem, ↓reduceIte, Sub, Int.natCast_add, Int.natCast_mul, hl2]
         ·simp only [List.length_append, List.length_map, List.length_cons, List.length_nil] at h1 ⊢
          omega
         ·simp only [List.length_append, List.length_cons, List.length_nil] at hUl ⊢
          omega
      ·have hjn : j = O.length := by omega
       subst hjn
       rw [List.take_length] at hU
       have hlF' : linesF l = U.map (kyX l O).st := by rw [hlF, hgF, ← hU]
       by_cases hU0 : U = []
       ·subst hU0
        have hs : outS7 [] co = .ns := rfl
        have hb : outL7 [] co = [] := rfl
        rw [hlF']
        simp only [List.map_nil, hs, hb]
        refine AStep.step rfl (fun _ _ _ h => by cases h) rfl ?_
        simp (maxSteps := 2000000) only [go_sem, ↓reduceIte]
       ·have hm0 : U.map (kyX l O).st ≠ [] := by simpa using hU0
        have hco := hco.resolve_left hU0
        have hml : (U.map (kyX l O).st).length = U.length := by simp
        rw [outS7_of hm0, outL7_of hm0]
        refine AStep.ghost (AStep.step rfl (fun _ _ _ h => by cases h) rfl ?_)
        have hcs : cellsV (U.map (kyX l O).st) = ((U.map (kyX l O).st).map fun r => D.list (nsD r)).map .d := by simp [cellsV]
        have hone : ∀ y ∈ (U.map (kyX l O).st).map (fun r => D.list (nsD r)), y.cells = [y] := fun y hy => by
         obtain ⟨q, _, rfl⟩ := List.mem_map.1 hy
         rfl
        refine ⟨⟨[(188, .d (.list ((U.map (kyX l O).st).map fun r => D.list (nsD r))))], [], []⟩, Gh.trans (Gh.frzL (a := 120) (sz := 1) (fs := (U.map (kyX l O).st).map fun r => D.list (nsD r)) (c := co) ?_ (fun y hy => by rw [hone y hy]; rfl) (by rw [List.length_map, hml]; exact hco.1)) (Gh.wk ⟨fun t x hx => ?_, fun q ob h => by cases q <;> cases h⟩), ?_⟩
        ·rw [rowC_rowA hone, ← hcs]; rfl
        ·simp only [aget] at hx
         split at hx
         ·rename_i e; subst e; cases hx
          rw [St.ρ_frzL (x := .rs (.l 120) (U.map (kyX l O).st).length co) rfl, AV.frzL, if_pos rfl, if_pos ⟨by simp, rfl⟩]
         ·cases hx
        ·rw [hlF']
         simp (maxSteps := 2000000) only [go_sem, ↓reduceIte]
end Go.Av.Try
set_option linter.unusedSimpArgs false
set_option maxRecDepth 100000
set_option maxHeartbeats 2000000
namespace Go.Av.Try
open Go.Proofs
def chkW (l : List Gl) : Option Nat → Bool → List Nat → Prop
 | _, _, [] => True
 | last, f, g :: r => (∀ j, last = some j → (glAt l j).ax ≤ (glAt l g).ax ∧ room l j g = f) ∧ chkW l (some g) false r
def lst : Option Nat → List Nat → Option Nat
 | last, [] => last
 | _, g :: r => lst (some g) r
def chkR (l : List Gl) : Option Nat → List (List Nat) → Prop
 | _, [] => True
 | last, w :: ws => chkW l last true w ∧ chkR l (lst last w) ws
theorem lst_app (a b : List Nat) : ∀ last, lst last (a ++ b) = lst (lst last a) b := by
 induction a with
 | nil => intro _; rfl
 | cons g a ih => intro last; exact ih (some g)
theorem chkW_app {l : List Gl} {b : List Nat} : ∀ {a : List Nat} {last : Option Nat} {f : Bool}, chkW l last f (a ++ b) ↔ chkW l last f a ∧ chkW l (lst last a) (if a = [] then f else false) b
 | [], last, f => by simp [chkW, lst]
 | g :: a, last, f => by
  simp only [List.cons_append, chkW, chkW_app (a := a), lst, and_assoc]
  by_cases ha : a = [] <;> simp [ha]
theorem chkR_app {l : List Gl} {b : List (List Nat)} : ∀ {a : List (List Nat)} {last : Option Nat}, chkR l last (a ++ b) ↔ chkR l last a ∧ chkR l (lst last a.flatten) b
 | [], last => by simp [chkR, lst]
 | w :: a, last => by
  simp only [List.cons_append, chkR, chkR_app (a := a), List.flatten_cons, lst_app, and_assoc]
structure WOk (l : List Gl) (last : Option Nat) (rows : List (List Nat)) : Prop where
 chk : chkR l none rows
 fin : lst none rows.flatten = last
 ne : ∀ w ∈ rows, w ≠ []
 inh : last ≠ none → rows ≠ []
theorem WOk.add {l : List Gl} {last : Option Nat} {rows : List (List Nat)} {i : Nat} (h : WOk l last rows) (hs : ∀ j, last = some j → (glAt l j).ax ≤ (glAt l i).ax) : WOk l (some i) (addW l last rows i) ∧ (addW l last rows i).flatten = rows.flatten ++ [i] := by
 have hnew : (∀ j, last = some j → room l j i = true) → WOk l (some i) (rows ++ [[i]]) ∧ (rows ++ [[i]]).flatten = rows.flatten ++ [i] := fun hr => by
  refine ⟨⟨chkR_app.2 ⟨h.chk, ⟨⟨fun j hj => ?_, trivial⟩, trivial⟩⟩, ?_, fun w hw => ?_, fun _ => by simp⟩, by simp⟩
  ·rw [h.fin] at hj
   exact ⟨hs j hj, hr j hj⟩
  ·simp [lst_app, lst]
  ·rcases List.mem_append.1 hw with hw | hw
   ·exact h.ne w hw
   ·rw [List.mem_singleton.1 hw]; simp
 cases last with
 | none => exact hnew fun j hj => by cases hj
 | some j =>
  simp only [addW]
  by_cases hr : room l j i = true
  ·rw [if_pos hr]
   exact hnew fun j' hj => by cases hj; exact hr
  ·rw [if_neg hr]
   rcases List.eq_nil_or_concat rows with rfl | ⟨rs, r, rfl⟩
   ·exact absurd rfl (h.inh (by simp))
   ·rw [List.concat_eq_append] at *
    have hrn := h.ne r (by simp)
    obtain ⟨c1, c2⟩ := chkR_app.1 h.chk
    have hl := h.fin
    rw [List.flatten_append, lst_app] at hl
    rw [extW_snoc]
    refine ⟨⟨chkR_app.2 ⟨c1, chkW_app.2 ⟨c2.1, fun j' hj => ?_, trivial⟩, trivial⟩, ?_, fun w hw => ?_, fun _ => by simp⟩, by simp⟩
    ·have e : lst (lst none rs.flatten) r = some j := by simpa using hl
     rw [e] at hj
     cases hj
     exact ⟨hs j rfl, by simpa [hrn] using hr⟩
    ·simp [lst_app, lst]
    ·rcases List.mem_append.1 hw with hw | hw
     ·exact h.ne w (by simp [hw])
     ·rw [List.mem_singleton.1 hw]; simp
theorem wordsR_ok {l : List Gl} : ∀ (r : List Nat) (last : Option Nat) (rows : List (List Nat)), WOk l last rows → (∀ j, last = some j → ∀ i ∈ r, (glAt l j).ax ≤ (glAt l i).ax) → r.Pairwise (fun i j => (glAt l i).ax ≤ (glAt l j).ax) →
  (∃ e, WOk l e (wordsR l last rows r)) ∧ (wordsR l last rows r).flatten = rows.flatten ++ r
 | [], last, rows, h, _, _ => ⟨⟨last, h⟩, by simp [wordsR]⟩
 | i :: r, last, rows, h, h1, h2 => by
  obtain ⟨a1, a2⟩ := h.add (i := i) fun j hj => h1 j hj i (by simp)
  obtain ⟨b1, b2⟩ := wordsR_ok r (some i) _ a1 (fun j hj k hk => by cases hj; exact List.rel_of_pairwise_cons h2 hk) (List.Pairwise.of_cons h2)
  exact ⟨b1, by rw [wordsR, b2, a2]; simp⟩
theorem linesF_srt {l : List Gl} : ∀ r ∈ linesF l, r.Pairwise (fun i j => (glAt l i).ax ≤ (glAt l j).ax) := fun r hr => by
 obtain ⟨q, hq, rfl⟩ := List.mem_map.1 hr
 have hf : (grpF l).flatten = ordF l := by rw [grpF, grp_flat, List.flatten_nil, List.nil_append]
 have h := Ky.st_srt (Ky.up_tot (row_up (l := l) (ordF_nodup l) hf hq))
 exact List.Pairwise.imp (fun {a b} h => by
  have h : (kyX l (ordF l)).T a b := h
  unfold Ky.T kyX at h
  simp only at h
  omega) h
theorem words_ok {l : List Gl} {r : List Nat} (hr : r ∈ linesF l) : chkR l none (wordsOf l r) ∧ (wordsOf l r).flatten = r ∧ ∀ w ∈ wordsOf l r, w ≠ [] := by
 obtain ⟨⟨e, h1⟩, h2⟩ := wordsR_ok (l := l) r none [] ⟨trivial, rfl, (fun w hw => by cases hw), fun h => absurd rfl h⟩ (fun j hj => by cases hj) (linesF_srt r hr)
 exact ⟨h1.chk, by simpa [wordsOf] using h2, h1.ne⟩
/-! ### What has been seen -/
def cellsB (A : List Nat) (n : Nat) : List AV := (List.range n).map fun i => .d (.bool (decide (i ∈ A)))
theorem cellsB_drop (r : Ref) (A : List Nat) (n : Nat) : (cellsB A n).map (AV.drop r) = cellsB A n := by
 refine (List.map_congr_left fun x hx => ?_).trans (List.map_id _)
 simp only [cellsB, List.mem_map] at hx
 obtain ⟨i, _, rfl⟩ := hx
 rfl
attribute [go_sem] cellsB_drop
def L_foliowrightref_Apart : LCode :=
 .seq (.reg [⟨some 2, .box (.t 0), none⟩, ⟨some 3, .box (.t 1), none⟩, Qx 4 KF]) (.seq (.reg [Q 5 (.fa 1 (.t 3)), Q 6 (.fa 0 (.t 5)), Q 7 (.ld false 1 (.t 6)), Q 8 (.fa 3 (.t 2)), Q 
 9 (.fa 0 (.t 8)), Q 10 (.ld false 1 (.t 9)), Q 11 (.bin .sub (.t 7) (.t 10)), Q 12 (.bin .mul (Ki 4) (.t 11)), Q 13 (.fa 5 (.t 2)), Q 14 (.ld false 1 (.t 13)), Q 15 (.bin .gtr 
 (.t 12) (.t 14)), Qa 4 15]) .ret)
def R_foliowrightref_Apart : List LRes := [.tmp 4]
theorem lift_foliowrightref_Apart : Lifts Try.prog 15 16 L_foliowrightref_Apart R_foliowrightref_Apart := ⟨_, _, Try.func15, rfl, by kernel_rfl, by kernel_rfl, rfl⟩
theorem apart_call (l : List Gl) (hok : ∀ g ∈ l, g.ok) {j i : Nat} (hj : j < l.length) (hi : i < l.length) : PCall Try.prog 15 [(glAt l j).d, (glAt l i).d] (fun r => r = .one (.bool (room l j i))) := by
 obtain ⟨o1, o2, o3, o4, o5⟩ := hok _ (List.mem_of_getElem? (glAt_get hi))
 obtain ⟨u1, u2, u3, u4, u5⟩ := hok _ (List.mem_of_getElem? (glAt_get hj))
 unfold inB at o1 o2 o3 o4 o5 u1 u2 u3 u4 u5
 unfold Gl.d
 refine lift_foliowrightref_Apart.call rfl ?_
 simp (maxSteps := 2000000) (disch := omega) only [go_sem, ↓reduceIte, L_foliowrightref_Apart, R_foliowrightref_Apart, room]
theorem len_flat : ∀ {ws : List (List Nat)}, (∀ w ∈ ws, w ≠ []) → ws.length ≤ ws.flatten.length
 | [], _ => Nat.zero_le _
 | w :: ws, h => by
  have h1 := len_flat (ws := ws) fun x hx => h x (by simp [hx])
  have h2 := List.length_pos_iff.2 (h w (by simp))
  simp only [List.length_cons, List.flatten_cons, List.length_append]; omega
end Go.Av.Try
set_option linter.unusedSimpArgs false
set_option maxRecDepth 100000
set_option maxHeartbeats 2000000
namespace Go.Av.Try
open Go.Proofs
def tS (T : List Tri) : List D := natsU (T.map (·.1))
def tO (T : List Tri) : List D := inD (T.map (·.2.1))
def tL (T : List Tri) : List D := inD (T.map (·.2.2))
theorem tS_len (T : List Tri) : (tS T).length = T.length := by simp [tS, natsU_length]
theorem tO_len (T : List Tri) : (tO T).length = T.length := by simp [tO, inD_len]
theorem tL_len (T : List Tri) : (tL T).length = T.length := by simp [tL, inD_len]
theorem tS_snoc (T : List Tri) (c : Nat) (o n : Int) : tS T ++ [.int .i64 (c : Nat)] = tS (T ++ [(c, o, n)]) := by simp [tS, natsU]
theorem tO_snoc (T : List Tri) (c : Nat) (o n : Int) : tO T ++ [.int .i64 o] = tO (T ++ [(c, o, n)]) := by simp [tO, inD]
theorem tL_snoc (T : List Tri) (c : Nat) (o n : Int) : tL T ++ [.int .i64 n] = tL (T ++ [(c, o, n)]) := by simp [tL, inD]
def laidR (T : List Tri) : Res := .tup [.list (tS T), .list (tO T), .list (tL T)]
def glCells (g : Gl) : List AV := [.d (.str g.tx), .d (.int .i64 g.ax), .d (.int .i64 g.ay), .d (.int .i64 g.ex), .d (.int .i64 g.ey), .d (.int .i64 g.sz), .d (.int .i64 g.b0), .d (.int .i64 g.b1), .d (.int .i64 g.b2), .d (.int .i64 g.b3)]
def L_foliowrightref_Laid : LCode :=
 .seq (.reg [⟨some 2, .nils 3 1, none⟩, ⟨some 3, .nils 3 1, none⟩, ⟨some 4, .nils 3 1, none⟩]) (.seq (.reg [⟨some 5, .nils 3 1, none⟩, ⟨some 6, .nils 3 1, none⟩, ⟨some 7, .nils 3 1, 
 none⟩]) (.seq (.reg [Qc 15 0, ⟨some 16, .call 14 [.t 15], none⟩, Qa 8 16]) (.seq (.seq (.reg [Qx 9 (Ki 0)]) (.block 0 (.loop (.seq (.seq (.reg [Qc 17 9, Qc 18 8, Q 19 (.len false 
 (.t 18)), Q 20 (.bin .lss (.t 17) (.t 19))]) (.cond (.t 20) .skip (.exit 0))) (.seq (.block 1 (.seq (.join (.seq (.reg [Qc 23 9, Q 24 (.bin .gtr (.t 23) (Ki 0))]) (.cond (.t 24) 
 (.seq (.reg [Qc 25 5, ⟨some 26, .bsl 3 1 [.k (.d (.int .i64 10))], none⟩, ⟨some 27, .app 3 1 8 false (.t 25) (.t 26), none⟩, Qa 5 27]) (.seq (.reg [Qc 28 6, ⟨some 29, .bsl 3 1 
 [.k (.d (.int .i64 (-1)))], none⟩, ⟨some 30, .app 3 1 8 false (.t 28) (.t 29), none⟩, Qa 6 30]) (.reg [Qc 31 7, Qc 32 9, Q 33 (.bin .sub (.t 32) (Ki 1)), ⟨some 34, .bsl 3 1 [.t 
 33], none⟩, ⟨some 35, .app 3 1 8 false (.t 31) (.t 34), none⟩, Qa 7 35]))) .skip))) (.seq (.reg [Qx 10 (Ki 0)]) (.block 2 (.loop (.seq (.seq (.reg [Qc 36 10, Qc 37 8, Qc 38 9, Q 
 39 (.ia 1 (.t 37) (.t 38)), Q 40 (.ld false 1 (.t 39)), Q 41 (.len false (.t 40)), Q 42 (.bin .lss (.t 36) (.t 41))]) (.cond (.t 42) .skip (.exit 2))) (.seq (.block 3 (.seq (.reg 
 [Qc 45 0, Qc 46 8, Qc 47 9, Q 48 (.ia 1 (.t 46) (.t 47)), Q 49 (.ld false 1 (.t 48)), Qc 50 10, Q 51 (.ia 1 (.t 49) (.t 50)), Q 52 (.ld false 1 (.t 51)), Q 53 (.ia 10 (.t 45) (.t 
 52)), Q 54 (.ld true 10 (.t 53)), ⟨some 11, .allo [.str [], .int .i64 0, .int .i64 0, .int .i64 0, .int .i64 0, .int .i64 0, .int .i64 0, .int .i64 0, .int .i64 0, .int .i64 0], 
 none⟩, ⟨none, .st 10 (.t 11) (.t 54), none⟩]) (.seq (.join (.seq (.dreg [Qc 55 10, Q 56 (.bin .gtr (.t 55) (Ki 0)), Qc 57 56, Qd 58 0 57 true, Qd 59 8 57 true, Qd 60 9 57 true, 
 Qg 61 (.ia 1 (.t 59) (.t 60)) 57 true, Qg 62 (.ld false 1 (.t 61)) 57 true, Qd 63 10 57 true, Qg 64 (.bin .sub (.t 63) (Ki 1)) 57 true, Qg 65 (.ia 1 (.t 62) (.t 64)) 57 true, Qg 
 66 (.ld false 1 (.t 65)) 57 true, Qg 67 (.ia 10 (.t 58) (.t 66)) 57 true, Qg 68 (.ld true 10 (.t 67)) 57 true, Qg 69 (.ld true 10 (.t 11)) 57 true, ⟨some 70, .call 15 [.t 68, .t 
 69], some (57, true)⟩, Q 71 (.pick (.t 57) (.t 70) KF)]) (.cond (.t 71) (.seq (.reg [Qc 72 5, ⟨some 73, .bsl 3 1 [.k (.d (.int .i64 32))], none⟩, ⟨some 74, .app 3 1 8 false (.t 
 72) (.t 73), none⟩, Qa 5 74]) (.seq (.reg [Qc 75 6, ⟨some 76, .bsl 3 1 [.k (.d (.int .i64 (-1)))], none⟩, ⟨some 77, .app 3 1 8 false (.t 75) (.t 76), none⟩, Qa 6 77]) (.reg [Qc 
 78 7, Qc 79 9, ⟨some 80, .bsl 3 1 [.t 79], none⟩, ⟨some 81, .app 3 1 8 false (.t 78) (.t 80), none⟩, Qa 7 81]))) .skip))) (.seq (.reg [Q 83 (.fa 0 (.t 11)), Q 84 (.ld false 1 (.t 
 83)), ⟨some 85, .call 17 [.t 84], none⟩, Qc 82 85, Q 86 (.ext 0 (.t 82)), Q 87 (.ext 1 (.t 82)), Qa 12 86, Qa 13 87]) (.seq (.reg [Qx 14 (Ki 0)]) (.block 4 (.loop (.seq (.seq 
 (.reg [Qc 88 14, Qc 89 12, Q 90 (.len false (.t 89)), Q 91 (.bin .lss (.t 88) (.t 90))]) (.cond (.t 91) .skip (.exit 4))) (.seq (.block 5 (.seq (.reg [Qc 94 5, Qc 95 12, Qc 96 
 14, Q 97 (.ia 1 (.t 95) (.t 96)), Q 98 (.ld false 1 (.t 97)), ⟨some 99, .bsl 3 1 [.t 98], none⟩, ⟨some 100, .app 3 1 8 false (.t 94) (.t 99), none⟩, Qa 5 100]) (.seq (.reg [Qc 
 101 6, Qc 102 8, Qc 103 9, Q 104 (.ia 1 (.t 102) (.t 103)), Q 105 (.ld false 1 (.t 104)), Qc 106 10, Q 107 (.ia 1 (.t 105) (.t 106)), Q 108 (.ld false 1 (.t 107)), ⟨some 109, 
 .bsl 3 1 [.t 108], none⟩, ⟨some 110, .app 3 1 8 false (.t 101) (.t 109), none⟩, Qa 6 110]) (.reg [Qc 111 7, Qc 112 9, ⟨some 113, .bsl 3 1 [.t 112], none⟩, ⟨some 114, .app 3 1 8 
 false (.t 111) (.t 113), none⟩, Qa 7 114])))) (.reg [Qc 92 14, Q 93 (.bin .add (.t 92) (Ki 1)), Qa 14 93])))))))))) (.reg [Qc 43 10, Q 44 (.bin .add (.t 43) (Ki 1)), Qa 10 
 44])))))))) (.reg [Qc 21 9, Q 22 (.bin .add (.t 21) (Ki 1)), Qa 9 22])))))) (.seq (.reg [Qc 115 5, Qc 116 6, Qc 117 7, Qa 2 115, Qa 3 116, Qa 4 117]) .ret))))
def R_foliowrightref_Laid : List LRes := [.tmp 2, .tmp 3, .tmp 4]
theorem lift_foliowrightref_Laid : Lifts Try.prog 10 118 L_foliowrightref_Laid R_foliowrightref_Laid := ⟨_, _, Try.func10, rfl, by kernel_rfl, by kernel_rfl, rfl⟩
theorem refLaid_call (l : List Gl) (hl : l.length ≤ 150) (hok : ∀ g ∈ l, g.ok) (hr : ∀ g ∈ l, ∃ rs, runesM g.tx = some rs) (ht : ∀ g ∈ l, g.tx.length ≤ 60) (hb : (textF l).length ≤ 9300) : PCall Try.prog 10 [.list (glsD l)] (fun r => r = laidR (textF l)) := by
 have hlt := linesF_lt (l := l)
 have hrw := linesF_row (l := l)
 have hll := linesF_len l
 refine lift_foliowrightref_Laid.call rfl ?_
 simp (maxSteps := 2000000) (disch := omega) only [go_sem, ↓reduceIte, L_foliowrightref_Laid, R_foliowrightref_Laid]
 refine CallG.of (refLines_call l (by omega) hok) ?_
 have hres : textF l = pageT l 0 (linesF l) := rfl
 generalize linesF l = W at *
 generalize textF l = F at *
 have hWl : (W.map fun r => D.list (nsD r)).length = W.length := by simp
 simp (maxSteps := 2000000) only [go_sem, ↓reduceIte, hWl]
 refine run_loop (fun y : List Tri × Nat => ⟨[(0, .d (.list (glsD l))), (5, .own (.t 5) 3 1 (tS y.1)), (6, .own (.t 6) 3 1 (tO y.1)), (7, .own (.t 7) 3 1 (tL y.1)), (8, .d (.list (W.map fun r => D.list (nsD r)))), (9, .d (.int .i64 (y.2 : Nat)))], [], []⟩)
  (fun y => y.2 ≤ W.length ∧ F = y.1 ++ pageT l y.2 (W.drop y.2)) (fun y => W.length - y.2) ([], 0) ?_ ?_ ?_
 ·have e1 : tS [] = [] := rfl
  have e2 : tO [] = [] := rfl
  have e3 : tL [] = [] := rfl
  refine Weak.mk ?_ ?_ ?_ <;> simp (maxSteps := 2000000) only [go_sem, ↓reduceIte, Sub, Int.natCast_add, Int.natCast_mul, e1, e2, e3]
 ·exact ⟨Nat.zero_le _, hres⟩
 ·rintro ⟨T, n⟩ ⟨hn, hT⟩
  simp only at hn hT
  have hTl : T.length ≤ 9300 := by rw [hT] at hb; simp at hb; omega
  simp (maxSteps := 2000000) only [go_sem, ↓reduceIte, hWl]
  refine ⟨fun hlt1 => ?_, fun hge => ?_⟩
  ·obtain ⟨row, hrow⟩ := get_some (l := W) (i := n) (by omega)
   have hrl := hlt row (List.mem_of_getElem? hrow)
   have hrwl := hrw row (List.mem_of_getElem? hrow)
   have hget : (W.map fun r => D.list (nsD r))[n]? = some (.list (nsD row)) := by rw [List.getElem?_map, hrow]; rfl
   have hd : W.drop n = row :: W.drop (n + 1) := drop_at hrow
   rw [hd, pageT] at hT
   have hlenr : ((nsD row).length : Int) = (row.length : Int) := by rw [nsD_len]
   refine run_join ⟨[(0, .d (.list (glsD l))), (5, .own (.t 5) 3 1 (tS (T ++ (if n = 0 then [] else [(10, -1, (n : Int) - 1)])))), (6, .own (.t 6) 3 1 (tO (T ++ (if n = 0 then [] else [(10, -1, (n : Int) - 1)])))), (7, .own (.t 7) 3 1 (tL (T ++ (if n = 0 then [] else [(10, -1, (n : Int) - 1)])))), (8, .d (.list (W.map fun r => D.list (nsD r)))), (9, .d (.int .i64 (n : Nat)))], [], []⟩ ?_ ?_
   ·have s1 := tS_len T
    have s2 := tO_len T
    have s3 := tL_len T
    by_cases h0 : n = 0
    ·have z : (0 < (n : Int)) = False := eq_false (by omega)
     rw [if_pos h0, List.append_nil]
     simp (maxSteps := 2000000) (disch := omega) only [go_sem, ↓reduceIte, z]
     refine Gho.wk ?_
     refine Weak.mk ?_ ?_ ?_ <;> simp (maxSteps := 2000000) only [go_sem, ↓reduceIte, Sub, Int.natCast_add, Int.natCast_mul]
    ·have z : (0 < (n : Int)) = True := eq_true (by omega)
     rw [if_neg h0]
     have a1 := tS_snoc T 10 (-1) ((n : Int) - 1)
     have a2 := tO_snoc T 10 (-1) ((n : Int) - 1)
     have a3 := tL_snoc T 10 (-1) ((n : Int) - 1)
     have a1 : tS T ++ [.int .i64 10] = tS (T ++ [(10, -1, (n : Int) - 1)]) := a1
     simp (maxSteps := 2000000) (disch := omega) only [go_sem, ↓reduceIte, z, a1, a2, a3]
     refine ⟨⟨by omega, by omega⟩, ⟨by omega, by omega⟩, ⟨by omega, by omega⟩, Gho.wk ?_⟩
     refine Weak.mk ?_ ?_ ?_ <;> simp (maxSteps := 2000000) only [go_sem, ↓reduceIte, Sub, Int.natCast_add, Int.natCast_mul]
   ·rw [← List.append_assoc] at hT
    generalize T ++ (if n = 0 then [] else [(10, -1, (n : Int) - 1)]) = T1 at *
    simp (maxSteps := 2000000) only [go_sem, ↓reduceIte]
    refine run_loop (fun y : List Tri × Nat => ⟨[(0, .d (.list (glsD l))), (5, .own (.t 5) 3 1 (tS (y.1))), (6, .own (.t 6) 3 1 (tO (y.1))), (7, .own (.t 7) 3 1 (tL (y.1))), (8, .d (.list (W.map fun r => D.list (nsD r)))), (9, .d (.int .i64 (n : Nat))), (10, .d (.int .i64 (y.2 : Nat)))], [], []⟩)
     (fun y => y.2 ≤ row.length ∧ F = y.1 ++ (lineT l n (if y.2 = 0 then none else row[y.2 - 1]?) (row.drop y.2) ++ pageT l (n + 1) (W.drop (n + 1)))) (fun y => row.length - y.2) (T1, 0) ?_ ?_ ?_
    ·refine Weak.mk ?_ ?_ ?_ <;> simp (maxSteps := 2000000) only [go_sem, ↓reduceIte, Sub, Int.natCast_add, Int.natCast_mul]
    ·exact ⟨Nat.zero_le _, hT⟩
    ·clear hT hTl T T1
     rintro ⟨T, k⟩ ⟨hk, hT⟩
     simp only at hk hT
     have hTl : T.length ≤ 9300 := by rw [hT] at hb; simp at hb; omega
     simp (maxSteps := 2000000) (disch := omega) only [go_sem, ↓reduceIte, getI_nat, hget, hWl, hlenr]
     refine ⟨fun hlt2 => ?_, fun hge2 => ?_⟩
     ·obtain ⟨i, hi⟩ := get_some (l := row) (i := k) (by omega)
      have hil := hrl i (List.mem_of_getElem? hi)
      have hgi : (glsD l)[i]? = some (glAt l i).d := by rw [glsD_get, glAt_get hil]; rfl
      have hni : (nsD row)[k]? = some (.int .i64 (i : Nat)) := by rw [nsD_get, hi]; rfl
      have hmi := List.mem_of_getElem? (glAt_get hil)
      obtain ⟨rs, hrs⟩ := hr (glAt l i) hmi
      have hti := ht _ hmi
      have hI : ((glsD l).length : Int) = (l.length : Int) := by rw [glsD_length]
      rw [drop_at hi, lineT] at hT
      simp (maxSteps := 2000000) (disch := omega) only [go_sem, ↓reduceIte, getI_nat, hget, hWl, hlenr, hni, hgi, hI, Gl.d]
      refine run_join ⟨[(0, .d (.list (glsD l))), (5, .own (.t 5) 3 1 (tS (T ++ gapT l n (if k = 0 then none else row[k - 1]?) i))), (6, .own (.t 6) 3 1 (tO (T ++ gapT l n (if k = 0 then none else row[k - 1]?) i))), (7, .own (.t 7) 3 1 (tL (T ++ gapT l n (if k = 0 then none else row[k - 1]?) i))), (8, .d (.list (W.map fun r => D.list (nsD r)))), (9, .d (.int .i64 (n : Nat))), (10, .d (.int .i64 (k : Nat))), (11, .ptr (.l 11) 0)], [(11, .cells (glCells (glAt l i)))], []⟩ ?_ ?_
      ·have s1 := tS_len T
       have s2 := tO_len T
       have s3 := tL_len T
       by_cases h0 : k = 0
       ·have z : (0 < (k : Int)) = False := eq_false (by omega)
        rw [if_pos h0, show gapT l n none i = [] from rfl, List.append_nil]
        simp (maxSteps := 2000000) (disch := omega) only [go_sem, ↓reduceIte, z]
        refine Gho.wk ?_
        refine Weak.mk ?_ ?_ ?_ <;> simp (maxSteps := 2000000) only [go_sem, ↓reduceIte, Sub, Int.natCast_add, Int.natCast_mul, glCells]
       ·have z : (0 < (k : Int)) = True := eq_true (by omega)
        obtain ⟨j, hj⟩ := get_some (l := row) (i := k - 1) (by omega)
        have hjl := hrl j (List.mem_of_getElem? hj)
        have hgj : (glsD l)[j]? = some (glAt l j).d := by rw [glsD_get, glAt_get hjl]; rfl
        have hnj : (nsD row)[k - 1]? = some (.int .i64 (j : Nat)) := by rw [nsD_get, hj]; rfl
        have e1 : ((k : Int) - 1) = ((k - 1 : Nat) : Int) := by omega
        rw [if_neg h0, hj]
        simp (maxSteps := 2000000) (disch := omega) only [go_sem, ↓reduceIte, z, e1, getI_nat, hget, hWl, hlenr, hnj, hgj, hI, Gl.d]
        refine CallD.of (apart_call l hok hjl hil) ?_
        cases hrm : room l j i with
        | true =>
         rw [show gapT l n (some j) i = [(32, -1, (n : Int))] by rw [gapT, hrm]; rfl]
         have a1 : tS T ++ [.int .i64 32] = tS (T ++ [(32, -1, (n : Int))]) := tS_snoc T 32 (-1) (n : Int)
         have a2 := tO_snoc T 32 (-1) (n : Int)
         have a3 := tL_snoc T 32 (-1) (n : Int)
         simp (maxSteps := 2000000) (disch := omega) only [go_sem, ↓reduceIte, a1, a2, a3]
         refine ⟨⟨by omega, by omega⟩, ⟨by omega, by omega⟩, ⟨by omega, by omega⟩, Gho.wk ?_⟩
         refine Weak.mk ?_ ?_ ?_ <;> simp (maxSteps := 2000000) only [go_sem, ↓reduceIte, Sub, Int.natCast_add, Int.natCast_mul, glCells]
        | false =>
         rw [show gapT l n (some j) i = [] by rw [gapT, hrm]; rfl, List.append_nil]
         simp (maxSteps := 2000000) (disch := omega) only [go_sem, ↓reduceIte]
         refine Gho.wk ?_
         refine Weak.mk ?_ ?_ ?_ <;> simp (maxSteps := 2000000) only [go_sem, ↓reduceIte, Sub, Int.natCast_add, Int.natCast_mul, glCells]
      ·have hgT : glyT l n i = rs.map fun r => (r, (i : Int), (n : Int)) := by rw [glyT, rnG, hrs]; rfl
       rw [hgT] at hT
       generalize hT2 : T ++ gapT l n (if k = 0 then none else row[k - 1]?) i = T2 at *
       have hT3 : F = T2 ++ (rs.map (fun r => (r, (i : Int), (n : Int))) ++ (lineT l n (some i) (row.drop (k + 1)) ++ pageT l (n + 1) (W.drop (n + 1)))) := by rw [hT, ← hT2]; simp
       have hrsl : rs.length ≤ 9300 := by rw [hT3] at hb; simp at hb; omega
       have ew : IntKind.i64.wrap ((k : Int) + 1) = (k : Int) + 1 := by rw [IntWalk.i64_in] <;> omega
       clear hT hT2 hTl T
       simp (maxSteps := 2000000) (disch := omega) only [go_sem, ↓reduceIte, glCells]
       refine CallG.of (runes_call _ (by omega)) ?_
       rw [hrs]
       simp only [runesRes]
       simp (maxSteps := 2000000) only [go_sem, ↓reduceIte]
       have hrl2 : ((natsU rs).length : Int) = (rs.length : Int) := by rw [natsU_length]
       refine run_loop (fun y : Nat => ⟨[(0, .d (.list (glsD l))), (5, .own (.t 5) 3 1 (tS (T2 ++ (rs.take y).map fun r => (r, (i : Int), (n : Int))))), (6, .own (.t 6) 3 1 (tO (T2 ++ (rs.take y).map fun r => (r, (i : Int), (n : Int))))), (7, .own (.t 7) 3 1 (tL (T2 ++ (rs.take y).map fun r => (r, (i : Int), (n : Int))))), (8, .d (.list (W.map fun r => D.list (nsD r)))), (9, .d (.int .i64 (n : Nat))), (10, .d (.int .i64 (k : Nat))), (12, .d (.list (natsU rs))), (14, .d (.int .i64 (y : Nat)))], [], []⟩)
        (fun y => y ≤ rs.length) (fun y => rs.length - y) 0 ?_ (Nat.zero_le _) ?_
       ·refine Weak.mk ?_ ?_ ?_ <;> simp (maxSteps := 2000000) only [go_sem, ↓reduceIte, Sub, Int.natCast_add, Int.natCast_mul]
       ·intro q hq
        have hTl : (T2 ++ (rs.take q).map fun r => (r, (i : Int), (n : Int))).length ≤ 9300 := by
         rw [hT3] at hb
         simp at hb ⊢; omega
        have s1 := tS_len (T2 ++ (rs.take q).map fun r => (r, (i : Int), (n : Int)))
        have s2 := tO_len (T2 ++ (rs.take q).map fun r => (r, (i : Int), (n : Int)))
        have s3 := tL_len (T2 ++ (rs.take q).map fun r => (r, (i : Int), (n : Int)))
        simp (maxSteps := 2000000) only [go_sem, ↓reduceIte, hrl2]
        refine ⟨fun hlt3 => ?_, fun hge3 => ?_⟩
        ·obtain ⟨c, hc⟩ := get_some (l := rs) (i := q) (by omega)
         have hnc : (natsU rs)[q]? = some (.int .i64 (c : Nat)) := by rw [natsU_get, hc]; rfl
         have hstep : (T2 ++ (rs.take q).map fun r => (r, (i : Int), (n : Int))) ++ [(c, (i : Int), (n : Int))] = T2 ++ (rs.take (q + 1)).map fun r => (r, (i : Int), (n : Int)) := by
          rw [List.take_add_one, hc]; simp
         have a1 := tS_snoc (T2 ++ (rs.take q).map fun r => (r, (i : Int), (n : Int))) c (i : Int) (n : Int)
         have a2 := tO_snoc (T2 ++ (rs.take q).map fun r => (r, (i : Int), (n : Int))) c (i : Int) (n : Int)
         have a3 := tL_snoc (T2 ++ (rs.take q).map fun r => (r, (i : Int), (n : Int))) c (i : Int) (n : Int)
         rw [hstep] at a1 a2 a3
         simp (maxSteps := 2000000) (disch := omega) only [go_sem, ↓reduceIte, getI_nat, hget, hWl, hlenr, hni, hnc, hrl2, a1, a2, a3]
         refine ⟨⟨by omega, by omega⟩, ⟨by omega, by omega⟩, ⟨by omega, by omega⟩, q + 1, ?_, by omega, by omega⟩
         refine Weak.mk ?_ ?_ ?_ <;> simp (maxSteps := 2000000) only [go_sem, ↓reduceIte, Sub, Int.natCast_add, Int.natCast_mul]
        ·have hqn : q = rs.length := by omega
         subst hqn
         rw [List.take_length]
         refine ⟨(T2 ++ rs.map fun r => (r, (i : Int), (n : Int)), k + 1), ?_, ⟨by simp only; omega, ?_⟩, by simp only; omega⟩
         ·refine Weak.mk ?_ ?_ ?_ <;> simp (maxSteps := 2000000) only [go_sem, ↓reduceIte, Sub, Int.natCast_add, Int.natCast_mul, ew]
         ·simp only
          rw [if_neg (by omega), Nat.add_sub_cancel, hi, hT3, List.append_assoc]
     ·have hkn : k = row.length := by omega
      subst hkn
      rw [List.drop_length, lineT, List.nil_append] at hT
      refine ⟨(T, n + 1), ?_, ⟨by simp only; omega, hT⟩, by simp only; omega⟩
      refine Weak.mk ?_ ?_ ?_ <;> simp (maxSteps := 2000000) only [go_sem, ↓reduceIte, Sub, Int.natCast_add, Int.natCast_mul]
  ·have hnn : n = W.length := by omega
   subst hnn
   rw [List.drop_length, pageT, List.append_nil] at hT
   subst hT
   rfl
theorem lineT_v {l : List Gl} {n : Int} (hr : ∀ g ∈ l, ∃ rs, runesM g.tx = some rs) : ∀ (row : List Nat) (last : Option Nat), (∀ i ∈ row, i < l.length) → ∀ t ∈ lineT l n last row, t.1 ≤ 1114111
 | [], _, _, t, h => by cases h
 | i :: r, last, hi, t, h => by
  rw [lineT] at h
  rcases List.mem_append.1 h with h | h
  ·cases last with
   | none => cases h
   | some j =>
    rw [gapT] at h
    split at h
    ·rw [List.mem_singleton.1 h]; simp
    ·cases h
  ·rcases List.mem_append.1 h with h | h
   ·obtain ⟨c, hc, rfl⟩ := List.mem_map.1 h
    obtain ⟨rs, hrs⟩ := hr _ (List.mem_of_getElem? (glAt_get (hi i (by simp))))
    rw [rnG, hrs] at hc
    have := (runesM_enc _ (Nat.le_refl _) hrs).2 c hc
    unfold vrune at this
    simp only; omega
   ·exact lineT_v hr r (some i) (fun j hj => hi j (by simp [hj])) t h
theorem pageT_v {l : List Gl} (hr : ∀ g ∈ l, ∃ rs, runesM g.tx = some rs) : ∀ (rows : List (List Nat)) (n : Nat), (∀ r ∈ rows, ∀ i ∈ r, i < l.length) → ∀ t ∈ pageT l n rows, t.1 ≤ 1114111
 | [], _, _, t, h => by cases h
 | r :: rs, n, hi, t, h => by
  rw [pageT] at h
  rcases List.mem_append.1 h with h | h
  ·split at h
   ·cases h
   ·rw [List.mem_singleton.1 h]; simp
  ·rcases List.mem_append.1 h with h | h
   ·exact lineT_v hr r none (hi r (by simp)) t h
   ·exact pageT_v hr rs (n + 1) (fun q hq => hi q (by simp [hq])) t h
theorem textF_v {l : List Gl} (hr : ∀ g ∈ l, ∃ rs, runesM g.tx = some rs) : ∀ t ∈ textF l, t.1 ≤ 1114111 := pageT_v hr (linesF l) 0 linesF_lt
end Go.Av.Try
set_option linter.unusedSimpArgs false
set_option maxRecDepth 100000
set_option maxHeartbeats 2000000
namespace Go.Av.Try
open Go.Proofs
def L_foliowrightlaw_numbers : LCode :=
 .seq (.reg [⟨some 2, .nils 3 1, none⟩]) (.seq (.reg [⟨some 3, .nils 3 1, none⟩]) (.seq (.seq (.reg [Qx 4 (Ki 0)]) (.block 0 (.loop (.seq (.seq (.reg [Qc 5 4, Qc 6 0, Q 7 (.len 
 false (.t 6)), Q 8 (.bin .lss (.t 5) (.t 7))]) (.cond (.t 8) .skip (.exit 0))) (.seq (.block 1 (.reg [Qc 11 3, Qc 12 0, Qc 13 4, Q 14 (.ia 1 (.t 12) (.t 13)), Q 15 (.ld false 1 
 (.t 14)), Q 16 (.cvI .i64 (.t 15)), ⟨some 17, .bsl 3 1 [.t 16], none⟩, ⟨some 18, .app 3 1 8 false (.t 11) (.t 17), none⟩, Qa 3 18])) (.reg [Qc 9 4, Q 10 (.bin .add (.t 9) (Ki 
 1)), Qa 4 10])))))) (.seq (.reg [Qc 19 3, Qa 2 19]) .ret)))
def R_foliowrightlaw_numbers : List LRes := [.tmp 2]
theorem lift_foliowrightlaw_numbers : Lifts Try.prog 12 20 L_foliowrightlaw_numbers R_foliowrightlaw_numbers := ⟨_, _, Try.func12, rfl, by kernel_rfl, by kernel_rfl, rfl⟩
theorem numbers_call (S : List Nat) (hS : S.length ≤ 1000000) (hv : ∀ n ∈ S, n ≤ 1114111) : PCall Try.prog 12 [.list (rnD S)] (fun r => r = .one (.list (natsU S))) := by
 have hI : ((rnD S).length : Int) = (S.length : Int) := by rw [rnD_len]
 refine lift_foliowrightlaw_numbers.call rfl ?_
 simp (maxSteps := 2000000) only [go_sem, ↓reduceIte, L_foliowrightlaw_numbers, R_foliowrightlaw_numbers]
 refine run_loop (fun i : Nat => ⟨[(0, .d (.list (rnD S))), (3, .own (.t 3) 3 1 (natsU (S.take i))), (4, .d (.int .i64 (i : Nat)))], [], []⟩)
  (fun i => i ≤ S.length) (fun i => S.length - i) 0 ?_ (Nat.zero_le _) ?_
 ·refine Weak.mk ?_ ?_ ?_ <;> simp (maxSteps := 2000000) only [go_sem, ↓reduceIte, Sub, Int.natCast_add, Int.natCast_mul, natsU]
 ·intro i hi
  simp (maxSteps := 2000000) only [go_sem, ↓reduceIte, hI]
  refine ⟨fun hlt1 => ?_, fun hge => ?_⟩
  ·obtain ⟨a, ha⟩ := get_some (l := S) (i := i) (by omega)
   have gA : (rnD S)[i]? = some (.int .i32 (a : Nat)) := by rw [rnD, List.getElem?_map, ha]; rfl
   have hav := hv a (List.mem_of_getElem? ha)
   have hl1 : (natsU (S.take i)).length = i := by rw [natsU_length, List.length_take]; omega
   have hn : natsU (S.take i) ++ [.int .i64 (a : Nat)] = natsU (S.take (i + 1)) := by rw [List.take_add_one, ha]; simp [natsU]
   simp (maxSteps := 2000000) (disch := omega) only [go_sem, ↓reduceIte, getI_nat, gA, hI, hn, hl1]
   refine ⟨⟨by omega, by omega⟩, i + 1, ?_, by omega, by omega⟩
   refine Weak.mk ?_ ?_ ?_ <;> simp (maxSteps := 2000000) only [go_sem, ↓reduceIte, Sub, Int.natCast_add, Int.natCast_mul]
  ·have hin : i = S.length := by omega
   subst hin
   rw [List.take_length]
theorem natsU_ints (S : List Nat) : natsU S = intsD (S.map fun n : Nat => (n : Int)) := by simp [natsU, intsD]
theorem inD_ints (l : List Int) : inD l = intsD l := rfl
def L_foliowrightlaw_LayoutSays : LCode :=
 .seq (.reg [Qx 2 KF]) (.seq (.reg [⟨some 16, .call 7 [], none⟩, Qa 3 16]) (.seq (.seq (.reg [Qc 17 3, Q 18 (.not (.t 17)), Qc 19 18, Qd 20 0 19 false, ⟨some 21, .call 8 [.t 20], 
 some (19, false)⟩, Qg 22 (.not (.t 21)) 19 false, Q 23 (.pick (.t 19) KT (.t 22))]) (.cond (.t 23) (.seq (.reg [Qc 24 3, Qa 2 24]) .ret) .skip)) (.seq (.reg [Qc 25 0, ⟨some 26, 
 .call 9 [.t 25], none⟩, ⟨some 4, .allo [.list [], .list [], .list []], none⟩, ⟨none, .st 3 (.t 4) (.t 26), none⟩]) (.seq (.reg [Qc 28 0, ⟨some 29, .call 10 [.t 28], none⟩, Qc 27 
 29, Q 30 (.ext 0 (.t 27)), Q 31 (.ext 1 (.t 27)), Q 32 (.ext 2 (.t 27)), Qa 5 30, Qa 6 31, Qa 7 32]) (.seq (.seq (.reg [Q 33 (.fa 0 (.t 4)), Q 34 (.ld false 1 (.t 33)), ⟨some 35, 
 .call 12 [.t 34], none⟩, Qc 36 5, ⟨some 37, .call 11 [.t 35, .t 36], none⟩, Q 38 (.not (.t 37)), Qc 39 38, Qg 40 (.fa 1 (.t 4)) 39 false, Qg 41 (.ld false 1 (.t 40)) 39 false, Qd 
 42 6 39 false, ⟨some 43, .call 11 [.t 41, .t 42], some (39, false)⟩, Qg 44 (.not (.t 43)) 39 false, Q 45 (.pick (.t 39) KT (.t 44)), Qc 46 45, Qg 47 (.fa 2 (.t 4)) 46 false, Qg 
 48 (.ld false 1 (.t 47)) 46 false, Qd 49 7 46 false, ⟨some 50, .call 11 [.t 48, .t 49], some (46, false)⟩, Qg 51 (.not (.t 50)) 46 false, Q 52 (.pick (.t 46) KT (.t 51))]) (.cond 
 (.t 52) (.seq (.reg [Qx 2 KF]) .ret) .skip)) (.seq (.reg [Qc 53 0, ⟨some 54, .call 13 [.t 53], none⟩, Qa 8 54]) (.seq (.reg [Qc 55 0, ⟨some 56, .call 14 [.t 55], none⟩, Qa 9 56]) 
 (.seq (.seq (.reg [Qc 57 8, Q 58 (.len false (.t 57)), Qc 59 9, Q 60 (.len false (.t 59)), Q 61 (.bin .neq (.t 58) (.t 60))]) (.cond (.t 61) (.seq (.reg [Qx 2 KF]) .ret) .skip)) 
 (.seq (.seq (.reg [Qx 10 (Ki 0)]) (.block 0 (.loop (.seq (.seq (.reg [Qc 62 10, Qc 63 9, Q 64 (.len false (.t 63)), Q 65 (.bin .lss (.t 62) (.t 64))]) (.cond (.t 65) .skip (.exit 
 0))) (.seq (.block 1 (.seq (.reg [Qx 11 (Ki 0)]) (.seq (.reg [Qx 12 (Ki (-1))]) (.seq (.seq (.reg [Qx 13 (Ki 0)]) (.block 2 (.loop (.seq (.seq (.reg [Qc 68 13, Qc 69 8, Qc 70 10, 
 Q 71 (.ia 1 (.t 69) (.t 70)), Q 72 (.ld false 1 (.t 71)), Q 73 (.len false (.t 72)), Q 74 (.bin .lss (.t 68) (.t 73))]) (.cond (.t 74) .skip (.exit 2))) (.seq (.block 3 (.seq 
 (.reg [Qx 14 (Ki 0)]) (.block 4 (.loop (.seq (.seq (.reg [Qc 77 14, Qc 78 8, Qc 79 10, Q 80 (.ia 1 (.t 78) (.t 79)), Q 81 (.ld false 1 (.t 80)), Qc 82 13, Q 83 (.ia 1 (.t 81) (.t 
 82)), Q 84 (.ld false 1 (.t 83)), Q 85 (.len false (.t 84)), Q 86 (.bin .lss (.t 77) (.t 85))]) (.cond (.t 86) .skip (.exit 4))) (.seq (.block 5 (.seq (.reg [Qc 89 8, Qc 90 10, Q 
 91 (.ia 1 (.t 89) (.t 90)), Q 92 (.ld false 1 (.t 91)), Qc 93 13, Q 94 (.ia 1 (.t 92) (.t 93)), Q 95 (.ld false 1 (.t 94)), Qc 96 14, Q 97 (.ia 1 (.t 95) (.t 96)), Q 98 (.ld 
 false 1 (.t 97)), Qa 15 98]) (.seq (.seq (.reg [Qc 99 11, Qc 100 9, Qc 101 10, Q 102 (.ia 1 (.t 100) (.t 101)), Q 103 (.ld false 1 (.t 102)), Q 104 (.len false (.t 103)), Q 105 
 (.bin .geq (.t 99) (.t 104)), Qc 106 105, Qd 107 9 106 false, Qd 108 10 106 false, Qg 109 (.ia 1 (.t 107) (.t 108)) 106 false, Qg 110 (.ld false 1 (.t 109)) 106 false, Qd 111 11 
 106 false, Qg 112 (.ia 1 (.t 110) (.t 111)) 106 false, Qg 113 (.ld false 1 (.t 112)) 106 false, Qd 114 15 106 false, Qg 115 (.bin .neq (.t 113) (.t 114)) 106 false, Q 116 (.pick 
 (.t 106) KT (.t 115))]) (.cond (.t 116) (.seq (.reg [Qx 2 KF]) .ret) .skip)) (.seq (.seq (.dreg [Qc 117 11, Q 118 (.bin .gtr (.t 117) (Ki 0)), Qc 119 118, Qd 120 0 119 true, Qd 
 121 9 119 true, Qd 122 10 119 true, Qg 123 (.ia 1 (.t 121) (.t 122)) 119 true, Qg 124 (.ld false 1 (.t 123)) 119 true, Qd 125 11 119 true, Qg 126 (.bin .sub (.t 125) (Ki 1)) 119 
 true, Qg 127 (.ia 1 (.t 124) (.t 126)) 119 true, Qg 128 (.ld false 1 (.t 127)) 119 true, Qg 129 (.ia 10 (.t 120) (.t 128)) 119 true, Qg 130 (.ld true 10 (.t 129)) 119 true, Qd 
 131 0 119 true, Qd 132 15 119 true, Qg 133 (.ia 10 (.t 131) (.t 132)) 119 true, Qg 134 (.ld true 10 (.t 133)) 119 true, ⟨some 135, .call 15 [.t 130, .t 134], some (119, true)⟩, 
 Qd 136 13 119 true, Qd 137 12 119 true, Qg 138 (.bin .neq (.t 136) (.t 137)) 119 true, Qg 139 (.eqB true (.t 135) (.t 138)) 119 true, Q 140 (.pick (.t 119) (.t 139) KF)]) (.cond 
 (.t 140) (.seq (.reg [Qx 2 KF]) .ret) .skip)) (.seq (.reg [Qc 141 13, Qa 12 141]) (.reg [Qc 142 11, Q 143 (.bin .add (.t 142) (Ki 1)), Qa 11 143])))))) (.reg [Qc 87 14, Q 88 
 (.bin .add (.t 87) (Ki 1)), Qa 14 88]))))))) (.reg [Qc 75 13, Q 76 (.bin .add (.t 75) (Ki 1)), Qa 13 76])))))) (.seq (.reg [Qc 144 11, Qc 145 9, Qc 146 10, Q 147 (.ia 1 (.t 145) 
 (.t 146)), Q 148 (.ld false 1 (.t 147)), Q 149 (.len false (.t 148)), Q 150 (.bin .neq (.t 144) (.t 149))]) (.cond (.t 150) (.seq (.reg [Qx 2 KF]) .ret) .skip)))))) (.reg [Qc 66 
 10, Q 67 (.bin .add (.t 66) (Ki 1)), Qa 10 67])))))) (.seq (.reg [Qx 2 KT]) .ret))))))))))
def R_foliowrightlaw_LayoutSays : List LRes := [.tmp 2]
theorem lift_foliowrightlaw_LayoutSays : Lifts Try.prog 3 151 L_foliowrightlaw_LayoutSays R_foliowrightlaw_LayoutSays := ⟨_, _, Try.func3, rfl, by kernel_rfl, by kernel_rfl, rfl⟩
theorem layoutSays_call (l : List Gl) (hl0 : l.length ≤ 9223372036854775807) (ht0 : ∀ g ∈ l, g.tx.length ≤ 1000000000) : PCall Try.prog 3 [.list (glsD l)] (fun r => r = .one (.bool true)) := by
 have hI : ((glsD l).length : Int) = (l.length : Int) := by rw [glsD_length]
 refine lift_foliowrightlaw_LayoutSays.call rfl ?_
 simp (maxSteps := 2000000) only [go_sem, ↓reduceIte, L_foliowrightlaw_LayoutSays, R_foliowrightlaw_LayoutSays]
 refine CallG.of lays_call ?_
 simp (maxSteps := 2000000) only [go_sem, ↓reduceIte]
 refine CallG.of (lightGlyphs_call l hl0 ht0) ?_
 cases hlt : lightGM l with
 | false => simp (maxSteps := 2000000) only [go_sem, ↓reduceIte]
 | true =>
  obtain ⟨hl, hok, hr, ht⟩ := light_ok hlt
  have hTl := textF_len hl hr ht
  have hTv := textF_v hr
  simp (maxSteps := 2000000) only [go_sem, ↓reduceIte]
  refine CallG.of (of_call l (by omega) hok hr (by omega)) ?_
  simp (maxSteps := 2000000) only [go_sem, ↓reduceIte, txR]
  refine CallG.of (refLaid_call l hl hok hr ht hTl) ?_
  generalize textF l = T at *
  simp (maxSteps := 2000000) only [go_sem, ↓reduceIte, laidR]
  refine CallG.of (numbers_call (T.map (·.1)) (by rw [List.length_map]; omega) (fun n hn => by
   obtain ⟨t, ht, rfl⟩ := List.mem_map.1 hn
   exact hTv t ht)) ?_
  simp (maxSteps := 2000000) only [go_sem, ↓reduceIte]
  refine CallG.of (by rw [tS, natsU_ints]; exact sameNumbers_call _ (by simp; omega)) ?_
  simp (maxSteps := 2000000) only [go_sem, ↓reduceIte]
  refine CallG.of (by rw [tO, inD_ints]; exact sameNumbers_call _ (by simp; omega)) ?_
  simp (maxSteps := 2000000) only [go_sem, ↓reduceIte]
  refine CallG.of (by rw [tL, inD_ints]; exact sameNumbers_call _ (by simp; omega)) ?_
  simp (maxSteps := 2000000) only [go_sem, ↓reduceIte]
  refine CallG.of (words_call l (by omega) hok) ?_
  simp (maxSteps := 2000000) only [go_sem, ↓reduceIte]
  refine CallG.of (refLines_call l (by omega) hok) ?_
  have hne := linesF_ne (l := l)
  have hwk : ∀ r ∈ linesF l, chkR l none (wordsOf l r) ∧ (wordsOf l r).flatten = r ∧ ∀ w ∈ wordsOf l r, w ≠ [] := fun r hr => words_ok hr
  have hlt' := linesF_lt (l := l)
  have hrw := linesF_row (l := l)
  have hll := linesF_len l
  generalize linesF l = W at *
  have hWl : ((wordsD (W.map (wordsOf l))).length : Int) = (W.length : Int) := by simp [wordsD]
  have hLl : (((W.map fun r => D.list (nsD r)).length : Nat) : Int) = (W.length : Int) := by simp
  simp (maxSteps := 2000000) only [go_sem, ↓reduceIte, hWl, hLl]
  refine run_loop (fun i : Nat => ⟨[(0, .d (.list (glsD l))), (8, .d (.list (wordsD (W.map (wordsOf l))))), (9, .d (.list (W.map fun r => D.list (nsD r)))), (10, .d (.int .i64 (i : Nat)))], [], []⟩)
   (fun i => i ≤ W.length) (fun i => W.length - i) 0 ?_ (Nat.zero_le _) ?_
  ·refine Weak.mk ?_ ?_ ?_ <;> simp (maxSteps := 2000000) only [go_sem, ↓reduceIte, Sub, Int.natCast_add, Int.natCast_mul]
  ·intro i hi
   simp (maxSteps := 2000000) only [go_sem, ↓reduceIte, hLl]
   refine fun hlt1 => ?_
   obtain ⟨row, hrow⟩ := get_some (l := W) (i := i) (by omega)
   have hrm := List.mem_of_getElem? hrow
   obtain ⟨c1, c2, c3⟩ := hwk row hrm
   have hrow0 := hne row hrm
   have hrl := hlt' row hrm
   have hrwl := hrw row hrm
   have hrD : (W.map fun r => D.list (nsD r))[i]? = some (.list (nsD row)) := by rw [List.getElem?_map, hrow]; rfl
   have hwD : (wordsD (W.map (wordsOf l)))[i]? = some (.list ((wordsOf l row).map fun w => .list (nsD w))) := by rw [wordsD, List.getElem?_map, List.getElem?_map, hrow]; rfl
   have hnr : ((nsD row).length : Int) = (row.length : Int) := by rw [nsD_len]
   generalize wordsOf l row = ws at *
   have hwl : (((ws.map fun w => D.list (nsD w)).length : Nat) : Int) = (ws.length : Int) := by simp
   have hwn : ws.length ≤ 150 := by
    have h1 : ws.length ≤ ws.flatten.length := len_flat c3
    rw [c2] at h1; omega
   refine run_loop (fun y : Nat × List Nat => ⟨[(0, .d (.list (glsD l))), (8, .d (.list (wordsD (W.map (wordsOf l))))), (9, .d (.list (W.map fun r => D.list (nsD r)))), (10, .d (.int .i64 (i : Nat))), (11, .d (.int .i64 (y.2.length : Nat))), (12, .d (.int .i64 ((y.1 : Int) - 1))), (13, .d (.int .i64 (y.1 : Nat)))], [], []⟩)
    (fun y => y.1 ≤ ws.length ∧ row = y.2 ++ (ws.drop y.1).flatten ∧ chkR l y.2.getLast? (ws.drop y.1) ∧ (y.2 = [] → y.1 = 0)) (fun y => ws.length - y.1) (0, []) ?_ ?_ ?_
   ·refine Weak.mk ?_ ?_ ?_ <;> simp (maxSteps := 2000000) only [go_sem, ↓reduceIte, Sub, Int.natCast_add, Int.natCast_mul]
   ·exact ⟨Nat.zero_le _, c2.symm, c1, fun _ => rfl⟩
   ·clear c1 c2
    rintro ⟨j, A⟩ ⟨hj, hA, c1, c4⟩
    simp only at hj hA c1 c4
    have hAl : A.length ≤ row.length := by rw [hA]; simp only [List.length_append]; omega
    simp (maxSteps := 2000000) (disch := omega) only [go_sem, ↓reduceIte, getI_nat, hwD, hWl, hwl]
    refine ⟨fun hlt2 => ?_, fun hge2 => ?_⟩
    ·obtain ⟨w, hw⟩ := get_some (l := ws) (i := j) (by omega)
     have hwd : (ws.map fun w => D.list (nsD w))[j]? = some (.list (nsD w)) := by rw [List.getElem?_map, hw]; rfl
     have hw0 := c3 w (List.mem_of_getElem? hw)
     rw [drop_at hw] at hA c1
     rw [List.flatten_cons] at hA
     obtain ⟨d1, d2⟩ := c1
     generalize hmore : ws.drop (j + 1) = more at *
     have hnl : (((nsD w).length : Nat) : Int) = (w.length : Int) := by rw [nsD_len]
     have hwk' : w.length ≤ 150 := by
      have h2 : w.length ≤ row.length := by rw [hA]; simp only [List.length_append]; omega
      omega
     refine run_loop (fun y : Nat × List Nat => ⟨[(0, .d (.list (glsD l))), (8, .d (.list (wordsD (W.map (wordsOf l))))), (9, .d (.list (W.map fun r => D.list (nsD r)))), (10, .d (.int .i64 (i : Nat))), (11, .d (.int .i64 (y.2.length : Nat))), (12, .d (.int .i64 (if y.1 = 0 then (j : Int) - 1 else (j : Nat)))), (13, .d (.int .i64 (j : Nat))), (14, .d (.int .i64 (y.1 : Nat)))], [], []⟩)
      (fun y => y.1 ≤ w.length ∧ row = y.2 ++ (w.drop y.1 ++ more.flatten) ∧ chkW l y.2.getLast? (decide (y.1 = 0)) (w.drop y.1) ∧ chkR l (lst y.2.getLast? (w.drop y.1)) more ∧ (y.2 = [] → y.1 = 0 ∧ j = 0)) (fun y => w.length - y.1) (0, A) ?_ ?_ ?_
     ·refine Weak.mk ?_ ?_ ?_ <;> simp (maxSteps := 2000000) only [go_sem, ↓reduceIte, Sub, Int.natCast_add, Int.natCast_mul]
     ·exact ⟨Nat.zero_le _, by rw [hA]; simp, d1, d2, fun h => ⟨rfl, c4 h⟩⟩
     ·clear hA d1 d2 c4 hAl A
      rintro ⟨q, A⟩ ⟨hq, hA, d1, d2, c4⟩
      simp only at hq hA d1 d2 c4
      have hAl : A.length ≤ row.length := by rw [hA]; simp only [List.length_append]; omega
      simp (maxSteps := 2000000) (disch := omega) only [go_sem, ↓reduceIte, getI_nat, hwD, hwd, hWl, hwl, hnl]
      refine ⟨fun hlt3 => ?_, fun hge3 => ?_⟩
      ·obtain ⟨g, hg⟩ := get_some (l := w) (i := q) (by omega)
       have hnq : (nsD w)[q]? = some (.int .i64 (g : Nat)) := by rw [nsD_get, hg]; rfl
       rw [drop_at hg] at hA d1 d2
       rw [List.cons_append] at hA
       obtain ⟨d1, d3⟩ := d1
       have hgl : g < l.length := hrl g (by rw [hA]; simp)
       have hgi : (glsD l)[g]? = some (glAt l g).d := by rw [glsD_get, glAt_get hgl]; rfl
       have hAg : (nsD row)[A.length]? = some (.int .i64 (g : Nat)) := by rw [nsD_get, hA]; simp
       have hAlt : A.length < row.length := by rw [hA]; simp
       have z1 : ((row.length : Int) ≤ (A.length : Int)) = False := eq_false (by omega)
       have hA' : row = (A ++ [g]) ++ (w.drop (q + 1) ++ more.flatten) := by rw [hA]; simp
       have hAl' : ((A ++ [g]).length : Int) = (A.length : Int) + 1 := by simp
       have hif : (if q + 1 = 0 then (j : Int) - 1 else (j : Nat)) = (j : Nat) := if_neg (by omega)
       have hla : (A ++ [g]).getLast? = some g := by simp
       rcases List.eq_nil_or_concat A with rfl | ⟨A', a, rfl⟩
       ·have z2 : (0 < ((([] : List Nat).length : Nat) : Int)) = False := eq_false (by simp)
        simp (maxSteps := 2000000) (disch := omega) only [go_sem, ↓reduceIte, getI_nat, hwD, hwd, hrD, hWl, hLl, hwl, hnl, hnr, hnq, hAg, hgi, hI, z1, z2, Gl.d]
        obtain ⟨rfl, rfl⟩ := c4 rfl
        have z1n : ((row.length : Int) ≤ 0) = False := eq_false (by simp at hAlt; omega)
        have hA0 : getI (nsD row) 0 = some (.int .i64 (g : Nat)) := (getI_nat (nsD row) 0).trans hAg
        simp (maxSteps := 2000000) (disch := omega) only [go_sem, ↓reduceIte, hA0, z1n, hrD, hLl, hnr]
        refine ⟨(0 + 1, [] ++ [g]), ?_, ⟨by simp only; omega, hA', by rw [hla]; simpa using d3, by rw [hla]; exact d2, fun h => by simp at h⟩, by simp only; omega⟩
        refine Weak.mk ?_ ?_ ?_ <;> simp (maxSteps := 2000000) only [go_sem, ↓reduceIte, Sub, Int.natCast_add, Int.natCast_mul, hAl', hif]
        trace_state
       ·rw [List.concat_eq_append] at *
        have hal : a < l.length := hrl a (by rw [hA]; simp)
        have hga : (glsD l)[a]? = some (glAt l a).d := by rw [glsD_get, glAt_get hal]; rfl
        obtain ⟨x1, x2⟩ := d1 a (by simp)
        have eA : (((A' ++ [a]).length : Int) - 1) = ((A'.length : Nat) : Int) := by simp
        have hAa : (nsD row)[A'.length]? = some (.int .i64 (a : Nat)) := by rw [nsD_get, hA]; simp
        have z2 : (0 < (((A' ++ [a]).length : Nat) : Int)) = True := eq_true (by simp)
        simp (maxSteps := 2000000) (disch := omega) only [go_sem, ↓reduceIte, getI_nat, hwD, hwd, hrD, hWl, hLl, hwl, hnl, hnr, hnq, hAg, hAa, eA, hgi, hga, hI, z1, z2, Gl.d]
        refine CallD.of (apart_call l hok hal hgl) ?_
        rw [x2]
        by_cases h0 : q = 0
        ·have z5 : ((j : Int) = (j : Int) - 1) = False := eq_false (by omega)
         have e5 : (if q = 0 then (j : Int) - 1 else (j : Nat)) = (j : Int) - 1 := if_pos h0
         have z6 : (q = 0) = True := eq_true h0
         simp (maxSteps := 2000000) (disch := omega) only [go_sem, ↓reduceIte, z5, e5, z6]
         refine ⟨(q + 1, A' ++ [a] ++ [g]), ?_, ⟨by simp only; omega, hA', by rw [hla]; simpa using d3, by rw [hla]; exact d2, fun h => by simp at h⟩, by simp only; omega⟩
         refine Weak.mk ?_ ?_ ?_ <;> simp (maxSteps := 2000000) only [go_sem, ↓reduceIte, Sub, Int.natCast_add, Int.natCast_mul, hAl', hif]
        ·have z5 : ((j : Int) = (j : Int)) = True := eq_true rfl
         have e5 : (if q = 0 then (j : Int) - 1 else (j : Nat)) = (j : Int) := if_neg h0
         have z6 : (q = 0) = False := eq_false h0
         simp (maxSteps := 2000000) (disch := omega) only [go_sem, ↓reduceIte, z5, e5, z6]
         refine ⟨(q + 1, A' ++ [a] ++ [g]), ?_, ⟨by simp only; omega, hA', by rw [hla]; simpa using d3, by rw [hla]; exact d2, fun h => by simp at h⟩, by simp only; omega⟩
         refine Weak.mk ?_ ?_ ?_ <;> simp (maxSteps := 2000000) only [go_sem, ↓reduceIte, Sub, Int.natCast_add, Int.natCast_mul, hAl', hif]
      ·have hqn : q = w.length := by omega
       subst hqn
       rw [List.drop_length, List.nil_append] at hA
       rw [List.drop_length] at d2
       have hw1 := List.length_pos_iff.2 hw0
       have e5 : (if w.length = 0 then (j : Int) - 1 else (j : Nat)) = (j : Int) := if_neg (by omega)
       have e6 : ((j : Int) + 1 - 1) = (j : Int) := by omega
       refine ⟨(j + 1, A), ?_, ⟨by simp only; omega, by rw [hmore]; exact hA, by rw [hmore]; exact d2, fun h => by have := c4 h; omega⟩, by simp only; omega⟩
       refine Weak.mk ?_ ?_ ?_ <;> simp (maxSteps := 2000000) only [go_sem, ↓reduceIte, Sub, Int.natCast_add, Int.natCast_mul, e5, e6]
    ·have hjn : j = ws.length := by omega
     subst hjn
     rw [List.drop_length, List.flatten_nil, List.append_nil] at hA
     have z : ((A.length : Int) = (row.length : Int)) = True := eq_true (by rw [hA])
     simp (maxSteps := 2000000) (disch := omega) only [go_sem, ↓reduceIte, getI_nat, hrD, hLl, hnr, z]
     refine ⟨i + 1, ?_, by omega, by omega⟩
     refine Weak.mk ?_ ?_ ?_ <;> simp (maxSteps := 2000000) only [go_sem, ↓reduceIte, Sub, Int.natCast_add, Int.natCast_mul]
end Go.Av.Try
