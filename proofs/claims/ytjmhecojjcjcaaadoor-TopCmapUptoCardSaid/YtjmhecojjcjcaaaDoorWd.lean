import Derived.Test.YtjmhecojjcjcaaaDoorWc
import Derived.Test.YtjmhecojjcjcaaaDoorAvG
set_option linter.unusedSimpArgs false
set_option maxRecDepth 100000
namespace Go.Av.Tryd
open Go.Proofs
def lightSpansM (l : List Span) : Bool := decide (l.length ≤ 310) && l.all fun x => decide (x.tx.length ≤ 60)
def L_foliowrightlaw_LightSpans : LCode :=
 .seq (.reg [Qx 2 KF]) (.seq (.seq (.reg [Qc 4 0, Q 5 (.len false (.t 4)), Q 6 (.bin .gtr (.t 5) (Ki 310))]) (.cond (.t 6) (.seq (.reg [Qx 2 KF]) .ret) .skip)) (.seq (.seq (.reg [Qx 
 3 (Ki 0)]) (.block 0 (.loop (.seq (.seq (.reg [Qc 7 3, Qc 8 0, Q 9 (.len false (.t 8)), Q 10 (.bin .lss (.t 7) (.t 9))]) (.cond (.t 10) .skip (.exit 0))) (.seq (.block 1 (.seq 
 (.reg [Qc 13 0, Qc 14 3, Q 15 (.ia 3 (.t 13) (.t 14)), Q 16 (.fa 2 (.t 15)), Q 17 (.ld false 1 (.t 16)), Q 18 (.len true (.t 17)), Q 19 (.bin .gtr (.t 18) (Ki 60))]) (.cond (.t 
 19) (.seq (.reg [Qx 2 KF]) .ret) .skip))) (.reg [Qc 11 3, Q 12 (.bin .add (.t 11) (Ki 1)), Qa 3 12])))))) (.seq (.reg [Qx 2 KT]) .ret)))
def R_foliowrightlaw_LightSpans : List LRes := [.tmp 2]
theorem lift_foliowrightlaw_LightSpans : Lifts Tryd.prog 20 20 L_foliowrightlaw_LightSpans R_foliowrightlaw_LightSpans := ⟨_, _, Tryd.func20, rfl, by kernel_rfl, by kernel_rfl, rfl⟩
theorem lightSpans_call (l : List Span) (hl : l.length ≤ 9223372036854775807) : PCall Tryd.prog 20 [.list (spansD l)] (fun r => r = .one (.bool (lightSpansM l))) := by
 refine lift_foliowrightlaw_LightSpans.call rfl ?_
 have hI : ((spansD l).length : Int) = (l.length : Int) := by rw [spansD_length]
 unfold lightSpansM
 by_cases h310 : l.length ≤ 310
 ·have z1 : (310 < (l.length : Int)) = False := eq_false (by omega)
  rw [decide_eq_true h310, Bool.true_and]
  generalize hR : (l.all fun x => decide (x.tx.length ≤ 60)) = R
  simp (maxSteps := 2000000) only [go_sem, ↓reduceIte, L_foliowrightlaw_LightSpans, R_foliowrightlaw_LightSpans, hI, z1]
  refine run_loop (fun i : Nat => ⟨[(0, .d (.list (spansD l))), (3, .d (.int .i64 i))], [], []⟩)
   (fun i => i ≤ l.length ∧ ((l.drop i).all fun x => decide (x.tx.length ≤ 60)) = R) (fun i => l.length - i) 0 ?_ ?_ ?_
  ·refine weak_mk ?_ trivial
   simp (maxSteps := 2000000) only [go_sem, ↓reduceIte, Sub, Int.natCast_add, Int.natCast_mul]
  ·exact ⟨Nat.zero_le _, hR⟩
  ·rintro i ⟨hi, hF⟩
   simp (maxSteps := 2000000) only [go_sem, ↓reduceIte, hI]
   refine ⟨fun hlt => ?_, fun hge => ?_⟩
   ·obtain ⟨x, hx⟩ := get_some (l := l) (i := i) (by omega)
    rw [drop_at hx, List.all_cons] at hF
    by_cases h60 : x.tx.length ≤ 60
    ·have z2 : (60 < (x.tx.length : Int)) = False := eq_false (by omega)
     rw [decide_eq_true h60, Bool.true_and] at hF
     simp (maxSteps := 2000000) (disch := omega) only [go_sem, ↓reduceIte, getI_nat, spansD_get, hx, Span.d, z2]
     refine ⟨i + 1, ?_, ⟨by omega, hF⟩, by omega⟩
     refine weak_mk ?_ trivial
     simp (maxSteps := 2000000) only [go_sem, ↓reduceIte, Sub, Int.natCast_add, Int.natCast_mul]
    ·have z2 : (60 < (x.tx.length : Int)) = True := eq_true (by omega)
     rw [decide_eq_false h60, Bool.false_and] at hF
     simp (maxSteps := 2000000) (disch := omega) only [go_sem, ↓reduceIte, getI_nat, spansD_get, hx, Span.d, z2]
     rw [← hF]
   ·have : l.drop i = [] := List.drop_eq_nil_of_le (by omega)
    rw [this] at hF
    rw [← hF]; rfl
 ·have z1 : (310 < (l.length : Int)) = True := eq_true (by omega)
  rw [decide_eq_false h310, Bool.false_and]
  simp (maxSteps := 2000000) only [go_sem, ↓reduceIte, L_foliowrightlaw_LightSpans, R_foliowrightlaw_LightSpans, hI, z1]
def okN (p : Int × List UInt8) : Bool := decide (p.2.length ≤ 100)
structure Fnt.wf (x : Fnt) : Prop where
 cs : ∀ s ∈ x.cs, -9223372036854775808 ≤ s.fr ∧ s.fr ≤ 9223372036854775807 ∧ -9223372036854775808 ≤ s.to ∧ s.to ≤ 9223372036854775807
 cl : x.cs.length ≤ 9223372036854775807
end Go.Av.Tryd
set_option linter.unusedSimpArgs false
set_option maxRecDepth 100000
namespace Go.Av.Tryd
open Go.Proofs
theorem u_int : Tryd.prog.cellsOf 3 = 1 := by kernel_rfl
theorem u_str : Tryd.prog.cellsOf 9 = 1 := by kernel_rfl
theorem u_span : Tryd.prog.cellsOf 59 = 3 := by kernel_rfl
theorem wf64 {n : Int} (h : (Lit.int .i64 n).wf = true) : -9223372036854775808 ≤ n ∧ n ≤ 9223372036854775807 := by
 have := wf_i64 h; omega
def Span.in64 (s : Span) : Prop := -9223372036854775808 ≤ s.fr ∧ s.fr ≤ 9223372036854775807 ∧ -9223372036854775808 ≤ s.to ∧ s.to ≤ 9223372036854775807
theorem span_of {k : Nat} {ds : List D} (h : OfT Tryd.prog k 59 ds) : ∃ s : Span, mkD ds = s.d ∧ s.in64 := by
 cases k with
 | zero => exact h.elim
 | succ k =>
  unfold OfT at h
  rw [Tryd.underlying59] at h
  obtain ⟨h1, h2⟩ := h
  rw [u_span] at h1
  match ds, h1 with
  | [a, b, c], _ =>
   have f0 : OfT Tryd.prog k 3 (([a, b, c].drop 0).take (Tryd.prog.cellsOf 3)) := h2 0 _ rfl
   have f1 : OfT Tryd.prog k 3 (([a, b, c].drop 1).take (Tryd.prog.cellsOf 3)) := h2 1 _ rfl
   have f2 : OfT Tryd.prog k 9 (([a, b, c].drop 2).take (Tryd.prog.cellsOf 9)) := h2 2 _ rfl
   simp only [u_int, u_str, List.drop_zero, List.drop_succ_cons, List.take_succ_cons, List.take_zero] at f0 f1 f2
   obtain ⟨n0, e0, w0⟩ := f0.int Tryd.underlying3
   obtain ⟨n1, e1, w1⟩ := f1.int Tryd.underlying3
   obtain ⟨s, e2, _⟩ := f2.string Tryd.underlying9
   simp only [List.cons.injEq, and_true] at e0 e1 e2
   obtain ⟨a1, a2⟩ := wf64 w0
   obtain ⟨b1, b2⟩ := wf64 w1
   exact ⟨⟨n0, n1, s⟩, by rw [e0, e1, e2]; rfl, a1, a2, b1, b2⟩
theorem spans_of {k : Nat} {ds : List D} (h : OfT Tryd.prog k 24 ds) : ∃ l : List Span, ds = [.list (spansD l)] ∧ l.length ≤ maxLen ∧ ∀ s ∈ l, s.in64 := by
 obtain ⟨l, m, _, h1, h2, h3⟩ := h.slice Tryd.underlying24
 obtain ⟨ys, rfl⟩ := all_mapped (g := fun y : { s : Span // s.in64 } => y.1.d) (l := l) fun x hx => by
  obtain ⟨cs, h4, h5⟩ := h3 x hx
  obtain ⟨s, h6, h7⟩ := span_of h5
  exact ⟨⟨s, h7⟩, by rw [h4, h6]⟩
 refine ⟨ys.map (·.1), by rw [h1]; simp [spansD, Function.comp_def], by simpa using h2, fun s hs => ?_⟩
 obtain ⟨y, _, rfl⟩ := List.mem_map.1 hs
 exact y.2
end Go.Av.Tryd
set_option linter.unusedSimpArgs false
set_option maxRecDepth 100000
set_option maxHeartbeats 2000000
namespace Go.Av.Tryd
open Go.Proofs
theorem light_facts {l : List Span} (h : lightSpansM l = true) (hw : ∀ x ∈ l, x.in64) : l.length ≤ 310 ∧ ∀ x ∈ l, x.wf := by
 unfold lightSpansM at h
 simp only [Bool.and_eq_true, decide_eq_true_eq, List.all_eq_true] at h
 refine ⟨h.1, fun x hx => ?_⟩
 obtain ⟨a1, a2, a3, a4⟩ := hw x hx
 have := h.2 x hx
 exact ⟨a1, a2, a3, a4, by omega⟩
end Go.Av.Tryd
set_option linter.unusedSimpArgs false
set_option maxRecDepth 100000
set_option maxHeartbeats 2000000
namespace Go.Av.Tryd
open Go.Proofs
theorem on_nz {s : List UInt8} {n : Nat} {u : List UInt8} (h : onM s n = some u) : u ≠ [] := by
 unfold onM at h
 split at h
 ·cases h
 ·rename_i rs hrs
  obtain ⟨_, e2⟩ := runesM_enc s.length (Nat.le_refl _) hrs
  by_cases h0 : rs = []
  ·rw [if_pos h0] at h; cases h
  ·rw [if_neg h0] at h
   split at h
   ·cases h
   ·rename_i hb
    have hlv := e2 _ (List.mem_of_getElem? (last_get h0))
    unfold vrune at hlv
    have hv : vrune (rs.getLastD 0 + n) := by unfold vrune; omega
    have hl := (enc_len hv).1
    have hu := Option.some.inj h
    rw [← hu]
    intro he
    have := congrArg List.length he
    simp only [encM, List.flatMap_append, List.length_append, List.flatMap_cons, List.flatMap_nil, List.length_nil] at this
    omega
theorem on_le {s : List UInt8} {n N : Nat} {u : List UInt8} (h : onM s N = some u) (hn : n ≤ N) : ∃ v, onM s n = some v := by
 unfold onM at h ⊢
 split at h
 ·cases h
 ·rename_i rs hrs
  obtain ⟨_, e2⟩ := runesM_enc s.length (Nat.le_refl _) hrs
  by_cases h0 : rs = []
  ·rw [if_pos h0] at h; cases h
  ·rw [if_neg h0] at h ⊢
   split at h
   ·cases h
   ·rename_i hb
    have hlv := e2 _ (List.mem_of_getElem? (last_get h0))
    unfold vrune at hlv
    rw [if_neg (by omega)]
    exact ⟨_, rfl⟩
theorem on_zero {s : List UInt8} {u : List UInt8} (h : onM s 0 = some u) : u = s := by
 unfold onM at h
 split at h
 ·cases h
 ·rename_i rs hrs
  obtain ⟨e1, _⟩ := runesM_enc s.length (Nat.le_refl _) hrs
  by_cases h0 : rs = []
  ·rw [if_pos h0] at h; cases h
  ·rw [if_neg h0] at h
   split at h
   ·cases h
   ·have hd := set_last h0 (rs.getLastD 0 + 0)
    rw [← hd] at h
    have hx : rs.set (rs.length - 1) (rs.getLastD 0 + 0) = rs := by
     have := last_get h0
     rw [Nat.add_zero]
     exact List.ext_getElem? fun i => by
      by_cases hi : rs.length - 1 = i
      ·subst hi; rw [this, List.getElem?_set_self (by have := (List.getElem?_eq_some_iff.1 this).1; omega)]
      ·rw [List.getElem?_set_ne hi]
    rw [hx, e1] at h
    exact (Option.some.inj h).symm
def oneL : List Span := [⟨1, 1, [120]⟩]
theorem oneF : faultM oneL false = 0 := by decide +kernel
theorem oneW : wText false oneL = 49 :: (wText false oneL).tail := by decide +kernel
def L_foliowrighttop_TopCmap : LCode :=
 .seq (.reg [Qx 6 KF]) (.seq (.reg [Q 15 (.bld [(0, 1), (1, 1), (2, 1)] [.int .i64 0, .int .i64 0, .str []] [] [(0, .k (.d (.int .i64 1))), (1, .k (.d (.int .i64 1))), (2, .k (.d 
 (.str [120])))]), ⟨some 16, .bsl 59 3 [.t 15], none⟩, ⟨some 17, .call 22 [.t 16, .k (.d (.bool false))], none⟩, Qc 14 17, Q 18 (.ext 0 (.t 14)), Q 19 (.ext 1 (.t 14)), Qa 7 18, 
 Qa 8 19]) (.seq (.seq (.reg [Qc 20 8, Q 21 (.eqN 0 true (.t 20)), Qc 22 21, Qd 23 7 22 false, Qg 24 (.bin .eql (.t 23) (.k (.d (.str [])))) 22 false, Q 25 (.pick (.t 22) KT (.t 
 24))]) (.cond (.t 25) (.seq (.reg [Qx 6 KF]) .ret) .skip)) (.seq (.seq (.reg [Qc 26 0, ⟨some 27, .call 20 [.t 26], none⟩, Q 28 (.not (.t 27))]) (.cond (.t 28) (.seq (.reg [Qx 6 
 KT]) .ret) .skip)) (.seq (.reg [Qc 30 0, Qc 31 1, ⟨some 32, .call 22 [.t 30, .t 31], none⟩, Qc 29 32, Q 33 (.ext 0 (.t 29)), Q 34 (.ext 1 (.t 29)), Qa 7 33, Qa 8 34]) (.seq (.seq 
 (.reg [Qc 35 8, Q 36 (.eqN 0 true (.t 35)), Qc 37 36, Qd 38 7 37 false, Qg 39 (.len true (.t 38)) 37 false, Qg 40 (.bin .gtr (.t 39) (Ki 20000)) 37 false, Q 41 (.pick (.t 37) KT 
 (.t 40))]) (.cond (.t 41) (.seq (.reg [Qx 6 KT]) .ret) .skip)) (.seq (.reg [Qc 43 7, ⟨some 44, .call 17 [.t 43], none⟩, Qc 42 44, Q 45 (.ext 0 (.t 42)), Q 46 (.ext 1 (.t 42)), Q 
 47 (.ext 2 (.t 42)), Qa 9 45, Qa 10 46, Qa 8 47]) (.seq (.seq (.reg [Qc 48 8, Q 49 (.eqN 0 true (.t 48)), Qc 50 49, Qd 51 10 50 false, Qd 52 1 50 false, Qg 53 (.eqB true (.t 51) 
 (.t 52)) 50 false, Q 54 (.pick (.t 50) KT (.t 53)), Qc 55 54, Qd 56 9 55 false, Qd 57 0 55 false, ⟨some 58, .call 19 [.t 56, .t 57], some (55, false)⟩, Qg 59 (.not (.t 58)) 55 
 false, Q 60 (.pick (.t 55) KT (.t 59))]) (.cond (.t 60) (.seq (.reg [Qx 6 KF]) .ret) .skip)) (.seq (.reg [Qc 62 0, Qc 63 2, ⟨some 64, .call 24 [.t 62, .t 63], none⟩, Qc 61 64, Q 
 65 (.ext 0 (.t 61)), Q 66 (.ext 1 (.t 61)), Qa 11 65, Qa 12 66]) (.seq (.seq (.reg [Qx 13 (Ki 0)]) (.block 0 (.loop (.seq (.seq (.reg [Qc 67 13, Qc 68 0, Q 69 (.len false (.t 
 68)), Q 70 (.bin .lss (.t 67) (.t 69))]) (.cond (.t 70) .skip (.exit 0))) (.seq (.block 1 (.seq (.reg [Qc 73 2, Qc 74 0, Qc 75 13, Q 76 (.ia 3 (.t 74) (.t 75)), Q 77 (.fa 0 (.t 
 76)), Q 78 (.ld false 1 (.t 77)), Q 79 (.bin .geq (.t 73) (.t 78)), Qc 80 79, Qd 81 2 80 true, Qd 82 0 80 true, Qd 83 13 80 true, Qg 84 (.ia 3 (.t 82) (.t 83)) 80 true, Qg 85 
 (.fa 1 (.t 84)) 80 true, Qg 86 (.ld false 1 (.t 85)) 80 true, Qg 87 (.bin .leq (.t 81) (.t 86)) 80 true, Q 88 (.pick (.t 80) (.t 87) KF)]) (.cond (.t 88) (.seq (.reg [Qc 89 12, 
 Qc 90 89, Qd 91 11 90 true, Qg 92 (.bin .neq (.t 91) (.k (.d (.str [])))) 90 true, Q 93 (.pick (.t 90) (.t 92) KF), Qc 94 93, Qd 95 2 94 true, Qd 96 0 94 true, Qd 97 13 94 true, 
 Qg 98 (.ia 3 (.t 96) (.t 97)) 94 true, Qg 99 (.fa 0 (.t 98)) 94 true, Qg 100 (.ld false 1 (.t 99)) 94 true, Qg 101 (.bin .gtr (.t 95) (.t 100)) 94 true, Qd 102 101 94 true, Qd 
 103 11 102 false, Qd 104 0 102 false, Qd 105 13 102 false, Qg 106 (.ia 3 (.t 104) (.t 105)) 102 false, Qg 107 (.fa 2 (.t 106)) 102 false, Qg 108 (.ld false 1 (.t 107)) 102 false, 
 Qg 109 (.bin .eql (.t 103) (.t 108)) 102 false, Qg 110 (.pick (.t 102) KT (.t 109)) 94 true, Q 111 (.pick (.t 94) (.t 110) KF), Qa 6 111]) .ret) .skip))) (.reg [Qc 71 13, Q 72 
 (.bin .add (.t 71) (Ki 1)), Qa 13 72])))))) (.seq (.reg [Qc 112 12, Q 113 (.not (.t 112)), Qc 114 113, Qd 115 11 114 true, Qg 116 (.bin .eql (.t 115) (.k (.d (.str [])))) 114 
 true, Q 117 (.pick (.t 114) (.t 116) KF), Qa 6 117]) .ret))))))))))
def R_foliowrighttop_TopCmap : List LRes := [.tmp 6]
theorem lift_foliowrighttop_TopCmap : Lifts Tryd.prog 7 118 L_foliowrighttop_TopCmap R_foliowrighttop_TopCmap := ⟨_, _, Tryd.func7, rfl, by kernel_rfl, by kernel_rfl, rfl⟩
theorem topCmap_call (l : List Span) (b : Bool) (c : Int) (hl : l.length ≤ 9223372036854775807) (hw : ∀ x ∈ l, x.in64) (hc : -9223372036854775808 ≤ c ∧ c ≤ 9223372036854775807) : PCall Tryd.prog 7 [.list (spansD l), .bool b, .int .i64 c] (fun r => r = .one (.bool true)) := by
 have w1 := write_call oneL false (fun x hx => by
  simp only [oneL, List.mem_cons, List.not_mem_nil, or_false] at hx
  subst hx
  exact ⟨by decide, by decide, by decide, by decide, by decide⟩)
 rw [oneF, if_pos rfl, oneW] at w1
 generalize (wText false oneL).tail = tl at w1
 simp only [oneL, spansD, List.map_cons, List.map_nil, Span.d] at w1
 refine lift_foliowrighttop_TopCmap.call rfl ?_
 simp (maxSteps := 2000000) only [go_sem, ↓reduceIte, L_foliowrighttop_TopCmap, R_foliowrighttop_TopCmap]
 have eN : errD 0 = D.nil := rfl
 rw [eN] at w1
 refine CallG.of w1 ?_
 simp (maxSteps := 2000000) only [go_sem, ↓reduceIte]
 refine CallG.of (lightSpans_call l hl) ?_
 cases hlt : lightSpansM l with
 | false => simp (maxSteps := 2000000) only [go_sem, ↓reduceIte]
 | true =>
  obtain ⟨hl2, hwf⟩ := light_facts hlt hw
  simp (maxSteps := 2000000) only [go_sem, ↓reduceIte]
  refine CallG.of (write_call l b hwf) ?_
  by_cases h0 : faultM l b = 0
  ·rw [h0, if_pos rfl, eN]
   by_cases hlen : 20000 < (wText b l).length
   ·have z1 : ((20000 : Int) < ((wText b l).length : Nat)) = True := eq_true (by omega)
    simp (maxSteps := 2000000) only [go_sem, ↓reduceIte, z1]
   ·have z1 : ((20000 : Int) < ((wText b l).length : Nat)) = False := eq_false (by omega)
    obtain ⟨hl3, hx⟩ := faultM_0 h0
    have hp := parse_call (wText b l) (by omega)
    rw [reads_same, write_read l b h0 (by omega)] at hp
    simp only [eN] at hp
    simp (maxSteps := 2000000) only [go_sem, ↓reduceIte, z1]
    refine CallG.of hp ?_
    simp (maxSteps := 2000000) only [go_sem, ↓reduceIte]
    refine CallG.of (sameSpans_call l (by omega)) ?_
    simp (maxSteps := 2000000) only [go_sem, ↓reduceIte]
    have hsp : ∀ x ∈ l, ∃ u, onM x.tx (x.to - x.fr).toNat = some u := fun x hxl => by
     unfold faultM at h0
     rw [if_neg (by omega)] at h0
     obtain ⟨q, hq⟩ := faultsF_0 h0 x hxl
     obtain ⟨_, _, _, _, _, _, _, a8⟩ := spanFault_0 hq
     exact a8
    have ht := text_call l c (fun x hxl => by
     obtain ⟨fr, te, rs, a1, a2, a3, a4, a5, a6, a7, a8⟩ := hx x hxl
     exact ⟨hwf x hxl, by omega, rs, a6, a7⟩) hc (by omega)
    generalize hR : codeM l c = R at ht
    have hI : ((spansD l).length : Int) = (l.length : Int) := by rw [spansD_length]
    obtain ⟨tx, is, ho, hRt, hRn⟩ : ∃ tx is, onRes R = .tup [.str tx, .bool is] ∧ (∀ u, R = some u → tx = u ∧ is = true) ∧ (R = none → tx = [] ∧ is = false) := by
     cases R with
     | none => exact ⟨[], false, rfl, (fun u h => by cases h), fun _ => ⟨rfl, rfl⟩⟩
     | some u => exact ⟨u, true, rfl, (fun v h => ⟨Option.some.inj h, rfl⟩), fun h => by cases h⟩
    rw [ho] at ht
    refine CallG.of ht ?_
    simp (maxSteps := 2000000) only [go_sem, ↓reduceIte, hI]
    refine run_loop (fun i : Nat => ⟨[(0, .d (.list (spansD l))), (2, .d (.int .i64 c)), (11, .d (.str tx)), (12, .d (.bool is)), (13, .d (.int .i64 i))], [], []⟩)
     (fun i => i ≤ l.length ∧ codeM (l.drop i) c = R) (fun i => l.length - i) 0 ?_ ?_ ?_
    ·refine weak_mk ?_ trivial
     simp (maxSteps := 2000000) only [go_sem, ↓reduceIte, Sub, Int.natCast_add, Int.natCast_mul]
    ·exact ⟨Nat.zero_le _, hR⟩
    ·rintro i ⟨hi, hF⟩
     simp (maxSteps := 2000000) only [go_sem, ↓reduceIte, hI]
     refine ⟨fun hlt => ?_, fun hge => ?_⟩
     ·obtain ⟨x, hxi⟩ := get_some (l := l) (i := i) (by omega)
      have hxl := List.mem_of_getElem? hxi
      rw [drop_at hxi, codeM] at hF
      by_cases hA : x.fr ≤ c ∧ c ≤ x.to
      ·rw [if_pos hA] at hF
       obtain ⟨u, hu⟩ := hsp x hxl
       obtain ⟨v, hv⟩ := on_le hu (n := (c - x.fr).toNat) (by omega)
       obtain ⟨q1, q2⟩ := hRt v (hF.symm.trans hv)
       subst q1 q2
       have q3 : (tx = []) = False := eq_false (on_nz hv)
       have z1 := eq_true hA.1
       have z2 := eq_true hA.2
       by_cases h9 : x.fr < c
       ·have z9 := eq_true h9
        simp (maxSteps := 2000000) (disch := omega) only [go_sem, ↓reduceIte, hI, getI_nat, spansD_get, hxi, Span.d, z1, z2, z9, q3]
       ·have z9 := eq_false h9
        have e9 : (c - x.fr).toNat = 0 := by omega
        rw [e9] at hv
        have q9 := on_zero hv
        rw [q9] at q3
        simp (maxSteps := 2000000) (disch := omega) only [go_sem, ↓reduceIte, hI, getI_nat, spansD_get, hxi, Span.d, z1, z2, z9, q3, q9]
      ·rw [if_neg hA] at hF
       by_cases hA1 : x.fr ≤ c
       ·have z1 := eq_true hA1
        have z2 : (c ≤ x.to) = False := eq_false (by omega)
        simp (maxSteps := 2000000) (disch := omega) only [go_sem, ↓reduceIte, hI, getI_nat, spansD_get, hxi, Span.d, z1, z2]
        refine ⟨i + 1, ?_, ⟨by omega, hF⟩, by omega⟩
        refine weak_mk ?_ trivial
        simp (maxSteps := 2000000) only [go_sem, ↓reduceIte, Sub, Int.natCast_add, Int.natCast_mul]
       ·have z1 := eq_false hA1
        simp (maxSteps := 2000000) (disch := omega) only [go_sem, ↓reduceIte, hI, getI_nat, spansD_get, hxi, Span.d, z1]
        refine ⟨i + 1, ?_, ⟨by omega, hF⟩, by omega⟩
        refine weak_mk ?_ trivial
        simp (maxSteps := 2000000) only [go_sem, ↓reduceIte, Sub, Int.natCast_add, Int.natCast_mul]
     ·have : l.drop i = [] := List.drop_eq_nil_of_le (by omega)
      rw [this] at hF
      simp only [codeM] at hF
      obtain ⟨q1, q2⟩ := hRn hF.symm
      subst q1 q2
      simp (maxSteps := 2000000) only [go_sem, ↓reduceIte]
  ·rw [if_neg h0, errD_ne h0]
   simp (maxSteps := 2000000) only [go_sem, ↓reduceIte]
end Go.Av.Tryd
