import Derived.Test.YtjmhecojjcjcaaaDoorWc
import Derived.Test.YtjmhecojjcjcaaaDoorWa
import Derived.Shelf.Unicode.DecodeLast
import Derived.Shelf.LaysM
import Derived.Test.YtjmhecojjcjcaaaDoorWb
import Derived.Shelf.Unicode.ValidAny
import Derived.Test.YtjmhecojjcjcaaaDoorAvH
set_option linter.unusedSimpArgs false
set_option maxHeartbeats 2000000
namespace Go.Av.Tryd
open Go.Proofs
theorem orE_eq0 {n e : Nat} (h : orE n e = 0) : n = 0 ∧ e = 0 := by
 unfold orE at h
 split at h
 ·exact ⟨by assumption, h⟩
 ·exact absurd h (by assumption)
theorem nextT_ge {s : List UInt8} {k : Nat} (hk : k ≤ s.length) : k ≤ (nextT s k).2.1 := by
 have hsk := skipP_le hk
 unfold nextT
 generalize skipP s k = q at *
 unfold tokAt
 split
 ·cases h : s[q]? with
  | none => simp; omega
  | some c =>
   simp only
   split
   ·split
    ·simp; omega
    ·simp only; omega
   ·simp only; omega
 ·simp only; omega
theorem cBe_ne {w : List UInt8} (h : cBe w = 0) : w ≠ [] := by
 intro e
 subst e
 exact absurd h (by decide)
theorem strE_up {s : List UInt8} {k n : Nat} (h : strE s k n = 0) (hk : k ≤ s.length) : n = 0 ∧ k < (nextT s k).2.1 := by
 unfold strE at h
 obtain ⟨h1, h2⟩ := orE_eq0 h
 exact ⟨(orE_eq0 h1).1, nextT_up (cBe_ne h2) hk⟩
theorem codeT_up {s : List UInt8} {b : Bool} {k n : Nat} (h : (codeT s b k n).2.2 = 0) (hk : k ≤ s.length) : k < (codeT s b k n).2.1 := by
 unfold codeT at *
 split at h
 ·rename_i h1
  rw [if_pos h1]
  exact (strE_up h1 hk).2
 ·rename_i h1
  exact absurd h h1
theorem txtE_up {w : List UInt8} {n : Nat} (h : txtE w n = 0) : n = 0 := by
 have h1 := (orE_eq0 h).1
 unfold txtE1 at h1
 split at h1
 ·cases h1
 ·exact (orE_eq0 h1).1
theorem codeT_err {s : List UInt8} {b : Bool} {k n : Nat} (h : (codeT s b k n).2.2 = 0) (hk : k ≤ s.length) : n = 0 := by
 unfold codeT at h
 split at h
 ·rename_i h1
  exact (strE_up h1 hk).1
 ·rename_i h1
  exact absurd h h1
def StepOK (s : List UInt8) (st : RS → RS) : Prop := ∀ x : RS, x.2.1 ≤ s.length → x.2.2.1.length ≤ 300 → (st x).2.1 ≤ s.length ∧ ((st x).2.2.2 = 0 → (st x).2.2.1.length ≤ 300 ∧ x.2.1 < (st x).2.1)
theorem one1_ok (s : List UInt8) : StepOK s (one1 s) := fun ⟨b, k, l, n⟩ hk hl => by
 have h1 := (codeT_le s b n hk).2
 refine ⟨(nextT_le h1).2, fun h => ?_⟩
 obtain ⟨h2, h3⟩ := putE_0 _ h
 have h4 := (orE_eq0 (txtE_up h2)).1
 exact ⟨h3, Nat.lt_of_lt_of_le (codeT_up h4 hk) (nextT_ge h1)⟩
theorem listF_ok (s : List UInt8) (te : Nat) : ∀ (f c k : Nat) (l : List Span) (n : Nat), k ≤ s.length → (n = 0 → l.length ≤ 300) → (listF s te f c k l n).1 ≤ s.length ∧ k ≤ (listF s te f c k l n).1 ∧ ((listF s te f c k l n).2.2 = 0 → n = 0 ∧ (listF s te f c k l n).2.1.length ≤ 300)
 | 0, c, k, l, n, hk, hl => ⟨hk, Nat.le_refl _, fun h => ⟨h, hl h⟩⟩
 | f + 1, c, k, l, n, hk, hl => by
  rw [listF]
  by_cases hn : n = 0
  ·rw [if_neg (by simpa using hn)]
   have h1 := nextT_ge hk
   have h2 := (nextT_le hk).2
   split
   ·refine ⟨h2, h1, fun h => ⟨hn, hl hn⟩⟩
   ·obtain ⟨g1, g2, g3⟩ := listF_ok s te f (c + 1) (nextT s k).2.1 (putL l ⟨c, c, txtS (nextT s k).1⟩) (putE l (txtE (nextT s k).1 (orE n (nextT s k).2.2))) h2 (fun h => (putE_0 _ h).2)
    exact ⟨g1, Nat.le_trans h1 g2, fun h => ⟨hn, (g3 h).2⟩⟩
  ·rw [if_pos hn]
   exact ⟨hk, Nat.le_refl _, fun h => absurd h hn⟩
theorem one2_ok (s : List UInt8) : StepOK s (one2 s) := fun ⟨b, k, l, n⟩ hk hl => by
 simp only at hk hl
 simp only [one2]
 have h1 := (codeT_le s b n hk).2
 have u1 := fun h => codeT_up (s := s) (b := b) (k := k) (n := n) h hk
 generalize codeT s b k n = C at *
 obtain ⟨c, k1, n1⟩ := C
 simp only at *
 have h2 := (codeT_le s b n1 h1).2
 have u2 := fun h => codeT_up (s := s) (b := b) (k := k1) (n := n1) h h1
 have v2 := fun h => codeT_err (s := s) (b := b) (k := k1) (n := n1) h h1
 generalize codeT s b k1 n1 = D at *
 obtain ⟨d, k2, n2⟩ := D
 simp only at *
 have h3 := (nextT_le h2).2
 have h4 := nextT_ge h2
 generalize nextT s k2 = T at *
 obtain ⟨w, k3, e2⟩ := T
 simp only at *
 by_cases h91 : w = [91]
 ·rw [if_pos h91]
  obtain ⟨g1, g2, g3⟩ := listF_ok s d (s.length + 1 - k3) c k3 l (orE n2 e2) h3 (fun _ => hl)
  refine ⟨g1, fun h => ⟨(g3 h).2, ?_⟩⟩
  have g4 := (orE_eq0 (g3 h).1).1
  have g5 := u2 g4
  have g6 := u1 (v2 g4)
  simp only
  omega
 ·rw [if_neg h91]
  refine ⟨h3, fun h => ?_⟩
  obtain ⟨g1, g2⟩ := putE_0 _ h
  refine ⟨g2, ?_⟩
  have g4 := (orE_eq0 (txtE_up g1)).1
  have g5 := u2 g4
  have g6 := u1 (v2 g4)
  simp only
  omega
theorem one0_ok (s : List UInt8) : StepOK s (one0 s) := fun ⟨b, k, l, n⟩ hk hl => by
 have h1 := (nextT_le hk).2
 have h2 := (nextT_le h1).2
 have h3 := nextT_ge h1
 simp only at hk hl
 refine ⟨h2, fun h => ⟨hl, ?_⟩⟩
 have g : strE s (nextT s k).2.1 (strE s k n) = 0 := by
  simp only [one0, spaceT] at h
  split at h
  ·cases h
  ·exact h
 have g2 := strE_up g h1
 have g3 := strE_up g2.1 hk
 show k < (nextT s (nextT s k).2.1).2.1
 omega
def partF (s e : List UInt8) (st : RS → RS) : Nat → RS → RS
 | 0, x => x
 | f + 1, x =>
  if x.2.2.2 ≠ 0 then x
  else if (nextT s x.2.1).1 = e then (x.1, (nextT s x.2.1).2.1, x.2.2.1, orE x.2.2.2 (nextT s x.2.1).2.2)
  else partF s e st f (st (x.1, x.2.1, x.2.2.1, if (nextT s x.2.1).1 = [] then orE (orE x.2.2.2 (nextT s x.2.1).2.2) 5 else orE x.2.2.2 (nextT s x.2.1).2.2))
theorem partF_end (s e : List UInt8) (st : RS → RS) (f : Nat) {x : RS} (h : x.2.2.2 ≠ 0) : partF s e st f x = x := by
 cases f with
 | zero => rfl
 | succ f => rw [partF, if_pos h]
theorem partF_fuel (s e : List UInt8) (st : RS → RS) (hst : StepOK s st) : ∀ (f f' : Nat) (x : RS), x.2.1 ≤ s.length → x.2.2.1.length ≤ 300 → s.length + 1 - x.2.1 ≤ f → s.length + 1 - x.2.1 ≤ f' → partF s e st f x = partF s e st f' x
 | 0, _, _, h, _, h1, _ => by omega
 | _, 0, _, h, _, _, h2 => by omega
 | f + 1, f' + 1, x, h, hl, h1, h2 => by
  simp only [partF]
  split
  ·rfl
  ·split
   ·rfl
   ·generalize hy : (x.1, x.2.1, x.2.2.1, if (nextT s x.2.1).1 = [] then orE (orE x.2.2.2 (nextT s x.2.1).2.2) 5 else orE x.2.2.2 (nextT s x.2.1).2.2) = y
    have e1 : y.2.1 = x.2.1 := by rw [← hy]
    have e2 : y.2.2.1 = x.2.2.1 := by rw [← hy]
    obtain ⟨g1, g2⟩ := hst y (by rw [e1]; exact h) (by rw [e2]; exact hl)
    by_cases hn : (st y).2.2.2 = 0
    ·obtain ⟨g3, g4⟩ := g2 hn
     rw [e1] at g4
     exact partF_fuel s e st hst f f' _ g1 g3 (by omega) (by omega)
    ·rw [partF_end _ _ _ _ hn, partF_end _ _ _ _ hn]
def L___cmap_reader__part : LCode :=
 .block 0 (.loop (.seq (.seq (.reg [Qc 8 0, Q 9 (.nck (.t 8)), Q 10 (.fa 4 (.t 9)), Q 11 (.ld false 1 (.t 10)), Q 12 (.eqN 0 false (.t 11))]) (.cond (.t 12) .skip (.exit 0))) 
 (.block 1 (.seq (.reg [Qc 13 0, Q 14 (.nck (.t 13)), Q 15 (.fa 1 (.t 14)), Q 16 (.ld false 1 (.t 15)), Qa 6 16]) (.seq (.reg [Qc 17 0, ⟨some 18, .prim .call [.k (.fn (.func 32) 
 [] []), .t 17] [], none⟩, Qa 7 18]) (.seq (.seq (.reg [Qc 19 7, Qc 20 1, Q 21 (.bin .eql (.t 19) (.t 20))]) (.cond (.t 21) .ret .skip)) (.seq (.seq (.reg [Qc 22 7, Q 23 (.bin 
 .eql (.t 22) (.k (.d (.str []))))]) (.cond (.t 23) (.reg [Qc 24 0, Q 25 (.mkI 65 (Ki 5)), ⟨some 26, .prim .call [.k (.fn (.func 41) [] []), .t 24, .t 25] [], none⟩]) .skip)) 
 (.seq (.reg [Qc 27 0, Qc 28 6, Q 29 (.nck (.t 27)), Q 30 (.fa 1 (.t 29)), ⟨none, .st 1 (.t 30) (.t 28), none⟩]) (.reg [Qc 31 2, ⟨some 32, .prim .call [.t 31] [], none⟩])))))))))
def R___cmap_reader__part : List LRes := []
theorem lift___cmap_reader__part : Lifts Tryd.prog 33 33 L___cmap_reader__part R___cmap_reader__part := ⟨_, _, Tryd.func33, rfl, by kernel_rfl, by kernel_rfl, rfl⟩
theorem cpart (s e : List UInt8) (st : RS → RS) (hst : StepOK s st) (F : FuncId) (first cap : List AV) (hfc : (first = [.ptr (.x 0) 0] ∧ cap = []) ∨ (first = [] ∧ cap = [.ptr (.x 1) 0])) (he : e ≠ [])
  (hF : ∀ (x : RS) (r : Row), x.2.1 ≤ s.length → r.is x.2.2.1 → x.2.2.1.length ≤ 300 → MV Tryd.prog F (first ++ cap) [crd s x.2.1 x.1 r x.2.2.2, box] r.ob (RdB s (st x)))
  (x : RS) (r : Row) (hs : s.length ≤ 60000) (hk : x.2.1 ≤ s.length) (hr : r.is x.2.2.1) (hl : x.2.2.1.length ≤ 300) :
  MV Tryd.prog 33 [.ptr (.x 0) 0, .d (.str e), .fn (.func F) first cap] [crd s x.2.1 x.1 r x.2.2.2, box] r.ob (RdB s (partF s e st (s.length + 1 - x.2.1) x)) := by
 generalize hR : partF s e st (s.length + 1 - x.2.1) x = R
 obtain ⟨S0, hS0⟩ : ∃ S0 : Row × RS → St, ∀ y, S0 y = ⟨[(0, .ptr (.x 0) 0), (1, .d (.str e)), (2, .fn (.func F) first cap)], [], (0, crd s y.2.2.1 y.2.1 y.1 y.2.2.2.2) :: (1, box) :: mob y.1.ob⟩ := ⟨_, fun _ => rfl⟩
 rcases hfc with ⟨rfl, rfl⟩ | ⟨rfl, rfl⟩
 all_goals
  refine lift___cmap_reader__part.mv (by kernel_rfl) rfl rfl ?_
  simp (maxSteps := 2000000) only [go_sem, ↓reduceIte, L___cmap_reader__part, R___cmap_reader__part]
  refine run_loop S0 (fun y => y.2.2.1 ≤ s.length ∧ y.1.is y.2.2.2.1 ∧ (y.2.2.2.2 = 0 → y.2.2.2.1.length ≤ 300) ∧ partF s e st (s.length + 1 - y.2.2.1) y.2 = R) (fun y => if y.2.2.2.2 = 0 then s.length + 2 - y.2.2.1 else 0) (r, x) ?_ ?_ ?_
  ·rw [hS0]
   rcases r with _ | ⟨fs, cc⟩
   all_goals
    refine Weak.mk ?_ ?_ ?_ <;> simp (maxSteps := 2000000) only [go_sem, ↓reduceIte, Sub, Int.natCast_add, Int.natCast_mul]
  ·exact ⟨hk, hr, fun _ => hl, hR⟩
  ·rintro ⟨r, b, k, l, n⟩ ⟨hk, hr, hl, hP⟩
   simp only at hk hr hl hP
   rw [hS0]
   have hnx := cnext s k b r n hs hk
   obtain ⟨hw1, hw2⟩ := nextT_le hk
   have hro := Row.ok r
   have hf5 := cfail s (nextT s k).2.1 b r (orE n (nextT s k).2.2) 5
   have hone := fun n' (h : n = 0) => hF (b, k, l, n') r hk hr (hl h)
   have hr0 := hr
   rcases r with _ | ⟨fs, cc⟩
   all_goals
    rcases Nat.eq_zero_or_pos n with hn | hn
    ·subst hn
     simp (maxSteps := 2000000) only [go_sem, ↓reduceIte, crd, box, show errD 0 = .nil from rfl]
     refine PrimG.mvE ([.x 0]) rfl (hnx) rfl rfl (by repeat' (first | exact trivial | exact rfl | constructor)) rfl rfl rfl rfl (hro) ⟨⟨rfl, rfl⟩, rfl⟩ ?_
     have hP2 := hP
     rw [show s.length + 1 - k = (s.length - k) + 1 by omega, partF, if_neg (by simp)] at hP2
     by_cases hwe : (nextT s k).1 = e
     ·rw [if_pos hwe] at hP2
      simp (maxSteps := 2000000) only [go_sem, ↓reduceIte, crd, hwe]
      subst hP2
      exact ⟨_, hr0, rfl, rfl, rfl⟩
     ·rw [if_neg hwe] at hP2
      simp only at hP2
      generalize hn1 : (if (nextT s k).1 = [] then orE (orE 0 (nextT s k).2.2) 5 else orE 0 (nextT s k).2.2) = n1 at hP2
      have hone := hone n1 rfl
      obtain ⟨g1, g2⟩ := hst (b, k, l, n1) hk (hl rfl)
      simp only [List.append_nil, List.nil_append] at hone g1 g2
      generalize st (b, k, l, n1) = y at *
      obtain ⟨b', k', l', n'⟩ := y
      simp only at g1 g2
      by_cases hw0 : (nextT s k).1 = []
      rw [if_pos hw0] at hn1
      simp (maxSteps := 2000000) only [go_sem, ↓reduceIte, crd, hwe, hw0, Ne.symm he]
      refine PrimG.mvE ([.x 0]) rfl (hf5) rfl rfl (by repeat' (first | exact trivial | exact rfl | constructor)) rfl rfl rfl rfl (hro) ⟨⟨rfl, rfl⟩, rfl⟩ ?_
      simp (maxSteps := 2000000) only [go_sem, ↓reduceIte, crd]
      rotate_left
      rw [if_neg hw0] at hn1
      simp (maxSteps := 2000000) only [go_sem, ↓reduceIte, crd, hwe, hw0]
      all_goals
       rw [hn1]
       refine PrimG.mv ([.x 0, .x 1]) rfl (hone) rfl rfl (by repeat' (first | exact trivial | exact rfl | constructor)) rfl rfl rfl rfl (hro) (fun r hs' m' hr => ?_)
       obtain ⟨r', hr', e1, e2, e3⟩ := hr
       subst e1 e2 e3
       rcases r' with _ | ⟨fs', c'⟩
       all_goals
        refine ⟨⟨⟨rfl, rfl⟩, rfl⟩, ?_⟩
        simp (maxSteps := 2000000) only [go_sem, ↓reduceIte, crd, box]
        refine ⟨(_, b', k', l', n'), ?_, ⟨g1, hr', fun h => (g2 h).1, ?_⟩, ?_⟩
        ·rw [hS0]
         refine Weak.mk ?_ ?_ ?_ <;> simp (maxSteps := 2000000) only [go_sem, ↓reduceIte, Sub, Int.natCast_add, Int.natCast_mul, crd, box]
        ·simp only
         rw [← hP2]
         by_cases hn0 : n' = 0
         ·have := (g2 hn0).2
          refine partF_fuel s e st hst _ _ _ g1 (g2 hn0).1 ?_ ?_ <;> simp only <;> omega
         ·rw [partF_end _ _ _ _ hn0, partF_end _ _ _ _ hn0]
        ·simp only
         split
         ·rename_i h
          have := (g2 h).2
          omega
         ·omega
    ·rw [partF_end _ _ _ _ (Nat.pos_iff_ne_zero.1 hn)] at hP
     subst hP
     simp (maxSteps := 2000000) only [go_sem, ↓reduceIte, crd, box, errD_ne (Nat.pos_iff_ne_zero.1 hn)]
     exact ⟨_, hr0, rfl, by rw [crd_ne _ _ _ _ (Nat.pos_iff_ne_zero.1 hn)]; rfl, rfl⟩
end Go.Av.Tryd
set_option linter.unusedSimpArgs false
namespace Go.Av.Tryd
open Go.Proofs Go.RowKit
open Go.Shelf
set_option maxRecDepth 100000
def lastLays_ren : Go.Shelf.Ren := ⟨fun | 271 => 71 | 120 => 82 | 197 => 83 | 260 => 88 | n => n, fun | 9 => 9 | 21 => 21 | 3 => 3 | 4 => 4 | 5 => 5 | 105 => 113 | 119 => 108 | 0 => 0 | 46 => 112 | 139 => 111 | 138 => 110 | n => n, fun | 3 => 0 | 4 => 1 | n => n⟩
theorem lastLays : Go.Proofs.LaysM.n271 Tryd.prog lastLays_ren where
 mixed := by kernel_rfl
 f120 := Tryd.func82.trans (congrArg some (by kernel_rfl))
 f197 := Tryd.func83.trans (congrArg some (by kernel_rfl))
 f260 := Tryd.func88.trans (congrArg some (by kernel_rfl))
 f271 := Tryd.func71.trans (congrArg some (by kernel_rfl))
 t0 := Tryd.underlying0
 a0 := Tryd.isAgg0
 z0 := Tryd.sizeOf0
 v0 := Tryd.zeroValue0
 t3 := Tryd.underlying3
 a3 := Tryd.isAgg3
 z3 := Tryd.sizeOf3
 v3 := Tryd.zeroValue3
 t4 := Tryd.underlying4
 a4 := Tryd.isAgg4
 z4 := Tryd.sizeOf4
 v4 := Tryd.zeroValue4
 t5 := Tryd.underlying5
 a5 := Tryd.isAgg5
 z5 := Tryd.sizeOf5
 v5 := Tryd.zeroValue5
 t9 := Tryd.underlying9
 a9 := Tryd.isAgg9
 z9 := Tryd.sizeOf9
 v9 := Tryd.zeroValue9
 t21 := Tryd.underlying21
 a21 := Tryd.isAgg21
 z21 := Tryd.sizeOf21
 v21 := Tryd.zeroValue21
 t46 := Tryd.underlying112
 a46 := Tryd.isAgg112
 z46 := Tryd.sizeOf112
 v46 := Tryd.zeroValue112
 t105 := Tryd.underlying113
 a105 := Tryd.isAgg113
 z105 := Tryd.sizeOf113
 v105 := Tryd.zeroValue113
 t119 := Tryd.underlying108
 a119 := Tryd.isAgg108
 z119 := Tryd.sizeOf108
 t138 := Tryd.underlying110
 a138 := Tryd.isAgg110
 z138 := Tryd.sizeOf110
 v138 := Tryd.zeroValue110
 t139 := Tryd.underlying111
 a139 := Tryd.isAgg111
 z139 := Tryd.sizeOf111
 v139 := Tryd.zeroValue111
 g3 := by kernel_rfl
 g4 := by kernel_rfl
 i0 := by kernel_rfl
 i3 := by kernel_rfl
 i4 := by kernel_rfl
 i5 := by kernel_rfl
 i9 := by kernel_rfl
 i21 := by kernel_rfl
 i46 := by kernel_rfl
 i105 := by kernel_rfl
 i138 := by kernel_rfl
 i139 := by kernel_rfl
 m3 := by kernel_rfl
 m4 := by kernel_rfl
theorem u8_tabs {f : Nat → Nat} {w : World} (hI : Inv.inv Tryd.prog f w) : Lib.Utf8Tabs 0 1 w := hI.2.2.1 _ _ (by kernel_rfl) (by kernel_rfl)
theorem below_fr {f : Nat → Nat} {w w' : World} (h : Below w.heap.size w w') (ht : ∀ b, w.heap.size ≤ b → f b = 0) : Fr f w f w' :=
 ⟨h.size, fun b hb => ⟨h.block b hb, rfl⟩, fun b hb => ht b (Nat.le_trans h.size hb), h.os, h.tape, h.output⟩
theorem strArg {f : Nat → Nat} {w : World} {vs : Array Value} {s : List UInt8} (hsz : vs.size = 1) (h : RD f w (.str s) (vs.getD 0 undef)) : vs = #[.string ⟨s.toArray⟩] := by
 match vs, hsz with
 | ⟨[v]⟩, _ => cases h; rfl
theorem decodeLast_call (s : List UInt8) (hs : s.length ≤ 1000000000) : PCall Tryd.prog 71 [.str s] (fun r => r = .tup [.int .i32 (Lib.decodeLastL s).1, .int .i64 (Lib.decodeLastL s).2]) := by
 intro f w vs hI ht hsz hrd
 obtain rfl := strArg hsz (hrd 0 _ rfl)
 refine (Any.utf8_DecodeLastRuneInString lastLays.ton271 ⟨s.toArray⟩ w (by show s.toArray.size ≤ _; simp; omega) (u8_tabs hI)).mono fun e w' ⟨he, hw⟩ => ?_
 refine ⟨_, _, f, rfl, he, ⟨_, rfl, rfl, fun i y hi => ?_⟩, below_fr hw ht⟩
 match i, hi with
 | 0, hi => cases hi; exact .int _ _
 | 1, hi => cases hi; exact .int _ _
 | (i + 2), hi => simp at hi
end Go.Av.Tryd
set_option linter.unusedSimpArgs false
set_option maxRecDepth 100000
namespace Go.Av.Tryd
open Go.Proofs
def L_cmap_behind : LCode :=
 .seq (.reg [Qx 4 (.k (.d (.str []))), Qx 5 KF]) (.seq (.reg [Qc 10 0, ⟨some 11, .call 71 [.t 10], none⟩, Qc 9 11, Q 12 (.ext 0 (.t 9)), Q 13 (.ext 1 (.t 9)), Qa 6 12, Qa 7 13]) 
 (.seq (.reg [Qc 14 6, Q 15 (.cvI .i64 (.t 14)), Qc 16 1, Q 17 (.bin .add (.t 15) (.t 16)), Qa 8 17]) (.seq (.seq (.reg [Qc 18 8, Q 19 (.bin .gtr (.t 18) (Ki 1114111)), Qc 20 19, 
 Qd 21 8 20 false, Qg 22 (.bin .geq (.t 21) (Ki 55296)) 20 false, Qd 23 22 20 false, Qd 24 8 23 true, Qg 25 (.bin .lss (.t 24) (Ki 57344)) 23 true, Qg 26 (.pick (.t 23) (.t 25) 
 KF) 20 false, Q 27 (.pick (.t 20) KT (.t 26))]) (.cond (.t 27) (.seq (.reg [Qx 4 (.k (.d (.str []))), Qx 5 KF]) .ret) .skip)) (.seq (.seq (.reg [Qc 28 6, Q 29 (.cvI .i64 (.t 
 28)), Q 30 (.bin .lss (.t 29) (Ki 55296)), Qc 31 30, Qd 32 8 31 true, Qg 33 (.bin .geq (.t 32) (Ki 57344)) 31 true, Q 34 (.pick (.t 31) (.t 33) KF)]) (.cond (.t 34) (.seq (.reg 
 [Qx 4 (.k (.d (.str []))), Qx 5 KF]) .ret) .skip)) (.seq (.reg [Qc 35 0, Qc 36 0, Q 37 (.len true (.t 36)), Qc 38 7, Q 39 (.bin .sub (.t 37) (.t 38)), Q 40 (.subS (.t 35) none 
 (some (.t 39))), Qc 41 8, Q 42 (.cvI .i32 (.t 41)), Q 43 (.i2s (.t 42)), Q 44 (.bin .add (.t 40) (.t 43)), Qa 4 44, Qx 5 KT]) .ret)))))
def R_cmap_behind : List LRes := [.tmp 4, .tmp 5]
theorem lift_cmap_behind : Lifts Tryd.prog 53 45 L_cmap_behind R_cmap_behind := ⟨_, _, Tryd.func53, rfl, by kernel_rfl, by kernel_rfl, rfl⟩
theorem behind_call (s : List UInt8) (m : Int) {rs : List Nat} (hrs : runesM s = some rs) (h0 : rs ≠ []) (hs : s.length ≤ 1000000) (h1 : 0 ≤ m) (h2 : m ≤ 1000000) : PCall Tryd.prog 53 [.str s, .int .i64 m] (fun r => r = onRes (onM s m.toNat)) := by
 obtain ⟨n, rfl⟩ := Int.eq_ofNat_of_zero_le h1
 obtain ⟨e1, e2⟩ := runesM_enc s.length (Nat.le_refl _) hrs
 have hlast := last_get h0
 have hlv := e2 _ (List.mem_of_getElem? hlast)
 have hlv' := hlv
 unfold vrune at hlv'
 have hsplit : s = encM rs.dropLast ++ enc (rs.getLastD 0) := by
  rw [← e1]
  obtain ⟨a, b, rfl⟩ : ∃ a b, rs = a ++ [b] := ⟨rs.dropLast, rs.getLast h0, (List.dropLast_concat_getLast h0).symm⟩
  rw [encM_append, List.dropLast_concat]; simp [encM]
 have hdec : Lib.decodeLastL s = (rs.getLastD 0, (enc (rs.getLastD 0)).length) := by rw [hsplit]; exact last_enc hlv _
 have hel := enc_len hlv
 have hlen : s.length = (encM rs.dropLast).length + (enc (rs.getLastD 0)).length := by conv => lhs; rw [hsplit, List.length_append]
 have htake : s.take (encM rs.dropLast).length = encM rs.dropLast := by
  conv => lhs; rw [hsplit]
  simp
 refine lift_cmap_behind.call rfl ?_
 simp (maxSteps := 2000000) only [go_sem, ↓reduceIte, L_cmap_behind, R_cmap_behind]
 refine CallG.of (decodeLast_call s (by omega)) ?_
 rw [hdec]
 unfold onM
 simp only [hrs, if_neg h0, Int.toNat_natCast]
 have hfin : encM rs.dropLast ++ enc (rs.getLastD 0 + n) = encM (rs.dropLast ++ [rs.getLastD 0 + n]) := by rw [encM_append]; simp [encM]
 have henc : vrune (rs.getLastD 0 + n) → (Utf8.encode ((rs.getLastD 0 : Int) + n)).data.toList = enc (rs.getLastD 0 + n) := fun h => by rw [← Int.natCast_add]; exact encode_enc h
 generalize rs.getLastD 0 = k at *
 generalize encM rs.dropLast = pre at *
 by_cases hb : 1114111 < k + n ∨ (55295 < k + n ∧ k + n < 57344) ∨ (k ≤ 55295 ∧ 57344 ≤ k + n)
 ·rw [if_pos hb]
  by_cases hA : 1114111 < k + n
  ·have zA : (1114111 < (k : Int) + n) = True := eq_true (by omega)
   simp (maxSteps := 2000000) (disch := omega) only [go_sem, ↓reduceIte, zA]
   simp [onRes]
  ·by_cases hB : 55295 < k + n ∧ k + n < 57344
   ·have zA : (1114111 < (k : Int) + n) = False := eq_false (by omega)
    have zB : (55296 ≤ (k : Int) + n) = True := eq_true (by omega)
    have zC : ((k : Int) + n < 57344) = True := eq_true (by omega)
    simp (maxSteps := 2000000) (disch := omega) only [go_sem, ↓reduceIte, zA, zB, zC]
    simp [onRes]
   ·have zA : (1114111 < (k : Int) + n) = False := eq_false (by omega)
    have zB : (55296 ≤ (k : Int) + n) = True := eq_true (by omega)
    have zC : ((k : Int) + n < 57344) = False := eq_false (by omega)
    have zD : ((k : Int) < 55296) = True := eq_true (by omega)
    have zE : (57344 ≤ (k : Int) + n) = True := eq_true (by omega)
    simp (maxSteps := 2000000) (disch := omega) only [go_sem, ↓reduceIte, zA, zB, zC, zD, zE]
    simp [onRes]
 ·rw [if_neg hb]
  have zA : (1114111 < (k : Int) + n) = False := eq_false (by omega)
  have hv := henc (by unfold vrune; omega)
  have hw32 : IntKind.i32.wrap ((k : Int) + n) = (k : Int) + n := by rw [IntWalk.i32_in _ (by omega)]
  have hcut : cutI s 0 ((s.length : Int) - (enc k).length) = pre := by
   unfold cutI
   rw [show ((s.length : Int) - (enc k).length).toNat = pre.length by omega, htake]; rfl
  have hfl := enc_len (r := k + n) (by unfold vrune; omega)
  by_cases hB : 55295 < k + n
  ·have zB : (55296 ≤ (k : Int) + n) = True := eq_true (by omega)
   have zC : ((k : Int) + n < 57344) = False := eq_false (by omega)
   have zE : (57344 ≤ (k : Int) + n) = True := eq_true (by omega)
   have zD : ((k : Int) < 55296) = False := eq_false (by omega)
   simp (maxSteps := 2000000) (disch := omega) only [go_sem, ↓reduceIte, zA, zB, zC, zE, zD, hw32, hv, hcut, hfin]
   refine ⟨by omega, by omega, ?_⟩
   simp [onRes]
  ·have zB : (55296 ≤ (k : Int) + n) = False := eq_false (by omega)
   have zE : (57344 ≤ (k : Int) + n) = False := eq_false (by omega)
   have zD : ((k : Int) < 55296) = True := eq_true (by omega)
   simp (maxSteps := 2000000) (disch := omega) only [go_sem, ↓reduceIte, zA, zB, zE, zD, hw32, hv, hcut, hfin]
   refine ⟨by omega, by omega, ?_⟩
   simp [onRes]
end Go.Av.Tryd
set_option linter.unusedSimpArgs false
set_option maxRecDepth 100000
namespace Go.Av.Tryd
open Go.Proofs
section
open Go.Shelf Go.RowKit
def validLays_ren : Go.Shelf.Ren := ⟨fun | 196 => 52 | 259 => 70 | n => n, fun | 9 => 9 | 4 => 4 | 3 => 3 | 5 => 5 | 12 => 12 | 119 => 108 | 0 => 0 | 46 => 112 | 139 => 111 | 138 => 110 | 53 => 120 | n => n, fun | 3 => 0 | 4 => 1 | n => n⟩
theorem validLays : Go.Proofs.LaysM.n196 Tryd.prog validLays_ren where
 mixed := by kernel_rfl
 f196 := Tryd.func52.trans (congrArg some (by kernel_rfl))
 f259 := Tryd.func70.trans (congrArg some (by kernel_rfl))
 t0 := Tryd.underlying0
 a0 := Tryd.isAgg0
 z0 := Tryd.sizeOf0
 v0 := Tryd.zeroValue0
 t3 := Tryd.underlying3
 a3 := Tryd.isAgg3
 z3 := Tryd.sizeOf3
 v3 := Tryd.zeroValue3
 t4 := Tryd.underlying4
 a4 := Tryd.isAgg4
 z4 := Tryd.sizeOf4
 v4 := Tryd.zeroValue4
 t5 := Tryd.underlying5
 a5 := Tryd.isAgg5
 z5 := Tryd.sizeOf5
 v5 := Tryd.zeroValue5
 t9 := Tryd.underlying9
 a9 := Tryd.isAgg9
 z9 := Tryd.sizeOf9
 v9 := Tryd.zeroValue9
 t12 := Tryd.underlying12
 a12 := Tryd.isAgg12
 z12 := Tryd.sizeOf12
 v12 := Tryd.zeroValue12
 t46 := Tryd.underlying112
 a46 := Tryd.isAgg112
 z46 := Tryd.sizeOf112
 v46 := Tryd.zeroValue112
 t53 := Tryd.underlying120
 a53 := Tryd.isAgg120
 z53 := Tryd.sizeOf120
 v53 := Tryd.zeroValue120
 t119 := Tryd.underlying108
 a119 := Tryd.isAgg108
 z119 := Tryd.sizeOf108
 t138 := Tryd.underlying110
 a138 := Tryd.isAgg110
 z138 := Tryd.sizeOf110
 v138 := Tryd.zeroValue110
 t139 := Tryd.underlying111
 a139 := Tryd.isAgg111
 z139 := Tryd.sizeOf111
 v139 := Tryd.zeroValue111
 g3 := by kernel_rfl
 g4 := by kernel_rfl
 i0 := by kernel_rfl
 i3 := by kernel_rfl
 i4 := by kernel_rfl
 i5 := by kernel_rfl
 i9 := by kernel_rfl
 i12 := by kernel_rfl
 i46 := by kernel_rfl
 i53 := by kernel_rfl
 i138 := by kernel_rfl
 i139 := by kernel_rfl
 m3 := by kernel_rfl
 m4 := by kernel_rfl
theorem valid_call (s : List UInt8) (hs : s.length ≤ 1000000000) : PCall Tryd.prog 52 [.str s] (fun r => r = .one (.bool (runesM s).isSome)) := by
 intro f w vs hI ht hsz hrd
 obtain rfl := strArg hsz (hrd 0 _ rfl)
 refine (Any.utf8_ValidString validLays.ton196 ⟨s.toArray⟩ w (by show s.toArray.size ≤ _; simp; omega) (u8_tabs hI)).mono fun e w' ⟨he, hw⟩ => ?_
 refine ⟨_, _, f, rfl, he, ?_, below_fr hw ht⟩
 rw [← validD_runes _ s (Nat.le_refl _)]
 exact .bool _
end
def L_cmap_Check : LCode :=
 .seq (.reg [Qx 4 (.k (.d .nil))]) (.seq (.seq (.reg [Qc 10 0, Q 11 (.len false (.t 10)), Q 12 (.bin .gtr (.t 11) (Ki 300))]) (.cond (.t 12) (.seq (.reg [Q 13 (.mkI 65 (Ki 2)), Qa 4 
 13]) .ret) .skip)) (.seq (.reg [Qx 5 (Ki 65535)]) (.seq (.seq (.reg [Qc 14 1, Q 15 (.not (.t 14))]) (.cond (.t 15) (.reg [Qx 5 (Ki 255)]) .skip)) (.seq (.seq (.reg [Qc 16 0, Q 17 
 (.len false (.t 16)), Q 18 (.cp (Ki 0))]) (.block 0 (.loop (.seq (.reg [Q 19 (.bin .lss (.t 18) (.t 17))]) (.seq (.cond (.t 19) .skip (.exit 0)) (.seq (.block 1 (.seq (.reg [Qc 
 20 18, Q 21 (.ia 3 (.t 16) (.t 18)), Q 22 (.ld true 3 (.t 21)), ⟨some 7, .allo [.int .i64 0, .int .i64 0, .str []], none⟩, Qa 6 20, ⟨none, .st 3 (.t 7) (.t 22), none⟩]) (.seq 
 (.seq (.reg [Q 23 (.fa 0 (.t 7)), Q 24 (.ld false 1 (.t 23)), Q 25 (.bin .lss (.t 24) (Ki 0)), Qc 26 25, Qg 27 (.fa 1 (.t 7)) 26 false, Qg 28 (.ld false 1 (.t 27)) 26 false, Qd 
 29 5 26 false, Qg 30 (.bin .gtr (.t 28) (.t 29)) 26 false, Q 31 (.pick (.t 26) KT (.t 30))]) (.cond (.t 31) (.seq (.reg [Q 32 (.mkI 65 (Ki 1)), Qa 4 32]) .ret) .skip)) (.seq 
 (.seq (.dreg [Q 33 (.fa 0 (.t 7)), Q 34 (.ld false 1 (.t 33)), Q 35 (.fa 1 (.t 7)), Q 36 (.ld false 1 (.t 35)), Q 37 (.bin .gtr (.t 34) (.t 36)), Qc 38 37, Qd 39 6 38 false, Qg 
 40 (.bin .gtr (.t 39) (Ki 0)) 38 false, Qd 41 40 38 false, Qd 42 0 41 true, Qd 43 6 41 true, Qg 44 (.bin .sub (.t 43) (Ki 1)) 41 true, Qg 45 (.ia 3 (.t 42) (.t 44)) 41 true, Qg 
 46 (.fa 1 (.t 45)) 41 true, Qg 47 (.ld false 1 (.t 46)) 41 true, Qg 48 (.fa 0 (.t 7)) 41 true, Qg 49 (.ld false 1 (.t 48)) 41 true, Qg 50 (.bin .geq (.t 47) (.t 49)) 41 true, Qg 
 51 (.pick (.t 41) (.t 50) KF) 38 false, Q 52 (.pick (.t 38) KT (.t 51)), Qc 53 52, Qg 54 (.fa 2 (.t 7)) 53 false, Qg 55 (.ld false 1 (.t 54)) 53 false, ⟨some 56, .call 52 [.t 
 55], some (53, false)⟩, Qg 57 (.not (.t 56)) 53 false, Q 58 (.pick (.t 53) KT (.t 57)), Qc 59 58, Qg 60 (.fa 2 (.t 7)) 59 false, Qg 61 (.ld false 1 (.t 60)) 59 false, Qg 62 (.bin 
 .eql (.t 61) (.k (.d (.str [])))) 59 false, Q 63 (.pick (.t 59) KT (.t 62)), Qc 64 63, Qg 65 (.fa 2 (.t 7)) 64 false, Qg 66 (.ld false 1 (.t 65)) 64 false, Qg 67 (.len true (.t 
 66)) 64 false, Qg 68 (.bin .gtr (.t 67) (Ki 40)) 64 false, Q 69 (.pick (.t 64) KT (.t 68))]) (.cond (.t 69) (.seq (.reg [Q 70 (.mkI 65 (Ki 3)), Qa 4 70]) .ret) .skip)) (.seq 
 (.reg [Q 72 (.fa 2 (.t 7)), Q 73 (.ld false 1 (.t 72)), Q 74 (.fa 1 (.t 7)), Q 75 (.ld false 1 (.t 74)), Q 76 (.fa 0 (.t 7)), Q 77 (.ld false 1 (.t 76)), Q 78 (.bin .sub (.t 75) 
 (.t 77)), ⟨some 79, .call 53 [.t 73, .t 78], none⟩, Qc 71 79, Q 80 (.ext 0 (.t 71)), Q 81 (.ext 1 (.t 71)), Qa 8 80, Qa 9 81]) (.seq (.reg [Qc 82 9, Q 83 (.not (.t 82))]) (.cond 
 (.t 83) (.seq (.reg [Q 84 (.mkI 65 (Ki 3)), Qa 4 84]) .ret) .skip))))))) (.reg [Q 85 (.bin .add (.t 18) (Ki 1)), Qc 18 85]))))))) (.seq (.reg [Qx 4 (.k (.d .nil))]) .ret)))))
def R_cmap_Check : List LRes := [.tmp 4]
theorem lift_cmap_Check : Lifts Tryd.prog 23 86 L_cmap_Check R_cmap_Check := ⟨_, _, Tryd.func23, rfl, by kernel_rfl, by kernel_rfl, rfl⟩
theorem check_call (l : List Span) (wide : Bool) (hw : ∀ x ∈ l, x.wf) : PCall Tryd.prog 23 [.list (spansD l), .bool wide] (fun r => r = .one (errD (faultM l wide))) := by
 have hI : ((spansD l).length : Int) = (l.length : Int) := by rw [spansD_length]
 refine lift_cmap_Check.call rfl ?_
 unfold faultM
 by_cases h300 : 300 < l.length
 ·rw [if_pos h300]
  have z : (300 < (l.length : Int)) = True := eq_true (by omega)
  simp (maxSteps := 2000000) only [go_sem, ↓reduceIte, L_cmap_Check, R_cmap_Check, hI, z]
  rfl
 ·rw [if_neg h300]
  have z : (300 < (l.length : Int)) = False := eq_false (by omega)
  generalize hR : faultsF (mostM wide) none l = R
  have e5 : mostM wide = if wide = true then 65535 else 255 := rfl
  have hM : mostM wide = 65535 ∨ mostM wide = 255 := by cases wide <;> simp [mostM]
  obtain ⟨S0, hS0⟩ : ∃ S0 : Nat → St, ∀ i, S0 i = ⟨[(0, .d (.list (spansD l))), (5, .d (.int .i64 (mostM wide))), (16, .d (.list (spansD l))), (17, .d (.int .i64 l.length)), (18, .d (.int .i64 i))], [], []⟩ := ⟨_, fun _ => rfl⟩
  simp (maxSteps := 2000000) only [go_sem, ↓reduceIte, L_cmap_Check, R_cmap_Check, hI, z]
  refine ⟨fun hwd => ?_, fun hwd => ?_⟩
  all_goals
   refine run_loop S0 (fun i => i ≤ l.length ∧ faultsF (mostM wide) (prevM l i) (l.drop i) = R) (fun i => l.length - i) 0 ?_ ⟨Nat.zero_le _, hR⟩ ?_
   ·rw [hS0, e5, hwd]
    refine weak_mk ?_ trivial
    simp (maxSteps := 2000000) only [go_sem, ↓reduceIte, Sub, Int.natCast_add, Int.natCast_mul]
   ·clear hwd e5
    generalize mostM wide = M at *
    rintro i ⟨hi, hF⟩
    rw [hS0]
    simp (maxSteps := 2000000) only [go_sem, ↓reduceIte, hI]
    refine ⟨fun hlt => ?_, fun hge => ?_⟩
    ·obtain ⟨x, hx⟩ := get_some (l := l) (i := i) (by omega)
     obtain ⟨w1, w2, w3, w4, w5⟩ := hw x (List.mem_of_getElem? hx)
     rw [drop_at hx, faultsF] at hF
     have hprev : prevM l (i + 1) = some x.to := by unfold prevM; rw [if_neg (by omega), Nat.add_sub_cancel, hx]; rfl
     rw [← hprev] at hF
     have hbad : ∀ k : Nat, k ≠ 0 → spanFault M (prevM l i) x = k → Res.one (errD k) = Res.one (errD R) := fun k h0 h => by rw [h, if_neg h0] at hF; rw [hF]
     unfold spanFault at hF hbad
     by_cases hA : x.fr < 0 ∨ M < x.to
     ·have b1 := hbad 1 (by decide) (if_pos hA)
      by_cases hA1 : x.fr < 0
      ·have z1 := eq_true hA1
       simp (maxSteps := 2000000) (disch := omega) only [go_sem, ↓reduceIte, hI, getI_nat, spansD_get, hx, Span.d, z1]
       exact b1
      ·have z1 := eq_false hA1
       have z2 : (M < x.to) = True := eq_true (by omega)
       simp (maxSteps := 2000000) (disch := omega) only [go_sem, ↓reduceIte, hI, getI_nat, spansD_get, hx, Span.d, z1, z2]
       exact b1
     ·rw [if_neg hA] at hF
      simp only [if_neg hA] at hbad
      have z1 : (x.fr < 0) = False := eq_false (by omega)
      have z2 : (M < x.to) = False := eq_false (by omega)
      by_cases hC : x.to < x.fr
      ·have b3 := hbad 3 (by decide) (if_pos (.inl hC))
       have z3 := eq_true hC
       simp (maxSteps := 2000000) (disch := omega) only [go_sem, ↓reduceIte, hI, getI_nat, spansD_get, hx, Span.d, z1, z2, z3]
       exact b3
      ·have z3 := eq_false hC
       have hvl := valid_call x.tx (by omega)
       rcases Nat.eq_zero_or_pos i with hi0 | hi0
       have z4 : (0 < (i : Int)) = False := eq_false (by omega)
       have hp : ¬ ∃ p, prevM l i = some p ∧ x.fr ≤ p := by rintro ⟨p, h1, _⟩; unfold prevM at h1; rw [if_pos hi0] at h1; cases h1
       simp (maxSteps := 2000000) (disch := omega) only [go_sem, ↓reduceIte, hI, getI_nat, spansD_get, hx, Span.d, z1, z2, z3, z4]
       rotate_left
       have z4 : (0 < (i : Int)) = True := eq_true (by omega)
       obtain ⟨y, hy⟩ := get_some (l := l) (i := i - 1) (by omega)
       have gy : getI (spansD l) ((i : Int) - 1) = some (.agg [.int .i64 y.fr, .int .i64 y.to, .str y.tx]) := by
        rw [show ((i : Int) - 1) = ((i - 1 : Nat) : Int) by omega, getI_nat, spansD_get, hy]; rfl
       have hpv : prevM l i = some y.to := by unfold prevM; rw [if_neg (by omega), hy]; rfl
       rcases Classical.em (x.fr ≤ y.to) with hq | hq
       have b3 := hbad 3 (by decide) (if_pos (.inr (.inl ⟨y.to, hpv, hq⟩)))
       have z7 := eq_true hq
       simp (maxSteps := 2000000) (disch := omega) only [go_sem, ↓reduceIte, hI, getI_nat, spansD_get, hx, Span.d, z1, z2, z3, z4, gy, z7]
       exact b3
       have z7 := eq_false hq
       have hp : ¬ ∃ p, prevM l i = some p ∧ x.fr ≤ p := by rintro ⟨p, h1, h2⟩; rw [hpv] at h1; cases h1; exact hq h2
       simp (maxSteps := 2000000) (disch := omega) only [go_sem, ↓reduceIte, hI, getI_nat, spansD_get, hx, Span.d, z1, z2, z3, z4, gy, z7]
       all_goals
        refine CallD.of hvl ?_
        cases hrs : runesM x.tx with
        | none =>
         have b3 := hbad 3 (by decide) (if_pos (.inr (.inr (.inl hrs))))
         simp (maxSteps := 2000000) (disch := omega) only [go_sem, ↓reduceIte, Option.isSome_none]
         exact b3
        | some rs =>
         by_cases h5 : x.tx = []
         ·have b3 := hbad 3 (by decide) (if_pos (.inr (.inr (.inr (.inl h5)))))
          simp (maxSteps := 2000000) (disch := omega) only [go_sem, ↓reduceIte, Option.isSome_some, h5]
          exact b3
         ·by_cases h6 : 40 < x.tx.length
          ·have b3 := hbad 3 (by decide) (if_pos (.inr (.inr (.inr (.inr h6)))))
           have z6 : (40 < (x.tx.length : Int)) = True := eq_true (by omega)
           simp (maxSteps := 2000000) (disch := omega) only [go_sem, ↓reduceIte, Option.isSome_some, h5, z6]
           exact b3
          ·have hgood : ¬ (x.to < x.fr ∨ (∃ p, prevM l i = some p ∧ x.fr ≤ p) ∨ runesM x.tx = none ∨ x.tx = [] ∨ 40 < x.tx.length) := by
            rintro (h | h | h | h | h)
            ·exact hC h
            ·exact hp h
            ·rw [hrs] at h; cases h
            ·exact h5 h
            ·exact h6 h
           rw [if_neg hgood] at hF
           simp only [if_neg hgood] at hbad
           have z6 : (40 < (x.tx.length : Int)) = False := eq_false (by omega)
           simp (maxSteps := 2000000) (disch := omega) only [go_sem, ↓reduceIte, Option.isSome_some, h5, z6]
           have hrn : rs ≠ [] := by
            intro e
            subst e
            have := (runesM_enc _ (Nat.le_refl _) hrs).1
            exact h5 this.symm
           refine CallG.of (behind_call x.tx (x.to - x.fr) hrs hrn (by omega) (by omega) (by omega)) ?_
           cases ho : onM x.tx (x.to - x.fr).toNat with
           | none =>
            have b3 := hbad 3 (by decide) (if_pos ho)
            simp only [onRes]
            simp (maxSteps := 2000000) (disch := omega) only [go_sem, ↓reduceIte]
            exact b3
           | some u =>
            simp only [onRes]
            simp only [ho, reduceCtorEq, if_false, if_true] at hF
            simp (maxSteps := 2000000) (disch := omega) only [go_sem, ↓reduceIte]
            refine ⟨i + 1, ?_, ⟨by omega, hF⟩, by omega⟩
            rw [hS0]
            refine weak_mk ?_ trivial
            simp (maxSteps := 2000000) only [go_sem, ↓reduceIte, Sub, Int.natCast_add, Int.natCast_mul]
    ·have : l.drop i = [] := List.drop_eq_nil_of_le (by omega)
     rw [this] at hF
     simp only [faultsF] at hF
     subst hF
     rfl
end Go.Av.Tryd
set_option linter.unusedSimpArgs false
set_option maxRecDepth 100000
set_option maxHeartbeats 2000000
namespace Go.Av.Tryd
open Go.Proofs
/-! ### The spans are none too large -/
def SpW (l : List Span) : Prop := ∀ x ∈ l, x.wf
theorem putL_wf {l : List Span} {x : Span} (h : SpW l) (hx : x.wf) : SpW (putL l x) := by
 intro y hy
 simp only [putL, List.mem_append, List.mem_cons] at hy
 rcases hy with hy | rfl | hy
 ·exact h y (List.takeWhile_subset _ hy)
 ·exact hx
 ·exact h y (List.dropWhile_subset _ hy)
theorem txtS_len (w : List UInt8) : (txtS w).length ≤ 4 * w.length := by
 unfold txtS sgsR
 have h1 := cBl_len w
 have h2 := unitsB_len (cBl w)
 cases hq : sgsF (unitsB (cBl w)) with
 | none => simp [sgsO]
 | some l =>
  obtain ⟨g1, g2⟩ := sgsF_ok _ l (unitsB_le _) hq
  have := encM_len g2
  simp only [sgsO]; omega
theorem span_wf {a b : Nat} {w : List UInt8} (ha : a ≤ 1000000) (hb : b ≤ 1000000) (hw : w.length ≤ 60000) : Span.wf ⟨a, b, txtS w⟩ := by
 have := txtS_len w
 refine ⟨?_, ?_, ?_, ?_, ?_⟩ <;> simp only <;> omega
def StepW (s : List UInt8) (st : RS → RS) : Prop := ∀ x : RS, x.2.1 ≤ s.length → SpW x.2.2.1 → SpW (st x).2.2.1
theorem one1_w (s : List UInt8) (hs : s.length ≤ 60000) : StepW s (one1 s) := fun ⟨b, k, l, n⟩ hk hl => by
 simp only at hk hl
 simp only [one1]
 have h1 := codeT_le s b n hk
 have h2 := (nextT_le h1.2).1
 exact putL_wf hl (span_wf (by omega) (by omega) (by omega))
theorem listF_w (s : List UInt8) (hs : s.length ≤ 60000) (te : Nat) : ∀ (f c k : Nat) (l : List Span) (n : Nat), k ≤ s.length → c + f ≤ 1000000 → SpW l → SpW (listF s te f c k l n).2.1
 | 0, _, _, _, _, _, _, hl => hl
 | f + 1, c, k, l, n, hk, hc, hl => by
  rw [listF]
  have h2 := nextT_le hk
  split
  ·exact hl
  ·split
   ·exact hl
   ·exact listF_w s hs te f _ _ _ _ h2.2 (by omega) (putL_wf hl (span_wf (by omega) (by omega) (by omega)))
theorem one2_w (s : List UInt8) (hs : s.length ≤ 60000) : StepW s (one2 s) := fun ⟨b, k, l, n⟩ hk hl => by
 simp only at hk hl
 simp only [one2]
 have h1 := codeT_le s b n hk
 generalize codeT s b k n = C at *
 obtain ⟨c, k1, n1⟩ := C
 simp only at *
 have h2 := codeT_le s b n1 h1.2
 generalize codeT s b k1 n1 = D at *
 obtain ⟨d, k2, n2⟩ := D
 simp only at *
 have h3 := nextT_le h2.2
 generalize nextT s k2 = T at *
 obtain ⟨w, k3, e2⟩ := T
 simp only at *
 split
 ·exact listF_w s hs d _ _ _ _ _ h3.2 (by omega) hl
 ·exact putL_wf hl (span_wf (by omega) (by omega) (by omega))
theorem one0_w (s : List UInt8) : StepW s (one0 s) := fun ⟨b, k, l, n⟩ hk hl => hl
theorem partF_w (s e : List UInt8) (st : RS → RS) (hst : StepOK s st) (hw : StepW s st) : ∀ (f : Nat) (x : RS), x.2.1 ≤ s.length → (x.2.2.2 = 0 → x.2.2.1.length ≤ 300) → SpW x.2.2.1 → SpW (partF s e st f x).2.2.1
 | 0, _, _, _, h => h
 | f + 1, x, hk, hl, h => by
  rw [partF]
  split
  ·exact h
  ·rename_i hn
   have hl := hl (by simpa using hn)
   split
   ·exact h
   ·have g := hst (x.1, x.2.1, x.2.2.1, if (nextT s x.2.1).1 = [] then orE (orE x.2.2.2 (nextT s x.2.1).2.2) 5 else orE x.2.2.2 (nextT s x.2.1).2.2) hk hl
    exact partF_w s e st hst hw f _ g.1 (fun h => (g.2 h).1) (hw _ hk h)
theorem partF_ok (s e : List UInt8) (st : RS → RS) (hst : StepOK s st) : ∀ (f : Nat) (x : RS), x.2.1 ≤ s.length → (x.2.2.2 = 0 → x.2.2.1.length ≤ 300) → (partF s e st f x).2.1 ≤ s.length ∧ ((partF s e st f x).2.2.2 = 0 → x.2.1 ≤ (partF s e st f x).2.1 ∧ (partF s e st f x).2.2.1.length ≤ 300)
 | 0, x, hk, hl => ⟨hk, fun h => ⟨Nat.le_refl _, hl h⟩⟩
 | f + 1, x, hk, hl => by
  rw [partF]
  split
  ·rename_i hn
   exact ⟨hk, fun h => absurd h hn⟩
  ·rename_i hn
   have hl := hl (by simpa using hn)
   split
   ·exact ⟨(nextT_le hk).2, fun _ => ⟨nextT_ge hk, hl⟩⟩
   ·have g := hst (x.1, x.2.1, x.2.2.1, if (nextT s x.2.1).1 = [] then orE (orE x.2.2.2 (nextT s x.2.1).2.2) 5 else orE x.2.2.2 (nextT s x.2.1).2.2) hk hl
    generalize hy : st (x.1, x.2.1, x.2.2.1, if (nextT s x.2.1).1 = [] then orE (orE x.2.2.2 (nextT s x.2.1).2.2) 5 else orE x.2.2.2 (nextT s x.2.1).2.2) = y at *
    obtain ⟨q1, q2⟩ := partF_ok s e st hst f y g.1 (fun h => (g.2 h).1)
    refine ⟨q1, fun h => ⟨?_, (q2 h).2⟩⟩
    have : y.2.2.2 = 0 := by
     apply Classical.byContradiction
     intro hn
     rw [partF_end _ _ _ _ hn] at h
     exact hn h
    have := (g.2 this).2
    have := (q2 h).1
    simp only at *
    omega
/-! ### The whole -/
def kSpace : List UInt8 := [98, 101, 103, 105, 110, 99, 111, 100, 101, 115, 112, 97, 99, 101, 114, 97, 110, 103, 101]
def kChar : List UInt8 := [98, 101, 103, 105, 110, 98, 102, 99, 104, 97, 114]
def kRange : List UInt8 := [98, 101, 103, 105, 110, 98, 102, 114, 97, 110, 103, 101]
def eSpace : List UInt8 := [101, 110, 100, 99, 111, 100, 101, 115, 112, 97, 99, 101, 114, 97, 110, 103, 101]
def eChar : List UInt8 := [101, 110, 100, 98, 102, 99, 104, 97, 114]
def eRange : List UInt8 := [101, 110, 100, 98, 102, 114, 97, 110, 103, 101]
def wordF (s : List UInt8) (w : List UInt8) (x : RS) : RS :=
 if w = kSpace then partF s eSpace (one0 s) (s.length + 1 - x.2.1) x
 else if w = kChar then partF s eChar (one1 s) (s.length + 1 - x.2.1) x
 else if w = kRange then partF s eRange (one2 s) (s.length + 1 - x.2.1) x
 else x
def mainF (s : List UInt8) : Nat → RS → RS
 | 0, x => x
 | f + 1, x =>
  if x.2.2.2 ≠ 0 then x
  else if (nextT s x.2.1).1 = [] then (x.1, (nextT s x.2.1).2.1, x.2.2.1, orE x.2.2.2 (nextT s x.2.1).2.2)
  else mainF s f (wordF s (nextT s x.2.1).1 (x.1, (nextT s x.2.1).2.1, x.2.2.1, orE x.2.2.2 (nextT s x.2.1).2.2))
theorem wordF_ok (s w : List UInt8) (x : RS) (hk : x.2.1 ≤ s.length) (hl : x.2.2.2 = 0 → x.2.2.1.length ≤ 300) : (wordF s w x).2.1 ≤ s.length ∧ ((wordF s w x).2.2.2 = 0 → x.2.1 ≤ (wordF s w x).2.1 ∧ (wordF s w x).2.2.1.length ≤ 300) := by
 unfold wordF
 split
 ·exact partF_ok s _ _ (one0_ok s) _ x hk hl
 ·split
  ·exact partF_ok s _ _ (one1_ok s) _ x hk hl
  ·split
   ·exact partF_ok s _ _ (one2_ok s) _ x hk hl
   ·exact ⟨hk, fun h => ⟨Nat.le_refl _, hl h⟩⟩
theorem wordF_w (s w : List UInt8) (hs : s.length ≤ 60000) (x : RS) (hk : x.2.1 ≤ s.length) (hl : x.2.2.2 = 0 → x.2.2.1.length ≤ 300) (hx : SpW x.2.2.1) : SpW (wordF s w x).2.2.1 := by
 unfold wordF
 split
 ·exact partF_w s _ _ (one0_ok s) (one0_w s) _ x hk hl hx
 ·split
  ·exact partF_w s _ _ (one1_ok s) (one1_w s hs) _ x hk hl hx
  ·split
   ·exact partF_w s _ _ (one2_ok s) (one2_w s hs) _ x hk hl hx
   ·exact hx
theorem mainF_end (s : List UInt8) (f : Nat) {x : RS} (h : x.2.2.2 ≠ 0) : mainF s f x = x := by
 cases f with
 | zero => rfl
 | succ f => rw [mainF, if_pos h]
theorem mainF_fuel (s : List UInt8) : ∀ (f f' : Nat) (x : RS), x.2.1 ≤ s.length → (x.2.2.2 = 0 → x.2.2.1.length ≤ 300) → s.length + 1 - x.2.1 ≤ f → s.length + 1 - x.2.1 ≤ f' → mainF s f x = mainF s f' x
 | 0, _, _, h, _, h1, _ => by omega
 | _, 0, _, h, _, _, h2 => by omega
 | f + 1, f' + 1, x, h, hl, h1, h2 => by
  simp only [mainF]
  split
  ·rfl
  ·rename_i hn
   split
   ·rfl
   ·rename_i hw
    have g0 := nextT_up hw h
    have g := wordF_ok s (nextT s x.2.1).1 (x.1, (nextT s x.2.1).2.1, x.2.2.1, orE x.2.2.2 (nextT s x.2.1).2.2) (nextT_le h).2 (fun _ => hl (by simpa using hn))
    generalize wordF s (nextT s x.2.1).1 (x.1, (nextT s x.2.1).2.1, x.2.2.1, orE x.2.2.2 (nextT s x.2.1).2.2) = y at *
    by_cases hn : y.2.2.2 = 0
    ·have := (g.2 hn).1
     simp only at this
     exact mainF_fuel s f f' y g.1 (fun h => (g.2 h).2) (by omega) (by omega)
    ·rw [mainF_end _ _ hn, mainF_end _ _ hn]
def doneF (x : RS) : List Span × Bool × Nat :=
 if x.2.2.2 ≠ 0 then ([], false, x.2.2.2)
 else if faultM x.2.2.1 x.1 = 0 then (x.2.2.1, x.1, 0) else ([], false, faultM x.2.2.1 x.1)
def parseF (s : List UInt8) : List Span × Bool × Nat := if 20000 < s.length then ([], false, 2) else doneF (mainF s (s.length + 1) (false, 0, [], 0))
def crz (s : List UInt8) (k : Int) (b : Bool) (l : List D) (n : Nat) : AObj := .cells [.d (.str s), .d (.int .i64 k), .d (.bool b), .d (.list l), .d (errD n)]
theorem cfailz (s : List UInt8) (k : Int) (b : Bool) (l : List D) (e : Nat) : MVE Tryd.prog 41 [.ptr (.x 0) 0, .d (errD e)] [crz s k b l 0] none (.tuple []) [crz s k b l e] none := by
 have z0 : errD 0 = .nil := rfl
 by_cases h : e = 0
 ·subst h
  refine lift___cmap_reader__fail.mv (by kernel_rfl) rfl rfl ?_
  simp (maxSteps := 2000000) only [go_sem, ↓reduceIte, L___cmap_reader__fail, R___cmap_reader__fail, crz, z0]
 ·refine lift___cmap_reader__fail.mv (by kernel_rfl) rfl rfl ?_
  simp (maxSteps := 2000000) only [go_sem, ↓reduceIte, L___cmap_reader__fail, R___cmap_reader__fail, crz, z0, errD_ne h]
theorem row_none {l : List Span} (h : Row.is none l) : l = [] := by
 rcases h with ⟨_, h⟩ | ⟨c, h, _⟩
 ·exact h
 ·cases h
theorem row_some {fs : List D} {cc : Nat} {l : List Span} (h : Row.is (some (fs, cc)) l) : fs = spansD l ∧ l.length ≤ cc := by
 rcases h with ⟨h, _⟩ | ⟨c, h, h2, _⟩
 ·cases h
 ·cases h; exact ⟨rfl, h2⟩
def L_cmap_Parse : LCode :=
 .seq (.reg [⟨some 2, .nils 59 3, none⟩, Qx 3 KF, Qx 4 (.k (.d .nil))]) (.seq (.seq (.reg [Qc 7 0, Q 8 (.len true (.t 7)), Q 9 (.bin .gtr (.t 8) (Ki 20000))]) (.cond (.t 9) (.seq 
 (.reg [Q 10 (.mkI 65 (Ki 2)), ⟨some 2, .nils 59 3, none⟩, Qx 3 KF, Qa 4 10]) .ret) .skip)) (.seq (.reg [Qc 11 0, Q 12 (.bld [(0, 1), (1, 1), (2, 1), (3, 1), (4, 1)] [.str [], 
 .int .i64 0, .bool false, .list [], .nil] [false, false, false, true, false] [(0, .t 11)]), ⟨some 13, .box (.t 12), none⟩, ⟨some 5, .allo [.nilpT 70], none⟩, ⟨none, .st 1 (.t 5) 
 (.t 13), none⟩]) (.seq (.block 0 (.loop (.seq (.seq (.reg [Q 14 (.ld false 1 (.t 5)), Q 15 (.nck (.t 14)), Q 16 (.fa 4 (.t 15)), Q 17 (.ld false 1 (.t 16)), Q 18 (.eqN 0 false 
 (.t 17))]) (.cond (.t 18) .skip (.exit 0))) (.block 1 (.seq (.reg [Q 19 (.ld false 1 (.t 5)), ⟨some 20, .prim .call [.k (.fn (.func 32) [] []), .t 19] [], none⟩, Qa 6 20]) (.seq 
 (.seq (.reg [Qc 21 6, Q 22 (.bin .eql (.t 21) (.k (.d (.str []))))]) (.cond (.t 22) (.exit 0) .skip)) (.seq (.reg [Qc 23 6]) (.block 2 (.seq (.reg [Q 25 (.bin .eql (.t 23) (.k 
 (.d (.str [98, 101, 103, 105, 110, 99, 111, 100, 101, 115, 112, 97, 99, 101, 114, 97, 110, 103, 101])))), Qa 24 25]) (.cond (.t 24) (.reg [Q 26 (.ld false 1 (.t 5)), Q 27 (.ld 
 false 1 (.t 5)), Q 28 (.mkF (.func 34) [.t 27] []), ⟨some 29, .prim .call [.k (.fn (.func 33) [] []), .t 26, .k (.d (.str [101, 110, 100, 99, 111, 100, 101, 115, 112, 97, 99, 
 101, 114, 97, 110, 103, 101])), .t 28] [], none⟩]) (.seq (.reg [Q 31 (.bin .eql (.t 23) (.k (.d (.str [98, 101, 103, 105, 110, 98, 102, 99, 104, 97, 114])))), Qa 30 31]) (.cond 
 (.t 30) (.reg [Q 32 (.ld false 1 (.t 5)), Q 33 (.mkF (.func 35) [] [.t 5]), ⟨some 34, .prim .call [.k (.fn (.func 33) [] []), .t 32, .k (.d (.str [101, 110, 100, 98, 102, 99, 
 104, 97, 114])), .t 33] [], none⟩]) (.seq (.reg [Q 36 (.bin .eql (.t 23) (.k (.d (.str [98, 101, 103, 105, 110, 98, 102, 114, 97, 110, 103, 101])))), Qa 35 36]) (.cond (.t 35) 
 (.reg [Q 37 (.ld false 1 (.t 5)), Q 38 (.mkF (.func 39) [] [.t 5]), ⟨some 39, .prim .call [.k (.fn (.func 33) [] []), .t 37, .k (.d (.str [101, 110, 100, 98, 102, 114, 97, 110, 
 103, 101])), .t 38] [], none⟩]) .skip)))))))))))))) (.seq (.seq (.reg [Q 40 (.ld false 1 (.t 5)), Q 41 (.nck (.t 40)), Q 42 (.fa 4 (.t 41)), Q 43 (.ld false 1 (.t 42)), Q 44 
 (.eqN 0 false (.t 43))]) (.cond (.t 44) (.dreg [Q 45 (.ld false 1 (.t 5)), Q 46 (.ld false 1 (.t 5)), Q 47 (.nck (.t 46)), Q 48 (.fa 3 (.t 47)), Q 49 (.ld false 1 (.t 48)), Q 50 
 (.ld false 1 (.t 5)), Q 51 (.nck (.t 50)), Q 52 (.fa 2 (.t 51)), Q 53 (.ld false 1 (.t 52)), ⟨some 54, .call 23 [.t 49, .t 53], none⟩, ⟨some 55, .prim .call [.k (.fn (.func 41) 
 [] []), .t 45, .t 54] [], none⟩]) .skip)) (.seq (.seq (.reg [Q 56 (.ld false 1 (.t 5)), Q 57 (.nck (.t 56)), Q 58 (.fa 4 (.t 57)), Q 59 (.ld false 1 (.t 58)), Q 60 (.eqN 0 true 
 (.t 59))]) (.cond (.t 60) (.seq (.dreg [Q 61 (.ld false 1 (.t 5)), Q 62 (.nck (.t 61)), Q 63 (.fa 4 (.t 62)), Q 64 (.ld false 1 (.t 63)), Q 2 (.cp (.k (.d (.list [])))), Q 3 (.cp 
 KF), Qc 4 64]) .ret) .skip)) (.seq (.dreg [Q 65 (.ld false 1 (.t 5)), Q 66 (.nck (.t 65)), Q 67 (.fa 3 (.t 66)), Q 68 (.ld false 1 (.t 67)), Q 69 (.ld false 1 (.t 5)), Q 70 (.nck 
 (.t 69)), Q 71 (.fa 2 (.t 70)), Q 72 (.ld false 1 (.t 71)), Qc 2 68, Qc 3 72, Q 4 (.cp (.k (.d .nil)))]) .ret))))))
def R_cmap_Parse : List LRes := [.tmp 2, .tmp 3, .tmp 4]
theorem lift_cmap_Parse : Lifts Tryd.prog 17 73 L_cmap_Parse R_cmap_Parse := ⟨_, _, Tryd.func17, rfl, by kernel_rfl, by kernel_rfl, rfl⟩
theorem parse_call (s : List UInt8) (hs : s.length ≤ 1000000000) : PCall Tryd.prog 17 [.str s] (fun r => r = .tup [.list (spansD (parseF s).1), .bool (parseF s).2.1, errD (parseF s).2.2]) := by
 unfold parseF
 by_cases h2 : 20000 < s.length
 ·rw [if_pos h2]
  have z : (20000 < (s.length : Int)) = True := eq_true (by omega)
  refine lift_cmap_Parse.call rfl ?_
  simp (maxSteps := 2000000) only [go_sem, ↓reduceIte, L_cmap_Parse, R_cmap_Parse, z]
  rfl
 ·rw [if_neg h2]
  have z : (20000 < (s.length : Int)) = False := eq_false (by omega)
  generalize hR : mainF s (s.length + 1) (false, 0, [], 0) = R
  obtain ⟨S0, hS0⟩ : ∃ S0 : Row × RS → St, ∀ y, S0 y = ⟨[(5, .ptr (.l 5) 0)], [(13, crd s y.2.2.1 y.2.1 y.1 y.2.2.2.2), (5, .cells [.ptr (.l 13) 0])], mob y.1.ob⟩ := ⟨_, fun _ => rfl⟩
  refine lift_cmap_Parse.call rfl ?_
  simp (maxSteps := 2000000) only [go_sem, ↓reduceIte, L_cmap_Parse, R_cmap_Parse, z]
  refine run_loop S0 (fun y => y.2.2.1 ≤ s.length ∧ y.1.is y.2.2.2.1 ∧ SpW y.2.2.2.1 ∧ (y.2.2.2.2 = 0 → y.2.2.2.1.length ≤ 300) ∧ mainF s (s.length + 1 - y.2.2.1) y.2 = R) (fun y => if y.2.2.2.2 = 0 then s.length + 2 - y.2.2.1 else 0) (none, false, 0, [], 0) ?_ ?_ ?_
  ·rw [hS0]
   refine Weak.mk ?_ ?_ ?_ <;> simp (maxSteps := 2000000) only [go_sem, ↓reduceIte, Sub, Int.natCast_add, Int.natCast_mul, crd]
   rfl
  ·exact ⟨Nat.zero_le _, .inl ⟨rfl, rfl⟩, fun x hx => by simp at hx, fun _ => by simp, hR⟩
  ·rintro ⟨r, b, k, l, n⟩ ⟨hk, hr, hw, hl, hP⟩
   simp only at hk hr hw hl hP
   rw [hS0]
   have hs6 : s.length ≤ 60000 := by omega
   have hnx := cnext s k b r n hs6 hk
   obtain ⟨hw1, hw2⟩ := nextT_le hk
   have hro := Row.ok r
   have hr0 := hr
   have hpt := fun (e : List UInt8) (st : RS → RS) (hst : StepOK s st) (F : FuncId) (first cap : List AV) h1 h2 h3 (h : n = 0) => cpart s e st hst F first cap h1 h2 h3 (b, (nextT s k).2.1, l, orE n (nextT s k).2.2) r hs6 hw2 hr (hl h)
   have hP2 := hP
   rw [show s.length + 1 - k = (s.length - k) + 1 by omega, mainF] at hP2
   simp only at hP2
   have hZ := check_call l b hw
   have z0 : errD 0 = .nil := rfl
   rcases r with _ | ⟨fs, cc⟩
   all_goals
    rcases Nat.eq_zero_or_pos n with hn | hn
    ·subst hn
     rw [if_neg (by simp)] at hP2
     simp (maxSteps := 2000000) only [go_sem, ↓reduceIte, crd, box, z0]
     refine PrimG.ghost ?_
     refine PrimG.mvE ([.l 13]) rfl (hnx) rfl rfl (by repeat' (first | exact trivial | exact rfl | constructor)) rfl rfl rfl rfl (hro) ⟨⟨rfl, rfl⟩, rfl⟩ ?_
     by_cases hw0 : (nextT s k).1 = []
     ·rw [if_pos hw0] at hP2
      subst hP2
      generalize (nextT s k).2.1 = k1 at *
      generalize orE 0 (nextT s k).2.2 = n1 at *
      rw [hw0]
      have hfz := fun k' e => cfailz s k' b (spansD l) e
      have hf0 := fun (k' : Int) e => cfail s k' b none 0 e
      first
       | (obtain ⟨rfl, hcc⟩ : fs = spansD l ∧ l.length ≤ cc := row_some hr0; refine ⟨_, Gh.frzX (sz := 3) (fs := spansD l) (c := cc) rfl (spansD_cells l) (by rw [spansD_length]; exact hcc), ?_⟩)
       | (obtain rfl : l = [] := row_none hr0; refine ⟨_, Gh.refl _, ?_⟩)
      all_goals
       rcases Nat.eq_zero_or_pos n1 with hn | hn
       ·subst hn
        simp (maxSteps := 2000000) only [go_sem, ↓reduceIte, crd, z0]
        refine CallD.of hZ ?_
        simp (maxSteps := 2000000) only [go_sem, ↓reduceIte]
        first
         | refine PrimG.mvE ([.l 13]) rfl (hfz k1 (faultM l b)) rfl rfl (by repeat' (first | exact trivial | exact rfl | constructor)) rfl rfl rfl rfl ((rfl : rowM none = true)) ⟨⟨rfl, rfl⟩, rfl⟩ ?_
         | refine PrimG.mvE ([.l 13]) rfl (hf0 k1 (faultM [] b)) rfl rfl (by repeat' (first | exact trivial | exact rfl | constructor)) rfl rfl rfl rfl ((rfl : rowM none = true)) ⟨⟨rfl, rfl⟩, rfl⟩ ?_
        generalize hD : doneF _ = Dn
        unfold doneF at hD
        rw [if_neg (by simp)] at hD
        simp only at hD
        generalize faultM _ b = fm at *
        by_cases h0 : fm = 0
        ·rw [if_pos h0] at hD
         subst hD h0
         simp (maxSteps := 2000000) only [go_sem, ↓reduceIte, crd, crz, z0, orE]
         first | done | rfl
        ·rw [if_neg h0] at hD
         subst hD
         simp (maxSteps := 2000000) only [go_sem, ↓reduceIte, crd, crz, errD_ne h0, orE]
         rfl
       ·simp (maxSteps := 2000000) only [go_sem, ↓reduceIte, crd, errD_ne (Nat.pos_iff_ne_zero.1 hn)]
        generalize hD : doneF _ = Dn
        unfold doneF at hD
        rw [if_pos (Nat.pos_iff_ne_zero.1 hn)] at hD
        subst hD
        rw [errD_ne (Nat.pos_iff_ne_zero.1 hn)]
        rfl
     ·rw [if_neg hw0] at hP2
      refine ⟨_, Gh.refl _, ?_⟩
      generalize orE 0 (nextT s k).2.2 = n1 at *
      have hup := nextT_up hw0 hk
      obtain ⟨g1, g2⟩ := wordF_ok s (nextT s k).1 (b, (nextT s k).2.1, l, n1) hw2 (fun _ => hl rfl)
      have g3 := wordF_w s (nextT s k).1 hs6 (b, (nextT s k).2.1, l, n1) hw2 (fun _ => hl rfl) hw
      have hW : wordF s (nextT s k).1 (b, (nextT s k).2.1, l, n1) = if (nextT s k).1 = kSpace then partF s eSpace (one0 s) (s.length + 1 - (nextT s k).2.1) (b, (nextT s k).2.1, l, n1) else if (nextT s k).1 = kChar then partF s eChar (one1 s) (s.length + 1 - (nextT s k).2.1) (b, (nextT s k).2.1, l, n1)
        else if (nextT s k).1 = kRange then partF s eRange (one2 s) (s.length + 1 - (nextT s k).2.1) (b, (nextT s k).2.1, l, n1) else (b, (nextT s k).2.1, l, n1) := rfl
      generalize wordF s (nextT s k).1 (b, (nextT s k).2.1, l, n1) = Y at *
      generalize (nextT s k).2.1 = k1 at *
      generalize (nextT s k).1 = w at *
      obtain ⟨b', k', l', n'⟩ := Y
      simp only at g1 g2 g3
      rcases Classical.em (w = kSpace) with hk1 | hk1
      rw [if_pos hk1] at hW
      have hp := hpt eSpace (one0 s) (one0_ok s) 34 [.ptr (.x 0) 0] [] (.inl ⟨rfl, rfl⟩) (by decide) (fun x r h1 h2 h3 => cone0 s x r hs6 h1 h2 h3) rfl
      simp only at hp
      rw [← hW] at hp
      simp only [kSpace] at hk1
      have q1 := eq_true hk1
      simp (maxSteps := 2000000) only [go_sem, ↓reduceIte, q1, hw0, crd]
      rotate_left
      rcases Classical.em (w = kChar) with hk2 | hk2
      rw [if_neg hk1, if_pos hk2] at hW
      have hp := hpt eChar (one1 s) (one1_ok s) 35 [] [.ptr (.x 1) 0] (.inr ⟨rfl, rfl⟩) (by decide) (fun x r h1 h2 h3 => cone1 s x r hs6 h1 h2 h3) rfl
      simp only at hp
      rw [← hW] at hp
      simp only [kSpace] at hk1
      simp only [kChar] at hk2
      have q2 := eq_true hk2
      simp (maxSteps := 2000000) only [go_sem, ↓reduceIte, hk1, q2, hw0, crd]
      rotate_left
      rcases Classical.em (w = kRange) with hk3 | hk3
      rw [if_neg hk1, if_neg hk2, if_pos hk3] at hW
      have hp := hpt eRange (one2 s) (one2_ok s) 39 [] [.ptr (.x 1) 0] (.inr ⟨rfl, rfl⟩) (by decide) (fun x r h1 h2 h3 => cone2 s x r hs6 h1 h2 h3) rfl
      simp only at hp
      rw [← hW] at hp
      simp only [kSpace] at hk1
      simp only [kChar] at hk2
      simp only [kRange] at hk3
      have q3 := eq_true hk3
      simp (maxSteps := 2000000) only [go_sem, ↓reduceIte, hk1, hk2, q3, hw0, crd]
      rotate_left
      rw [if_neg hk1, if_neg hk2, if_neg hk3] at hW
      cases hW
      simp only [kSpace] at hk1
      simp only [kChar] at hk2
      simp only [kRange] at hk3
      simp (maxSteps := 2000000) only [go_sem, ↓reduceIte, hk1, hk2, hk3, hw0, crd]
      refine ⟨(_, b, k1, l, n1), ?_, ⟨g1, hr0, g3, fun h => (g2 h).2, ?_⟩, ?_⟩
      ·rw [hS0]
       refine Weak.mk ?_ ?_ ?_ <;> simp (maxSteps := 2000000) only [go_sem, ↓reduceIte, Sub, Int.natCast_add, Int.natCast_mul, crd, box]
      ·simp only
       rw [← hP2]
       by_cases hn0 : n1 = 0
       ·refine mainF_fuel s _ _ _ g1 (fun h => (g2 h).2) ?_ ?_ <;> simp only <;> omega
       ·rw [mainF_end _ _ hn0, mainF_end _ _ hn0]
      ·simp only
       split
       ·omega
       ·omega
      all_goals
       refine PrimG.mv ([.l 13, .l 5]) rfl (hp) rfl rfl (by repeat' (first | exact trivial | exact rfl | constructor)) rfl rfl rfl rfl (hro) (fun r hs' m' hr => ?_)
       obtain ⟨r', hr', e1, e2, e3⟩ := hr
       subst e1 e2 e3
       rcases r' with _ | ⟨fs', c'⟩
       all_goals
        refine ⟨⟨⟨rfl, rfl⟩, rfl⟩, ?_⟩
        simp (maxSteps := 2000000) only [go_sem, ↓reduceIte, crd, box]
        refine ⟨(_, b', k', l', n'), ?_, ⟨g1, hr', g3, fun h => (g2 h).2, ?_⟩, ?_⟩
        ·rw [hS0]
         refine Weak.mk ?_ ?_ ?_ <;> simp (maxSteps := 2000000) only [go_sem, ↓reduceIte, Sub, Int.natCast_add, Int.natCast_mul, crd, box]
        ·simp only
         rw [← hP2]
         by_cases hn0 : n' = 0
         ·have := (g2 hn0).1
          refine mainF_fuel s _ _ _ g1 (fun h => (g2 h).2) ?_ ?_ <;> simp only <;> omega
         ·rw [mainF_end _ _ hn0, mainF_end _ _ hn0]
        ·simp only
         split
         ·rename_i h
          have := (g2 h).1
          omega
         ·omega
    ·rw [mainF_end _ _ (Nat.pos_iff_ne_zero.1 hn)] at hP
     subst hP
     simp (maxSteps := 2000000) only [go_sem, ↓reduceIte, crd, box, errD_ne (Nat.pos_iff_ne_zero.1 hn)]
     have hd : doneF (b, k, l, n) = ([], false, n) := if_pos (Nat.pos_iff_ne_zero.1 hn)
     rw [hd, errD_ne (Nat.pos_iff_ne_zero.1 hn)]
     rfl
end Go.Av.Tryd
set_option linter.unusedSimpArgs false
set_option maxRecDepth 100000
set_option maxHeartbeats 2000000
namespace Go.Av.Tryd
open Go.Proofs
abbrev RX := Bool × Nat × ROut × Nat
def re0 (T : List (List UInt8)) (ends : Bool) (x : RX) : RX :=
 let A := rB T ends x.2.1 x.2.2.2
 let B := rB T ends A.2.1 A.2.2
 (decide (A.1.length = 2), B.2.1, x.2.2.1, if B.2.2 = 0 ∧ (A.1.length ≠ B.1.length ∨ A.1.length < 1 ∨ 2 < A.1.length) then 3 else B.2.2)
def re1 (T : List (List UInt8)) (ends : Bool) (x : RX) : RX :=
 let C := rC T ends x.1 x.2.1 x.2.2.2
 let t := rT T ends C.2.1 C.2.2
 if t.2.2 = 0 then (x.1, t.2.1, some (putL x.2.2.1.l ⟨C.1, C.1, t.1⟩), putE x.2.2.1.l 0) else (x.1, t.2.1, x.2.2.1, t.2.2)
def relist (T : List (List UInt8)) (ends : Bool) (te : Nat) : Nat → Nat → Nat → ROut → Nat × ROut × Nat
 | 0, _, j, o => (j, o, 0)
 | f + 1, c, j, o =>
  if T[j]? = some [93] then (j + 1, o, if c = te + 1 then 0 else 3)
  else
   let t := rT T ends j 0
   if t.2.2 = 0 then (if putE o.l 0 = 0 then relist T ends te f (c + 1) t.2.1 (some (putL o.l ⟨c, c, t.1⟩)) else (t.2.1, some (putL o.l ⟨c, c, t.1⟩), putE o.l 0))
   else (t.2.1, o, t.2.2)
def re2 (T : List (List UInt8)) (ends : Bool) (x : RX) : RX :=
 let C := rC T ends x.1 x.2.1 x.2.2.2
 let D := rC T ends x.1 C.2.1 C.2.2
 if D.2.2 = 0 then
  (if T[D.2.1]? = some [91] then (x.1, relist T ends D.1 (T.length + 1 - (D.2.1 + 1)) C.1 (D.2.1 + 1) x.2.2.1)
   else
   let t := rT T ends D.2.1 0
   if t.2.2 = 0 then (x.1, t.2.1, some (putL x.2.2.1.l ⟨C.1, D.1, t.1⟩), putE x.2.2.1.l 0) else (x.1, t.2.1, x.2.2.1, t.2.2))
 else (x.1, D.2.1, x.2.2.1, D.2.2)
theorem rC_le {T : List (List UInt8)} {ends b : Bool} {j n : Nat} (hj : j ≤ T.length) : (rC T ends b j n).1 ≤ 65535 ∧ (rC T ends b j n).2.1 ≤ T.length := by
 have := rB_le (ends := ends) (n := n) hj
 unfold rC
 split
 ·exact ⟨codeV_le _ _, this⟩
 ·exact ⟨Nat.zero_le _, this⟩
theorem rT_le {T : List (List UInt8)} {ends : Bool} {j n : Nat} (hj : j ≤ T.length) : (rT T ends j n).2.1 ≤ T.length := by
 have := rB_le (ends := ends) (n := n) hj
 unfold rT
 split
 ·split
  ·exact this
  ·split <;> exact this
 ·exact this
def L___foliowrightref_program__entry : LCode :=
 .seq (.seq (.reg [Qc 12 1, Q 13 (.bin .eql (.t 12) (.k (.d (.str [98, 101, 103, 105, 110, 99, 111, 100, 101, 115, 112, 97, 99, 101, 114, 97, 110, 103, 101]))))]) (.cond (.t 13) 
 (.seq (.reg [Qc 14 0, ⟨some 15, .prim .call [.k (.fn (.func 63) [] []), .t 14] [], none⟩, Qa 4 15]) (.seq (.reg [Qc 16 0, ⟨some 17, .prim .call [.k (.fn (.func 63) [] []), .t 16] 
 [], none⟩, Qa 5 17]) (.seq (.seq (.reg [Qc 18 0, Q 19 (.nck (.t 18)), Q 20 (.fa 5 (.t 19)), Q 21 (.ld false 1 (.t 20)), Q 22 (.bin .eql (.t 21) (Ki 0)), Qc 23 22, Qd 24 4 23 
 true, Qg 25 (.len false (.t 24)) 23 true, Qd 26 5 23 true, Qg 27 (.len false (.t 26)) 23 true, Qg 28 (.bin .neq (.t 25) (.t 27)) 23 true, Qd 29 28 23 true, Qd 30 4 29 false, Qg 
 31 (.len false (.t 30)) 29 false, Qg 32 (.bin .lss (.t 31) (Ki 1)) 29 false, Qg 33 (.pick (.t 29) KT (.t 32)) 23 true, Qd 34 33 23 true, Qd 35 4 34 false, Qg 36 (.len false (.t 
 35)) 34 false, Qg 37 (.bin .gtr (.t 36) (Ki 2)) 34 false, Qg 38 (.pick (.t 34) KT (.t 37)) 23 true, Q 39 (.pick (.t 23) (.t 38) KF)]) (.cond (.t 39) (.reg [Qc 40 0, ⟨some 41, 
 .prim .call [.k (.fn (.func 44) [] []), .t 40, .k (.d (.int .i64 3))] [], none⟩]) .skip)) (.seq (.reg [Qc 42 0, Qc 43 4, Q 44 (.len false (.t 43)), Q 45 (.bin .eql (.t 44) (Ki 
 2)), Q 46 (.nck (.t 42)), Q 47 (.fa 3 (.t 46)), ⟨none, .st 1 (.t 47) (.t 45), none⟩]) .ret)))) .skip)) (.seq (.reg [Qc 48 0, ⟨some 49, .prim .call [.k (.fn (.func 64) [] []), .t 
 48] [], none⟩, Qa 6 49]) (.seq (.seq (.reg [Qc 50 1, Q 51 (.bin .eql (.t 50) (.k (.d (.str [98, 101, 103, 105, 110, 98, 102, 99, 104, 97, 114]))))]) (.cond (.t 51) (.seq (.reg 
 [Qc 52 0, ⟨some 53, .prim .call [.k (.fn (.func 65) [] []), .t 52] [], none⟩, Qa 7 53]) (.seq (.seq (.reg [Qc 54 0, Q 55 (.nck (.t 54)), Q 56 (.fa 5 (.t 55)), Q 57 (.ld false 1 
 (.t 56)), Q 58 (.bin .eql (.t 57) (Ki 0))]) (.cond (.t 58) (.reg [Qc 59 0, Qc 60 6, Qc 61 6, Qc 62 7, Q 63 (.bld [(0, 1), (1, 1), (2, 1)] [.int .i64 0, .int .i64 0, .str []] [] 
 [(0, .t 60), (1, .t 61), (2, .t 62)]), ⟨some 64, .prim .call [.k (.fn (.func 66) [] []), .t 59, .t 63] [], none⟩]) .skip)) .ret)) .skip)) (.seq (.reg [Qc 65 0, ⟨some 66, .prim 
 .call [.k (.fn (.func 64) [] []), .t 65] [], none⟩, Qa 8 66]) (.seq (.seq (.reg [Qc 67 0, Q 68 (.nck (.t 67)), Q 69 (.fa 5 (.t 68)), Q 70 (.ld false 1 (.t 69)), Q 71 (.bin .gtr 
 (.t 70) (Ki 0))]) (.cond (.t 71) .ret .skip)) (.seq (.seq (.dreg [Qc 72 0, Q 73 (.nck (.t 72)), Q 74 (.fa 2 (.t 73)), Q 75 (.ld false 1 (.t 74)), Qc 76 0, Q 77 (.nck (.t 76)), Q 
 78 (.fa 0 (.t 77)), Q 79 (.ld false 1 (.t 78)), Q 80 (.len false (.t 79)), Q 81 (.bin .lss (.t 75) (.t 80)), Qc 82 81, Qd 83 0 82 true, Qg 84 (.nck (.t 83)) 82 true, Qg 85 (.fa 0 
 (.t 84)) 82 true, Qg 86 (.ld false 1 (.t 85)) 82 true, Qd 87 0 82 true, Qg 88 (.nck (.t 87)) 82 true, Qg 89 (.fa 2 (.t 88)) 82 true, Qg 90 (.ld false 1 (.t 89)) 82 true, Qg 91 
 (.ia 1 (.t 86) (.t 90)) 82 true, Qg 92 (.ld false 1 (.t 91)) 82 true, Qg 93 (.bin .eql (.t 92) (.k (.d (.str [91])))) 82 true, Q 94 (.pick (.t 82) (.t 93) KF)]) (.cond (.t 94) 
 (.seq (.reg [Qc 95 0, Q 96 (.nck (.t 95)), Q 97 (.fa 2 (.t 96)), Q 98 (.ld false 1 (.t 97)), Q 99 (.bin .add (.t 98) (Ki 1)), Q 100 (.nck (.t 95)), Q 101 (.fa 2 (.t 100)), ⟨none, 
 .st 1 (.t 101) (.t 99), none⟩]) (.seq (.reg [Qc 102 6, Qa 9 102]) (.block 0 (.loop (.seq (.block 1 (.seq (.seq (.dreg [Qc 105 0, Q 106 (.nck (.t 105)), Q 107 (.fa 2 (.t 106)), Q 
 108 (.ld false 1 (.t 107)), Qc 109 0, Q 110 (.nck (.t 109)), Q 111 (.fa 0 (.t 110)), Q 112 (.ld false 1 (.t 111)), Q 113 (.len false (.t 112)), Q 114 (.bin .lss (.t 108) (.t 
 113)), Qc 115 114, Qd 116 0 115 true, Qg 117 (.nck (.t 116)) 115 true, Qg 118 (.fa 0 (.t 117)) 115 true, Qg 119 (.ld false 1 (.t 118)) 115 true, Qd 120 0 115 true, Qg 121 (.nck 
 (.t 120)) 115 true, Qg 122 (.fa 2 (.t 121)) 115 true, Qg 123 (.ld false 1 (.t 122)) 115 true, Qg 124 (.ia 1 (.t 119) (.t 123)) 115 true, Qg 125 (.ld false 1 (.t 124)) 115 true, 
 Qg 126 (.bin .eql (.t 125) (.k (.d (.str [93])))) 115 true, Q 127 (.pick (.t 115) (.t 126) KF)]) (.cond (.t 127) (.seq (.reg [Qc 128 0, Q 129 (.nck (.t 128)), Q 130 (.fa 2 (.t 
 129)), Q 131 (.ld false 1 (.t 130)), Q 132 (.bin .add (.t 131) (Ki 1)), Q 133 (.nck (.t 128)), Q 134 (.fa 2 (.t 133)), ⟨none, .st 1 (.t 134) (.t 132), none⟩]) (.seq (.seq (.reg 
 [Qc 135 9, Qc 136 8, Q 137 (.bin .add (.t 136) (Ki 1)), Q 138 (.bin .neq (.t 135) (.t 137))]) (.cond (.t 138) (.reg [Qc 139 0, ⟨some 140, .prim .call [.k (.fn (.func 44) [] []), 
 .t 139, .k (.d (.int .i64 3))] [], none⟩]) .skip)) .ret)) .skip)) (.seq (.reg [Qc 141 0, ⟨some 142, .prim .call [.k (.fn (.func 65) [] []), .t 141] [], none⟩, Qa 10 142]) (.seq 
 (.seq (.reg [Qc 143 0, Q 144 (.nck (.t 143)), Q 145 (.fa 5 (.t 144)), Q 146 (.ld false 1 (.t 145)), Q 147 (.bin .gtr (.t 146) (Ki 0))]) (.cond (.t 147) .ret .skip)) (.seq (.reg 
 [Qc 148 0, Qc 149 9, Qc 150 9, Qc 151 10, Q 152 (.bld [(0, 1), (1, 1), (2, 1)] [.int .i64 0, .int .i64 0, .str []] [] [(0, .t 149), (1, .t 150), (2, .t 151)]), ⟨some 153, .prim 
 .call [.k (.fn (.func 66) [] []), .t 148, .t 152] [], none⟩]) (.seq (.reg [Qc 154 0, Q 155 (.nck (.t 154)), Q 156 (.fa 5 (.t 155)), Q 157 (.ld false 1 (.t 156)), Q 158 (.bin .gtr 
 (.t 157) (Ki 0))]) (.cond (.t 158) .ret .skip))))))) (.reg [Qc 103 9, Q 104 (.bin .add (.t 103) (Ki 1)), Qa 9 104])))))) .skip)) (.seq (.reg [Qc 159 0, ⟨some 160, .prim .call [.k 
 (.fn (.func 65) [] []), .t 159] [], none⟩, Qa 11 160]) (.seq (.reg [Qc 161 0, Q 162 (.nck (.t 161)), Q 163 (.fa 5 (.t 162)), Q 164 (.ld false 1 (.t 163)), Q 165 (.bin .eql (.t 
 164) (Ki 0))]) (.cond (.t 165) (.reg [Qc 166 0, Qc 167 6, Qc 168 8, Qc 169 11, Q 170 (.bld [(0, 1), (1, 1), (2, 1)] [.int .i64 0, .int .i64 0, .str []] [] [(0, .t 167), (1, .t 
 168), (2, .t 169)]), ⟨some 171, .prim .call [.k (.fn (.func 66) [] []), .t 166, .t 170] [], none⟩]) .skip))))))))
def R___foliowrightref_program__entry : List LRes := []
theorem lift___foliowrightref_program__entry : Lifts Tryd.prog 45 172 L___foliowrightref_program__entry R___foliowrightref_program__entry := ⟨_, _, Tryd.func45, rfl, by kernel_rfl, by kernel_rfl, rfl⟩
theorem rentry0 (T : List (List UInt8)) (ends : Bool) (x : RX) (hT : T.length ≤ 60000) (hj : x.2.1 ≤ T.length) (hw : ∀ w ∈ T, w.length ≤ 60000) : MCallE Tryd.prog 45 [.ptr (.x 0) 0, .d (.str kSpace)] [rpg T ends x.2.1 x.1 x.2.2.1 x.2.2.2] (.tuple []) [rpg T ends (re0 T ends x).2.1 (re0 T ends x).1 (re0 T ends x).2.2.1 (re0 T ends x).2.2.2] := by
 obtain ⟨b, j, o, n⟩ := x
 simp only [re0] at *
 have hA := rbytes T ends j b o n hT hj hw
 have hAj := rB_le (ends := ends) (n := n) hj
 generalize rB T ends j n = A at *
 obtain ⟨a, j1, n1⟩ := A
 simp only at *
 have hB := rbytes T ends j1 b o n1 hT hAj hw
 generalize rB T ends j1 n1 = B at *
 obtain ⟨c, j2, n2⟩ := B
 simp only at *
 clear hw
 have hf := rfail T ends j2 b o 0 3
 have hal := bytesD_length a
 have hcl := bytesD_length c
 have hd2 : decide ((a.length : Int) = 2) = decide (a.length = 2) := by rw [Bool.eq_iff_iff]; simp only [decide_eq_true_eq]; omega
 generalize hn : (if n2 = 0 ∧ (a.length ≠ c.length ∨ a.length < 1 ∨ 2 < a.length) then 3 else n2) = n3
 rcases o with _ | l
 all_goals
  refine lift___foliowrightref_program__entry.mcall (by kernel_rfl) rfl ?_
  simp (maxSteps := 2000000) only [go_sem, ↓reduceIte, L___foliowrightref_program__entry, R___foliowrightref_program__entry, rpg, kSpace]
  refine PrimG.mc1 (.x 0) rfl (hA) rfl rfl rfl rfl ⟨rfl, rfl⟩ ?_
  simp (maxSteps := 2000000) only [go_sem, ↓reduceIte, rpg]
  refine PrimG.mc1 (.x 0) rfl (hB) rfl rfl rfl rfl ⟨rfl, rfl⟩ ?_
  by_cases h0 : n2 = 0
  ·subst h0
   simp (maxSteps := 2000000) only [go_sem, ↓reduceIte, rpg, hal, hcl]
   refine ⟨fun g1 => ⟨fun g2 => ⟨fun g3 => ?_, fun g3 => ?_⟩, fun g2 => ?_⟩, fun g1 => ?_⟩
   ·rw [if_pos ⟨rfl, .inr (.inr (by omega))⟩] at hn
    subst hn
    refine PrimG.mc1 (.x 0) rfl (hf) rfl rfl rfl rfl ⟨rfl, rfl⟩ ?_
    simp (maxSteps := 2000000) only [go_sem, ↓reduceIte, rpg, orE, hal, hd2]
    first | done | rfl
   ·rw [if_neg (fun h => by omega)] at hn
    subst hn
    simp (maxSteps := 2000000) only [go_sem, ↓reduceIte, rpg, hal, hd2]
    first | done | rfl
   ·rw [if_pos ⟨rfl, .inr (.inl (by omega))⟩] at hn
    subst hn
    refine PrimG.mc1 (.x 0) rfl (hf) rfl rfl rfl rfl ⟨rfl, rfl⟩ ?_
    simp (maxSteps := 2000000) only [go_sem, ↓reduceIte, rpg, orE, hal, hd2]
    first | done | rfl
   ·rw [if_pos ⟨rfl, .inl (by omega)⟩] at hn
    subst hn
    refine PrimG.mc1 (.x 0) rfl (hf) rfl rfl rfl rfl ⟨rfl, rfl⟩ ?_
    simp (maxSteps := 2000000) only [go_sem, ↓reduceIte, rpg, orE, hal, hd2]
    first | done | rfl
  ·have z : ((n2 : Int) = 0) = False := eq_false (by omega)
   rw [if_neg (fun h => h0 h.1)] at hn
   subst hn
   simp (maxSteps := 2000000) only [go_sem, ↓reduceIte, rpg, z, hal, hd2]
   first | done | rfl
theorem rentry1 (T : List (List UInt8)) (ends : Bool) (x : RX) (hT : T.length ≤ 60000) (hj : x.2.1 ≤ T.length) (hw : ∀ w ∈ T, w.length ≤ 60000) (hl : x.2.2.1.l.length ≤ 300) {k : List UInt8} (k1 : ¬ k = kSpace) (k2 : k = kChar) : MCallE Tryd.prog 45 [.ptr (.x 0) 0, .d (.str k)] [rpg T ends x.2.1 x.1 x.2.2.1 x.2.2.2] (.tuple []) [rpg T ends (re1 T ends x).2.1 (re1 T ends x).1 (re1 T ends x).2.2.1 (re1 T ends x).2.2.2] := by
 obtain ⟨b, j, o, n⟩ := x
 have hR : re1 T ends (b, j, o, n) = if (rT T ends (rC T ends b j n).2.1 (rC T ends b j n).2.2).2.2 = 0 then (b, (rT T ends (rC T ends b j n).2.1 (rC T ends b j n).2.2).2.1, some (putL o.l ⟨(rC T ends b j n).1, (rC T ends b j n).1, (rT T ends (rC T ends b j n).2.1 (rC T ends b j n).2.2).1⟩), putE o.l 0) else (b, (rT T ends (rC T ends b j n).2.1 (rC T ends b j n).2.2).2.1, o, (rT T ends (rC T ends b j n).2.1 (rC T ends b j n).2.2).2.2) := rfl
 generalize re1 T ends (b, j, o, n) = R at *
 simp only at hj hl ⊢
 have hC := rcode T ends j b o n hT hj hw
 have hCj := (rC_le (ends := ends) (b := b) (n := n) hj).2
 generalize rC T ends b j n = C at *
 obtain ⟨c, j1, n1⟩ := C
 simp only at *
 have hX := rtext T ends j1 b o n1 hT hCj hw
 generalize rT T ends j1 n1 = X at *
 obtain ⟨t, j2, n2⟩ := X
 simp only at *
 clear hw
 have hp := rput T ends j2 b o 0 ⟨c, c, t⟩ (by omega)
 simp only [kSpace] at k1
 simp only [kChar] at k2
 have q2 := eq_true k2
 rcases o with _ | l
 all_goals
  refine lift___foliowrightref_program__entry.mcall (by kernel_rfl) rfl ?_
  simp (maxSteps := 2000000) only [go_sem, ↓reduceIte, L___foliowrightref_program__entry, R___foliowrightref_program__entry, rpg, k1]
  refine PrimG.mc1 (.x 0) rfl (hC) rfl rfl rfl rfl ⟨rfl, rfl⟩ ?_
  simp (maxSteps := 2000000) only [go_sem, ↓reduceIte, rpg, q2]
  refine PrimG.mc1 (.x 0) rfl (hX) rfl rfl rfl rfl ⟨rfl, rfl⟩ ?_
  by_cases h0 : n2 = 0
  ·subst h0
   rw [if_pos rfl] at hR
   subst hR
   simp (maxSteps := 2000000) only [go_sem, ↓reduceIte, rpg]
   refine PrimG.mc1 (.x 0) rfl (hp) rfl rfl rfl rfl ⟨rfl, rfl⟩ ?_
   simp (maxSteps := 2000000) only [go_sem, ↓reduceIte, rpg]
   first | done | rfl
  ·have z : ((n2 : Int) = 0) = False := eq_false (by omega)
   rw [if_neg h0] at hR
   subst hR
   simp (maxSteps := 2000000) only [go_sem, ↓reduceIte, rpg, z]
   first | done | rfl
theorem rT_up {T : List (List UInt8)} {ends : Bool} {j : Nat} (h : (rT T ends j 0).2.2 = 0) (hj : j ≤ T.length) : (rT T ends j 0).2.1 = j + 1 ∧ j < T.length := by
 have hB : (rB T ends j 0).2.2 = 0 := by
  unfold rT at h
  split at h
  ·assumption
  ·exact h
 have hj2 : (rT T ends j 0).2.1 = (rB T ends j 0).2.1 := by
  unfold rT
  rw [if_pos hB]
  split
  ·rfl
  ·split <;> rfl
 rw [hj2]
 unfold rB at hB ⊢
 split at hB
 ·rename_i h1
  rw [if_pos h1]
  simp only at hB ⊢
  have hne := cBe_ne hB
  unfold rN at hne ⊢
  cases hq : T[j]? with
  | none => rw [hq] at hne; simp at hne
  | some w => exact ⟨rfl, (List.getElem?_eq_some_iff.1 hq).1⟩
 ·rename_i h1
  exact absurd hB h1
theorem relist_fuel (T : List (List UInt8)) (ends : Bool) (te : Nat) : ∀ (f f' c j : Nat) (o : ROut), j ≤ T.length → T.length + 1 - j ≤ f → T.length + 1 - j ≤ f' → relist T ends te f c j o = relist T ends te f' c j o
 | 0, _, _, _, _, h, h1, _ => by omega
 | _, 0, _, _, _, h, _, h2 => by omega
 | f + 1, f' + 1, c, j, o, h, h1, h2 => by
  simp only [relist]
  split
  ·rfl
  ·split
   ·rename_i hz
    have := rT_up hz h
    split
    ·exact relist_fuel T ends te f f' _ _ _ (by omega) (by omega) (by omega)
    ·rfl
   ·rfl
theorem rentry2 (T : List (List UInt8)) (ends : Bool) (x : RX) (hT : T.length ≤ 60000) (hj : x.2.1 ≤ T.length) (hw : ∀ w ∈ T, w.length ≤ 60000) (hl : x.2.2.1.l.length ≤ 300) {k : List UInt8} (k1 : ¬ k = kSpace) (k2 : ¬ k = kChar) : MCallE Tryd.prog 45 [.ptr (.x 0) 0, .d (.str k)] [rpg T ends x.2.1 x.1 x.2.2.1 x.2.2.2] (.tuple []) [rpg T ends (re2 T ends x).2.1 (re2 T ends x).1 (re2 T ends x).2.2.1 (re2 T ends x).2.2.2] := by
 obtain ⟨b, j, o, n⟩ := x
 simp only at hj hl
 generalize hR : re2 T ends (b, j, o, n) = R
 simp only [re2] at hR
 have hC := rcode T ends j b o n hT hj hw
 have hCj := rC_le (ends := ends) (b := b) (n := n) hj
 generalize rC T ends b j n = C at *
 obtain ⟨c, j1, n1⟩ := C
 simp only at *
 have hD := rcode T ends j1 b o n1 hT hCj.2 hw
 have hDj := rC_le (ends := ends) (b := b) (n := n1) hCj.2
 generalize rC T ends b j1 n1 = D at *
 obtain ⟨d, j2, n2⟩ := D
 simp only at *
 have hX := rtext T ends j2 b o 0 hT hDj.2 hw
 have hXj := rT_le (ends := ends) (n := 0) hDj.2
 have hp := fun t j3 => rput T ends j3 b o 0 ⟨c, d, t⟩ (by omega)
 have hXu := fun h => rT_up (T := T) (ends := ends) (j := j2) h hDj.2
 simp only [kSpace] at k1
 simp only [kChar] at k2
 have hsl := strsD_length T
 obtain ⟨S0, hS0⟩ : ∃ S0 : Nat × Nat × ROut → St, ∀ y, S0 y = ⟨[(0, .ptr (.x 0) 0), (8, .d (.int .i64 d)), (9, .d (.int .i64 y.1))], [], [(0, rpg T ends y.2.1 b y.2.2 0)]⟩ := ⟨_, fun _ => rfl⟩
 rcases o with _ | l
 all_goals
  refine lift___foliowrightref_program__entry.mcall (by kernel_rfl) rfl ?_
  simp (maxSteps := 2000000) only [go_sem, ↓reduceIte, L___foliowrightref_program__entry, R___foliowrightref_program__entry, rpg, k1]
  refine PrimG.mc1 (.x 0) rfl (hC) rfl rfl rfl rfl ⟨rfl, rfl⟩ ?_
  simp (maxSteps := 2000000) only [go_sem, ↓reduceIte, rpg, k2]
  refine PrimG.mc1 (.x 0) rfl (hD) rfl rfl rfl rfl ⟨rfl, rfl⟩ ?_
  by_cases h0 : n2 = 0
  ·subst h0
   rw [if_pos rfl] at hR
   rcases Nat.lt_or_ge j2 T.length with hlt | hge
   have zl : ((j2 : Int) < (T.length : Int)) = True := eq_true (by omega)
   obtain ⟨w, hw2⟩ := get_some (l := T) (i := j2) hlt
   rw [hw2] at hR
   rcases Classical.em (w = [91]) with h91 | h91
   ·have z91 := eq_true h91
    rw [if_pos (by rw [h91])] at hR
    simp (maxSteps := 2000000) (disch := omega) only [go_sem, ↓reduceIte, rpg, hsl, zl, getI_nat, strsD_get, hw2, z91]
    refine run_loop S0 (fun y => y.2.1 ≤ T.length ∧ y.1 + (T.length - y.2.1) ≤ 65535 + T.length ∧ y.2.2.l.length ≤ 300 ∧ (b, relist T ends d (T.length + 1 - y.2.1) y.1 y.2.1 y.2.2) = R) (fun y => T.length + 1 - y.2.1) (c, j2 + 1, _) ?_ ⟨hlt, by simp only; omega, hl, hR⟩ ?_
    ·rw [hS0]
     refine Weak.mk ?_ ?_ ?_ <;> simp (maxSteps := 2000000) only [go_sem, ↓reduceIte, Sub, Int.natCast_add, Int.natCast_mul, rpg]
    ·clear hR hC hD hX hp hXu hXj hw2 h91 z91 zl hlt
     rintro ⟨c, j, o⟩ ⟨hj, hc, hl, hR⟩
     simp only at hj hc hl hR
     rw [show T.length + 1 - j = (T.length - j) + 1 by omega, relist] at hR
     rw [hS0]
     have hX := rtext T ends j b o 0 hT hj hw
     have hXu := fun h => rT_up (T := T) (ends := ends) (j := j) h hj
     have hp := fun t j3 => rput T ends j3 b o 0 ⟨c, c, t⟩ (by omega)
     have hf := rfail T ends (j + 1 : Nat) b o 0 3
     simp only at hR
     generalize hr : rT T ends j 0 = X at *
     obtain ⟨t, j2, n2⟩ := X
     simp only at *
     generalize hlo : o.l = lo at *
     rcases o with _ | l
     all_goals
      rcases Nat.lt_or_ge j T.length with hlt | hge
      have zl : ((j : Int) < (T.length : Int)) = True := eq_true (by omega)
      obtain ⟨w, hw2⟩ := get_some (l := T) (i := j) hlt
      rw [hw2] at hR
      rcases Classical.em (w = [93]) with h93 | h93
      ·have z93 := eq_true h93
       rw [if_pos (by rw [h93])] at hR
       by_cases hct : c = d + 1
       ·have z1 : ((c : Int) = (d : Int) + 1) = True := eq_true (by omega)
        rw [if_pos hct] at hR
        subst hR
        simp (maxSteps := 2000000) (disch := omega) only [go_sem, ↓reduceIte, rpg, hsl, zl, getI_nat, strsD_get, hw2, z93, z1]
        first | done | rfl
       ·have z1 : ((c : Int) = (d : Int) + 1) = False := eq_false (by omega)
        rw [if_neg hct] at hR
        subst hR
        simp (maxSteps := 2000000) (disch := omega) only [go_sem, ↓reduceIte, rpg, hsl, zl, getI_nat, strsD_get, hw2, z93, z1]
        refine PrimG.mc1 (.x 0) rfl (hf) rfl rfl rfl rfl ⟨rfl, rfl⟩ ?_
        simp (maxSteps := 2000000) only [go_sem, ↓reduceIte, rpg, orE]
        first | done | rfl
      rw [if_neg (by intro e; cases e; exact h93 rfl)] at hR
      simp (maxSteps := 2000000) (disch := omega) only [go_sem, ↓reduceIte, rpg, hsl, zl, getI_nat, strsD_get, hw2, h93]
      rotate_left
      have zl : ((j : Int) < (T.length : Int)) = False := eq_false (by omega)
      rw [List.getElem?_eq_none hge, if_neg (by simp)] at hR
      simp (maxSteps := 2000000) (disch := omega) only [go_sem, ↓reduceIte, rpg, hsl, zl]
      all_goals
       refine PrimG.mc1 (.x 0) rfl (hX) rfl rfl rfl rfl ⟨rfl, rfl⟩ ?_
       by_cases h0 : n2 = 0
       ·subst h0
        obtain ⟨u1, u2⟩ := hXu rfl
        subst u1
        rw [if_pos rfl] at hR
        simp (maxSteps := 2000000) only [go_sem, ↓reduceIte, rpg]
        refine PrimG.mc1 (.x 0) rfl (hp t (j + 1 : Nat)) rfl rfl rfl rfl ⟨rfl, rfl⟩ ?_
        by_cases h1 : putE lo 0 = 0
        ·rw [if_pos h1] at hR
         have h1' := (putE_0 ⟨c, c, t⟩ h1).2
         simp (maxSteps := 2000000) (disch := omega) only [go_sem, ↓reduceIte, rpg, h1]
         refine ⟨(c + 1, j + 1, some (putL lo ⟨c, c, t⟩)), ?_, ⟨u2, by simp only; omega, h1', ?_⟩, by simp only; omega⟩
         ·rw [hS0]
          refine Weak.mk ?_ ?_ ?_ <;> simp (maxSteps := 2000000) only [go_sem, ↓reduceIte, Sub, Int.natCast_add, Int.natCast_mul, rpg]
          all_goals first | done | rfl
         ·simp only
          rw [← hR]
          rw [relist_fuel T ends d (T.length + 1 - (j + 1)) (T.length - j) _ _ _ u2 (by omega) (by omega)]
        ·rw [if_neg h1] at hR
         subst hR
         generalize putE lo 0 = pe at *
         have z2 : (0 < (pe : Int)) = True := eq_true (by omega)
         simp (maxSteps := 2000000) (disch := omega) only [go_sem, ↓reduceIte, rpg, z2]
         first | done | rfl
       ·have z2 : (0 < (n2 : Int)) = True := eq_true (by omega)
        rw [if_neg h0] at hR
        subst hR
        simp (maxSteps := 2000000) only [go_sem, ↓reduceIte, rpg, z2]
        first | done | rfl
   rw [if_neg (by intro e; cases e; exact h91 rfl)] at hR
   simp (maxSteps := 2000000) (disch := omega) only [go_sem, ↓reduceIte, rpg, hsl, zl, getI_nat, strsD_get, hw2, h91]
   rotate_left
   have zl : ((j2 : Int) < (T.length : Int)) = False := eq_false (by omega)
   rw [List.getElem?_eq_none hge, if_neg (by simp)] at hR
   simp (maxSteps := 2000000) (disch := omega) only [go_sem, ↓reduceIte, rpg, hsl, zl]
   all_goals
    refine PrimG.mc1 (.x 0) rfl (hX) rfl rfl rfl rfl ⟨rfl, rfl⟩ ?_
    generalize rT T ends j2 0 = X at *
    obtain ⟨t, j3, n3⟩ := X
    simp only at *
    by_cases h0 : n3 = 0
    ·subst h0
     rw [if_pos rfl] at hR
     subst hR
     simp (maxSteps := 2000000) only [go_sem, ↓reduceIte, rpg]
     refine PrimG.mc1 (.x 0) rfl (hp t j3) rfl rfl rfl rfl ⟨rfl, rfl⟩ ?_
     simp (maxSteps := 2000000) only [go_sem, ↓reduceIte, rpg]
     first | done | rfl
    ·have z2 : ((n3 : Int) = 0) = False := eq_false (by omega)
     rw [if_neg h0] at hR
     subst hR
     simp (maxSteps := 2000000) only [go_sem, ↓reduceIte, rpg, z2]
     first | done | rfl
  ·have z : (0 < (n2 : Int)) = True := eq_true (by omega)
   rw [if_neg h0] at hR
   subst hR
   simp (maxSteps := 2000000) only [go_sem, ↓reduceIte, rpg, z]
   first | done | rfl
end Go.Av.Tryd
set_option linter.unusedSimpArgs false
set_option maxRecDepth 100000
namespace Go.Av.Tryd
open Go.Proofs
def StepR (T : List (List UInt8)) (st : RX → RX) : Prop := ∀ x : RX, x.2.1 ≤ T.length → x.2.2.1.l.length ≤ 300 → (st x).2.1 ≤ T.length ∧ ((st x).2.2.2 = 0 → (st x).2.2.1.l.length ≤ 300 ∧ x.2.1 < (st x).2.1)
theorem rN_up {T : List (List UInt8)} {ends : Bool} {j n : Nat} (h : (rN T ends j n).1 ≠ []) : (rN T ends j n).2.1 = j + 1 ∧ (rN T ends j n).2.2 = n ∧ T[j]? = some (rN T ends j n).1 := by
 unfold rN at *
 cases hq : T[j]? with
 | none => rw [hq] at h; simp at h
 | some w => exact ⟨rfl, rfl, rfl⟩
theorem rB_up {T : List (List UInt8)} {ends : Bool} {j n : Nat} (h : (rB T ends j n).2.2 = 0) : (rB T ends j n).2.1 = j + 1 ∧ n = 0 ∧ j < T.length := by
 unfold rB at *
 split at h
 ·rename_i h1
  rw [if_pos h1]
  have hne := cBe_ne h
  obtain ⟨g1, g2, g3⟩ := rN_up hne
  exact ⟨g1, by omega, (List.getElem?_eq_some_iff.1 g3).1⟩
 ·rename_i h1
  exact absurd h h1
theorem rC_up {T : List (List UInt8)} {ends b : Bool} {j n : Nat} (h : (rC T ends b j n).2.2 = 0) : (rC T ends b j n).2.1 = j + 1 ∧ n = 0 ∧ j < T.length := by
 unfold rC at *
 split at h
 ·rename_i h1
  rw [if_pos h1]
  exact rB_up h1
 ·rename_i h1
  exact absurd h h1
theorem rT_upn {T : List (List UInt8)} {ends : Bool} {j n : Nat} (h : (rT T ends j n).2.2 = 0) : (rT T ends j n).2.1 = j + 1 ∧ n = 0 ∧ j < T.length := by
 have hB : (rB T ends j n).2.2 = 0 := by
  unfold rT at h
  split at h
  ·assumption
  ·exact h
 have hj2 : (rT T ends j n).2.1 = (rB T ends j n).2.1 := by
  unfold rT
  rw [if_pos hB]
  split
  ·rfl
  ·split <;> rfl
 rw [hj2]
 exact rB_up hB
theorem rT_ge {T : List (List UInt8)} {ends : Bool} {j n : Nat} : j ≤ (rT T ends j n).2.1 := by
 have h0 : j ≤ (rN T ends j n).2.1 := by
  unfold rN
  cases hq : T[j]? with
  | none => exact Nat.le_refl _
  | some w => exact Nat.le_succ _
 have h1 : j ≤ (rB T ends j n).2.1 := by
  unfold rB
  split <;> exact h0
 unfold rT
 split
 ·split
  ·exact h1
  ·split <;> exact h1
 ·exact h1
theorem re0_ok (T : List (List UInt8)) (ends : Bool) : StepR T (re0 T ends) := fun ⟨b, j, o, n⟩ hj hl => by
 simp only at hj hl
 simp only [re0]
 have h1 := rB_le (ends := ends) (n := n) hj
 have u1 := fun h => rB_up (T := T) (ends := ends) (j := j) (n := n) h
 generalize rB T ends j n = A at *
 obtain ⟨a, j1, n1⟩ := A
 simp only at *
 have h2 := rB_le (ends := ends) (n := n1) h1
 have u2 := fun h => rB_up (T := T) (ends := ends) (j := j1) (n := n1) h
 generalize rB T ends j1 n1 = B at *
 obtain ⟨c, j2, n2⟩ := B
 simp only at *
 refine ⟨h2, fun h => ⟨hl, ?_⟩⟩
 have : n2 = 0 := by
  split at h
  ·cases h
  ·exact h
 have g2 := u2 this
 have g1 := u1 g2.2.1
 omega
theorem re1_ok (T : List (List UInt8)) (ends : Bool) : StepR T (re1 T ends) := fun ⟨b, j, o, n⟩ hj hl => by
 simp only at hj hl
 simp only [re1]
 have h1 := (rC_le (ends := ends) (b := b) (n := n) hj).2
 have u1 := fun h => rC_up (T := T) (ends := ends) (b := b) (j := j) (n := n) h
 generalize rC T ends b j n = A at *
 obtain ⟨a, j1, n1⟩ := A
 simp only at *
 have h2 := rT_le (ends := ends) (n := n1) h1
 have u2 := fun h => rT_upn (T := T) (ends := ends) (j := j1) (n := n1) h
 generalize rT T ends j1 n1 = B at *
 obtain ⟨c, j2, n2⟩ := B
 simp only at *
 split
 ·rename_i h0
  refine ⟨h2, fun h => ?_⟩
  have g2 := u2 h0
  have g1 := u1 g2.2.1
  refine ⟨(putE_0 _ h).2, ?_⟩
  simp only
  omega
 ·rename_i h0
  exact ⟨h2, fun h => absurd h h0⟩
theorem relist_ok (T : List (List UInt8)) (ends : Bool) (te : Nat) : ∀ (f c j : Nat) (o : ROut), j ≤ T.length → o.l.length ≤ 300 → (relist T ends te f c j o).1 ≤ T.length ∧ j ≤ (relist T ends te f c j o).1 ∧ ((relist T ends te f c j o).2.2 = 0 → (relist T ends te f c j o).2.1.l.length ≤ 300)
 | 0, c, j, o, hj, hl => ⟨hj, Nat.le_refl _, fun _ => hl⟩
 | f + 1, c, j, o, hj, hl => by
  simp only [relist]
  split
  ·rename_i h93
   have := (List.getElem?_eq_some_iff.1 h93).1
   exact ⟨by simp only; omega, by simp only; omega, fun _ => hl⟩
  ·have h1 := rT_le (ends := ends) (n := 0) hj
   have h1g := rT_ge (T := T) (ends := ends) (j := j) (n := 0)
   have u1 := fun h => rT_upn (T := T) (ends := ends) (j := j) (n := 0) h
   generalize rT T ends j 0 = A at *
   obtain ⟨t, j1, n1⟩ := A
   simp only at *
   split
   ·rename_i h0
    have := u1 h0
    split
    ·rename_i hp
     obtain ⟨g1, g2, g3⟩ := relist_ok T ends te f (c + 1) j1 (some (putL o.l ⟨c, c, t⟩)) h1 (putE_0 _ hp).2
     exact ⟨g1, by omega, g3⟩
    ·rename_i hp
     exact ⟨h1, by simp only; omega, fun h => absurd h hp⟩
   ·rename_i h0
    exact ⟨h1, h1g, fun h => absurd h h0⟩
theorem re2_ok (T : List (List UInt8)) (ends : Bool) : StepR T (re2 T ends) := fun ⟨b, j, o, n⟩ hj hl => by
 simp only at hj hl
 simp only [re2]
 have h1 := (rC_le (ends := ends) (b := b) (n := n) hj).2
 have u1 := fun h => rC_up (T := T) (ends := ends) (b := b) (j := j) (n := n) h
 generalize rC T ends b j n = A at *
 obtain ⟨a, j1, n1⟩ := A
 simp only at *
 have h2 := (rC_le (ends := ends) (b := b) (n := n1) h1).2
 have u2 := fun h => rC_up (T := T) (ends := ends) (b := b) (j := j1) (n := n1) h
 generalize rC T ends b j1 n1 = B at *
 obtain ⟨d, j2, n2⟩ := B
 simp only at *
 split
 ·rename_i h0
  have g2 := u2 h0
  have g1 := u1 g2.2.1
  split
  ·rename_i h91
   have := (List.getElem?_eq_some_iff.1 h91).1
   obtain ⟨k1, k2, k3⟩ := relist_ok T ends d (T.length + 1 - (j2 + 1)) a (j2 + 1) o (by omega) hl
   refine ⟨k1, fun h => ⟨k3 h, ?_⟩⟩
   simp only
   omega
  ·have h3 := rT_le (ends := ends) (n := 0) h2
   have u3 := fun h => rT_upn (T := T) (ends := ends) (j := j2) (n := 0) h
   generalize rT T ends j2 0 = X at *
   obtain ⟨c, j3, n3⟩ := X
   simp only at *
   split
   ·rename_i h0
    have g3 := u3 h0
    refine ⟨h3, fun h => ⟨(putE_0 _ h).2, ?_⟩⟩
    simp only
    omega
   ·rename_i h0
    exact ⟨h3, fun h => absurd h h0⟩
 ·rename_i h0
  exact ⟨h2, fun h => absurd h h0⟩
def partR (T : List (List UInt8)) (e : List UInt8) (st : RX → RX) : Nat → RX → RX
 | 0, x => x
 | f + 1, x =>
  if x.2.2.2 ≠ 0 then x
  else if T[x.2.1]? = some e then (x.1, x.2.1 + 1, x.2.2.1, 0)
  else if x.2.1 = T.length then (x.1, x.2.1, x.2.2.1, 5)
  else partR T e st f (st x)
theorem partR_end (T : List (List UInt8)) (e : List UInt8) (st : RX → RX) (f : Nat) {x : RX} (h : x.2.2.2 ≠ 0) : partR T e st f x = x := by
 cases f with
 | zero => rfl
 | succ f => rw [partR, if_pos h]
theorem partR_fuel (T : List (List UInt8)) (e : List UInt8) (st : RX → RX) (hst : StepR T st) : ∀ (f f' : Nat) (x : RX), x.2.1 ≤ T.length → x.2.2.1.l.length ≤ 300 → T.length + 1 - x.2.1 ≤ f → T.length + 1 - x.2.1 ≤ f' → partR T e st f x = partR T e st f' x
 | 0, _, _, h, _, h1, _ => by omega
 | _, 0, _, h, _, _, h2 => by omega
 | f + 1, f' + 1, x, h, hl, h1, h2 => by
  simp only [partR]
  split
  ·rfl
  ·split
   ·rfl
   ·split
    ·rfl
    ·obtain ⟨g1, g2⟩ := hst x h hl
     by_cases hn : (st x).2.2.2 = 0
     ·obtain ⟨g3, g4⟩ := g2 hn
      exact partR_fuel T e st hst f f' _ g1 g3 (by omega) (by omega)
     ·rw [partR_end _ _ _ _ hn, partR_end _ _ _ _ hn]
theorem partR_ok (T : List (List UInt8)) (e : List UInt8) (st : RX → RX) (hst : StepR T st) : ∀ (f : Nat) (x : RX), x.2.1 ≤ T.length → (x.2.2.2 = 0 → x.2.2.1.l.length ≤ 300) → (partR T e st f x).2.1 ≤ T.length ∧ ((partR T e st f x).2.2.2 = 0 → x.2.1 ≤ (partR T e st f x).2.1 ∧ (partR T e st f x).2.2.1.l.length ≤ 300)
 | 0, x, hk, hl => ⟨hk, fun h => ⟨Nat.le_refl _, hl h⟩⟩
 | f + 1, x, hk, hl => by
  rw [partR]
  split
  ·rename_i hn
   exact ⟨hk, fun h => absurd h hn⟩
  ·rename_i hn
   have hl := hl (by simpa using hn)
   split
   ·rename_i he
    have := (List.getElem?_eq_some_iff.1 he).1
    exact ⟨by simp only; omega, fun _ => ⟨by simp only; omega, hl⟩⟩
   ·split
    ·exact ⟨hk, fun h => by simp at h⟩
    ·have g := hst x hk hl
     obtain ⟨q1, q2⟩ := partR_ok T e st hst f (st x) g.1 (fun h => (g.2 h).1)
     refine ⟨q1, fun h => ⟨?_, (q2 h).2⟩⟩
     have : (st x).2.2.2 = 0 := by
      apply Classical.byContradiction
      intro hn
      rw [partR_end _ _ _ _ hn] at h
      exact hn h
     have := (g.2 this).2
     have := (q2 h).1
     omega
def wordX (T : List (List UInt8)) (ends : Bool) (w : List UInt8) (x : RX) : RX :=
 if w = kSpace then partR T eSpace (re0 T ends) (T.length + 1 - x.2.1) x
 else if w = kChar then partR T eChar (re1 T ends) (T.length + 1 - x.2.1) x
 else if w = kRange then partR T eRange (re2 T ends) (T.length + 1 - x.2.1) x
 else x
def mainR (T : List (List UInt8)) (ends : Bool) : Nat → RX → RX
 | 0, x => x
 | f + 1, x =>
  if x.2.2.2 ≠ 0 then x
  else if (rN T ends x.2.1 0).1 = [] then (x.1, (rN T ends x.2.1 0).2.1, x.2.2.1, (rN T ends x.2.1 0).2.2)
  else mainR T ends f (wordX T ends (rN T ends x.2.1 0).1 (x.1, (rN T ends x.2.1 0).2.1, x.2.2.1, 0))
theorem wordX_ok (T : List (List UInt8)) (ends : Bool) (w : List UInt8) (x : RX) (hk : x.2.1 ≤ T.length) (hl : x.2.2.2 = 0 → x.2.2.1.l.length ≤ 300) : (wordX T ends w x).2.1 ≤ T.length ∧ ((wordX T ends w x).2.2.2 = 0 → x.2.1 ≤ (wordX T ends w x).2.1 ∧ (wordX T ends w x).2.2.1.l.length ≤ 300) := by
 unfold wordX
 split
 ·exact partR_ok T _ _ (re0_ok T ends) _ x hk hl
 ·split
  ·exact partR_ok T _ _ (re1_ok T ends) _ x hk hl
  ·split
   ·exact partR_ok T _ _ (re2_ok T ends) _ x hk hl
   ·exact ⟨hk, fun h => ⟨Nat.le_refl _, hl h⟩⟩
theorem mainR_end (T : List (List UInt8)) (ends : Bool) (f : Nat) {x : RX} (h : x.2.2.2 ≠ 0) : mainR T ends f x = x := by
 cases f with
 | zero => rfl
 | succ f => rw [mainR, if_pos h]
theorem mainR_fuel (T : List (List UInt8)) (ends : Bool) : ∀ (f f' : Nat) (x : RX), x.2.1 ≤ T.length → (x.2.2.2 = 0 → x.2.2.1.l.length ≤ 300) → T.length + 1 - x.2.1 ≤ f → T.length + 1 - x.2.1 ≤ f' → mainR T ends f x = mainR T ends f' x
 | 0, _, _, h, _, h1, _ => by omega
 | _, 0, _, h, _, _, h2 => by omega
 | f + 1, f' + 1, x, h, hl, h1, h2 => by
  simp only [mainR]
  split
  ·rfl
  ·rename_i hn
   split
   ·rfl
   ·rename_i hw
    have g0 := rN_up hw
    have g1 := rN_le (ends := ends) (n := 0) h
    have g := wordX_ok T ends (rN T ends x.2.1 0).1 (x.1, (rN T ends x.2.1 0).2.1, x.2.2.1, 0) g1 (fun _ => hl (by simpa using hn))
    generalize wordX T ends (rN T ends x.2.1 0).1 (x.1, (rN T ends x.2.1 0).2.1, x.2.2.1, 0) = y at *
    by_cases hn : y.2.2.2 = 0
    ·have := (g.2 hn).1
     simp only at this
     exact mainR_fuel T ends f f' y g.1 (fun h => (g.2 h).2) (by omega) (by omega)
    ·rw [mainR_end _ _ _ hn, mainR_end _ _ _ hn]
def doneR (x : RX) : List Span × Bool × Nat :=
 if x.2.2.2 ≠ 0 then ([], false, x.2.2.2)
 else if faultM x.2.2.1.l x.1 = 0 then (x.2.2.1.l, x.1, 0) else ([], false, faultM x.2.2.1.l x.1)
/-! ### The spans are none too large -/
theorem rT_len {T : List (List UInt8)} {ends : Bool} {j n : Nat} (hw : ∀ w ∈ T, w.length ≤ 60000) : (rT T ends j n).1.length ≤ 240000 := by
 have hB := rB_len (ends := ends) (j := j) (n := n) hw
 have hu := unitsB_len (rB T ends j n).1
 unfold rT
 split
 ·split
  ·simp
  ·cases hq : sgsF (unitsB (rB T ends j n).1) with
   | none => simp
   | some l =>
    obtain ⟨g1, g2⟩ := sgsF_ok _ l (unitsB_le _) hq
    have := encM_len g2
    simp only; omega
 ·simp
theorem span_wf2 {a b : Nat} {w : List UInt8} (ha : a ≤ 1000000) (hb : b ≤ 1000000) (hw : w.length ≤ 240000) : Span.wf ⟨a, b, w⟩ := by
 refine ⟨?_, ?_, ?_, ?_, ?_⟩ <;> simp only <;> omega
def StepRW (T : List (List UInt8)) (st : RX → RX) : Prop := ∀ x : RX, x.2.1 ≤ T.length → SpW x.2.2.1.l → SpW (st x).2.2.1.l
theorem re0_w (T : List (List UInt8)) (ends : Bool) : StepRW T (re0 T ends) := fun ⟨_, _, _, _⟩ _ hl => hl
theorem re1_w (T : List (List UInt8)) (ends : Bool) (hw : ∀ w ∈ T, w.length ≤ 60000) : StepRW T (re1 T ends) := fun ⟨b, j, o, n⟩ hj hl => by
 simp only at hj hl
 simp only [re1]
 have h1 := rC_le (ends := ends) (b := b) (n := n) hj
 generalize rC T ends b j n = A at *
 have h2 := rT_len (ends := ends) (j := A.2.1) (n := A.2.2) hw
 generalize rT T ends A.2.1 A.2.2 = B at *
 split
 ·exact putL_wf hl (span_wf2 (by omega) (by omega) h2)
 ·exact hl
theorem relist_w (T : List (List UInt8)) (ends : Bool) (te : Nat) (hw : ∀ w ∈ T, w.length ≤ 60000) : ∀ (f c j : Nat) (o : ROut), c + f ≤ 1000000 → SpW o.l → SpW (relist T ends te f c j o).2.1.l
 | 0, _, _, _, _, hl => hl
 | f + 1, c, j, o, hc, hl => by
  simp only [relist]
  split
  ·exact hl
  ·have h2 := rT_len (ends := ends) (j := j) (n := 0) hw
   generalize rT T ends j 0 = B at *
   have hp := putL_wf hl (span_wf2 (a := c) (b := c) (by omega) (by omega) h2)
   split
   ·split
    ·exact relist_w T ends te hw f _ _ _ (by omega) hp
    ·exact hp
   ·exact hl
theorem re2_w (T : List (List UInt8)) (ends : Bool) (hT : T.length ≤ 60000) (hw : ∀ w ∈ T, w.length ≤ 60000) : StepRW T (re2 T ends) := fun ⟨b, j, o, n⟩ hj hl => by
 simp only at hj hl
 simp only [re2]
 have h1 := rC_le (ends := ends) (b := b) (n := n) hj
 generalize rC T ends b j n = A at *
 have h2 := rC_le (ends := ends) (b := b) (n := A.2.2) h1.2
 generalize rC T ends b A.2.1 A.2.2 = B at *
 split
 ·split
  ·exact relist_w T ends B.1 hw _ _ _ _ (by omega) hl
  ·have h3 := rT_len (ends := ends) (j := B.2.1) (n := 0) hw
   generalize rT T ends B.2.1 0 = X at *
   split
   ·exact putL_wf hl (span_wf2 (by omega) (by omega) h3)
   ·exact hl
 ·exact hl
theorem partR_w (T : List (List UInt8)) (e : List UInt8) (st : RX → RX) (hst : StepR T st) (hw : StepRW T st) : ∀ (f : Nat) (x : RX), x.2.1 ≤ T.length → (x.2.2.2 = 0 → x.2.2.1.l.length ≤ 300) → SpW x.2.2.1.l → SpW (partR T e st f x).2.2.1.l
 | 0, _, _, _, h => h
 | f + 1, x, hk, hl, h => by
  rw [partR]
  split
  ·exact h
  ·rename_i hn
   have hl := hl (by simpa using hn)
   split
   ·exact h
   ·split
    ·exact h
    ·have g := hst x hk hl
     exact partR_w T e st hst hw f _ g.1 (fun h => (g.2 h).1) (hw _ hk h)
theorem wordX_w (T : List (List UInt8)) (ends : Bool) (w : List UInt8) (hT : T.length ≤ 60000) (hw : ∀ w ∈ T, w.length ≤ 60000) (x : RX) (hk : x.2.1 ≤ T.length) (hl : x.2.2.2 = 0 → x.2.2.1.l.length ≤ 300) (hx : SpW x.2.2.1.l) : SpW (wordX T ends w x).2.2.1.l := by
 unfold wordX
 split
 ·exact partR_w T _ _ (re0_ok T ends) (re0_w T ends) _ x hk hl hx
 ·split
  ·exact partR_w T _ _ (re1_ok T ends) (re1_w T ends hw) _ x hk hl hx
  ·split
   ·exact partR_w T _ _ (re2_ok T ends) (re2_w T ends hT hw) _ x hk hl hx
   ·exact hx
end Go.Av.Tryd
set_option linter.unusedSimpArgs false
set_option maxRecDepth 100000
set_option maxHeartbeats 2000000
namespace Go.Av.Tryd
open Go.Proofs
theorem tokensF_ok (s : List UInt8) : ∀ (f q : Nat), q ≤ s.length → (tokensF s f q).1.length + q ≤ s.length ∧ ∀ w ∈ (tokensF s f q).1, w ≠ [] ∧ w.length ≤ s.length
 | 0, q, hq => ⟨by simp only [tokensF, List.length_nil]; omega, fun w hw => by simp [tokensF] at hw⟩
 | f + 1, q, hq => by
  rw [tokensF]
  split
  ·rename_i hlt
   split
   ·exact ⟨by simp only [List.length_nil]; omega, fun w hw => by simp at hw⟩
   ·rename_i hne
    obtain ⟨g1, g2, g3⟩ := tokAt_len hlt
    have g4 := skipP_le g2
    have : (tokAt s q).1.length ≠ 0 := by simpa using hne
    obtain ⟨h1, h2⟩ := tokensF_ok s f (skipP s (tokAt s q).2.1) g4.2
    refine ⟨by simp only [List.length_cons]; omega, fun w hw => ?_⟩
    rcases List.mem_cons.1 hw with rfl | hw
    ·exact ⟨hne, g3⟩
    ·exact h2 w hw
  ·exact ⟨by simp only [List.length_nil]; omega, fun w hw => by simp at hw⟩
def ROut.vl : ROut → AV
 | none => .ns
 | some l => .own (.c (.l 21) 4) 59 3 (spansD l)
attribute [go_sem] ROut.vl
def rpl (T : List (List UInt8)) (ends : Bool) (x : RX) : AObj := .cells [.d (.list (strsD T)), .d (.bool ends), .d (.int .i64 x.2.1), .d (.bool x.1), x.2.2.1.vl, .d (.int .i64 x.2.2.2)]
def spansR (s : List UInt8) : List Span × Bool × Nat :=
 if 20000 < s.length then ([], false, 2)
 else doneR (mainR (tokensF s (s.length + 1) (skipP s 0)).1 (tokensF s (s.length + 1) (skipP s 0)).2 ((tokensF s (s.length + 1) (skipP s 0)).1.length + 1) (false, 0, none, 0))
def L_foliowrightref_SpansOf : LCode :=
 .seq (.reg [⟨some 2, .nils 59 3, none⟩, Qx 3 KF, Qx 4 (Ki 0)]) (.seq (.seq (.reg [Qc 10 0, Q 11 (.len true (.t 10)), Q 12 (.bin .gtr (.t 11) (Ki 20000))]) (.cond (.t 12) (.seq 
 (.reg [⟨some 2, .nils 59 3, none⟩, Qx 3 KF, Qx 4 (Ki 2)]) .ret) .skip)) (.seq (.reg [Qc 14 0, ⟨some 15, .call 42 [.t 14], none⟩, Qc 13 15, Q 16 (.ext 0 (.t 13)), Q 17 (.ext 1 (.t 
 13)), Qa 5 16, Qa 6 17]) (.seq (.reg [Qc 18 5, Qc 19 6, Q 20 (.bld [(0, 1), (1, 1), (2, 1), (3, 1), (4, 1), (5, 1)] [.list [], .bool false, .int .i64 0, .bool false, .list [], 
 .int .i64 0] [false, false, false, false, true, false] [(0, .t 18), (1, .t 19)]), ⟨some 21, .box (.t 20), none⟩, Qa 7 21]) (.seq (.block 0 (.loop (.seq (.seq (.reg [Qc 22 7, Q 23 
 (.nck (.t 22)), Q 24 (.fa 5 (.t 23)), Q 25 (.ld false 1 (.t 24)), Q 26 (.bin .eql (.t 25) (Ki 0))]) (.cond (.t 26) .skip (.exit 0))) (.block 1 (.seq (.reg [Qc 27 7, ⟨some 28, 
 .prim .call [.k (.fn (.func 43) [] []), .t 27] [], none⟩, Qa 8 28]) (.seq (.seq (.reg [Qc 29 8, Q 30 (.bin .eql (.t 29) (.k (.d (.str []))))]) (.cond (.t 30) (.exit 0) .skip)) 
 (.seq (.reg [Qx 9 (.k (.d (.str [])))]) (.seq (.seq (.reg [Qc 31 8]) (.block 2 (.seq (.reg [Q 33 (.bin .eql (.t 31) (.k (.d (.str [98, 101, 103, 105, 110, 99, 111, 100, 101, 115, 
 112, 97, 99, 101, 114, 97, 110, 103, 101])))), Qa 32 33]) (.cond (.t 32) (.reg [Qx 9 (.k (.d (.str [101, 110, 100, 99, 111, 100, 101, 115, 112, 97, 99, 101, 114, 97, 110, 103, 
 101])))]) (.seq (.reg [Q 35 (.bin .eql (.t 31) (.k (.d (.str [98, 101, 103, 105, 110, 98, 102, 99, 104, 97, 114])))), Qa 34 35]) (.cond (.t 34) (.reg [Qx 9 (.k (.d (.str [101, 
 110, 100, 98, 102, 99, 104, 97, 114])))]) (.seq (.reg [Q 37 (.bin .eql (.t 31) (.k (.d (.str [98, 101, 103, 105, 110, 98, 102, 114, 97, 110, 103, 101])))), Qa 36 37]) (.cond (.t 
 36) (.reg [Qx 9 (.k (.d (.str [101, 110, 100, 98, 102, 114, 97, 110, 103, 101])))]) .skip)))))))) (.seq (.seq (.reg [Qc 38 9, Q 39 (.bin .eql (.t 38) (.k (.d (.str []))))]) 
 (.cond (.t 39) (.exit 1) .skip)) (.block 3 (.loop (.seq (.seq (.reg [Qc 40 7, Q 41 (.nck (.t 40)), Q 42 (.fa 5 (.t 41)), Q 43 (.ld false 1 (.t 42)), Q 44 (.bin .eql (.t 43) (Ki 
 0))]) (.cond (.t 44) .skip (.exit 3))) (.block 4 (.seq (.seq (.dreg [Qc 45 7, Q 46 (.nck (.t 45)), Q 47 (.fa 2 (.t 46)), Q 48 (.ld false 1 (.t 47)), Qc 49 7, Q 50 (.nck (.t 49)), 
 Q 51 (.fa 0 (.t 50)), Q 52 (.ld false 1 (.t 51)), Q 53 (.len false (.t 52)), Q 54 (.bin .lss (.t 48) (.t 53)), Qc 55 54, Qd 56 7 55 true, Qg 57 (.nck (.t 56)) 55 true, Qg 58 (.fa 
 0 (.t 57)) 55 true, Qg 59 (.ld false 1 (.t 58)) 55 true, Qd 60 7 55 true, Qg 61 (.nck (.t 60)) 55 true, Qg 62 (.fa 2 (.t 61)) 55 true, Qg 63 (.ld false 1 (.t 62)) 55 true, Qg 64 
 (.ia 1 (.t 59) (.t 63)) 55 true, Qg 65 (.ld false 1 (.t 64)) 55 true, Qd 66 9 55 true, Qg 67 (.bin .eql (.t 65) (.t 66)) 55 true, Q 68 (.pick (.t 55) (.t 67) KF)]) (.cond (.t 68) 
 (.seq (.reg [Qc 69 7, Q 70 (.nck (.t 69)), Q 71 (.fa 2 (.t 70)), Q 72 (.ld false 1 (.t 71)), Q 73 (.bin .add (.t 72) (Ki 1)), Q 74 (.nck (.t 69)), Q 75 (.fa 2 (.t 74)), ⟨none, 
 .st 1 (.t 75) (.t 73), none⟩]) (.exit 3)) .skip)) (.seq (.seq (.dreg [Qc 76 7, Q 77 (.nck (.t 76)), Q 78 (.fa 2 (.t 77)), Q 79 (.ld false 1 (.t 78)), Qc 80 7, Q 81 (.nck (.t 
 80)), Q 82 (.fa 0 (.t 81)), Q 83 (.ld false 1 (.t 82)), Q 84 (.len false (.t 83)), Q 85 (.bin .eql (.t 79) (.t 84))]) (.cond (.t 85) (.seq (.reg [Qc 86 7, ⟨some 87, .prim .call 
 [.k (.fn (.func 44) [] []), .t 86, .k (.d (.int .i64 5))] [], none⟩]) (.exit 3)) .skip)) (.reg [Qc 88 7, Qc 89 8, ⟨some 90, .prim .call [.k (.fn (.func 45) [] []), .t 88, .t 89] 
 [], none⟩])))))))))))))))) (.seq (.seq (.reg [Qc 91 7, Q 92 (.nck (.t 91)), Q 93 (.fa 5 (.t 92)), Q 94 (.ld false 1 (.t 93)), Q 95 (.bin .eql (.t 94) (Ki 0))]) (.cond (.t 95) 
 (.dreg [Qc 96 7, Qc 97 7, Q 98 (.nck (.t 97)), Q 99 (.fa 4 (.t 98)), Q 100 (.ld false 1 (.t 99)), Qc 101 7, Q 102 (.nck (.t 101)), Q 103 (.fa 3 (.t 102)), Q 104 (.ld false 1 (.t 
 103)), ⟨some 105, .call 21 [.t 100, .t 104], none⟩, ⟨some 106, .prim .call [.k (.fn (.func 44) [] []), .t 96, .t 105] [], none⟩]) .skip)) (.seq (.seq (.reg [Qc 107 7, Q 108 (.nck 
 (.t 107)), Q 109 (.fa 5 (.t 108)), Q 110 (.ld false 1 (.t 109)), Q 111 (.bin .gtr (.t 110) (Ki 0))]) (.cond (.t 111) (.seq (.dreg [Qc 112 7, Q 113 (.nck (.t 112)), Q 114 (.fa 5 
 (.t 113)), Q 115 (.ld false 1 (.t 114)), Q 2 (.cp (.k (.d (.list [])))), Q 3 (.cp KF), Qc 4 115]) .ret) .skip)) (.seq (.dreg [Qc 116 7, Q 117 (.nck (.t 116)), Q 118 (.fa 4 (.t 
 117)), Q 119 (.ld false 1 (.t 118)), Qc 120 7, Q 121 (.nck (.t 120)), Q 122 (.fa 3 (.t 121)), Q 123 (.ld false 1 (.t 122)), Qc 2 119, Qc 3 123, Q 4 (.cp (Ki 0))]) .ret)))))))
def R_foliowrightref_SpansOf : List LRes := [.tmp 2, .tmp 3, .tmp 4]
theorem lift_foliowrightref_SpansOf : Lifts Tryd.prog 18 124 L_foliowrightref_SpansOf R_foliowrightref_SpansOf := ⟨_, _, Tryd.func18, rfl, by kernel_rfl, by kernel_rfl, rfl⟩
theorem spansOf_call (s : List UInt8) (hs : s.length ≤ 1000000000) : PCall Tryd.prog 18 [.str s] (fun r => r = .tup [.list (spansD (spansR s).1), .bool (spansR s).2.1, .int .i64 (spansR s).2.2]) := by
 unfold spansR
 by_cases h2 : 20000 < s.length
 ·rw [if_pos h2]
  have z : (20000 < (s.length : Int)) = True := eq_true (by omega)
  refine lift_foliowrightref_SpansOf.call rfl ?_
  simp (maxSteps := 2000000) only [go_sem, ↓reduceIte, L_foliowrightref_SpansOf, R_foliowrightref_SpansOf, z]
  rfl
 ·rw [if_neg h2]
  have z : (20000 < (s.length : Int)) = False := eq_false (by omega)
  have hq0 := (skipP_le (Nat.zero_le s.length)).2
  obtain ⟨t1, t2⟩ := tokensF_ok s (s.length + 1) (skipP s 0) hq0
  have htk := tokens_call s (by omega)
  generalize tokensF s (s.length + 1) (skipP s 0) = TT at *
  obtain ⟨T, ends⟩ := TT
  simp only at *
  have hT : T.length ≤ 60000 := by omega
  have hw : ∀ w ∈ T, w.length ≤ 60000 := fun w h => by have := (t2 w h).2; omega
  have hsl := strsD_length T
  generalize hR : mainR T ends (T.length + 1) (false, 0, none, 0) = R
  obtain ⟨S0, hS0⟩ : ∃ S0 : RX → St, ∀ y, S0 y = ⟨[(7, .ptr (.l 21) 0)], [(21, rpl T ends y)], []⟩ := ⟨_, fun _ => rfl⟩
  obtain ⟨S1, hS1⟩ : ∃ S1 : List UInt8 → List UInt8 → RX → St, ∀ w e y, S1 w e y = ⟨[(7, .ptr (.l 21) 0), (8, .d (.str w)), (9, .d (.str e))], [(21, rpl T ends y)], []⟩ := ⟨_, fun _ _ _ => rfl⟩
  refine lift_foliowrightref_SpansOf.call rfl ?_
  simp (maxSteps := 2000000) only [go_sem, ↓reduceIte, L_foliowrightref_SpansOf, R_foliowrightref_SpansOf, z]
  refine CallG.of htk ?_
  simp (maxSteps := 2000000) only [go_sem, ↓reduceIte]
  refine run_loop S0 (fun y => y.2.1 ≤ T.length ∧ SpW y.2.2.1.l ∧ (y.2.2.2 = 0 → y.2.2.1.l.length ≤ 300) ∧ mainR T ends (T.length + 1 - y.2.1) y = R) (fun y => if y.2.2.2 = 0 then T.length + 2 - y.2.1 else 0) (false, 0, none, 0) ?_ ?_ ?_
  ·rw [hS0]
   refine Weak.mk ?_ ?_ ?_ <;> simp (maxSteps := 2000000) only [go_sem, ↓reduceIte, Sub, Int.natCast_add, Int.natCast_mul, rpl]
   all_goals first | done | rfl
  ·exact ⟨Nat.zero_le _, fun x hx => by simp [ROut.l] at hx, fun _ => by simp [ROut.l], hR⟩
  ·rintro ⟨b, j, o, n⟩ ⟨hj, hW, hl, hP⟩
   simp only at hj hW hl hP
   rw [hS0]
   have hP2 := hP
   rw [show T.length + 1 - j = (T.length - j) + 1 by omega, mainR] at hP2
   simp only at hP2
   have hnx := rnext T ends j b o 0 hT hj
   have hF := spansFault_call o.l b hW
   have hff := fun (k : Nat) e => rfail T ends k b o 0 e
   rcases Nat.eq_zero_or_pos n with hn | hn
   ·subst hn
    rw [if_neg (by simp)] at hP2
    have hNj := rN_le (ends := ends) (n := 0) hj
    by_cases hw0 : (rN T ends j 0).1 = []
    ·rw [if_pos hw0] at hP2
     subst hP2
     generalize rN T ends j 0 = N at *
     obtain ⟨w, j', n'⟩ := N
     simp only at *
     subst hw0
     have hD : doneR (b, j', o, n') = if n' ≠ 0 then ([], false, n') else if faultM o.l b = 0 then (o.l, b, 0) else ([], false, faultM o.l b) := rfl
     generalize doneR (b, j', o, n') = Dn at *
     generalize faultM o.l b = fm at *
     have hfm := hff j' fm
     rcases o with _ | l
     all_goals
      rcases Nat.eq_zero_or_pos n' with hn' | hn'
      ·subst hn'
       rw [if_neg (by simp)] at hD
       simp (maxSteps := 2000000) only [go_sem, ↓reduceIte, rpl]
       refine PrimG.mc1 (.l 21) rfl (hnx) rfl rfl rfl rfl ⟨rfl, rfl⟩ ?_
       simp (maxSteps := 2000000) only [go_sem, ↓reduceIte, rpg]
       refine CallD.of hF ?_
       simp (maxSteps := 2000000) only [go_sem, ↓reduceIte]
       refine PrimG.mc1 (.l 21) rfl (hfm) rfl rfl rfl rfl ⟨rfl, rfl⟩ ?_
       by_cases h0 : fm = 0
       ·subst h0
        rw [if_pos rfl] at hD
        subst hD
        simp (maxSteps := 2000000) only [go_sem, ↓reduceIte, rpg, orE]
        first | done | rfl
       ·rw [if_neg h0] at hD
        subst hD
        have z2 : (0 < (fm : Int)) = True := eq_true (by omega)
        simp (maxSteps := 2000000) only [go_sem, ↓reduceIte, rpg, orE, z2]
        first | done | rfl
      ·have z1 : ((n' : Int) = 0) = False := eq_false (by omega)
       have z2 : (0 < (n' : Int)) = True := eq_true (by omega)
       rw [if_pos (by omega)] at hD
       subst hD
       simp (maxSteps := 2000000) only [go_sem, ↓reduceIte, rpl]
       refine PrimG.mc1 (.l 21) rfl (hnx) rfl rfl rfl rfl ⟨rfl, rfl⟩ ?_
       simp (maxSteps := 2000000) only [go_sem, ↓reduceIte, rpg, z1, z2]
       first | done | rfl
    ·rw [if_neg hw0] at hP2
     obtain ⟨u1, u2, u3⟩ := rN_up hw0
     obtain ⟨g1, g2⟩ := wordX_ok T ends (rN T ends j 0).1 (b, (rN T ends j 0).2.1, o, 0) hNj (fun _ => hl rfl)
     have g3 := wordX_w T ends (rN T ends j 0).1 hT hw (b, (rN T ends j 0).2.1, o, 0) hNj (fun _ => hl rfl) hW
     have hX : wordX T ends (rN T ends j 0).1 (b, (rN T ends j 0).2.1, o, 0) = if (rN T ends j 0).1 = kSpace then partR T eSpace (re0 T ends) (T.length + 1 - (rN T ends j 0).2.1) (b, (rN T ends j 0).2.1, o, 0) else if (rN T ends j 0).1 = kChar then partR T eChar (re1 T ends) (T.length + 1 - (rN T ends j 0).2.1) (b, (rN T ends j 0).2.1, o, 0)
      else if (rN T ends j 0).1 = kRange then partR T eRange (re2 T ends) (T.length + 1 - (rN T ends j 0).2.1) (b, (rN T ends j 0).2.1, o, 0) else (b, (rN T ends j 0).2.1, o, 0) := rfl
     generalize wordX T ends (rN T ends j 0).1 (b, (rN T ends j 0).2.1, o, 0) = Y at *
     generalize rN T ends j 0 = N at *
     obtain ⟨w, j', n'⟩ := N
     simp only at *
     subst u1 u2
     obtain ⟨b', k', o', e'⟩ := Y
     simp only at g1 g2 g3
     have hfin : (k' ≤ T.length ∧ SpW o'.l ∧ (e' = 0 → o'.l.length ≤ 300) ∧ mainR T ends (T.length + 1 - k') (b', k', o', e') = R) ∧ (if e' = 0 then T.length + 2 - k' else 0) < T.length + 2 - j := by
      refine ⟨⟨g1, g3, fun h => (g2 h).2, ?_⟩, ?_⟩
      ·rw [← hP2]
       by_cases hn0 : e' = 0
       ·have := (g2 hn0).1
        refine mainR_fuel T ends _ _ _ g1 (fun h => (g2 h).2) ?_ ?_ <;> simp only <;> omega
       ·rw [mainR_end _ _ _ hn0, mainR_end _ _ _ hn0]
      ·split
       ·rename_i h
        have := (g2 h).1
        omega
       ·omega
     have hent0 := fun (x : RX) h1 => rentry0 T ends x hT h1 hw
     have hent1 := fun (x : RX) h1 h2 h3 h4 => rentry1 T ends x hT h1 hw h2 (k := w) h3 h4
     have hent2 := fun (x : RX) h1 h2 h3 h4 => rentry2 T ends x hT h1 hw h2 (k := w) h3 h4
     rcases o with _ | l
     all_goals
      simp (maxSteps := 2000000) only [go_sem, ↓reduceIte, rpl]
      refine PrimG.mc1 (.l 21) rfl (hnx) rfl rfl rfl rfl ⟨rfl, rfl⟩ ?_
      rcases Classical.em (w = kSpace) with hk1 | hk1
      rw [if_pos hk1] at hX
      obtain ⟨ee, st, he, hst, hent, hX⟩ : ∃ ee st, ee = eSpace ∧ StepR T st ∧ (∀ x : RX, x.2.1 ≤ T.length → x.2.2.1.l.length ≤ 300 → MCallE Tryd.prog 45 [.ptr (.x 0) 0, .d (.str w)] [rpg T ends x.2.1 x.1 x.2.2.1 x.2.2.2] (.tuple []) [rpg T ends (st x).2.1 (st x).1 (st x).2.2.1 (st x).2.2.2]) ∧ (b', k', o', e') = partR T ee st (T.length + 1 - (j + 1)) (b, j + 1, _, 0) := ⟨eSpace, re0 T ends, rfl, re0_ok T ends, fun x h1 h2 => by rw [hk1]; exact hent0 x h1, hX⟩
      simp only [kSpace] at hk1
      have q1 := eq_true hk1
      simp (maxSteps := 2000000) only [go_sem, ↓reduceIte, rpg, hw0, q1]
      simp only [eSpace] at he
      rw [← he]
      rotate_left
      rcases Classical.em (w = kChar) with hk2 | hk2
      rw [if_neg hk1, if_pos hk2] at hX
      obtain ⟨ee, st, he, hst, hent, hX⟩ : ∃ ee st, ee = eChar ∧ StepR T st ∧ (∀ x : RX, x.2.1 ≤ T.length → x.2.2.1.l.length ≤ 300 → MCallE Tryd.prog 45 [.ptr (.x 0) 0, .d (.str w)] [rpg T ends x.2.1 x.1 x.2.2.1 x.2.2.2] (.tuple []) [rpg T ends (st x).2.1 (st x).1 (st x).2.2.1 (st x).2.2.2]) ∧ (b', k', o', e') = partR T ee st (T.length + 1 - (j + 1)) (b, j + 1, _, 0) := ⟨eChar, re1 T ends, rfl, re1_ok T ends, fun x h1 h2 => hent1 x h1 h2 hk1 hk2, hX⟩
      simp only [kSpace] at hk1
      simp only [kChar] at hk2
      have q2 := eq_true hk2
      simp (maxSteps := 2000000) only [go_sem, ↓reduceIte, rpg, hw0, hk1, q2]
      simp only [eChar] at he
      rw [← he]
      rotate_left
      rcases Classical.em (w = kRange) with hk3 | hk3
      rw [if_neg hk1, if_neg hk2, if_pos hk3] at hX
      obtain ⟨ee, st, he, hst, hent, hX⟩ : ∃ ee st, ee = eRange ∧ StepR T st ∧ (∀ x : RX, x.2.1 ≤ T.length → x.2.2.1.l.length ≤ 300 → MCallE Tryd.prog 45 [.ptr (.x 0) 0, .d (.str w)] [rpg T ends x.2.1 x.1 x.2.2.1 x.2.2.2] (.tuple []) [rpg T ends (st x).2.1 (st x).1 (st x).2.2.1 (st x).2.2.2]) ∧ (b', k', o', e') = partR T ee st (T.length + 1 - (j + 1)) (b, j + 1, _, 0) := ⟨eRange, re2 T ends, rfl, re2_ok T ends, fun x h1 h2 => hent2 x h1 h2 hk1 hk2, hX⟩
      simp only [kSpace] at hk1
      simp only [kChar] at hk2
      simp only [kRange] at hk3
      have q3 := eq_true hk3
      simp (maxSteps := 2000000) only [go_sem, ↓reduceIte, rpg, hw0, hk1, hk2, q3]
      simp only [eRange] at he
      rw [← he]
      rotate_left
      rw [if_neg hk1, if_neg hk2, if_neg hk3] at hX
      cases hX
      simp only [kSpace] at hk1
      simp only [kChar] at hk2
      simp only [kRange] at hk3
      simp (maxSteps := 2000000) only [go_sem, ↓reduceIte, rpg, hw0, hk1, hk2, hk3]
      refine ⟨(b, j + 1, _, 0), ?_, hfin⟩
      ·rw [hS0]
       refine Weak.mk ?_ ?_ ?_ <;> simp (maxSteps := 2000000) only [go_sem, ↓reduceIte, Sub, Int.natCast_add, Int.natCast_mul, rpl]
       all_goals first | done | rfl
      all_goals
       refine run_loop (S1 w ee) (fun y => y.2.1 ≤ T.length ∧ (y.2.2.2 = 0 → y.2.2.1.l.length ≤ 300) ∧ partR T ee st (T.length + 1 - y.2.1) y = (b', k', o', e')) (fun y => if y.2.2.2 = 0 then T.length + 2 - y.2.1 else 0) (b, j + 1, _, 0) ?_ ⟨hNj, fun _ => hl (by simp), hX.symm⟩ ?_
       ·rw [hS1]
        refine Weak.mk ?_ ?_ ?_ <;> simp (maxSteps := 2000000) only [go_sem, ↓reduceIte, Sub, Int.natCast_add, Int.natCast_mul, rpl]
        all_goals first | done | rfl
       ·rintro ⟨b2, j2, o2, n2⟩ ⟨hj2, hl2, hQ⟩
        simp only at hj2 hl2 hQ
        rw [hS1]
        rcases Nat.eq_zero_or_pos n2 with hn2 | hn2
        ·subst hn2
         have hQ2 := hQ
         rw [show T.length + 1 - j2 = (T.length - j2) + 1 by omega, partR, if_neg (by simp)] at hQ2
         simp only at hQ2
         have hen := hent (b2, j2, o2, 0) hj2 (hl2 rfl)
         obtain ⟨s1, s2⟩ := hst (b2, j2, o2, 0) hj2 (hl2 rfl)
         have hf5 := rfail T ends j2 b2 o2 0 5
         rcases Nat.lt_or_ge j2 T.length with hlt | hge
         ·have zl : ((j2 : Int) < (T.length : Int)) = True := eq_true (by omega)
          have ze : ((j2 : Int) = (T.length : Int)) = False := eq_false (by omega)
          obtain ⟨w2, hw2⟩ := get_some (l := T) (i := j2) hlt
          rw [hw2] at hQ2
          by_cases h2e : w2 = ee
          ·rw [if_pos (by rw [h2e])] at hQ2
           have z2 := eq_true h2e
           rcases o2 with _ | l2
           all_goals
            simp (maxSteps := 2000000) (disch := omega) only [go_sem, ↓reduceIte, rpl, hsl, zl, getI_nat, strsD_get, hw2, z2]
            refine ⟨(b', k', o', e'), ?_, hfin⟩
            rw [← hQ2, hS0]
            refine Weak.mk ?_ ?_ ?_ <;> simp (maxSteps := 2000000) only [go_sem, ↓reduceIte, Sub, Int.natCast_add, Int.natCast_mul, rpl]
            all_goals first | done | rfl
          ·rw [if_neg (by intro e; cases e; exact h2e rfl), if_neg (by omega)] at hQ2
           generalize st (b2, j2, o2, 0) = Z at *
           obtain ⟨b3, j3, o3, n3⟩ := Z
           simp only at hen s1 s2
           rcases o2 with _ | l2
           all_goals
            simp (maxSteps := 2000000) (disch := omega) only [go_sem, ↓reduceIte, rpl, hsl, zl, ze, getI_nat, strsD_get, hw2, h2e]
            rcases o3 with _ | l3
            all_goals
             refine PrimG.mc1 (.l 21) rfl (hen) rfl rfl rfl rfl ⟨rfl, rfl⟩ ?_
             simp (maxSteps := 2000000) only [go_sem, ↓reduceIte, rpg]
             refine ⟨(b3, j3, _, n3), ?_, ⟨s1, fun h => (s2 h).1, ?_⟩, ?_⟩
             ·rw [hS1]
              refine Weak.mk ?_ ?_ ?_ <;> simp (maxSteps := 2000000) only [go_sem, ↓reduceIte, Sub, Int.natCast_add, Int.natCast_mul, rpl]
              all_goals first | done | rfl
             ·rw [← hQ2]
              by_cases hn0 : n3 = 0
              ·have := (s2 hn0).2
               refine partR_fuel T ee st hst _ _ _ s1 (s2 hn0).1 ?_ ?_ <;> simp only <;> omega
              ·rw [partR_end _ _ _ _ hn0, partR_end _ _ _ _ hn0]
             ·simp only
              split
              ·rename_i h
               have := (s2 h).2
               omega
              ·omega
         ·have zl : ((j2 : Int) < (T.length : Int)) = False := eq_false (by omega)
          have ze : ((j2 : Int) = (T.length : Int)) = True := eq_true (by omega)
          rw [List.getElem?_eq_none hge, if_neg (by simp), if_pos (by omega)] at hQ2
          rcases o2 with _ | l2
          all_goals
           simp (maxSteps := 2000000) (disch := omega) only [go_sem, ↓reduceIte, rpl, hsl, zl, ze]
           refine PrimG.mc1 (.l 21) rfl (hf5) rfl rfl rfl rfl ⟨rfl, rfl⟩ ?_
           simp (maxSteps := 2000000) only [go_sem, ↓reduceIte, rpg, orE]
           refine ⟨(b', k', o', e'), ?_, hfin⟩
           rw [← hQ2, hS0]
           refine Weak.mk ?_ ?_ ?_ <;> simp (maxSteps := 2000000) only [go_sem, ↓reduceIte, Sub, Int.natCast_add, Int.natCast_mul, rpl]
           all_goals first | done | rfl
        ·rw [partR_end _ _ _ _ (Nat.pos_iff_ne_zero.1 hn2)] at hQ
         have z1 : ((n2 : Int) = 0) = False := eq_false (by omega)
         rcases o2 with _ | l2
         all_goals
          simp (maxSteps := 2000000) only [go_sem, ↓reduceIte, rpl, z1]
          refine ⟨(b', k', o', e'), ?_, hfin⟩
          rw [← hQ, hS0]
          refine Weak.mk ?_ ?_ ?_ <;> simp (maxSteps := 2000000) only [go_sem, ↓reduceIte, Sub, Int.natCast_add, Int.natCast_mul, rpl]
          all_goals first | done | rfl
   ·rw [mainR_end _ _ _ (Nat.pos_iff_ne_zero.1 hn)] at hP
    subst hP
    have z1 : ((n : Int) = 0) = False := eq_false (by omega)
    have z2 : (0 < (n : Int)) = True := eq_true (by omega)
    have hd : doneR (b, j, o, n) = ([], false, n) := if_pos (Nat.pos_iff_ne_zero.1 hn)
    rw [hd]
    rcases o with _ | l
    all_goals
     simp (maxSteps := 2000000) only [go_sem, ↓reduceIte, rpl, z1, z2]
     first | done | rfl
end Go.Av.Tryd
