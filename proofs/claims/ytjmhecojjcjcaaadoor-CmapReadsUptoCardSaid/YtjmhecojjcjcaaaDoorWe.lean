import Derived.Test.YtjmhecojjcjcaaaDoorWd
set_option linter.unusedSimpArgs false
namespace Go.Av.Tryd
open Go.Proofs
def Rel (s : List UInt8) (T : List (List UInt8)) (ends : Bool) (k j : Nat) : Prop := k ≤ s.length ∧ j ≤ T.length ∧ tokensF s (s.length + 1) (skipP s k) = (T.drop j, ends)
theorem tokAt_bad {s : List UInt8} {q : Nat} (hq : q < s.length) (h : (tokAt s q).1 = []) : (tokAt s q).2.2 = 5 := by
 obtain ⟨c, hc⟩ := get_some hq
 by_cases hw : wordP s q = []
 ·by_cases h60 : c.toNat = 60
  ·by_cases hx : Lib.indexByte (s.drop q) 62 < 0
   ·rw [tokAt_open hw hc h60 hx]
   ·exfalso
    have h1 := (tokAt_len hq).1
    rw [h] at h1
    rw [tokAt_str hw hc h60 hx] at h1
    simp only [List.length_nil] at h1
    omega
  ·rw [tokAt_sign hw hc h60] at h; simp at h
 ·rw [tokAt_word hw] at h; exact absurd h hw
theorem next_rel {s : List UInt8} {T : List (List UInt8)} {ends : Bool} {k j : Nat} (h : Rel s T ends k j) :
  (∃ w k', nextT s k = (w, k', 0) ∧ w ≠ [] ∧ T[j]? = some w ∧ Rel s T ends k' (j + 1)) ∨ (∃ k' e, nextT s k = ([], k', e) ∧ T[j]? = none ∧ j = T.length ∧ e = if ends = true then 0 else 5) := by
 obtain ⟨hk, hj, ht⟩ := h
 have hsk := skipP_le hk
 unfold nextT
 generalize skipP s k = q at *
 rw [tokensF] at ht
 by_cases hq : q < s.length
 ·rw [if_pos hq] at ht
  by_cases hw : (tokAt s q).1 = []
  ·rw [if_pos hw] at ht
   have h5 := tokAt_bad hq hw
   obtain ⟨h1, h2⟩ := Prod.mk.inj ht
   have hjl : j = T.length := by
    have := congrArg List.length h1
    rw [List.length_drop] at this
    simp only [List.length_nil] at this
    omega
   refine .inr ⟨(tokAt s q).2.1, 5, ?_, List.getElem?_eq_none (by omega), hjl, by rw [← h2]; rfl⟩
   generalize tokAt s q = X at *
   obtain ⟨a, b, c⟩ := X
   simp only at hw h5
   subst hw h5
   rfl
  ·rw [if_neg hw] at ht
   obtain ⟨h1, h2⟩ := Prod.mk.inj ht
   have h0 := tokAt_err hw
   obtain ⟨g1, g2, g3⟩ := tokAt_len hq
   have hjl : j < T.length := by
    have := congrArg List.length h1
    rw [List.length_drop] at this
    simp only [List.length_cons] at this
    omega
   obtain ⟨w, hw2⟩ := get_some hjl
   rw [drop_at hw2] at h1
   obtain ⟨h3, h4⟩ := List.cons.inj h1
   refine .inl ⟨w, (tokAt s q).2.1, ?_, by rw [← h3]; exact hw, hw2, g2, hjl, ?_⟩
   ·generalize tokAt s q = X at *
    obtain ⟨a, b, c⟩ := X
    simp only at h3 h0
    subst h3 h0
    rfl
   ·rw [tokensF_fuel s (s.length + 1) s.length _ (skipP_le g2).2 (by omega) (by have h7 := (skipP_le g2).1; have h8 : (tokAt s q).1.length ≠ 0 := (by simpa using hw); omega)]
    rw [← h4, ← h2]
 ·rw [if_neg hq] at ht
  obtain ⟨h1, h2⟩ := Prod.mk.inj ht
  have hjl : j = T.length := by
   have := congrArg List.length h1
   rw [List.length_drop] at this
   simp only [List.length_nil] at this
   omega
  have hw : wordP s q = [] := by
   have := wordP_len s q
   exact List.length_eq_zero_iff.1 (by omega)
  exact .inr ⟨q, 0, tokAt_end hw (List.getElem?_eq_none (by omega)), List.getElem?_eq_none (by omega), hjl, by rw [← h2]; rfl⟩
theorem orE_n0 {n : Nat} (h : n ≠ 0) (e : Nat) : orE n e = n := by unfold orE; rw [if_neg h]
theorem orE_z (e : Nat) : orE 0 e = e := rfl
theorem rB_rel {s : List UInt8} {T : List (List UInt8)} {ends : Bool} {k j : Nat} (h : Rel s T ends k j) : (rB T ends j 0).2.2 = strE s k 0 ∧ (strE s k 0 = 0 → (rB T ends j 0).1 = cBl (nextT s k).1 ∧ Rel s T ends (nextT s k).2.1 (rB T ends j 0).2.1) := by
 rcases next_rel h with ⟨w, k', h1, h2, h3, h4⟩ | ⟨k', e, h1, h2, h3, h4⟩
 ·have hN : rN T ends j 0 = (w, j + 1, 0) := by unfold rN; rw [h3]
  have hS : strE s k 0 = cBe w := by unfold strE; rw [h1]; simp only [orE_z]
  have hB : rB T ends j 0 = (cBl w, j + 1, cBe w) := by unfold rB; rw [hN]; rfl
  rw [hB, hS, h1]
  exact ⟨rfl, fun _ => ⟨rfl, h4⟩⟩
 ·have hN : rN T ends j 0 = ([], j, e) := by unfold rN; rw [h2, h4]; cases ends <;> rfl
  have hS : strE s k 0 = orE e 4 := by unfold strE; rw [h1]; rfl
  have he : orE e 4 ≠ 0 := by unfold orE; split <;> omega
  refine ⟨?_, fun h0 => absurd (hS.symm.trans h0) he⟩
  rw [hS]
  unfold rB
  rw [hN]
  by_cases h0 : e = 0
  ·subst h0; rfl
  ·rw [if_neg h0, orE_n0 h0]
theorem rB_n {T : List (List UInt8)} {ends : Bool} {j n : Nat} (h : n ≠ 0) : (rB T ends j n).2.2 = n := by
 have hN : (rN T ends j n).2.2 = n := by
  unfold rN
  cases T[j]? with
  | none => simp only; split <;> first | rfl | exact orE_n0 h 5
  | some w => rfl
 unfold rB
 rw [hN, if_neg h]
theorem rC_n {T : List (List UInt8)} {ends b : Bool} {j n : Nat} (h : n ≠ 0) : (rC T ends b j n).2.2 = n := by
 have hB := rB_n (T := T) (ends := ends) (j := j) h
 unfold rC
 rw [hB, if_neg h]
theorem rT_n {T : List (List UInt8)} {ends : Bool} {j n : Nat} (h : n ≠ 0) : (rT T ends j n).2.2 = n := by
 have hB := rB_n (T := T) (ends := ends) (j := j) h
 unfold rT
 rw [hB, if_neg h]
theorem strE_n {s : List UInt8} {k n : Nat} (h : n ≠ 0) : strE s k n = n := by
 unfold strE
 rw [orE_n0 h, orE_n0 h]
theorem codeT_n {s : List UInt8} {b : Bool} {k n : Nat} (h : n ≠ 0) : (codeT s b k n).2.2 = n := by
 unfold codeT
 rw [strE_n h, if_neg h]
theorem txtE_n {w : List UInt8} {n : Nat} (h : n ≠ 0) : txtE w n = n := by
 unfold txtE txtE1
 rw [orE_n0 h, if_neg (fun g => h g.1), orE_n0 h]
theorem putE_n {l : List Span} {n : Nat} (h : n ≠ 0) : putE l n = n := by
 unfold putE
 rw [orE_n0 h]
 split <;> rfl
theorem rC_rel {s : List UInt8} {T : List (List UInt8)} {ends b : Bool} {k j : Nat} (h : Rel s T ends k j) : (rC T ends b j 0).2.2 = (codeT s b k 0).2.2 ∧ ((codeT s b k 0).2.2 = 0 → (rC T ends b j 0).1 = (codeT s b k 0).1 ∧ Rel s T ends (codeT s b k 0).2.1 (rC T ends b j 0).2.1) := by
 obtain ⟨h1, h2⟩ := rB_rel h
 unfold rC codeT
 rw [h1]
 by_cases h0 : strE s k 0 = 0
 ·obtain ⟨h3, h4⟩ := h2 h0
  rw [if_pos h0, if_pos h0, h3]
  exact ⟨rfl, fun _ => ⟨rfl, h4⟩⟩
 ·rw [if_neg h0, if_neg h0]
  exact ⟨rfl, fun h => absurd h h0⟩
theorem rT_rel {s : List UInt8} {T : List (List UInt8)} {ends : Bool} {k j : Nat} (h : Rel s T ends k j) : (rT T ends j 0).2.2 = txtE (nextT s k).1 (orE 0 (nextT s k).2.2) ∧ ((rT T ends j 0).2.2 = 0 → (rT T ends j 0).1 = txtS (nextT s k).1 ∧ Rel s T ends (nextT s k).2.1 (rT T ends j 0).2.1) := by
 obtain ⟨h1, h2⟩ := rB_rel h
 have hS : strE s k 0 = orE (orE 0 (nextT s k).2.2) (cBe (nextT s k).1) := rfl
 have hX : txtE (nextT s k).1 (orE 0 (nextT s k).2.2) = orE (if strE s k 0 = 0 ∧ (cBl (nextT s k).1).length % 2 = 1 then 4 else strE s k 0) (if sgsF (unitsB (cBl (nextT s k).1)) = none then 4 else 0) := rfl
 rw [hX]
 unfold rT
 rw [h1]
 by_cases h0 : strE s k 0 = 0
 ·obtain ⟨h3, h4⟩ := h2 h0
  rw [if_pos h0, h3, h0]
  by_cases ho : (cBl (nextT s k).1).length % 2 = 1
  ·rw [if_pos ho, if_pos ⟨rfl, ho⟩]
   exact ⟨rfl, fun h => by simp at h⟩
  ·rw [if_neg ho, if_neg (fun g => ho g.2), orE_z]
   unfold txtS sgsR
   cases sgsF (unitsB (cBl (nextT s k).1)) with
   | none => exact ⟨rfl, fun h => by simp at h⟩
   | some l => exact ⟨rfl, fun _ => ⟨rfl, h4⟩⟩
 ·rw [if_neg h0, if_neg (fun g => h0 g.1), orE_n0 h0]
  exact ⟨rfl, fun h => absurd h h0⟩
def Sim (s : List UInt8) (T : List (List UInt8)) (ends : Bool) (x : RS) (X : RX) : Prop := X.2.2.2 = x.2.2.2 ∧ (x.2.2.2 = 0 → X.1 = x.1 ∧ Rel s T ends x.2.1 X.2.1 ∧ X.2.2.1.l = x.2.2.1)
theorem sim_err {s : List UInt8} {T : List (List UInt8)} {ends : Bool} {x : RS} {X : RX} {m : Nat} (hm : m ≠ 0) (h1 : x.2.2.2 = m) (h2 : X.2.2.2 = m) : Sim s T ends x X := ⟨h2.trans h1.symm, fun h => absurd (h1.symm.trans h) hm⟩
theorem sim0 {s : List UInt8} {T : List (List UInt8)} {ends : Bool} {b : Bool} {k j : Nat} {o : ROut} (h : Rel s T ends k j) : Sim s T ends (one0 s (b, k, o.l, 0)) (re0 T ends (b, j, o, 0)) := by
 obtain ⟨h1, h2⟩ := rB_rel h
 simp only [one0, re0, spaceT]
 generalize rB T ends j 0 = A at *
 obtain ⟨a, j1, n1⟩ := A
 simp only at *
 subst h1
 by_cases h0 : strE s k 0 = 0
 ·obtain ⟨h3, h4⟩ := h2 h0
  rw [h0]
  subst h3
  obtain ⟨g1, g2⟩ := rB_rel h4
  generalize rB T ends j1 0 = B at *
  obtain ⟨c, j2, n2⟩ := B
  simp only at *
  subst g1
  by_cases h5 : strE s (nextT s k).2.1 0 = 0
  ·obtain ⟨g3, g4⟩ := g2 h5
   subst g3
   rw [h5]
   exact ⟨rfl, fun _ => ⟨rfl, g4, rfl⟩⟩
  ·refine ⟨?_, fun h => absurd h ?_⟩
   ·simp only
    rw [if_neg (fun g => h5 g.1), if_neg (fun g => h5 g.1)]
   ·simp only
    rw [if_neg (fun g => h5 g.1)]
    exact h5
 ·refine ⟨?_, fun h => absurd h ?_⟩
  ·simp only
   rw [rB_n h0, strE_n h0, if_neg (fun g => h0 g.1), if_neg (fun g => h0 g.1)]
  ·simp only
   rw [strE_n h0, if_neg (fun g => h0 g.1)]
   exact h0
theorem sim1 {s : List UInt8} {T : List (List UInt8)} {ends : Bool} {b : Bool} {k j : Nat} {o : ROut} (h : Rel s T ends k j) : Sim s T ends (one1 s (b, k, o.l, 0)) (re1 T ends (b, j, o, 0)) := by
 obtain ⟨h1, h2⟩ := rC_rel (b := b) h
 simp only [one1, re1]
 generalize rC T ends b j 0 = A at *
 obtain ⟨c, j1, n1⟩ := A
 generalize codeT s b k 0 = C at *
 obtain ⟨c', k1, n1'⟩ := C
 simp only at *
 subst h1
 by_cases h0 : n1 = 0
 ·subst h0
  obtain ⟨rfl, h4⟩ := h2 rfl
  obtain ⟨g1, g2⟩ := rT_rel h4
  rw [← g1]
  generalize rT T ends j1 0 = B at *
  obtain ⟨t, j2, n2⟩ := B
  simp only at *
  by_cases h5 : n2 = 0
  ·obtain ⟨g3, g4⟩ := g2 h5
   subst g3 h5
   rw [if_pos rfl]
   exact ⟨rfl, fun _ => ⟨rfl, g4, rfl⟩⟩
  ·rw [if_neg h5, putE_n h5]
   exact ⟨rfl, fun h => absurd h h5⟩
 ·rw [rT_n h0, if_neg h0, orE_n0 h0, txtE_n h0, putE_n h0]
  exact ⟨rfl, fun h => absurd h h0⟩
theorem simL {s : List UInt8} {T : List (List UInt8)} {ends b : Bool} {te : Nat} : ∀ (f f' c k j : Nat) (o : ROut), Rel s T ends k j → s.length + 1 - k ≤ f → T.length + 1 - j ≤ f' → Sim s T ends (b, listF s te f c k o.l 0) (b, relist T ends te f' c j o)
 | 0, _, _, k, _, _, h, h1, _ => by have := h.1; omega
 | _, 0, _, _, j, _, h, _, h2 => by have := h.2.1; omega
 | f + 1, f' + 1, c, k, j, o, h, h1, h2 => by
  simp only [listF, relist]
  rw [if_neg (by simp)]
  obtain ⟨g1, g2⟩ := rT_rel h
  have hnx := next_rel h
  have hge := nextT_ge h.1
  have hup := fun g => nextT_up (s := s) (k := k) g h.1
  have hT := rT_upn (T := T) (ends := ends) (j := j) (n := 0)
  rw [← g1]
  generalize rT T ends j 0 = B at *
  obtain ⟨t, j2, n2⟩ := B
  generalize nextT s k = N at *
  obtain ⟨w, k', e⟩ := N
  simp only at *
  by_cases h93 : w = [93]
  ·rcases hnx with ⟨w', k'', e1, e2, e3, e4⟩ | ⟨k'', e', e1, e2, e3, e4⟩
   ·cases e1
    rw [if_pos h93, e3, h93, if_pos rfl]
    by_cases hct : c = te + 1
    ·rw [if_pos hct, if_pos hct]
     exact ⟨rfl, fun _ => ⟨rfl, e4, rfl⟩⟩
    ·rw [if_neg hct, if_neg hct]
     exact ⟨rfl, fun h => by simp [orE] at h⟩
   ·cases e1
    simp at h93
  ·have hq : ¬ T[j]? = some [93] := by
    intro g
    rcases hnx with ⟨w', k'', e1, e2, e3, e4⟩ | ⟨k'', e', e1, e2, e3, e4⟩
    ·cases e1
     rw [e3] at g
     cases g
     exact h93 rfl
    ·rw [e2] at g
     cases g
   rw [if_neg h93, if_neg hq]
   by_cases h5 : n2 = 0
   ·obtain ⟨g3, g4⟩ := g2 h5
    subst g3 h5
    obtain ⟨u1, u2, u3⟩ := hT rfl
    rw [if_pos rfl]
    by_cases h6 : putE o.l 0 = 0
    ·rw [if_pos h6, h6]
     have hk' : k < k' := by
      rcases hnx with ⟨w', k'', e1, e2, e3, e4⟩ | ⟨k'', e', e1, e2, e3, e4⟩
      ·cases e1
       exact hup e2
      ·omega
     exact simL (b := b) f f' (c + 1) k' j2 (some (putL o.l ⟨c, c, txtS w⟩)) g4 (by omega) (by omega)
    ·rw [if_neg h6, listF_end _ _ _ _ _ _ h6]
     exact ⟨rfl, fun h => absurd h h6⟩
   ·rw [if_neg h5, putE_n h5, listF_end _ _ _ _ _ _ h5]
    exact ⟨rfl, fun h => absurd h h5⟩
theorem sim2 {s : List UInt8} {T : List (List UInt8)} {ends : Bool} {b : Bool} {k j : Nat} {o : ROut} (h : Rel s T ends k j) : Sim s T ends (one2 s (b, k, o.l, 0)) (re2 T ends (b, j, o, 0)) := by
 obtain ⟨h1, h2⟩ := rC_rel (b := b) h
 simp only [one2, re2]
 generalize rC T ends b j 0 = A at *
 obtain ⟨c, j1, n1⟩ := A
 generalize codeT s b k 0 = C at *
 obtain ⟨c', k1, n1'⟩ := C
 simp only at *
 subst h1
 have bad : ∀ (m d k3 : Nat) (l3 : List Span), m ≠ 0 → (if (nextT s k3).1 = [91] then ((b, listF s d (s.length + 1 - (nextT s k3).2.1) c' (nextT s k3).2.1 o.l (orE m (nextT s k3).2.2)) : RS) else (b, (nextT s k3).2.1, l3, putE o.l (txtE (nextT s k3).1 (orE m (nextT s k3).2.2)))).2.2.2 = m := fun m d k3 l3 hm => by
  rw [orE_n0 hm, txtE_n hm, putE_n hm, listF_end _ _ _ _ _ _ hm]
  split <;> rfl
 by_cases h0 : n1 = 0
 ·subst h0
  obtain ⟨rfl, h4⟩ := h2 rfl
  obtain ⟨q1, q2⟩ := rC_rel (b := b) h4
  generalize rC T ends b j1 0 = A at *
  obtain ⟨d, j2, n2⟩ := A
  generalize codeT s b k1 0 = C at *
  obtain ⟨d', k2, n2'⟩ := C
  simp only at *
  subst q1
  by_cases h5 : n2 = 0
  ·subst h5
   obtain ⟨rfl, h6⟩ := q2 rfl
   rw [if_pos rfl]
   obtain ⟨g1, g2⟩ := rT_rel h6
   have hnx := next_rel h6
   rw [← g1]
   generalize rT T ends j2 0 = B at *
   obtain ⟨t, j3, n3⟩ := B
   generalize nextT s k2 = N at *
   obtain ⟨w, k', e⟩ := N
   simp only at *
   by_cases h91 : w = [91]
   ·rcases hnx with ⟨w', k'', e1, e2, e3, e4⟩ | ⟨k'', e', e1, e2, e3, e4⟩
    ·cases e1
     rw [if_pos h91, e3, h91, if_pos rfl]
     exact simL _ _ _ _ _ _ e4 (Nat.le_refl _) (Nat.le_refl _)
    ·cases e1
     simp at h91
   ·have hq : ¬ T[j2]? = some [91] := by
     intro g
     rcases hnx with ⟨w', k'', e1, e2, e3, e4⟩ | ⟨k'', e', e1, e2, e3, e4⟩
     ·cases e1
      rw [e3] at g
      cases g
      exact h91 rfl
     ·rw [e2] at g
      cases g
    rw [if_neg h91, if_neg hq]
    by_cases h5 : n3 = 0
    ·obtain ⟨g3, g4⟩ := g2 h5
     subst g3 h5
     rw [if_pos rfl]
     exact ⟨rfl, fun _ => ⟨rfl, g4, rfl⟩⟩
    ·rw [if_neg h5, putE_n h5]
     exact ⟨rfl, fun h => absurd h h5⟩
  ·rw [if_neg h5]
   exact sim_err h5 (bad n2 _ k2 _ h5) rfl
 ·have hd := codeT_n (s := s) (b := b) (k := k1) h0
  rw [rC_n h0, if_neg h0, hd]
  exact sim_err h0 (bad n1 _ _ _ h0) rfl
def KeepE (st : RS → RS) : Prop := ∀ x : RS, x.2.2.2 ≠ 0 → (st x).2.2.2 = x.2.2.2
theorem keep0 (s : List UInt8) : KeepE (one0 s) := fun ⟨b, k, l, n⟩ h => by
 simp only at h
 simp only [one0, spaceT]
 rw [strE_n h, strE_n h, if_neg (fun g => h g.1)]
theorem keep1 (s : List UInt8) : KeepE (one1 s) := fun ⟨b, k, l, n⟩ h => by
 simp only at h
 simp only [one1]
 rw [codeT_n h, orE_n0 h, txtE_n h, putE_n h]
theorem keep2 (s : List UInt8) : KeepE (one2 s) := fun ⟨b, k, l, n⟩ h => by
 simp only at h
 simp only [one2]
 rw [codeT_n h, codeT_n h, orE_n0 h, txtE_n h, putE_n h, listF_end _ _ _ _ _ _ h]
 split <;> rfl
def SimS (s : List UInt8) (T : List (List UInt8)) (ends : Bool) (st : RS → RS) (sr : RX → RX) : Prop := ∀ (b : Bool) (k j : Nat) (o : ROut), Rel s T ends k j → Sim s T ends (st (b, k, o.l, 0)) (sr (b, j, o, 0))
theorem simP {s : List UInt8} {T : List (List UInt8)} {ends : Bool} {e : List UInt8} (he : e ≠ []) {st : RS → RS} {sr : RX → RX} (hst : StepOK s st) (hsr : StepR T sr) (hk : KeepE st) (hsim : SimS s T ends st sr) :
  ∀ (f f' : Nat) (b : Bool) (k j : Nat) (o : ROut), Rel s T ends k j → o.l.length ≤ 300 → s.length + 1 - k ≤ f → T.length + 1 - j ≤ f' → Sim s T ends (partF s e st f (b, k, o.l, 0)) (partR T e sr f' (b, j, o, 0))
 | 0, _, _, k, _, _, h, _, h1, _ => by have := h.1; omega
 | _, 0, _, _, j, _, h, _, _, h2 => by have := h.2.1; omega
 | f + 1, f' + 1, b, k, j, o, h, hl, h1, h2 => by
  simp only [partF, partR, ne_eq, not_true_eq_false, if_false]
  rcases next_rel h with ⟨w, k', e1, e2, e3, e4⟩ | ⟨k', e', e1, e2, e3, e4⟩
  ·rw [e1, e3]
   by_cases hwe : w = e
   ·rw [if_pos hwe, if_pos (by rw [hwe])]
    exact ⟨rfl, fun _ => ⟨rfl, e4, rfl⟩⟩
   ·rw [if_neg hwe, if_neg e2, if_neg (show ¬ (some w = some e) from fun g => hwe (Option.some.inj g))]
    have hj : ¬ j = T.length := by
     have := (List.getElem?_eq_some_iff.1 e3).1
     omega
    rw [if_neg hj, orE_z]
    have hs := hsim b k j o h
    obtain ⟨p1, p2⟩ := hst (b, k, o.l, 0) h.1 hl
    obtain ⟨q1, q2⟩ := hsr (b, j, o, 0) h.2.1 hl
    generalize st (b, k, o.l, 0) = x at *
    generalize sr (b, j, o, 0) = X at *
    obtain ⟨xb, xk, xl, xn⟩ := x
    obtain ⟨Xb, Xj, Xo, Xn⟩ := X
    obtain ⟨s1, s2⟩ := hs
    simp only at *
    subst s1
    by_cases hn : Xn = 0
    ·subst hn
     obtain ⟨rfl, r2, rfl⟩ := s2 rfl
     obtain ⟨p3, p4⟩ := p2 rfl
     obtain ⟨q3, q4⟩ := q2 rfl
     exact simP he hst hsr hk hsim f f' _ _ _ _ r2 p3 (by omega) (by omega)
    ·rw [partF_end _ _ _ _ hn, partR_end _ _ _ _ hn]
     exact sim_err hn rfl rfl
  ·rw [e1, e2]
   rw [if_neg (fun g => he g.symm), if_pos rfl, if_neg (show ¬ ((none : Option (List UInt8)) = some e) by simp), if_pos e3, orE_z]
   have h5 : orE e' 5 = 5 := by rw [e4]; cases ends <;> rfl
   rw [h5]
   have h6 := hk (b, k, o.l, 5) (by simp)
   rw [partF_end _ _ _ _ (by rw [h6]; simp)]
   exact sim_err (m := 5) (by simp) h6 rfl
theorem simW {s : List UInt8} {T : List (List UInt8)} {ends : Bool} (w : List UInt8) (b : Bool) (k j : Nat) (o : ROut) (h : Rel s T ends k j) (hl : o.l.length ≤ 300) : Sim s T ends (wordF s w (b, k, o.l, 0)) (wordX T ends w (b, j, o, 0)) := by
 unfold wordF wordX
 split
 ·exact simP (by decide) (one0_ok s) (re0_ok T ends) (keep0 s) (fun _ _ _ _ h => sim0 h) _ _ _ _ _ _ h hl (Nat.le_refl _) (Nat.le_refl _)
 ·split
  ·exact simP (by decide) (one1_ok s) (re1_ok T ends) (keep1 s) (fun _ _ _ _ h => sim1 h) _ _ _ _ _ _ h hl (Nat.le_refl _) (Nat.le_refl _)
  ·split
   ·exact simP (by decide) (one2_ok s) (re2_ok T ends) (keep2 s) (fun _ _ _ _ h => sim2 h) _ _ _ _ _ _ h hl (Nat.le_refl _) (Nat.le_refl _)
   ·exact ⟨rfl, fun _ => ⟨rfl, h, rfl⟩⟩
def Sim2 (x : RS) (X : RX) : Prop := X.2.2.2 = x.2.2.2 ∧ (x.2.2.2 = 0 → X.1 = x.1 ∧ X.2.2.1.l = x.2.2.1)
theorem sim2_err {x : RS} {X : RX} {m : Nat} (hm : m ≠ 0) (h1 : x.2.2.2 = m) (h2 : X.2.2.2 = m) : Sim2 x X := ⟨h2.trans h1.symm, fun h => absurd (h1.symm.trans h) hm⟩
theorem simM {s : List UInt8} {T : List (List UInt8)} {ends : Bool} :
  ∀ (f f' : Nat) (b : Bool) (k j : Nat) (o : ROut), Rel s T ends k j → o.l.length ≤ 300 → s.length + 1 - k ≤ f → T.length + 1 - j ≤ f' → Sim2 (mainF s f (b, k, o.l, 0)) (mainR T ends f' (b, j, o, 0))
 | 0, _, _, k, _, _, h, _, h1, _ => by have := h.1; omega
 | _, 0, _, _, j, _, h, _, _, h2 => by have := h.2.1; omega
 | f + 1, f' + 1, b, k, j, o, h, hl, h1, h2 => by
  simp only [mainF, mainR, ne_eq, not_true_eq_false, if_false]
  have hup := fun g => nextT_up (s := s) (k := k) g h.1
  rcases next_rel h with ⟨w, k', e1, e2, e3, e4⟩ | ⟨k', e', e1, e2, e3, e4⟩
  ·have hN : rN T ends j 0 = (w, j + 1, 0) := by unfold rN; rw [e3]
   rw [e1] at hup
   rw [e1, hN]
   simp only at hup
   have hkk := hup e2
   rw [if_neg e2, if_neg e2, orE_z]
   have hs := simW w b k' (j + 1) o e4 hl
   obtain ⟨p1, p2⟩ := wordF_ok s w (b, k', o.l, 0) e4.1 (fun _ => hl)
   obtain ⟨q1, q2⟩ := wordX_ok T ends w (b, j + 1, o, 0) e4.2.1 (fun _ => hl)
   generalize wordF s w (b, k', o.l, 0) = x at *
   generalize wordX T ends w (b, j + 1, o, 0) = X at *
   obtain ⟨xb, xk, xl, xn⟩ := x
   obtain ⟨Xb, Xj, Xo, Xn⟩ := X
   obtain ⟨s1, s2⟩ := hs
   simp only at *
   subst s1
   by_cases hn : Xn = 0
   ·subst hn
    obtain ⟨rfl, r2, rfl⟩ := s2 rfl
    obtain ⟨p3, p4⟩ := p2 rfl
    obtain ⟨q3, q4⟩ := q2 rfl
    exact simM f f' _ _ _ _ r2 p4 (by omega) (by omega)
   ·rw [mainF_end _ _ hn, mainR_end _ _ _ hn]
    exact sim2_err hn rfl rfl
  ·have hN : rN T ends j 0 = ([], j, e') := by unfold rN; rw [e2, e4]; cases ends <;> rfl
   rw [e1, hN]
   simp only [if_true, orE_z]
   exact ⟨rfl, fun _ => ⟨rfl, rfl⟩⟩
theorem reads_same (s : List UInt8) : parseF s = spansR s := by
 unfold parseF spansR
 split
 ·rfl
 ·have hq0 := (skipP_le (Nat.zero_le s.length)).2
  have h : Rel s (tokensF s (s.length + 1) (skipP s 0)).1 (tokensF s (s.length + 1) (skipP s 0)).2 0 0 := ⟨Nat.zero_le _, Nat.zero_le _, rfl⟩
  obtain ⟨h1, h2⟩ := simM (s.length + 1) ((tokensF s (s.length + 1) (skipP s 0)).1.length + 1) false 0 0 none h (by simp [ROut.l]) (by omega) (by omega)
  have e0 : (ROut.l none) = [] := rfl
  rw [e0] at h1 h2
  generalize mainF s (s.length + 1) (false, 0, [], 0) = x at *
  generalize mainR (tokensF s (s.length + 1) (skipP s 0)).1 (tokensF s (s.length + 1) (skipP s 0)).2 _ (false, 0, none, 0) = X at *
  unfold doneF doneR
  rw [h1]
  by_cases hn : x.2.2.2 = 0
  ·obtain ⟨r1, r3⟩ := h2 hn
   rw [r1, r3]
  ·rw [if_pos hn, if_pos hn]
end Go.Av.Tryd
set_option linter.unusedSimpArgs false
set_option maxRecDepth 100000
namespace Go.Av.Tryd
open Go.Proofs
def L_foliowrightref_SameSpans : LCode :=
 .seq (.reg [Qx 4 KF]) (.seq (.seq (.reg [Qc 6 0, Q 7 (.len false (.t 6)), Qc 8 1, Q 9 (.len false (.t 8)), Q 10 (.bin .neq (.t 7) (.t 9))]) (.cond (.t 10) (.seq (.reg [Qx 4 KF]) 
 .ret) .skip)) (.seq (.seq (.reg [Qx 5 (Ki 0)]) (.block 0 (.loop (.seq (.seq (.reg [Qc 11 5, Qc 12 0, Q 13 (.len false (.t 12)), Q 14 (.bin .lss (.t 11) (.t 13))]) (.cond (.t 14) 
 .skip (.exit 0))) (.seq (.block 1 (.seq (.dreg [Qc 17 0, Qc 18 5, Q 19 (.ia 3 (.t 17) (.t 18)), Q 20 (.ld true 3 (.t 19)), Qc 21 1, Qc 22 5, Q 23 (.ia 3 (.t 21) (.t 22)), Q 24 
 (.ld true 3 (.t 23)), Q 25 (.eqS true [0, 0, 2] (.t 20) (.t 24))]) (.cond (.t 25) (.seq (.reg [Qx 4 KF]) .ret) .skip))) (.reg [Qc 15 5, Q 16 (.bin .add (.t 15) (Ki 1)), Qa 5 
 16])))))) (.seq (.reg [Qx 4 KT]) .ret)))
def R_foliowrightref_SameSpans : List LRes := [.tmp 4]
theorem lift_foliowrightref_SameSpans : Lifts Tryd.prog 19 26 L_foliowrightref_SameSpans R_foliowrightref_SameSpans := ⟨_, _, Tryd.func19, rfl, by kernel_rfl, by kernel_rfl, rfl⟩
theorem sameSpans_call (l : List Span) (hl : l.length ≤ 1000000) : PCall Tryd.prog 19 [.list (spansD l), .list (spansD l)] (fun r => r = .one (.bool true)) := by
 have hI : ((spansD l).length : Int) = (l.length : Int) := by rw [spansD_length]
 refine lift_foliowrightref_SameSpans.call rfl ?_
 simp (maxSteps := 2000000) only [go_sem, ↓reduceIte, L_foliowrightref_SameSpans, R_foliowrightref_SameSpans, hI]
 refine run_loop (fun i : Nat => ⟨[(0, .d (.list (spansD l))), (1, .d (.list (spansD l))), (5, .d (.int .i64 i))], [], []⟩) (fun i => i ≤ l.length) (fun i => l.length - i) 0 ?_ (Nat.zero_le _) ?_
 ·refine weak_mk ?_ trivial
  simp (maxSteps := 2000000) only [go_sem, ↓reduceIte, Sub, Int.natCast_add, Int.natCast_mul]
 ·intro i hi
  simp (maxSteps := 2000000) only [go_sem, ↓reduceIte, hI]
  refine fun hlt => ?_
  obtain ⟨x, hx⟩ := get_some (l := l) (i := i) (by omega)
  simp (maxSteps := 2000000) (disch := omega) only [go_sem, ↓reduceIte, hI, getI_nat, spansD_get, hx, Span.d]
  refine ⟨i + 1, ?_, by omega, by omega⟩
  refine weak_mk ?_ trivial
  simp (maxSteps := 2000000) only [go_sem, ↓reduceIte, Sub, Int.natCast_add, Int.natCast_mul]
def mapsS : List UInt8 := [98, 101, 103, 105, 110, 99, 111, 100, 101, 115, 112, 97, 99, 101, 114, 97, 110, 103, 101, 32, 60, 48, 48, 62, 32, 60, 70, 70, 62, 32, 101, 110, 100, 99, 111, 100, 101, 115, 112, 97, 99, 101, 114, 97, 110, 103, 101, 32, 98, 101, 103, 105, 110, 98, 102, 99, 104, 97, 114, 32, 60, 52, 49, 62, 32, 60, 48, 48, 52, 50, 62, 32, 101, 110, 100, 98, 102, 99, 104, 97, 114]
theorem mapsR : spansD (parseF mapsS).1 = [.agg [.int .i64 65, .int .i64 65, .str [66]]] ∧ (parseF mapsS).2 = (false, 0) := by
 constructor <;> kernel_rfl
def L_foliowrightlaw_maps : LCode :=
 .seq (.reg [Qx 0 KF]) (.seq (.reg [⟨some 5, .call 17 [.k (.d (.str [98, 101, 103, 105, 110, 99, 111, 100, 101, 115, 112, 97, 99, 101, 114, 97, 110, 103, 101, 32, 60, 48, 48, 62, 
 32, 60, 70, 70, 62, 32, 101, 110, 100, 99, 111, 100, 101, 115, 112, 97, 99, 101, 114, 97, 110, 103, 101, 32, 98, 101, 103, 105, 110, 98, 102, 99, 104, 97, 114, 32, 60, 52, 49, 
 62, 32, 60, 48, 48, 52, 50, 62, 32, 101, 110, 100, 98, 102, 99, 104, 97, 114]))], none⟩, Qc 4 5, Q 6 (.ext 0 (.t 4)), Q 7 (.ext 1 (.t 4)), Q 8 (.ext 2 (.t 4)), Qa 1 6, Qa 2 7, Qa 
 3 8]) (.seq (.reg [Qc 9 3, ⟨some 10, .call 14 [.t 9, .k (.d (.int .i64 0))], none⟩, Qc 11 10, Qd 12 2 11 true, Qg 13 (.not (.t 12)) 11 true, Q 14 (.pick (.t 11) (.t 13) KF), Qc 
 15 14, Qd 16 1 15 true, Qg 17 (.len false (.t 16)) 15 true, Qg 18 (.bin .eql (.t 17) (Ki 1)) 15 true, Q 19 (.pick (.t 15) (.t 18) KF), Qc 20 19, Qd 21 1 20 true, Qg 22 (.ia 3 (.t 
 21) (Ki 0)) 20 true, Qg 23 (.ld true 3 (.t 22)) 20 true, Qg 24 (.bld [(0, 1), (1, 1), (2, 1)] [.int .i64 0, .int .i64 0, .str []] [] [(0, .k (.d (.int .i64 65))), (1, .k (.d 
 (.int .i64 65))), (2, .k (.d (.str [66])))]) 20 true, Qg 25 (.eqS false [0, 0, 2] (.t 23) (.t 24)) 20 true, Q 26 (.pick (.t 20) (.t 25) KF), Qa 0 26]) .ret))
def R_foliowrightlaw_maps : List LRes := [.tmp 0]
theorem lift_foliowrightlaw_maps : Lifts Tryd.prog 16 27 L_foliowrightlaw_maps R_foliowrightlaw_maps := ⟨_, _, Tryd.func16, rfl, by kernel_rfl, by kernel_rfl, rfl⟩
theorem maps_call : PCall Tryd.prog 16 [] (fun r => r = .one (.bool true)) := by
 have h := parse_call mapsS (by decide)
 rw [mapsR.1, mapsR.2] at h
 have hs := same_law 0 0
 refine lift_foliowrightlaw_maps.call rfl ?_
 simp (maxSteps := 2000000) only [go_sem, ↓reduceIte, L_foliowrightlaw_maps, R_foliowrightlaw_maps]
 refine CallG.of h ?_
 simp (maxSteps := 2000000) only [go_sem, ↓reduceIte]
 refine CallG.of hs ?_
 have g0 : getI [D.agg [D.int .i64 65, D.int .i64 65, D.str [66]]] 0 = some (.agg [D.int .i64 65, D.int .i64 65, D.str [66]]) := rfl
 simp (maxSteps := 2000000) only [go_sem, ↓reduceIte, g0]
theorem faultM_len {l : List Span} {b : Bool} (h : faultM l b = 0) : l.length ≤ 300 := by
 unfold faultM at h
 split at h
 ·cases h
 ·omega
theorem spansR_len (s : List UInt8) : (spansR s).1.length ≤ 300 := by
 unfold spansR doneR
 split
 ·simp
 ·split
  ·simp
  ·split
   ·rename_i h
    exact faultM_len h
   ·simp
def L_foliowrightlaw_CmapReads : LCode :=
 .seq (.reg [Qx 2 KF]) (.seq (.reg [⟨some 10, .call 16 [], none⟩, Qa 3 10]) (.seq (.seq (.reg [Qc 11 3, Q 12 (.not (.t 11)), Qc 13 12, Qd 14 0 13 false, Qg 15 (.len true (.t 14)) 13 
 false, Qg 16 (.bin .gtr (.t 15) (Ki 4000)) 13 false, Q 17 (.pick (.t 13) KT (.t 16))]) (.cond (.t 17) (.seq (.reg [Qc 18 3, Qa 2 18]) .ret) .skip)) (.seq (.reg [Qc 20 0, ⟨some 
 21, .call 17 [.t 20], none⟩, Qc 19 21, Q 22 (.ext 0 (.t 19)), Q 23 (.ext 1 (.t 19)), Q 24 (.ext 2 (.t 19)), Qa 4 22, Qa 5 23, Qa 6 24]) (.seq (.reg [Qc 26 0, ⟨some 27, .call 18 
 [.t 26], none⟩, Qc 25 27, Q 28 (.ext 0 (.t 25)), Q 29 (.ext 1 (.t 25)), Q 30 (.ext 2 (.t 25)), Qa 7 28, Qa 8 29, Qa 9 30]) (.seq (.reg [Qc 31 6, Qc 32 9, ⟨some 33, .call 14 [.t 
 31, .t 32], none⟩, Qc 34 33, Qd 35 5 34 true, Qd 36 8 34 true, Qg 37 (.eqB false (.t 35) (.t 36)) 34 true, Q 38 (.pick (.t 34) (.t 37) KF), Qc 39 38, Qd 40 4 39 true, Qd 41 7 39 
 true, ⟨some 42, .call 19 [.t 40, .t 41], some (39, true)⟩, Q 43 (.pick (.t 39) (.t 42) KF), Qa 2 43]) .ret)))))
def R_foliowrightlaw_CmapReads : List LRes := [.tmp 2]
theorem lift_foliowrightlaw_CmapReads : Lifts Tryd.prog 4 44 L_foliowrightlaw_CmapReads R_foliowrightlaw_CmapReads := ⟨_, _, Tryd.func4, rfl, by kernel_rfl, by kernel_rfl, rfl⟩
theorem cmapReads_call (s : List UInt8) : PCall Tryd.prog 4 [.str s] (fun r => r = .one (.bool true)) := by
 refine lift_foliowrightlaw_CmapReads.call rfl ?_
 simp (maxSteps := 2000000) only [go_sem, ↓reduceIte, L_foliowrightlaw_CmapReads, R_foliowrightlaw_CmapReads]
 refine CallG.of maps_call ?_
 simp (maxSteps := 2000000) only [go_sem, ↓reduceIte]
 refine fun h4 => ?_
 have hp := parse_call s (by omega)
 have hr := spansOf_call s (by omega)
 rw [reads_same s] at hp
 have hl := spansR_len s
 generalize spansR s = R at *
 obtain ⟨l, b, n⟩ := R
 simp only at *
 refine CallG.of hp ?_
 simp (maxSteps := 2000000) only [go_sem, ↓reduceIte]
 refine CallG.of hr ?_
 simp (maxSteps := 2000000) only [go_sem, ↓reduceIte]
 refine CallG.of (same_law n n) ?_
 simp (maxSteps := 2000000) only [go_sem, ↓reduceIte]
 refine CallG.of (sameSpans_call l (by omega)) ?_
 simp (maxSteps := 2000000) only [go_sem, ↓reduceIte]
end Go.Av.Tryd
