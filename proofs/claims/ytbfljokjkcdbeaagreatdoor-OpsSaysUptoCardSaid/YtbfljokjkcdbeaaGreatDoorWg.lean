import Derived.Test.YtbfljokjkcdbeaaGreatDoorWf
import Derived.Test.YtbfljokjkcdbeaaGreatDoorWe
import Derived.Test.YtbfljokjkcdbeaaGreatDoorWd
import Derived.Test.YtbfljokjkcdbeaaGreatDoorWc
import Derived.Test.YtbfljokjkcdbeaaGreatDoorAvG
set_option linter.unusedSimpArgs false
namespace Go.Av.Tryz
open Go.Proofs
/-! ### Rows alike so far -/
def Al (n : Nat) (t t' : List UInt8) : Prop := n ≤ t.length ∧ ∀ i, i < n → t'[i]? = t[i]?
theorem Al.cons {n : Nat} {c : UInt8} {r t' : List UInt8} (h : Al (n + 1) (c :: r) t') : ∃ r', t' = c :: r' ∧ Al n r r' := by
 obtain ⟨h1, h2⟩ := h
 have h0 := h2 0 (by omega)
 cases t' with
 | nil => simp at h0
 | cons c' r' =>
  simp at h0
  subst h0
  exact ⟨r', rfl, by simpa using h1, fun i hi => by simpa using h2 (i + 1) (by omega)⟩
theorem Al.mono {n m : Nat} {t t' : List UInt8} (h : Al n t t') (hm : m ≤ n) : Al m t t' := ⟨by have := h.1; omega, fun i hi => h.2 i (by omega)⟩
theorem Al.drop {n m : Nat} {t t' : List UInt8} (h : Al n t t') : Al (n - m) (t.drop m) (t'.drop m) :=
 ⟨by rw [List.length_drop]; have := h.1; omega, fun i hi => by rw [List.getElem?_drop, List.getElem?_drop]; exact h.2 _ (by omega)⟩
theorem skipF_al : ∀ (t t' : List UInt8) (n : Nat) (b : Bool) (k : Nat), Al n t t' → skipF b t k < k + n → skipF b t' k = skipF b t k
 | [], t', n, b, k, h, hlt => by
  have := h.1
  simp at this; subst this
  simp [skipF] at hlt
 | c :: r, t', 0, b, k, h, hlt => by have := (skipF_le (c :: r) b k).1; omega
 | c :: r, t', n + 1, b, k, h, hlt => by
  obtain ⟨r', rfl, hr⟩ := h.cons
  unfold skipF at hlt ⊢
  split
  ·rename_i h1; rw [if_pos h1] at hlt; exact skipF_al r r' n _ (k + 1) hr (by omega)
  ·rename_i h1; rw [if_neg h1] at hlt
   split
   ·rename_i h2; rw [if_pos h2] at hlt; exact skipF_al r r' n _ (k + 1) hr (by omega)
   ·rename_i h2; rw [if_neg h2] at hlt
    split
    ·rename_i h3; rw [if_pos h3] at hlt; exact skipF_al r r' n _ (k + 1) hr (by omega)
    ·rfl
theorem wordL_al : ∀ (t t' : List UInt8) (n : Nat), Al n t t' → t'[n]? = some 32 → (wordL t).length ≤ n → wordL t' = wordL t
 | t, t', 0, h, hx, hw => by
  have e : wordL t = [] := List.length_eq_zero_iff.1 (by omega)
  rw [e]
  cases t' with
  | nil => rfl
  | cons c r => simp at hx; subst hx; rw [wordL_cons, if_neg (by decide)]
 | [], t', n + 1, h, hx, hw => by have := h.1; simp at this
 | c :: r, t', n + 1, h, hx, hw => by
  obtain ⟨r', rfl, hr⟩ := h.cons
  rw [wordL_cons] at hw ⊢
  rw [wordL_cons]
  split
  ·rename_i hc
   rw [if_pos hc] at hw
   rw [wordL_al r r' n hr (by simpa using hx) (by simpa using hw)]
  ·rfl
theorem octG_al : ∀ (m : Nat) (v : Int) (t t' : List UInt8) (n k : Nat), Al n t t' → (octG m v t k).2 < k + n → octG m v t' k = octG m v t k
 | 0, _, _, _, _, _, _, _ => by simp [octG]
 | m + 1, v, t, t', 0, k, h, hlt => by
  exfalso
  have : k ≤ (octG (m + 1) v t k).2 := by
   have key : ∀ (m : Nat) (v : Int) (t : List UInt8) (k : Nat), k ≤ (octG m v t k).2 := fun m => by
    induction m with
    | zero => intro v t k; simp [octG]
    | succ m ih =>
     intro v t k
     cases t with
     | nil => simp [octG]
     | cons x q =>
      rw [octG]
      split
      ·have := ih (8 * v + oct1 x) q (k + 1); omega
      ·exact Nat.le_refl _
   exact key _ _ _ _
  omega
 | m + 1, v, [], t', n + 1, k, h, hlt => by have := h.1; simp at this
 | m + 1, v, x :: q, t', n + 1, k, h, hlt => by
  obtain ⟨q', rfl, hq⟩ := h.cons
  rw [octG] at hlt ⊢
  rw [octG]
  split
  ·rename_i hx; rw [if_pos hx] at hlt; exact octG_al m _ q q' n (k + 1) hq (by omega)
  ·rfl
theorem escL_al (t t' : List UInt8) (n : Nat) (h : Al n t t') (hlt : (escL t).2 < n) : escL t' = escL t := by
 cases t with
 | nil => have := h.1; simp at this; subst this; simp at hlt
 | cons e r =>
  cases n with
  | zero => omega
  | succ n =>
   obtain ⟨r', rfl, hr⟩ := h.cons
   unfold escL at hlt ⊢
   simp only at hlt ⊢
   split
   ·rfl
   ·split
    ·rfl
    ·split
     ·rfl
     ·split
      ·rfl
      ·split
       ·rfl
       ·split
        ·rfl
        ·split
         ·rename_i h1 h2 h3 h4 h5 h6 h7
          rw [if_neg h1, if_neg h2, if_neg h3, if_neg h4, if_neg h5, if_neg h6, if_pos h7] at hlt
          have hn : 1 ≤ n := by split at hlt <;> simp at hlt <;> omega
          have : r'.head? = r.head? := by
           have := hr.2 0 (by omega)
           rw [List.head?_eq_getElem?, List.head?_eq_getElem?]; exact this
          rw [this]
         ·split
          ·rfl
          ·rename_i h1 h2 h3 h4 h5 h6 h7 h8
           rw [if_neg h1, if_neg h2, if_neg h3, if_neg h4, if_neg h5, if_neg h6, if_neg h7, if_neg h8] at hlt
           unfold octL at hlt ⊢
           rw [octG_al 2 (oct1 e) r r' n 1 hr (by simp only at hlt; omega)]
theorem litF_al : ∀ (t t' : List UInt8) (n j d : Nat) (b : List UInt8) (p : Nat) {q : List UInt8} {e : Nat}, Al n t t' → litF j d t b p = some (q, e) → e ≤ p + n → litF j d t' b p = some (q, e)
 | [], t', n, j, d, b, p, q, e, h, hl, he => by simp [litF] at hl
 | c :: r, t', 0, j, d, b, p, q, e, h, hl, he => by have := litF_end _ _ _ _ _ hl; omega
 | c :: r, t', n + 1, j + 1, d, b, p, q, e, h, hl, he => by
  obtain ⟨r', rfl, hr⟩ := h.cons
  rw [litF] at hl ⊢
  exact litF_al r r' n j d b (p + 1) hr hl (by omega)
 | c :: r, t', n + 1, 0, d, b, p, q, e, h, hl, he => by
  obtain ⟨r', rfl, hr⟩ := h.cons
  rw [litF] at hl ⊢
  split
  ·rename_i h1; rw [if_pos h1] at hl
   by_cases hre : r = []
   ·rw [if_pos hre] at hl; cases hl
   ·rw [if_neg hre] at hl
    have hlt : (escL r).2 < n := by
     have key : ∀ (j d : Nat) (t b : List UInt8) (p : Nat) {q : List UInt8} {e : Nat}, litF j d t b p = some (q, e) → p + j < e := fun j => by
      induction j with
      | zero => intro d t b p q e hl; exact (litF_end _ _ _ _ _ hl).1
      | succ j ih =>
       intro d t b p q e hl
       cases t with
       | nil => simp [litF] at hl
       | cons x t => rw [litF] at hl; have := ih _ _ _ _ hl; omega
     have := key _ _ _ _ _ hl
     omega
    have he' := escL_al r r' n hr hlt
    have hre' : r' ≠ [] := fun e' => by
     subst e'
     have := hr.2 0 (by omega)
     cases r with
     | nil => exact hre rfl
     | cons x y => simp at this
    rw [if_neg hre', he']
    exact litF_al r r' n _ d _ (p + 1) hr hl (by omega)
  ·rename_i h1; rw [if_neg h1] at hl
   split
   ·rename_i h2; rw [if_pos h2] at hl
    split
    ·rename_i h3; rw [if_pos h3] at hl; exact hl
    ·rename_i h3; rw [if_neg h3] at hl; exact litF_al r r' n _ _ _ (p + 1) hr hl (by omega)
   ·rename_i h2; rw [if_neg h2] at hl
    split
    ·rename_i h3; rw [if_pos h3] at hl; exact litF_al r r' n _ _ _ (p + 1) hr hl (by omega)
    ·rename_i h3; rw [if_neg h3] at hl; exact litF_al r r' n _ _ _ (p + 1) hr hl (by omega)
theorem unhexF_al : ∀ (t t' : List UInt8) (n : Nat) (h : Int) (b : List UInt8), Al n t t' → (unhexF t h b).2 = 0 → gtEnd t ≤ n → unhexF t' h b = unhexF t h b ∧ gtEnd t' = gtEnd t
 | [], t', n, h, b, ha, h0, hg => by simp [unhexF] at h0
 | c :: r, t', 0, h, b, ha, h0, hg => by unfold gtEnd at hg; split at hg <;> omega
 | c :: r, t', n + 1, h, b, ha, h0, hg => by
  obtain ⟨r', rfl, hr⟩ := ha.cons
  unfold unhexF at h0 ⊢
  unfold gtEnd at hg ⊢
  by_cases h1 : c.toNat = 62
  ·simp [h1]
  ·rw [if_neg h1] at hg h0
   rw [if_neg h1, if_neg h1, if_neg h1, if_neg h1]
   by_cases h2 : blankB c.toNat = true
   ·rw [if_pos h2] at h0
    rw [if_pos h2, if_pos h2]
    have := unhexF_al r r' n h b hr h0 (by omega)
    exact ⟨this.1, by rw [this.2]⟩
   ·rw [if_neg h2] at h0
    rw [if_neg h2, if_neg h2]
    by_cases h3 : hexI c.toNat < 0
    ·rw [if_pos h3] at h0; simp at h0
    ·rw [if_neg h3] at h0
     rw [if_neg h3, if_neg h3]
     by_cases h4 : h < 0
     ·rw [if_pos h4] at h0
      rw [if_pos h4, if_pos h4]
      have := unhexF_al r r' n _ b hr h0 (by omega)
      exact ⟨this.1, by rw [this.2]⟩
     ·rw [if_neg h4] at h0
      rw [if_neg h4, if_neg h4]
      have := unhexF_al r r' n _ _ hr h0 (by omega)
      exact ⟨this.1, by rw [this.2]⟩
/-! ### Texts alike up to a place, where a blank follows -/
structure Ag (s s' : List UInt8) (K : Nat) : Prop where
 al : Al K s s'
 nx : s'[K]? = some 32
section
variable {s s' : List UInt8} {K : Nat}
theorem Ag.get (h : Ag s s' K) {i : Nat} (hi : i < K) : s'[i]? = s[i]? := h.al.2 i hi
theorem Ag.skip (h : Ag s s' K) {k : Nat} (hk : skipP s k < K) : skipP s' k = skipP s k := by
 have hle : k ≤ skipP s k := (skipF_le (s.drop k) false k).1
 unfold skipP at hk hle ⊢
 exact skipF_al _ _ (K - k) _ _ h.al.drop (by omega)
theorem Ag.word (h : Ag s s' K) {k : Nat} (hk : k + (wordP s k).length ≤ K) : wordP s' k = wordP s k := by
 unfold wordP at hk ⊢
 refine wordL_al _ _ (K - k) h.al.drop ?_ (by omega)
 rw [List.getElem?_drop, show k + (K - k) = K by omega]
 exact h.nx
theorem Ag.name (h : Ag s s' K) {a k : Nat} {b : List UInt8} (hn : nameAt s a = some (b, k)) (hk : k ≤ K) : nameAt s' a = some (b, k) := by
 have hn0 := hn
 unfold nameAt at hn ⊢
 split at hn
 ·cases hn
 ·rename_i b' hb
  split at hn
  ·rename_i hm
   cases hn
   rw [h.word (by omega), hb]
   simp only
   rw [if_pos hm]
  ·cases hn
theorem Ag.lit (h : Ag s s' K) {a k : Nat} {v : Val} (hn : litAt s a = .ok v k) (hk : k ≤ K) : litAt s' a = .ok v k := by
 unfold litAt at hn ⊢
 cases hl : litF 0 1 (s.drop a) [] a with
 | none => rw [hl] at hn; cases hn
 | some x =>
  obtain ⟨b, e⟩ := x
  rw [hl] at hn
  simp only at hn
  have he : e = k := by split at hn <;> cases hn; rfl
  rw [litF_al _ _ (K - a) 0 1 [] a h.al.drop hl (by omega)]
  exact hn
theorem Ag.hex (h : Ag s s' K) {a k : Nat} {v : Val} (hn : hexAt s a = .ok v k) (hk : k ≤ K) : hexAt s' a = .ok v k := by
 have hn0 := hn
 unfold hexAt at hn ⊢
 split at hn
 ·rename_i h0
  have he : a + gtEnd (s.drop a) = k := by split at hn <;> cases hn; rfl
  obtain ⟨h1, h2⟩ := unhexF_al _ _ (K - a) (-1) [] h.al.drop h0 (by omega)
  rw [h1, h2, if_pos h0]
  exact hn
 ·cases hn
def rtP (s : List UInt8) (e : Nat) : Option Nat :=
 if wordP s (skipP s e) = [48] then (if wordP s (skipP s (skipP s e + 1)) = [82] then some (skipP s (skipP s e + 1) + 1) else none) else none
theorem refAt_rt (s : List UInt8) (a : Nat) : refAt s a = match objF (wordP s a) with
  | none => none
  | some n => (rtP s (a + (wordP s a).length)).map fun k => (n, k) := by
 unfold refAt rtP
 cases objF (wordP s a) with
 | none => rfl
 | some n =>
  simp only
  split
  ·split <;> rfl
  ·rfl
theorem Ag.ref (h : Ag s s' K) {a n k : Nat} (hn : refAt s a = some (n, k)) (hk : k ≤ K) : refAt s' a = some (n, k) := by
 have hle : ∀ x, x ≤ skipP s x := fun x => (skipF_le (s.drop x) false x).1
 have hn0 := hn
 unfold refAt at hn ⊢
 cases ho : objF (wordP s a) with
 | none => rw [ho] at hn; cases hn
 | some m =>
  rw [ho] at hn
  simp only at hn
  have q1 := hle (a + (wordP s a).length)
  generalize hi : skipP s (a + (wordP s a).length) = i at hn q1
  have q2 := hle (i + 1)
  generalize hj : skipP s (i + 1) = j at hn q2
  split at hn
  ·rename_i w1
   split at hn
   ·rename_i w2
    cases hn
    have e1 : wordP s' a = wordP s a := h.word (by omega)
    rw [e1, ho]
    simp only
    rw [h.skip (by omega), hi, h.word (by rw [w1]; simp; omega), if_pos w1, h.skip (by omega), hj, h.word (by rw [w2]; simp; omega), if_pos w2]
   ·cases hn
  ·cases hn
def Shut (s s' : List UInt8) (e : Nat) : Prop := rtP s e = none → rtP s' e = none
theorem Ag.wordV (h : Ag s s' K) {a k : Nat} {v : Val} (hn : wordV s a = .ok v k) (hk : k ≤ K) (hs : v.kind = 2 → Shut s s' k) : wordV s' a = .ok v k := by
 have hn0 := hn
 unfold Go.Av.Tryz.wordV at hn
 by_cases w1 : wordP s a = [110, 117, 108, 108]
 ·rw [if_pos w1] at hn
  cases hn
  unfold Go.Av.Tryz.wordV
  rw [h.word (by rw [w1]; simpa using hk), if_pos w1]
 ·rw [if_neg w1] at hn
  by_cases w2 : wordP s a = [116, 114, 117, 101]
  ·rw [if_pos w2] at hn
   cases hn
   unfold Go.Av.Tryz.wordV
   rw [h.word (by rw [w2]; simpa using hk), if_neg w1, if_pos w2]
  ·rw [if_neg w2] at hn
   by_cases w3 : wordP s a = [102, 97, 108, 115, 101]
   ·rw [if_pos w3] at hn
    cases hn
    unfold Go.Av.Tryz.wordV
    rw [h.word (by rw [w3]; simpa using hk), if_neg w1, if_neg w2, if_pos w3]
   ·rw [if_neg w3] at hn
    cases hr : refAt s a with
    | some x =>
     obtain ⟨n, e⟩ := x
     rw [hr] at hn
     simp only at hn
     cases hn
     have hr' := h.ref hr hk
     have hle : ∀ x, x ≤ skipP s x := fun x => (skipF_le (s.drop x) false x).1
     have hw : wordP s' a = wordP s a := by
      refine h.word ?_
      rw [refAt_rt] at hr
      split at hr
      ·cases hr
      ·obtain ⟨k', h1, h2⟩ := Option.map_eq_some_iff.1 hr
       cases h2
       unfold rtP at h1
       have q1 := hle (a + (wordP s a).length)
       have q2 := hle (skipP s (a + (wordP s a).length) + 1)
       split at h1
       ·split at h1
        ·cases h1; omega
        ·cases h1
       ·cases h1
     unfold Go.Av.Tryz.wordV
     rw [hw, if_neg w1, if_neg w2, if_neg w3, hr']
    | none =>
     rw [hr] at hn
     simp only at hn
     split at hn
     ·rename_i hp
      cases hn
      have hw : wordP s' a = wordP s a := h.word hk
      have hr' : refAt s' a = none := by
       rw [refAt_rt] at hr ⊢
       rw [hw]
       cases ho : objF (wordP s a) with
       | none => rfl
       | some m =>
        rw [ho] at hr
        simp only [Option.map_eq_none_iff] at hr ⊢
        exact hs rfl hr
      unfold Go.Av.Tryz.wordV
      rw [hw, if_neg w1, if_neg w2, if_neg w3, hr']
      simp only
      rw [if_pos hp]
     ·cases hn
end
theorem wordP_sign {s : List UInt8} {i : Nat} {c : UInt8} (hc : s[i]? = some c) (h : signB c = true) : wordP s i = [] := by
 unfold wordP; rw [drop_at hc, wordL_cons, if_neg (by simp [h])]
theorem signB_of {c : UInt8} {n : Nat} (h : c.toNat = n) (hn : n ∈ [47, 40, 60, 91, 93, 62]) : signB c = true := by
 have : c = UInt8.ofNat n := by rw [← h]; simp
 subst this
 simp only [List.mem_cons, List.not_mem_nil, or_false] at hn
 rcases hn with rfl | rfl | rfl | rfl | rfl | rfl <;> decide
def RdOK (s : List UInt8) (rd : Nat → RV) : Prop := ∀ q x k, rd q = .ok x k → q < k ∧ skipP s q < k ∧ skipP s q + (wordP s (skipP s q)).length ≤ k ∧ (wordP s (skipP s q) = [48] → k = skipP s q + 1)
theorem wordV_end {s : List UInt8} {a k : Nat} {v : Val} (h : wordV s a = .ok v k) : a + (wordP s a).length ≤ k ∧ (wordP s a = [48] → k = a + 1) := by
 have hle : ∀ x, x ≤ skipP s x := fun x => (skipF_le (s.drop x) false x).1
 unfold wordV at h
 by_cases w1 : wordP s a = [110, 117, 108, 108]
 ·rw [if_pos w1] at h; cases h; rw [w1]; exact ⟨by simp, fun e => by simp at e⟩
 ·rw [if_neg w1] at h
  by_cases w2 : wordP s a = [116, 114, 117, 101]
  ·rw [if_pos w2] at h; cases h; rw [w2]; exact ⟨by simp, fun e => by simp at e⟩
  ·rw [if_neg w2] at h
   by_cases w3 : wordP s a = [102, 97, 108, 115, 101]
   ·rw [if_pos w3] at h; cases h; rw [w3]; exact ⟨by simp, fun e => by simp at e⟩
   ·rw [if_neg w3] at h
    cases hr : refAt s a with
    | some x =>
     obtain ⟨n, e⟩ := x
     rw [hr] at h
     simp only at h
     cases h
     rw [refAt_rt] at hr
     split at hr
     ·cases hr
     ·rename_i m ho
      obtain ⟨k', h1, h2⟩ := Option.map_eq_some_iff.1 hr
      cases h2
      unfold rtP at h1
      have q1 := hle (a + (wordP s a).length)
      have q2 := hle (skipP s (a + (wordP s a).length) + 1)
      refine ⟨?_, fun e => ?_⟩
      ·split at h1
       ·split at h1
        ·cases h1; omega
        ·cases h1
       ·cases h1
      ·have e0 : objF [48] = none := by decide
       rw [e, e0] at ho; cases ho
    | none =>
     rw [hr] at h
     simp only at h
     split at h
     ·cases h; exact ⟨Nat.le_refl _, fun e => by rw [e]; rfl⟩
     ·cases h
theorem readF_ok (s : List UInt8) (d : Nat) : RdOK s (readF d s) := by
 intro q x k h
 have hlen : q ≤ s.length := by
  refine Classical.byContradiction fun hq => ?_
  have hle := (skipF_le (s.drop q) false q).1
  have : s[skipP s q]? = none := List.getElem?_eq_none (by unfold skipP; omega)
  cases d <;> rw [readF, this] at h <;> cases h
 have hs := skipP_le hlen
 have e := readF_skip (skipP_idem s q) d
 have g1 := readF_good s d q hlen
 have g2 := readF_good s d (skipP s q) hs.2
 rw [e] at g2
 rw [h] at g1 g2
 refine ⟨g1.1, g2.1, ?_⟩
 cases d with
 | zero =>
  rw [readF] at h
  split at h <;> cases h
 | succ d =>
  rw [readF] at h
  cases hc : s[skipP s q]? with
  | none => rw [hc] at h; cases h
  | some c =>
   rw [hc] at h
   simp only at h
   have sg : signB c = true → skipP s q + (wordP s (skipP s q)).length ≤ k ∧ (wordP s (skipP s q) = [48] → k = skipP s q + 1) := fun h' => by
    rw [wordP_sign hc h']
    exact ⟨by have := g2.1; simp; omega, fun e => by simp at e⟩
   by_cases h1 : c.toNat = 47
   ·exact sg (signB_of h1 (by simp))
   ·rw [if_neg h1] at h
    by_cases h2 : c.toNat = 40
    ·exact sg (signB_of h2 (by simp))
    ·rw [if_neg h2] at h
     by_cases h3 : c.toNat = 60
     ·exact sg (signB_of h3 (by simp))
     ·rw [if_neg (fun h' => h3 h'.1), if_neg h3] at h
      by_cases h4 : c.toNat = 91
      ·exact sg (signB_of h4 (by simp))
      ·rw [if_neg h4] at h
       by_cases h5 : signB c = true
       ·exact sg h5
       ·rw [if_neg h5] at h
        exact wordV_end h
section
variable {s s' : List UInt8} {K : Nat}
theorem listF_gt {rd : Nat → RV} (hr : RdOK s rd) : ∀ (m : Nat) (acc : List Val) (a : Nat) {v : Val} {k : Nat}, listF rd s m acc a = .ok v k → skipP s a < k ∧ a < k
 | 0, _, _, _, _, h => by cases h
 | m + 1, acc, a, v, k, h => by
  have hle : a ≤ skipP s a := (skipF_le (s.drop a) false a).1
  rw [listF] at h
  split at h
  ·cases h
  ·split at h
   ·cases h; omega
   ·split at h
    ·cases h
    ·rename_i x k1 hx
     have := hr _ _ _ hx
     have := listF_gt hr m _ _ h
     omega
theorem dictF_gt {rd : Nat → RV} (hr : RdOK s rd) : ∀ (m : Nat) (acc : List Fld) (a : Nat) {v : Val} {k : Nat}, dictF rd s m acc a = .ok v k → skipP s a < k ∧ a < k
 | 0, _, _, _, _, h => by cases h
 | m + 1, acc, a, v, k, h => by
  have hle : a ≤ skipP s a := (skipF_le (s.drop a) false a).1
  rw [dictF] at h
  split at h
  ·cases h
  ·rename_i c hc
   split at h
   ·cases h; omega
   ·split at h
    ·cases h
    ·split at h
     ·cases h
     ·rename_i nm k1 hn
      have hng := nameAt_good (List.getElem?_eq_some_iff.1 hc).1 hn
      split at h
      ·cases h
      ·rename_i x k2 hx
       split at h
       ·cases h
       ·have := hr _ _ _ hx
        have := dictF_gt hr m _ _ h
        omega
theorem Ag.head (h : Ag s s' K) {rd : Nat → RV} (hr : RdOK s rd) {m : Nat} {acc : List Val} {e : Nat} {v : Val} {k : Nat} (hl : listF rd s m acc e = .ok v k) (hk : k ≤ K) :
  skipP s' e = skipP s e ∧ wordP s' (skipP s e) = wordP s (skipP s e) ∧ (wordP s (skipP s e) = [48] → ∃ m' acc', listF rd s m' acc' (skipP s e + 1) = .ok v k) := by
 have hg := listF_gt hr _ _ _ hl
 refine ⟨h.skip (by omega), ?_⟩
 cases m with
 | zero => cases hl
 | succ m =>
  rw [listF] at hl
  cases hc : s[skipP s e]? with
  | none => rw [hc] at hl; cases hl
  | some c =>
   rw [hc] at hl
   simp only at hl
   by_cases h1 : c.toNat = 93
   ·have sg := signB_of h1 (by simp)
    rw [wordP_sign hc sg, wordP_sign ((h.get (by omega)).trans hc) sg]
    exact ⟨rfl, fun e => by simp at e⟩
   ·rw [if_neg h1] at hl
    split at hl
    ·cases hl
    ·rename_i x k1 hx
     have hq := hr _ _ _ hx
     rw [skipP_idem] at hq
     have hg2 := listF_gt hr _ _ _ hl
     refine ⟨h.word (by omega), fun e => ?_⟩
     have := hq.2.2.2 e
     subst this
     exact ⟨_, _, hl⟩
theorem Ag.shutL (h : Ag s s' K) {rd : Nat → RV} (hr : RdOK s rd) {m : Nat} {acc : List Val} {e : Nat} {v : Val} {k : Nat} (hl : listF rd s m acc e = .ok v k) (hk : k ≤ K) : Shut s s' e := by
 intro hn
 obtain ⟨h1, h2, h3⟩ := h.head hr hl hk
 unfold rtP at hn ⊢
 rw [h1, h2]
 by_cases w : wordP s (skipP s e) = [48]
 ·rw [if_pos w] at hn ⊢
  obtain ⟨m', acc', hl'⟩ := h3 w
  obtain ⟨g1, g2, _⟩ := h.head hr hl' hk
  rw [g1, g2]
  split at hn
  ·cases hn
  ·rename_i w2; rw [if_neg w2]
 ·rw [if_neg w]
theorem Ag.shutD (h : Ag s s' K) {rd : Nat → RV} (hr : RdOK s rd) {m : Nat} {acc : List Fld} {e : Nat} {v : Val} {k : Nat} (hl : dictF rd s m acc e = .ok v k) (hk : k ≤ K) : Shut s s' e := by
 intro hn
 have hg := dictF_gt hr _ _ _ hl
 have h1 := h.skip (k := e) (by omega)
 cases m with
 | zero => cases hl
 | succ m =>
  rw [dictF] at hl
  cases hc : s[skipP s e]? with
  | none => rw [hc] at hl; cases hl
  | some c =>
   rw [hc] at hl
   simp only at hl
   have sg : signB c = true := by
    split at hl
    ·rename_i h2; exact signB_of h2.1 (by simp)
    ·split at hl
     ·cases hl
     ·rename_i h3; exact signB_of (by omega : c.toNat = 47) (by simp)
   unfold rtP
   rw [h1, wordP_sign ((h.get (by omega)).trans hc) sg, if_neg (by simp)]
def RdAg (s s' : List UInt8) (K : Nat) (rd rd' : Nat → RV) : Prop := ∀ q x k, rd q = .ok x k → k ≤ K → (x.kind = 2 → Shut s s' k) → rd' q = .ok x k
theorem Ag.listF (h : Ag s s' K) {rd rd' : Nat → RV} (hr : RdOK s rd) (ha : RdAg s s' K rd rd') : ∀ (m : Nat) (acc : List Val) (a : Nat) {v : Val} {k : Nat}, listF rd s m acc a = .ok v k → k ≤ K → Go.Av.Tryz.listF rd' s' m acc a = .ok v k
 | 0, _, _, _, _, hl, _ => by cases hl
 | m + 1, acc, a, v, k, hl, hk => by
  have hg := listF_gt hr _ _ _ hl
  rw [Go.Av.Tryz.listF] at hl ⊢
  rw [h.skip (by omega), h.get (by omega)]
  cases hc : s[skipP s a]? with
  | none => rw [hc] at hl; cases hl
  | some c =>
   rw [hc] at hl
   simp only at hl ⊢
   by_cases h1 : c.toNat = 93
   ·rw [if_pos h1] at hl ⊢; exact hl
   ·rw [if_neg h1] at hl ⊢
    cases hx : rd (skipP s a) with
    | bad e => rw [hx] at hl; cases hl
    | ok x k1 =>
     rw [hx] at hl
     simp only at hl
     have hg2 := listF_gt hr _ _ _ hl
     rw [ha _ _ _ hx (by omega) (fun _ => h.shutL hr hl hk)]
     exact Ag.listF h hr ha m _ _ hl hk
theorem Ag.dictF (h : Ag s s' K) {rd rd' : Nat → RV} (hr : RdOK s rd) (ha : RdAg s s' K rd rd') : ∀ (m : Nat) (acc : List Fld) (a : Nat) {v : Val} {k : Nat}, dictF rd s m acc a = .ok v k → k ≤ K → Go.Av.Tryz.dictF rd' s' m acc a = .ok v k
 | 0, _, _, _, _, hl, _ => by cases hl
 | m + 1, acc, a, v, k, hl, hk => by
  have hg := dictF_gt hr _ _ _ hl
  have hl0 := hl
  rw [Go.Av.Tryz.dictF] at hl ⊢
  rw [h.skip (by omega), h.get (by omega)]
  cases hc : s[skipP s a]? with
  | none => rw [hc] at hl; cases hl
  | some c =>
   rw [hc] at hl
   simp only at hl ⊢
   by_cases h1 : c.toNat = 62 ∧ s[skipP s a + 1]? = some 62
   ·rw [if_pos h1] at hl
    have hk2 : skipP s a + 2 = k := by cases hl; rfl
    rw [h.get (by omega), if_pos h1]; exact hl
   ·rw [if_neg h1] at hl
    by_cases h2 : c.toNat ≠ 47
    ·rw [if_pos h2] at hl; cases hl
    ·rw [if_neg h2] at hl
     rw [if_neg (fun h' => by omega), if_neg h2]
     cases hn : nameAt s (skipP s a) with
     | none => rw [hn] at hl; cases hl
     | some y =>
      obtain ⟨nm, k1⟩ := y
      rw [hn] at hl
      simp only at hl
      cases hx : rd k1 with
      | bad e => rw [hx] at hl; cases hl
      | ok x k2 =>
       rw [hx] at hl
       simp only at hl
       by_cases h3 : (getV nm acc).isSome = true
       ·rw [if_pos h3] at hl; cases hl
       ·rw [if_neg h3] at hl
        have hq := hr _ _ _ hx
        have hg2 := dictF_gt hr _ _ _ hl
        rw [h.name hn (by omega)]
        simp only
        rw [ha _ _ _ hx (by omega) (fun _ => h.shutD hr hl hk)]
        simp only
        rw [if_neg h3]
        exact Ag.dictF h hr ha m _ _ hl hk
theorem Ag.readF (h : Ag s s' K) : ∀ d, RdAg s s' K (readF d s) (Go.Av.Tryz.readF d s')
 | 0 => by
  intro q x k hx
  rw [Go.Av.Tryz.readF] at hx
  split at hx <;> cases hx
 | d + 1 => by
  intro q x k hx hk hs
  have hq := readF_ok s (d + 1) q x k hx
  rw [Go.Av.Tryz.readF] at hx ⊢
  rw [h.skip (by omega), h.get (by omega)]
  cases hc : s[skipP s q]? with
  | none => rw [hc] at hx; cases hx
  | some c =>
   rw [hc] at hx
   simp only at hx ⊢
   by_cases h1 : c.toNat = 47
   ·rw [if_pos h1] at hx ⊢
    cases hn : nameAt s (skipP s q) with
    | none => rw [hn] at hx; cases hx
    | some y =>
     obtain ⟨b, e⟩ := y
     rw [hn] at hx
     simp only at hx
     cases hx
     rw [h.name hn hk]
   ·rw [if_neg h1] at hx ⊢
    by_cases h2 : c.toNat = 40
    ·rw [if_pos h2] at hx ⊢; exact h.lit hx hk
    ·rw [if_neg h2] at hx ⊢
     by_cases h3 : c.toNat = 60
     ·by_cases h4 : s[skipP s q + 1]? = some 60
      ·rw [if_pos ⟨h3, h4⟩] at hx
       have hg := dictF_gt (readF_ok s d) _ _ _ hx
       rw [h.get (by omega), if_pos ⟨h3, h4⟩]
       exact h.dictF (readF_ok s d) (Ag.readF h d) _ _ _ hx hk
      ·rw [if_neg (fun h' => h4 h'.2), if_pos h3] at hx
       have hg : skipP s q + 1 < k := by
        have := hexAt_good (s := s) (at_ := skipP s q + 1) (by have := (List.getElem?_eq_some_iff.1 hc).1; omega)
        rw [hx] at this
        exact this.1
       rw [h.get (by omega), if_neg (fun h' => h4 h'.2), if_pos h3]
       exact h.hex hx hk
     ·rw [if_neg (fun h' => h3 h'.1), if_neg h3] at hx
      rw [if_neg (fun h' => h3 h'.1), if_neg h3]
      by_cases h4 : c.toNat = 91
      ·rw [if_pos h4] at hx ⊢
       exact h.listF (readF_ok s d) (Ag.readF h d) _ _ _ hx hk
      ·rw [if_neg h4] at hx ⊢
       by_cases h5 : signB c = true
       ·rw [if_pos h5] at hx; cases hx
       ·rw [if_neg h5] at hx ⊢
        exact h.wordV hx hk hs
end
def d2 (n : Nat) : List UInt8 := if n < 10 then [UInt8.ofNat (48 + n)] else [UInt8.ofNat (48 + n / 10), UInt8.ofNat (48 + n % 10)]
mutual
def awV : Val → Nat
 | .mk _ _ s l f => 1 + s.length + awL l + awF f
def awL : List Val → Nat
 | [] => 0
 | v :: r => awV v + awL r
def awF : List Fld → Nat
 | [] => 0
 | .mk nm v :: r => nm.length + awV v + awF r
end
mutual
theorem wt_aw (most : Int) : ∀ v : Val, awV v ≤ 1000000000 → 0 ≤ wtV most v ∧ wtV most v ≤ awV v ∧ (wtV most v ≤ most → wtV most v = awV v)
 | .mk k n s l f, h => by
  simp only [awV] at h ⊢
  simp only [wtV]
  have e : IntKind.i64.wrap (1 + (s.length : Int)) = 1 + (s.length : Int) := IntWalk.i64_in _ (by omega)
  rw [e]
  have h1 := wtL_aw most l (1 + (s.length : Int)) (by omega) (by omega)
  have h2 := wtF_aw most f (wtL most l (1 + (s.length : Int))) (by omega) (by omega)
  refine ⟨by omega, by omega, fun h3 => ?_⟩
  have := h2.2.2 h3
  have := h1.2.2 (by omega)
  omega
theorem wtL_aw (most : Int) : ∀ (l : List Val) (n : Int), 0 ≤ n → n + awL l ≤ 1000000000 → n ≤ wtL most l n ∧ wtL most l n ≤ n + awL l ∧ (wtL most l n ≤ most → wtL most l n = n + awL l)
 | [], n, h0, h => by simp only [wtL, awL]; omega
 | v :: r, n, h0, h => by
  simp only [awL] at h ⊢
  simp only [wtL]
  by_cases hm : n ≤ most
  ·rw [if_pos hm]
   have hv := wt_aw most v (by omega)
   have e : IntKind.i64.wrap (n + wtV most v) = n + wtV most v := IntWalk.i64_in _ (by omega)
   rw [e]
   have hr := wtL_aw most r (n + wtV most v) (by omega) (by omega)
   refine ⟨by omega, by omega, fun h3 => ?_⟩
   have := hr.2.2 h3
   have := hv.2.2 (by omega)
   omega
  ·rw [if_neg hm]
   exact ⟨by omega, by omega, fun h3 => absurd h3 hm⟩
theorem wtF_aw (most : Int) : ∀ (l : List Fld) (n : Int), 0 ≤ n → n + awF l ≤ 1000000000 → n ≤ wtF most l n ∧ wtF most l n ≤ n + awF l ∧ (wtF most l n ≤ most → wtF most l n = n + awF l)
 | [], n, h0, h => by simp only [wtF, awF]; omega
 | .mk nm v :: r, n, h0, h => by
  simp only [awF] at h ⊢
  simp only [wtF]
  by_cases hm : n ≤ most
  ·rw [if_pos hm]
   have hv := wt_aw most v (by omega)
   have e0 : IntKind.i64.wrap (n + (nm.length : Int)) = n + (nm.length : Int) := IntWalk.i64_in _ (by omega)
   rw [e0]
   have e : IntKind.i64.wrap (n + (nm.length : Int) + wtV most v) = n + (nm.length : Int) + wtV most v := IntWalk.i64_in _ (by omega)
   rw [e]
   have hr := wtF_aw most r (n + (nm.length : Int) + wtV most v) (by omega) (by omega)
   refine ⟨by omega, by omega, fun h3 => ?_⟩
   have := hr.2.2 h3
   have := hv.2.2 (by omega)
   omega
  ·rw [if_neg hm]
   exact ⟨by omega, by omega, fun h3 => absurd h3 hm⟩
end
mutual
theorem aw_le : ∀ (v : Val), wellV v = true → awV v + 200 ≤ 401 * (ptV v).1 ∧ (textV v).length + 5 ≤ 4 * awV v + 104 * (ptV v).1
 | .mk k n s l f, hw => by
  have hk := wellV_k hw
  have hte := textV_eq (.mk k n s l f)
  simp only [Val.kind, Val.n, Val.s, Val.l, Val.f] at hte hk
  have hwe := hw
  unfold wellV at hwe
  simp only [awV, ptV]
  rcases hk with h | h | h | h | h | h | h | h <;> subst h
  ·simp at hwe hte
   obtain ⟨h1, rfl, rfl, rfl⟩ := hwe
   rw [hte]; simp [awL, awF, ptL, ptF]
  ·simp at hwe hte
   obtain ⟨h1, rfl, rfl, rfl⟩ := hwe
   have : (textV (Val.mk 1 n [] [] [])).length ≤ 5 := by rcases h1 with rfl | rfl <;> simp [textV]
   simp [awL, awF, ptL, ptF]; omega
  ·simp at hwe hte
   obtain ⟨h1, rfl, rfl, rfl⟩ := hwe
   have := textF_len h1
   rw [hte]; simp [awL, awF, ptL, ptF]; omega
  ·simp at hwe hte
   obtain ⟨h1, h2, rfl, rfl⟩ := hwe
   have := strP_length s
   rw [hte]; simp [awL, awF, ptL, ptF]; omega
  ·simp at hwe hte
   obtain ⟨h1, h2, rfl, rfl⟩ := hwe
   have := nameP_length s
   have := nameMay_len h2
   rw [hte]; simp [awL, awF, ptL, ptF]; omega
  ·simp at hwe hte
   obtain ⟨h1, rfl, h3, rfl⟩ := hwe
   have := aw_leL l false h3
   rw [hte]; simp [awF, ptF]; omega
  ·simp at hwe hte
   obtain ⟨h1, rfl, rfl, h4⟩ := hwe
   have := aw_leF f none h4
   rw [hte]; simp [awL, ptL]; omega
  ·simp at hwe hte
   obtain ⟨h1, rfl, rfl, rfl⟩ := hwe
   have := nDigits_le n.toNat 1 (by omega)
   rw [hte]; simp [awL, awF, ptL, ptF]; omega
theorem aw_leL : ∀ (l : List Val) (sep : Bool), wellL l = true → awL l ≤ 401 * (ptL l).1 ∧ (textL sep l).length ≤ 4 * awL l + 104 * (ptL l).1
 | [], _, _ => by simp [textL, awL, ptL]
 | v :: r, sep, h => by
  simp only [wellL, Bool.and_eq_true] at h
  have h1 := aw_le v h.1
  have h2 := aw_leL r true h.2
  simp only [textL, awL, ptL, List.length_append]
  refine ⟨by omega, ?_⟩
  split <;> simp <;> omega
theorem aw_leF : ∀ (l : List Fld) (p : Option (List UInt8)), wellF p l = true → awF l ≤ 401 * (ptF l).1 ∧ (textX l).length ≤ 4 * awF l + 104 * (ptF l).1
 | [], _, _ => by simp [textX, awF, ptF]
 | .mk nm v :: r, p, h => by
  simp only [wellF, Bool.and_eq_true] at h
  have h1 := aw_le v h.1.2.1
  have h2 := aw_leF r (some nm) h.2
  have h3 := nameMay_len h.1.1
  have h4 := nameP_length nm
  simp only [textX, awF, ptF, List.length_append, List.length_cons, List.length_nil]
  omega
end
theorem opsD_get {l : List OpV} {i : Nat} {o : OpV} (h : l[i]? = some o) : (opsD l)[i]? = some (.agg [.str o.nm, .list (valsD o.args)]) := by simp [opsD, h, OpV.d]
theorem valsD_getV {l : List Val} {i : Nat} {v : Val} (h : l[i]? = some v) : (valsD l)[i]? = some (.agg [.int .i64 v.kind, .int .i64 v.n, .str v.s, .list (valsD v.l), .list (fldsD v.f)]) := by
 rw [valsD_eq, List.getElem?_map, h, Option.map_some, Val.d_eq v]
theorem valsD_len (l : List Val) : (valsD l).length = l.length := by simp [valsD_eq]
def OpsIn (l : List OpV) : Prop := l.length ≤ 1048576 ∧ ∀ o ∈ l, o.args.length ≤ 1048576 ∧ o.nm.length ≤ 1048576 ∧ ∀ v ∈ o.args, v.sm 1048576 = true ∧ awV v ≤ 1048576
def OpsLight (l : List OpV) : Prop := l.length ≤ 300 ∧ ∀ o ∈ l, o.nm.length ≤ 50 ∧ o.args.length ≤ 12 ∧ ∀ v ∈ o.args, wtV 9000 v ≤ 9000
def L_foliowrightlaw_LightOps : LCode :=
 .seq (.reg [Qx 2 KF]) (.seq (.seq (.reg [Qc 6 0, Q 7 (.len false (.t 6)), Q 8 (.bin .gtr (.t 7) (Ki 300))]) (.cond (.t 8) (.seq (.reg [Qx 2 KF]) .ret) .skip)) (.seq (.reg [Qx 3 (Ki 
 0)]) (.seq (.seq (.reg [Qx 4 (Ki 0)]) (.block 0 (.loop (.seq (.seq (.reg [Qc 9 4, Qc 10 0, Q 11 (.len false (.t 10)), Q 12 (.bin .lss (.t 9) (.t 11))]) (.cond (.t 12) .skip 
 (.exit 0))) (.seq (.block 1 (.seq (.seq (.reg [Qc 15 0, Qc 16 4, Q 17 (.ia 2 (.t 15) (.t 16)), Q 18 (.fa 0 (.t 17)), Q 19 (.ld false 1 (.t 18)), Q 20 (.len true (.t 19)), Q 21 
 (.bin .gtr (.t 20) (Ki 50)), Qc 22 21, Qd 23 0 22 false, Qd 24 4 22 false, Qg 25 (.ia 2 (.t 23) (.t 24)) 22 false, Qg 26 (.fa 1 (.t 25)) 22 false, Qg 27 (.ld false 1 (.t 26)) 22 
 false, Qg 28 (.len false (.t 27)) 22 false, Qg 29 (.bin .gtr (.t 28) (Ki 12)) 22 false, Q 30 (.pick (.t 22) KT (.t 29))]) (.cond (.t 30) (.seq (.reg [Qx 2 KF]) .ret) .skip)) 
 (.seq (.seq (.reg [Qx 5 (Ki 0)]) (.block 2 (.loop (.seq (.seq (.reg [Qc 31 5, Qc 32 0, Qc 33 4, Q 34 (.ia 2 (.t 32) (.t 33)), Q 35 (.fa 1 (.t 34)), Q 36 (.ld false 1 (.t 35)), Q 
 37 (.len false (.t 36)), Q 38 (.bin .lss (.t 31) (.t 37))]) (.cond (.t 38) .skip (.exit 2))) (.seq (.block 3 (.reg [Qc 41 3, Qc 42 0, Qc 43 4, Q 44 (.ia 2 (.t 42) (.t 43)), Q 45 
 (.fa 1 (.t 44)), Q 46 (.ld false 1 (.t 45)), Qc 47 5, Q 48 (.ia 5 (.t 46) (.t 47)), Q 49 (.ld true 5 (.t 48)), ⟨some 50, .call 17 [.t 49, .k (.d (.int .i64 9000))], none⟩, Q 51 
 (.bin .add (.t 41) (.t 50)), Qa 3 51])) (.reg [Qc 39 5, Q 40 (.bin .add (.t 39) (Ki 1)), Qa 5 40])))))) (.seq (.reg [Qc 52 3, Q 53 (.bin .gtr (.t 52) (Ki 9000))]) (.cond (.t 53) 
 (.seq (.reg [Qx 2 KF]) .ret) .skip))))) (.reg [Qc 13 4, Q 14 (.bin .add (.t 13) (Ki 1)), Qa 4 14])))))) (.seq (.reg [Qx 2 KT]) .ret))))
def R_foliowrightlaw_LightOps : List LRes := [.tmp 2]
theorem lift_foliowrightlaw_LightOps : Lifts Tryz.prog 6 54 L_foliowrightlaw_LightOps R_foliowrightlaw_LightOps := ⟨_, _, Tryz.func6, rfl, by kernel_rfl, by kernel_rfl, rfl⟩
theorem lightOps_call (l : List OpV) (hl : OpsIn l) : PCall Tryz.prog 6 [.list (opsD l)] (fun r => ∃ b, r = .one (.bool b) ∧ (b = true → OpsLight l)) := by
 have hlen := opsD_length l
 refine lift_foliowrightlaw_LightOps.call rfl ?_
 simp (maxSteps := 2000000) only [go_sem, ↓reduceIte, L_foliowrightlaw_LightOps, R_foliowrightlaw_LightOps, hlen]
 refine ⟨fun h1 => ⟨_, rfl, fun h => by cases h⟩, fun h1 => ?_⟩
 refine run_loop (fun y : Nat × Int => ⟨[(0, .d (.list (opsD l))), (3, .d (.int .i64 y.2)), (4, .d (.int .i64 y.1))], [], []⟩)
  (fun y => y.1 ≤ l.length ∧ (0 ≤ y.2 ∧ y.2 ≤ 9000) ∧ ∀ j o, j < y.1 → l[j]? = some o → o.nm.length ≤ 50 ∧ o.args.length ≤ 12 ∧ ∀ v ∈ o.args, wtV 9000 v ≤ 9000) (fun y => l.length - y.1) (0, 0) ?_ ?_ ?_
 ·refine weak_mk ?_ trivial
  simp (maxSteps := 2000000) only [go_sem, ↓reduceIte, Sub, Int.natCast_add, Int.natCast_mul]
 ·exact ⟨by simp, by simp, fun j o hj => by simp at hj⟩
 ·rintro ⟨i, n⟩ ⟨g1, g2, g3⟩
  simp only at g1 g2 g3
  simp (maxSteps := 2000000) only [go_sem, ↓reduceIte, hlen]
  refine ⟨fun q1 => ?_, fun q1 => ?_⟩
  ·obtain ⟨o, ho⟩ := get_some (l := l) (i := i) (by omega)
   have hd := opsD_get ho
   obtain ⟨hi1, hi2, hi3⟩ := hl.2 o (List.mem_of_getElem? ho)
   have hal := valsD_len o.args
   simp (maxSteps := 2000000) (disch := omega) only [go_sem, ↓reduceIte, getI_nat, hd, hal]
   have nob : ∃ b, Res.one (D.bool false) = Res.one (D.bool b) ∧ (b = true → OpsLight l) := ⟨false, rfl, fun h => by cases h⟩
   refine ⟨fun q2 => ⟨fun q3 => nob, fun q3 => ?_⟩, fun q2 => nob⟩
   refine run_loop (fun y : Nat × Int => ⟨[(0, .d (.list (opsD l))), (3, .d (.int .i64 y.2)), (4, .d (.int .i64 i)), (5, .d (.int .i64 y.1))], [], []⟩)
    (fun y => y.1 ≤ o.args.length ∧ (0 ≤ y.2 ∧ y.2 ≤ 9000 + 1048576 * y.1) ∧ ∀ j v, j < y.1 → o.args[j]? = some v → wtV 9000 v ≤ y.2) (fun y => o.args.length - y.1) (0, n) ?_ ?_ ?_
   ·refine weak_mk ?_ trivial
    simp (maxSteps := 2000000) only [go_sem, ↓reduceIte, Sub, Int.natCast_add, Int.natCast_mul]
   ·exact ⟨by simp, ⟨g2.1, by simp; omega⟩, fun j v hj => by simp at hj⟩
   ·rintro ⟨k, n2⟩ ⟨f1, f2, f3⟩
    simp only at f1 f2 f3
    simp (maxSteps := 2000000) (disch := omega) only [go_sem, ↓reduceIte, getI_nat, hd, hal]
    refine ⟨fun r1 => ?_, fun r1 => ?_⟩
    ·obtain ⟨v, hv⟩ := get_some (l := o.args) (i := k) (by omega)
     have hvd := valsD_getV hv
     obtain ⟨s1, s2⟩ := hi3 v (List.mem_of_getElem? hv)
     have hwc := weight_call _ v 9000 (Nat.le_refl _) s1
     rw [Val.d_eq v] at hwc
     have hwt := wt_aw 9000 v (by omega)
     simp (maxSteps := 2000000) (disch := omega) only [go_sem, ↓reduceIte, getI_nat, hd, hvd, hal]
     refine CallG.of hwc ?_
     simp (maxSteps := 2000000) (disch := omega) only [go_sem, ↓reduceIte]
     refine ⟨(k + 1, n2 + wtV 9000 v), ?_, ⟨by simp only; omega, ⟨by simp only; omega, by simp only [Int.natCast_add, Int.natCast_one]; omega⟩, fun j u hj hu => ?_⟩, by simp only; omega⟩
     ·refine weak_mk ?_ trivial
      simp (maxSteps := 2000000) only [go_sem, ↓reduceIte, Sub, Int.natCast_add, Int.natCast_mul]
     ·by_cases e : j = k
      ·subst e; rw [hv] at hu; cases hu; simp only; omega
      ·have := f3 j u (by simp only at hj; omega) hu; simp only; omega
    ·refine ⟨fun r2 => nob, fun r2 => ?_⟩
     refine ⟨(i + 1, n2), ?_, ⟨by simp only; omega, ⟨f2.1, by simp only; omega⟩, fun j u hj hu => ?_⟩, by simp only; omega⟩
     ·refine weak_mk ?_ trivial
      simp (maxSteps := 2000000) only [go_sem, ↓reduceIte, Sub, Int.natCast_add, Int.natCast_mul]
     ·by_cases e : j = i
      ·subst e; rw [ho] at hu; cases hu
       refine ⟨by omega, by omega, fun v hv => ?_⟩
       obtain ⟨j', hj'⟩ := List.getElem?_of_mem hv
       have := f3 j' v (by have := (List.getElem?_eq_some_iff.1 hj').1; omega) hj'
       omega
      ·exact g3 j u (by simp only at hj; omega) hu
  ·exact ⟨_, rfl, fun _ => ⟨by omega, fun o ho => by
    obtain ⟨j, hj⟩ := List.getElem?_of_mem ho
    exact g3 j o (by have := (List.getElem?_eq_some_iff.1 hj).1; omega) hj⟩⟩
inductive RT where
 | ok (b : List UInt8)
 | bad (e : Nat)
def argsT : List Val → List UInt8 → RT
 | [], b => .ok b
 | v :: r, b => if faultV v = 0 then argsT r (b ++ textV v ++ [32]) else .bad (faultV v)
def opsT : List OpV → List UInt8 → RT
 | [], b => .ok b
 | o :: r, b => if opMay o.nm = true then (if 8 < o.args.length then .bad 10 else match argsT o.args b with
  | .bad e => .bad e
  | .ok b' => opsT r (b' ++ o.nm ++ [10])) else .bad 3
def writeP (l : List OpV) : RT :=
 if 2000 < l.length then .bad 2 else match opsT l [] with
 | .bad e => .bad e
 | .ok b => if 20000 < b.length then .bad 2 else .ok b
def resTP : RT → Res
 | .ok b => .tup [.str b, .nil]
 | .bad e => .tup [.str [], errD e]
def resTN : RT → Res
 | .ok b => .tup [.str b, .int .i64 0]
 | .bad e => .tup [.str [], .int .i64 e]
def OpsW (l : List OpV) : Prop := l.length ≤ 300 ∧ ∀ o ∈ l, o.args.length ≤ 12 ∧ o.nm.length ≤ 50 ∧ ∀ v ∈ o.args, v.sm 1048576 = true ∧ (ptV v).1 ≤ 1048576 ∧ (faultV v = 0 → (textV v).length ≤ 70000)
def L_foliowrightref_OpsText : LCode :=
 .seq (.reg [Qx 2 (.k (.d (.str []))), Qx 3 (Ki 0)]) (.seq (.seq (.reg [Qc 9 0, Q 10 (.len false (.t 9)), Q 11 (.bin .gtr (.t 10) (Ki 2000))]) (.cond (.t 11) (.seq (.reg [Qx 2 (.k 
 (.d (.str []))), Qx 3 (Ki 2)]) .ret) .skip)) (.seq (.reg [Qx 4 (.k (.d (.str [])))]) (.seq (.seq (.reg [Qx 5 (Ki 0)]) (.block 0 (.loop (.seq (.seq (.reg [Qc 12 5, Qc 13 0, Q 14 
 (.len false (.t 13)), Q 15 (.bin .lss (.t 12) (.t 14))]) (.cond (.t 15) .skip (.exit 0))) (.seq (.block 1 (.seq (.reg [Qc 18 0, Qc 19 5, Q 20 (.ia 2 (.t 18) (.t 19)), Q 21 (.fa 0 
 (.t 20)), Q 22 (.ld false 1 (.t 21)), ⟨some 23, .call 23 [.t 22], none⟩, Qa 6 23]) (.seq (.seq (.reg [Qc 24 6, Q 25 (.not (.t 24))]) (.cond (.t 25) (.seq (.reg [Qx 2 (.k (.d 
 (.str []))), Qx 3 (Ki 3)]) .ret) .skip)) (.seq (.seq (.reg [Qc 26 0, Qc 27 5, Q 28 (.ia 2 (.t 26) (.t 27)), Q 29 (.fa 1 (.t 28)), Q 30 (.ld false 1 (.t 29)), Q 31 (.len false (.t 
 30)), Q 32 (.bin .gtr (.t 31) (Ki 8))]) (.cond (.t 32) (.seq (.reg [Qx 2 (.k (.d (.str []))), Qx 3 (Ki 10)]) .ret) .skip)) (.seq (.seq (.reg [Qx 7 (Ki 0)]) (.block 2 (.loop (.seq 
 (.seq (.reg [Qc 33 7, Qc 34 0, Qc 35 5, Q 36 (.ia 2 (.t 34) (.t 35)), Q 37 (.fa 1 (.t 36)), Q 38 (.ld false 1 (.t 37)), Q 39 (.len false (.t 38)), Q 40 (.bin .lss (.t 33) (.t 
 39))]) (.cond (.t 40) .skip (.exit 2))) (.seq (.block 3 (.seq (.seq (.reg [Qc 43 0, Qc 44 5, Q 45 (.ia 2 (.t 43) (.t 44)), Q 46 (.fa 1 (.t 45)), Q 47 (.ld false 1 (.t 46)), Qc 48 
 7, Q 49 (.ia 5 (.t 47) (.t 48)), Q 50 (.ld true 5 (.t 49)), ⟨some 51, .call 28 [.t 50], none⟩, Qa 8 51]) (.seq (.reg [Qc 52 8, Q 53 (.bin .gtr (.t 52) (Ki 0))]) (.cond (.t 53) 
 (.seq (.reg [Qc 54 8, Qx 2 (.k (.d (.str []))), Qa 3 54]) .ret) .skip))) (.reg [Qc 55 4, Qc 56 0, Qc 57 5, Q 58 (.ia 2 (.t 56) (.t 57)), Q 59 (.fa 1 (.t 58)), Q 60 (.ld false 1 
 (.t 59)), Qc 61 7, Q 62 (.ia 5 (.t 60) (.t 61)), Q 63 (.ld true 5 (.t 62)), ⟨some 64, .call 29 [.t 63], none⟩, Q 65 (.bin .add (.t 55) (.t 64)), Q 66 (.bin .add (.t 65) (.k (.d 
 (.str [32])))), Qa 4 66]))) (.reg [Qc 41 7, Q 42 (.bin .add (.t 41) (Ki 1)), Qa 7 42])))))) (.reg [Qc 67 4, Qc 68 0, Qc 69 5, Q 70 (.ia 2 (.t 68) (.t 69)), Q 71 (.fa 0 (.t 70)), 
 Q 72 (.ld false 1 (.t 71)), Q 73 (.bin .add (.t 67) (.t 72)), Q 74 (.bin .add (.t 73) (.k (.d (.str [10])))), Qa 4 74])))))) (.reg [Qc 16 5, Q 17 (.bin .add (.t 16) (Ki 1)), Qa 5 
 17])))))) (.seq (.seq (.reg [Qc 75 4, Q 76 (.len true (.t 75)), Q 77 (.bin .gtr (.t 76) (Ki 20000))]) (.cond (.t 77) (.seq (.reg [Qx 2 (.k (.d (.str []))), Qx 3 (Ki 2)]) .ret) 
 .skip)) (.seq (.reg [Qc 78 4, Qa 2 78, Qx 3 (Ki 0)]) .ret)))))
def R_foliowrightref_OpsText : List LRes := [.tmp 2, .tmp 3]
theorem lift_foliowrightref_OpsText : Lifts Tryz.prog 10 79 L_foliowrightref_OpsText R_foliowrightref_OpsText := ⟨_, _, Tryz.func10, rfl, by kernel_rfl, by kernel_rfl, rfl⟩
theorem opsText_call (l : List OpV) (hl : OpsW l) : PCall Tryz.prog 10 [.list (opsD l)] (fun r => r = resTN (writeP l)) := by
 have hlen := opsD_length l
 generalize hR : writeP l = R
 unfold writeP at hR
 have bad : ∀ (e : Nat), R = .bad e → Res.tup [.str [], .int .i64 e] = resTN R := fun e he => by rw [he, resTN]
 refine lift_foliowrightref_OpsText.call rfl ?_
 simp (maxSteps := 2000000) only [go_sem, ↓reduceIte, L_foliowrightref_OpsText, R_foliowrightref_OpsText, hlen]
 refine ⟨fun h1 => by have := hl.1; omega, fun h1 => ?_⟩
 rw [if_neg (by omega)] at hR
 refine run_loop (fun y : Nat × List UInt8 => ⟨[(0, .d (.list (opsD l))), (4, .d (.str y.2)), (5, .d (.int .i64 y.1))], [], []⟩)
  (fun y => y.1 ≤ l.length ∧ y.2.length ≤ 900000 * y.1 ∧ opsT (l.drop y.1) y.2 = opsT l []) (fun y => l.length - y.1) (0, []) ?_ ?_ ?_
 ·refine weak_mk ?_ trivial
  simp (maxSteps := 2000000) only [go_sem, ↓reduceIte, Sub, Int.natCast_add, Int.natCast_mul]
 ·exact ⟨by simp, by simp, rfl⟩
 ·rintro ⟨i, b⟩ ⟨g1, g2, g3⟩
  simp only at g1 g2 g3
  have hl1 := hl.1
  simp (maxSteps := 2000000) only [go_sem, ↓reduceIte, hlen]
  refine ⟨fun q1 => ?_, fun q1 => ?_⟩
  ·obtain ⟨o, ho⟩ := get_some (l := l) (i := i) (by omega)
   have hd := opsD_get ho
   obtain ⟨hi1, hi2, hi3⟩ := hl.2 o (List.mem_of_getElem? ho)
   have hal := valsD_len o.args
   rw [drop_at ho, opsT] at g3
   simp (maxSteps := 2000000) (disch := omega) only [go_sem, ↓reduceIte, getI_nat, hd, hal]
   refine CallG.of (operatorMay_call _) ?_
   simp (maxSteps := 2000000) (disch := omega) only [go_sem, ↓reduceIte, getI_nat, hd, hal]
   have bad' : ∀ (e : Nat), opsT l [] = .bad e → Res.tup [.str [], .int .i64 e] = resTN R := fun e he => bad e (by rw [← hR, he])
   refine ⟨fun q2 => ?_, fun q2 => ⟨fun q3 => ?_, fun q3 => ?_⟩⟩
   ·rw [if_neg (by simp [q2])] at g3
    exact bad' 3 g3.symm
   ·rw [if_pos q2, if_pos (by omega)] at g3
    exact bad' 10 g3.symm
   ·rw [if_pos q2, if_neg (by omega)] at g3
    refine run_loop (fun y : Nat × List UInt8 => ⟨[(0, .d (.list (opsD l))), (4, .d (.str y.2)), (5, .d (.int .i64 i)), (7, .d (.int .i64 y.1))], [], []⟩)
     (fun y => y.1 ≤ o.args.length ∧ y.2.length ≤ 900000 * i + 70001 * y.1 ∧ argsT (o.args.drop y.1) y.2 = argsT o.args b) (fun y => o.args.length - y.1) (0, b) ?_ ?_ ?_
    ·refine weak_mk ?_ trivial
     simp (maxSteps := 2000000) only [go_sem, ↓reduceIte, Sub, Int.natCast_add, Int.natCast_mul]
    ·exact ⟨by simp, by simp only; omega, rfl⟩
    ·rintro ⟨k, b2⟩ ⟨f1, f2, f3⟩
     simp only at f1 f2 f3
     simp (maxSteps := 2000000) (disch := omega) only [go_sem, ↓reduceIte, getI_nat, hd, hal]
     refine ⟨fun r1 => ?_, fun r1 => ?_⟩
     ·obtain ⟨v, hv⟩ := get_some (l := o.args) (i := k) (by omega)
      have hvd := valsD_getV hv
      obtain ⟨s1, s2, s3⟩ := hi3 v (List.mem_of_getElem? hv)
      rw [drop_at hv, argsT] at f3
      have hf := faultV_call v s1 (by omega)
      rw [Val.d_eq v] at hf
      simp (maxSteps := 2000000) (disch := omega) only [go_sem, ↓reduceIte, getI_nat, hd, hvd, hal]
      refine CallG.of hf ?_
      by_cases f0 : faultV v = 0
      ·rw [if_pos f0] at f3
       have hx := valueText_call _ v (Nat.le_refl _) s1 (faultV_0.1 f0).2 (by have := s3 f0; omega)
       rw [Val.d_eq v] at hx
       have s3' := s3 f0
       rw [f0]
       simp (maxSteps := 2000000) (disch := omega) only [go_sem, ↓reduceIte, getI_nat, hd, hvd, hal]
       refine CallG.of hx ?_
       simp (maxSteps := 2000000) (disch := omega) only [go_sem, ↓reduceIte, getI_nat, hd, hvd, hal]
       refine ⟨by omega, by simp; omega, (k + 1, b2 ++ textV v ++ [32]), ?_, ⟨by simp only; omega, by simp; omega, f3⟩, by simp only; omega⟩
       refine weak_mk ?_ trivial
       simp (maxSteps := 2000000) only [go_sem, ↓reduceIte, Sub, Int.natCast_add, Int.natCast_mul]
      ·rw [if_neg f0] at f3
       rw [← f3] at g3
       have e1 : (0 < (faultV v : Int)) = True := eq_true (by omega)
       simp (maxSteps := 2000000) (disch := omega) only [go_sem, ↓reduceIte, e1]
       exact bad' _ g3.symm
     ·rw [List.drop_eq_nil_of_le (by omega), argsT] at f3
      rw [← f3] at g3
      simp only at g3
      refine ⟨by omega, by simp; omega, (i + 1, b2 ++ o.nm ++ [10]), ?_, ⟨by simp only; omega, by simp; omega, g3⟩, by simp only; omega⟩
      refine weak_mk ?_ trivial
      simp (maxSteps := 2000000) only [go_sem, ↓reduceIte, Sub, Int.natCast_add, Int.natCast_mul]
  ·rw [List.drop_eq_nil_of_le (by omega), opsT] at g3
   rw [← g3] at hR
   simp only at hR
   refine ⟨fun q2 => ?_, fun q2 => ?_⟩
   ·rw [if_pos (by omega)] at hR
    exact bad 2 hR.symm
   ·rw [if_neg (by omega)] at hR
    rw [← hR, resTN]
def L___strings_Builder__Len : LCode :=
 .seq (.reg [Qx 2 (Ki 0)]) (.seq (.reg [Qc 3 0, Q 4 (.nck (.t 3)), Q 5 (.fa 1 (.t 4)), Q 6 (.ld false 1 (.t 5)), Q 7 (.len false (.t 6)), Qa 2 7]) .ret)
def R___strings_Builder__Len : List LRes := [.tmp 2]
theorem lift___strings_Builder__Len : Lifts Tryz.prog 26 8 L___strings_Builder__Len R___strings_Builder__Len := ⟨_, _, Tryz.func26, rfl, by kernel_rfl, by kernel_rfl, rfl⟩
theorem len_at (b : Bld) : MCallE Tryz.prog 26 [.ptr (.x 0) 0] [b.at (.x 0)] (.d (.int .i64 b.bytes.length)) [b.at (.x 0)] := by
 cases b with
 | new =>
  refine lift___strings_Builder__Len.mcall (by kernel_rfl) rfl ?_
  simp (maxSteps := 2000000) only [go_sem, ↓reduceIte, L___strings_Builder__Len, R___strings_Builder__Len, AV.den, Bld.at, Bld.bytes]
 | nul =>
  refine lift___strings_Builder__Len.mcall (by kernel_rfl) rfl ?_
  simp (maxSteps := 2000000) only [go_sem, ↓reduceIte, L___strings_Builder__Len, R___strings_Builder__Len, AV.den, Bld.at, Bld.bytes]
 | has s =>
  have hbs := bytesD_length s
  refine lift___strings_Builder__Len.mcall (by kernel_rfl) rfl ?_
  simp (maxSteps := 2000000) only [go_sem, ↓reduceIte, L___strings_Builder__Len, R___strings_Builder__Len, AV.den, Bld.at, Bld.bytes, hbs]
def L_ops_Write : LCode :=
 .seq (.reg [Qx 2 (.k (.d (.str []))), Qx 3 (.k (.d .nil))]) (.seq (.seq (.reg [Qc 11 0, Q 12 (.len false (.t 11)), Q 13 (.bin .gtr (.t 12) (Ki 2000))]) (.cond (.t 13) (.seq (.reg 
 [Q 14 (.mkI 50 (Ki 2)), Qx 2 (.k (.d (.str []))), Qa 3 14]) .ret) .skip)) (.seq (.reg [⟨some 4, .allo [.nilpT 59, .list []], none⟩]) (.seq (.seq (.reg [Qc 15 0, Q 16 (.len false 
 (.t 15)), Q 17 (.cp (Ki 0))]) (.block 0 (.loop (.seq (.reg [Q 18 (.bin .lss (.t 17) (.t 16))]) (.seq (.cond (.t 18) .skip (.exit 0)) (.seq (.block 1 (.seq (.reg [Q 19 (.ia 2 (.t 
 15) (.t 17)), Q 20 (.ld true 2 (.t 19)), ⟨some 6, .allo [.str [], .list []], none⟩, ⟨none, .st 2 (.t 6) (.t 20), none⟩]) (.seq (.seq (.reg [Q 21 (.fa 0 (.t 6)), Q 22 (.ld false 1 
 (.t 21)), ⟨some 23, .call 20 [.t 22], none⟩, Q 24 (.not (.t 23))]) (.cond (.t 24) (.seq (.reg [Q 25 (.mkI 50 (Ki 3)), Qx 2 (.k (.d (.str []))), Qa 3 25]) .ret) .skip)) (.seq 
 (.seq (.reg [Q 26 (.fa 1 (.t 6)), Q 27 (.ld false 1 (.t 26)), Q 28 (.len false (.t 27)), Q 29 (.bin .gtr (.t 28) (Ki 8))]) (.cond (.t 29) (.seq (.reg [Q 30 (.mkI 50 (Ki 10)), Qx 
 2 (.k (.d (.str []))), Qa 3 30]) .ret) .skip)) (.seq (.seq (.reg [Q 31 (.fa 1 (.t 6)), Q 32 (.ld false 1 (.t 31)), Q 33 (.len false (.t 32)), Q 34 (.cp (Ki 0))]) (.block 2 (.loop 
 (.seq (.reg [Q 35 (.bin .lss (.t 34) (.t 33))]) (.seq (.cond (.t 35) .skip (.exit 2)) (.seq (.block 3 (.seq (.reg [Q 36 (.ia 5 (.t 32) (.t 34)), Q 37 (.ld true 5 (.t 36)), ⟨some 
 8, .allo [.int .i64 0, .int .i64 0, .str [], .list [], .list []], none⟩, ⟨none, .st 5 (.t 8) (.t 37), none⟩]) (.seq (.reg [Q 39 (.ld true 5 (.t 8)), ⟨some 40, .call 13 [.t 39], 
 none⟩, Qc 38 40, Q 41 (.ext 0 (.t 38)), Q 42 (.ext 1 (.t 38)), Qa 9 41, Qa 10 42]) (.seq (.seq (.reg [Qc 43 10, Q 44 (.eqN 0 true (.t 43))]) (.cond (.t 44) (.seq (.reg [Qc 45 10, 
 Qx 2 (.k (.d (.str []))), Qa 3 45]) .ret) .skip)) (.reg [Qc 46 9, Q 47 (.bin .add (.t 46) (.k (.d (.str [32])))), ⟨some 48, .prim .call [.k (.fn (.func 25) [] []), .t 4, .t 47] 
 [], none⟩]))))) (.reg [Q 49 (.bin .add (.t 34) (Ki 1)), Qc 34 49]))))))) (.reg [Q 50 (.fa 0 (.t 6)), Q 51 (.ld false 1 (.t 50)), Q 52 (.bin .add (.t 51) (.k (.d (.str [10])))), 
 ⟨some 53, .prim .call [.k (.fn (.func 25) [] []), .t 4, .t 52] [], none⟩])))))) (.reg [Q 54 (.bin .add (.t 17) (Ki 1)), Qc 17 54]))))))) (.seq (.seq (.reg [⟨some 55, .prim .call 
 [.k (.fn (.func 26) [] []), .t 4] [], none⟩, Q 56 (.bin .gtr (.t 55) (Ki 20000))]) (.cond (.t 56) (.seq (.reg [Q 57 (.mkI 50 (Ki 2)), Qx 2 (.k (.d (.str []))), Qa 3 57]) .ret) 
 .skip)) (.seq (.reg [⟨some 58, .prim .call [.k (.fn (.func 27) [] []), .t 4] [], none⟩, Qa 2 58, Qx 3 (.k (.d .nil))]) .ret)))))
def R_ops_Write : List LRes := [.tmp 2, .tmp 3]
theorem lift_ops_Write : Lifts Tryz.prog 9 59 L_ops_Write R_ops_Write := ⟨_, _, Tryz.func9, rfl, by kernel_rfl, by kernel_rfl, rfl⟩
theorem opsWrite_call (l : List OpV) (hl : OpsW l) : PCall Tryz.prog 9 [.list (opsD l)] (fun r => r = resTP (writeP l)) := by
 have hlen := opsD_length l
 generalize hR : writeP l = R
 unfold writeP at hR
 have bad : ∀ (e : Nat), R = .bad e → e ≠ 0 → Res.tup [.str [], .iface 50 (.int .i64 e)] = resTP R := fun e he h0 => by rw [he, resTP, errD_ne h0]
 refine lift_ops_Write.call rfl ?_
 simp (maxSteps := 2000000) only [go_sem, ↓reduceIte, L_ops_Write, R_ops_Write, hlen]
 refine ⟨fun h1 => by have := hl.1; omega, fun h1 => ?_⟩
 rw [if_neg (by omega)] at hR
 refine run_loop (fun y : Nat × Bld => ⟨[(0, .d (.list (opsD l))), (4, .ptr (.l 4) 0), (15, .d (.list (opsD l))), (16, .d (.int .i64 l.length)), (17, .d (.int .i64 y.1))], [(4, Bld.at (.l 4) y.2)], []⟩)
  (fun y => y.1 ≤ l.length ∧ y.2.bytes.length ≤ 900000 * y.1 ∧ opsT (l.drop y.1) y.2.bytes = opsT l []) (fun y => l.length - y.1) (0, .new) ?_ ?_ ?_
 ·refine Weak.mk ?_ ?_ ?_ <;> simp (maxSteps := 2000000) only [go_sem, ↓reduceIte, Sub, Int.natCast_add, Int.natCast_mul, Bld.at]
 ·exact ⟨by simp, by simp [Bld.bytes], rfl⟩
 ·rintro ⟨i, b⟩ ⟨g1, g2, g3⟩
  simp only at g1 g2 g3
  have hl1 := hl.1
  simp (maxSteps := 2000000) only [go_sem, ↓reduceIte, hlen]
  refine ⟨fun q1 => ?_, fun q1 => ?_⟩
  ·obtain ⟨o, ho⟩ := get_some (l := l) (i := i) (by omega)
   have hd := opsD_get ho
   obtain ⟨hi1, hi2, hi3⟩ := hl.2 o (List.mem_of_getElem? ho)
   have hal := valsD_len o.args
   rw [drop_at ho, opsT] at g3
   have bad' : ∀ (e : Nat), opsT l [] = .bad e → e ≠ 0 → Res.tup [.str [], .iface 50 (.int .i64 e)] = resTP R := fun e he h0 => bad e (by rw [← hR, he]) h0
   simp (maxSteps := 2000000) (disch := omega) only [go_sem, ↓reduceIte, getI_nat, hd, hal]
   refine CallG.of (operator_call _) ?_
   simp (maxSteps := 2000000) (disch := omega) only [go_sem, ↓reduceIte, getI_nat, hd, hal]
   refine ⟨fun q2 => ?_, fun q2 => ⟨fun q3 => ?_, fun q3 => ?_⟩⟩
   ·rw [if_neg (by simp [q2])] at g3
    exact bad' 3 g3.symm (by decide)
   ·rw [if_pos q2, if_pos (by omega)] at g3
    exact bad' 10 g3.symm (by decide)
   ·rw [if_pos q2, if_neg (by omega)] at g3
    refine run_loop (fun y : Nat × Bld => ⟨[(0, .d (.list (opsD l))), (4, .ptr (.l 4) 0), (15, .d (.list (opsD l))), (16, .d (.int .i64 l.length)), (17, .d (.int .i64 i)), (6, .ptr (.l 6) 0), (32, .d (.list (valsD o.args))), (33, .d (.int .i64 o.args.length)), (34, .d (.int .i64 y.1))],
      [(4, Bld.at (.l 4) y.2), (6, .cells [.d (.str o.nm), .d (.list (valsD o.args))])], []⟩)
     (fun y => y.1 ≤ o.args.length ∧ y.2.bytes.length ≤ 900000 * i + 70001 * y.1 ∧ argsT (o.args.drop y.1) y.2.bytes = argsT o.args b.bytes) (fun y => o.args.length - y.1) (0, b) ?_ ?_ ?_
    ·refine Weak.mk ?_ ?_ ?_ <;> simp (maxSteps := 2000000) only [go_sem, ↓reduceIte, Sub, Int.natCast_add, Int.natCast_mul]
     cases b <;> rfl
    ·exact ⟨by simp, by simp only; omega, rfl⟩
    ·rintro ⟨k, b2⟩ ⟨f1, f2, f3⟩
     simp only at f1 f2 f3
     simp (maxSteps := 2000000) (disch := omega) only [go_sem, ↓reduceIte, getI_nat, hd, hal]
     refine ⟨fun r1 => ?_, fun r1 => ?_⟩
     ·obtain ⟨v, hv⟩ := get_some (l := o.args) (i := k) (by omega)
      have hvd := valsD_getV hv
      obtain ⟨s1, s2, s3⟩ := hi3 v (List.mem_of_getElem? hv)
      rw [drop_at hv, argsT] at f3
      have hx := textV_call v s1
      rw [Val.d_eq v] at hx
      simp (maxSteps := 2000000) (disch := omega) only [go_sem, ↓reduceIte, getI_nat, hd, hvd, hal]
      refine CallG.of hx ?_
      by_cases f0 : faultV v = 0
      ·rw [if_pos f0] at f3
       have s3' := s3 f0
       rw [textR, if_pos f0]
       simp (maxSteps := 2000000) (disch := omega) only [go_sem, ↓reduceIte, getI_nat, hd, hvd, hal]
       refine ⟨by omega, ?_⟩
       refine bldCall (.l 4) rfl (writeString_at b2 (textV v ++ [32]) (by simp; omega)) rfl rfl (by cases b2 <;> rfl) rfl ?_
       simp (maxSteps := 2000000) (disch := omega) only [go_sem, ↓reduceIte]
       refine ⟨(k + 1, .has (b2.bytes ++ (textV v ++ [32]))), ?_, ⟨by simp only; omega, by simp only [Bld.bytes_has, List.length_append, List.length_cons, List.length_nil]; omega, by simp only [Bld.bytes_has]; rw [← List.append_assoc]; exact f3⟩, by simp only; omega⟩
       refine Weak.mk ?_ ?_ ?_ <;> simp (maxSteps := 2000000) only [go_sem, ↓reduceIte, Sub, Int.natCast_add, Int.natCast_mul]
      ·rw [if_neg f0] at f3
       rw [← f3] at g3
       rw [textR, if_neg f0, errD_ne f0]
       simp (maxSteps := 2000000) (disch := omega) only [go_sem, ↓reduceIte]
       exact bad' _ g3.symm f0
     ·rw [List.drop_eq_nil_of_le (by omega), argsT] at f3
      rw [← f3] at g3
      simp only at g3
      refine ⟨by omega, ?_⟩
      refine bldCall (.l 4) rfl (writeString_at b2 (o.nm ++ [10]) (by simp; omega)) rfl rfl rfl rfl ?_
      simp (maxSteps := 2000000) (disch := omega) only [go_sem, ↓reduceIte]
      refine ⟨(i + 1, .has (b2.bytes ++ (o.nm ++ [10]))), ?_, ⟨by simp only; omega, by simp only [Bld.bytes_has, List.length_append, List.length_cons, List.length_nil]; omega, by simp only [Bld.bytes_has]; rw [← List.append_assoc]; exact g3⟩, by simp only; omega⟩
      refine Weak.mk ?_ ?_ ?_ <;> simp (maxSteps := 2000000) only [go_sem, ↓reduceIte, Sub, Int.natCast_add, Int.natCast_mul]
  ·rw [List.drop_eq_nil_of_le (by omega), opsT] at g3
   rw [← g3] at hR
   simp only at hR
   refine bldCall (.l 4) rfl (len_at b) rfl rfl rfl rfl ?_
   simp (maxSteps := 2000000) only [go_sem, ↓reduceIte]
   refine ⟨fun q2 => ?_, fun q2 => ?_⟩
   ·rw [if_pos (by omega)] at hR
    exact bad 2 hR.symm (by decide)
   ·rw [if_neg (by omega)] at hR
    rw [← hR, resTP]
    have h3 := string_call b (by omega)
    rw [Bld.obj_at] at h3
    cases b with
    | new =>
     simp only [Bld.at, Bld.said, Bld.obj, Bld.bytes] at h3 ⊢
     refine PrimG.mc1 (.l 4) rfl (h3) rfl rfl rfl rfl ⟨rfl, rfl⟩ ?_
     simp (maxSteps := 2000000) only [go_sem, ↓reduceIte]
    | nul =>
     simp only [Bld.at, Bld.said, Bld.obj, Bld.bytes] at h3 ⊢
     refine PrimG.mc1 (.l 4) rfl (h3) rfl rfl rfl rfl ⟨rfl, rfl⟩ ?_
     simp (maxSteps := 2000000) only [go_sem, ↓reduceIte]
    | has s =>
     simp only [Bld.at, Bld.said, Bld.obj, Bld.bytes] at h3 ⊢
     refine PrimG.mc1 (.l 4) rfl (h3) rfl rfl rfl rfl ⟨rfl, rfl⟩ ?_
     simp (maxSteps := 2000000) only [go_sem, ↓reduceIte]
def L_foliowrightref_Ops : LCode :=
 .seq (.reg [⟨some 2, .nils 48 2, none⟩, Qx 3 (Ki 0)]) (.seq (.seq (.reg [Qc 12 0, Q 13 (.len true (.t 12)), Q 14 (.bin .gtr (.t 13) (Ki 20000))]) (.cond (.t 14) (.seq (.reg [⟨some 
 2, .nils 48 2, none⟩, Qx 3 (Ki 2)]) .ret) .skip)) (.seq (.reg [⟨some 4, .nils 48 2, none⟩]) (.seq (.reg [⟨some 5, .nils 41 5, none⟩]) (.seq (.reg [Qc 15 0, ⟨some 16, .call 21 [.t 
 15, .k (.d (.int .i64 0))], none⟩, Qa 6 16]) (.seq (.block 0 (.loop (.seq (.seq (.reg [Qc 17 6, Qc 18 0, Q 19 (.len true (.t 18)), Q 20 (.bin .lss (.t 17) (.t 19))]) (.cond (.t 
 20) .skip (.exit 0))) (.block 1 (.seq (.reg [Qc 21 0, Qc 22 6, ⟨some 23, .call 22 [.t 21, .t 22], none⟩, Qa 7 23]) (.seq (.reg [Qc 24 7, ⟨some 25, .call 23 [.t 24], none⟩, Qa 8 
 25]) (.seq (.seq (.reg [Qc 26 8]) (.cond (.t 26) (.seq (.seq (.reg [Qc 27 4, Q 28 (.len false (.t 27)), Q 29 (.bin .eql (.t 28) (Ki 2000))]) (.cond (.t 29) (.seq (.reg [⟨some 2, 
 .nils 48 2, none⟩, Qx 3 (Ki 2)]) .ret) .skip)) (.seq (.reg [Qc 30 4, Qc 31 7, Qc 32 5, Q 33 (.bld [(0, 1), (1, 1)] [.str [], .list []] [] [(0, .t 31), (1, .t 32)]), ⟨some 34, 
 .bsl 48 2 [.t 33], none⟩, ⟨some 35, .app 48 2 40 false (.t 30) (.t 34), none⟩, Qa 4 35]) (.seq (.reg [⟨some 5, .nils 41 5, none⟩]) (.seq (.reg [Qc 36 0, Qc 37 6, Qc 38 7, Q 39 
 (.len true (.t 38)), Q 40 (.bin .add (.t 37) (.t 39)), ⟨some 41, .call 21 [.t 36, .t 40], none⟩, Qa 6 41]) (.exit 1))))) .skip)) (.seq (.reg [Qc 43 0, Qc 44 6, ⟨some 45, .call 24 
 [.t 43, .t 44], none⟩, Qc 42 45, Q 46 (.ext 0 (.t 42)), Q 47 (.ext 1 (.t 42)), Q 48 (.ext 2 (.t 42)), ⟨some 9, .allo [.int .i64 0, .int .i64 0, .str [], .list [], .list []], 
 none⟩, ⟨none, .st 5 (.t 9) (.t 46), none⟩, Qa 10 47, Qa 11 48]) (.seq (.seq (.reg [Qc 49 11, Q 50 (.bin .gtr (.t 49) (Ki 0))]) (.cond (.t 50) (.seq (.reg [Qc 51 11, ⟨some 2, 
 .nils 48 2, none⟩, Qa 3 51]) .ret) .skip)) (.seq (.seq (.reg [Qc 52 5, Q 53 (.len false (.t 52)), Q 54 (.bin .eql (.t 53) (Ki 8))]) (.cond (.t 54) (.seq (.reg [⟨some 2, .nils 48 
 2, none⟩, Qx 3 (Ki 10)]) .ret) .skip)) (.seq (.reg [Qc 55 5, Q 56 (.ld true 5 (.t 9)), ⟨some 57, .bsl 41 5 [.t 56], none⟩, ⟨some 58, .app 41 5 80 false (.t 55) (.t 57), none⟩, Qa 
 5 58]) (.reg [Qc 59 0, Qc 60 10, ⟨some 61, .call 21 [.t 59, .t 60], none⟩, Qa 6 61])))))))))))) (.seq (.seq (.reg [Qc 62 5, Q 63 (.len false (.t 62)), Q 64 (.bin .gtr (.t 63) (Ki 
 0))]) (.cond (.t 64) (.seq (.reg [⟨some 2, .nils 48 2, none⟩, Qx 3 (Ki 5)]) .ret) .skip)) (.seq (.reg [Qc 65 4, Qa 2 65, Qx 3 (Ki 0)]) .ret)))))))
def R_foliowrightref_Ops : List LRes := [.tmp 2, .tmp 3]
theorem lift_foliowrightref_Ops : Lifts Tryz.prog 8 66 L_foliowrightref_Ops R_foliowrightref_Ops := ⟨_, _, Tryz.func8, rfl, by kernel_rfl, by kernel_rfl, rfl⟩
theorem opsRef_call (s : List UInt8) (hs : s.length ≤ 1000000000) : PCall Tryz.prog 8 [.str s] (fun r => r = resON (opsP s)) := by
 generalize hR : opsP s = R
 unfold opsP at hR
 have bad : ∀ (e : Nat), R = .bad e → e ≠ 0 → Res.tup [.list [], .int .i64 e] = resON R := fun e he h0 => by rw [he, resON]
 refine lift_foliowrightref_Ops.call rfl ?_
 simp (maxSteps := 2000000) only [go_sem, ↓reduceIte, L_foliowrightref_Ops, R_foliowrightref_Ops]
 refine ⟨fun h1 => ?_, fun h1 => ?_⟩
 ·rw [if_pos (by omega)] at hR
  exact bad 2 hR.symm (by decide)
 ·have hsk := skipR_call s 0 hs
  have hc0 : clampP s 0 = 0 := by unfold clampP; omega
  rw [hc0] at hsk
  rw [if_neg (by omega)] at hR
  refine CallG.of hsk ?_
  simp (maxSteps := 2000000) only [go_sem, ↓reduceIte]
  refine run_loop (fun y : Nat × List OpV × List Val => ⟨[(0, .d (.str s)), (4, .own (.t 4) 48 2 (opsD y.2.1)), (5, .own (.t 5) 41 5 (valsD y.2.2)), (6, .d (.int .i64 y.1))], [], []⟩)
   (fun y => y.1 ≤ s.length ∧ y.2.1.length ≤ 2000 ∧ y.2.2.length ≤ 8 ∧ (∀ v ∈ y.2.2, v.sm 1048576 = true) ∧ ∃ m, s.length - y.1 < m ∧ opsF s m y.2.1 y.2.2 y.1 = R) (fun y => s.length - y.1) (skipP s 0, [], []) ?_ ?_ ?_
  ·refine weak_mk ?_ trivial
   simp (maxSteps := 2000000) only [go_sem, ↓reduceIte, Sub, Int.natCast_add, Int.natCast_mul, opsD, valsD, List.map_nil]
  ·have := skipP_le (s := s) (k := 0) (by omega)
   exact ⟨this.2, by simp, by simp, by simp, s.length + 1, by simp; omega, hR⟩
  ·rintro ⟨at_, l, args⟩ ⟨g1, g2, g3, g4, m, g5, g6⟩
   simp only at g1 g2 g3 g4 g5 g6
   obtain ⟨m, rfl⟩ : ∃ k, m = k + 1 := ⟨m - 1, by omega⟩
   rw [opsF] at g6
   have hll := opsD_length l
   have hal : (valsD args).length = args.length := by simp [valsD_eq]
   have hw := wordR_call s (at_ : Int) hs
   rw [clamp_in g1] at hw
   have hwl := wordP_len s at_
   simp (maxSteps := 2000000) only [go_sem, ↓reduceIte]
   refine ⟨fun q1 => ?_, fun q1 => ?_⟩
   ·rw [if_neg (by omega)] at g6
    refine CallG.of hw ?_
    simp (maxSteps := 2000000) only [go_sem, ↓reduceIte]
    refine CallG.of (operatorMay_call _) ?_
    simp (maxSteps := 2000000) (disch := omega) only [go_sem, ↓reduceIte]
    refine ⟨fun q2 => ⟨fun q3 => ?_, fun q3 => ⟨⟨by omega, by omega⟩, ?_⟩⟩, fun q2 => ?_⟩
    ·rw [if_pos q2, if_pos (by omega)] at g6
     exact bad 2 g6.symm (by decide)
    ·rw [if_pos q2, if_neg (by omega)] at g6
     have hml := opMay_len q2
     have hsk2 := skipR_call s ((at_ + (wordP s at_).length : Nat) : Int) hs
     rw [clamp_in (by omega), Int.natCast_add] at hsk2
     refine CallG.of hsk2 ?_
     simp (maxSteps := 2000000) only [go_sem, ↓reduceIte]
     have hle := skipP_le (s := s) (k := at_ + (wordP s at_).length) (by omega)
     refine ⟨(skipP s (at_ + (wordP s at_).length), l ++ [⟨wordP s at_, args⟩], []), ?_, ⟨hle.2, by simp; omega, by simp, by simp, m, by simp only; omega, g6⟩, by simp only; omega⟩
     refine weak_mk ?_ trivial
     simp (maxSteps := 2000000) only [go_sem, ↓reduceIte, Sub, Int.natCast_add, Int.natCast_mul, opsD_snoc, valsD, List.map_nil]
    ·rw [if_neg (by simp [q2])] at g6
     have hv := readTop_call s (at_ : Int) hs
     cases hx : valueP s (at_ : Int) with
     | bad e =>
      rw [hx] at g6 hv
      have he := valueP_ne0 hx
      rw [topRes, zeroV_d] at hv
      have e1 : (0 < (e : Int)) = True := eq_true (by omega)
      refine CallG.of hv ?_
      simp (maxSteps := 2000000) only [go_sem, ↓reduceIte, e1]
      exact bad e g6.symm (by omega)
     | ok v k =>
      rw [hx] at g6 hv
      obtain ⟨e1, e2, e3⟩ := valueP_in hx
      rw [topRes, Val.d_eq v] at hv
      refine CallG.of hv ?_
      simp (maxSteps := 2000000) (disch := omega) only [go_sem, ↓reduceIte]
      simp only at g6
      refine ⟨fun q3 => ?_, fun q3 => ⟨⟨by omega, by omega⟩, ?_⟩⟩
      ·rw [if_pos (by omega)] at g6
       exact bad 10 g6.symm (by decide)
      ·rw [if_neg (by omega)] at g6
       have hsk2 := skipR_call s (k : Int) hs
       rw [clamp_in e2] at hsk2
       refine CallG.of hsk2 ?_
       simp (maxSteps := 2000000) only [go_sem, ↓reduceIte]
       have hle := skipP_le e2
       refine ⟨(skipP s k, l, args ++ [v]), ?_, ⟨hle.2, g2, by simp; omega, fun x hx => by
        rcases List.mem_append.1 hx with h | h
        ·exact g4 x h
        ·simp only [List.mem_singleton] at h; subst h; exact e3, m, by simp only; omega, g6⟩, by simp only; omega⟩
       refine weak_mk ?_ trivial
       simp (maxSteps := 2000000) only [go_sem, ↓reduceIte, Sub, Int.natCast_add, Int.natCast_mul, valsD_snoc, Val.d_eq v]
   ·rw [if_pos (by omega)] at g6
    refine ⟨fun q2 => ?_, fun q2 => ?_⟩
    ·rw [if_neg (fun e => by subst e; simp [valsD] at q2)] at g6
     exact bad 5 g6.symm (by decide)
    ·have : args = [] := List.length_eq_zero_iff.1 (by omega)
     rw [if_pos this] at g6
     rw [← g6, resON]
def OpsGood (l : List OpV) : Prop := l.length ≤ 2000 ∧ ∀ o ∈ l, o.args.length ≤ 8 ∧ ∀ v ∈ o.args, v.sm 1048576 = true
theorem opsF_good (s : List UInt8) : ∀ (m : Nat) (l : List OpV) (args : List Val) (a : Nat) {l' : List OpV}, OpsGood l → args.length ≤ 8 → (∀ v ∈ args, v.sm 1048576 = true) → opsF s m l args a = .ok l' → OpsGood l'
 | 0, _, _, _, _, _, _, _, h => by cases h
 | m + 1, l, args, a, l', hl, ha, hv, h => by
  rw [opsF] at h
  split at h
  ·split at h
   ·cases h; exact hl
   ·cases h
  ·split at h
   ·split at h
    ·cases h
    ·refine opsF_good s m _ _ _ ⟨?_, ?_⟩ (by simp) (by simp) h
     ·have := hl.1
      rw [List.length_append]; simp only [List.length_cons, List.length_nil]; omega
     ·intro o ho
      rcases List.mem_append.1 ho with h1 | h1
      ·exact hl.2 o h1
      ·simp only [List.mem_singleton] at h1
       subst h1
       exact ⟨ha, hv⟩
   ·split at h
    ·cases h
    ·rename_i v k hx
     split at h
     ·cases h
     ·refine opsF_good s m _ _ _ hl (by simp; omega) (fun x hx' => ?_) h
      rcases List.mem_append.1 hx' with h1 | h1
      ·exact hv x h1
      ·simp only [List.mem_singleton] at h1
       subst h1
       exact (valueP_in hx).2.2
theorem opsP_good {s : List UInt8} {l : List OpV} (h : opsP s = .ok l) : OpsGood l := by
 unfold opsP at h
 split at h
 ·cases h
 ·exact opsF_good s _ _ _ _ ⟨by simp, by simp⟩ (by simp) (by simp) h
def L_foliowrightref_SameOps : LCode :=
 .seq (.reg [Qx 4 KF]) (.seq (.seq (.reg [Qc 8 0, Q 9 (.len false (.t 8)), Qc 10 1, Q 11 (.len false (.t 10)), Q 12 (.bin .neq (.t 9) (.t 11))]) (.cond (.t 12) (.seq (.reg [Qx 4 
 KF]) .ret) .skip)) (.seq (.seq (.reg [Qx 5 (Ki 0)]) (.block 0 (.loop (.seq (.seq (.reg [Qc 13 5, Qc 14 0, Q 15 (.len false (.t 14)), Q 16 (.bin .lss (.t 13) (.t 15))]) (.cond (.t 
 16) .skip (.exit 0))) (.seq (.block 1 (.seq (.seq (.dreg [Qc 19 0, Qc 20 5, Q 21 (.ia 2 (.t 19) (.t 20)), Q 22 (.fa 0 (.t 21)), Q 23 (.ld false 1 (.t 22)), Qc 24 1, Qc 25 5, Q 26 
 (.ia 2 (.t 24) (.t 25)), Q 27 (.fa 0 (.t 26)), Q 28 (.ld false 1 (.t 27)), Q 29 (.bin .neq (.t 23) (.t 28)), Qc 30 29, Qd 31 0 30 false, Qd 32 5 30 false, Qg 33 (.ia 2 (.t 31) 
 (.t 32)) 30 false, Qg 34 (.fa 1 (.t 33)) 30 false, Qg 35 (.ld false 1 (.t 34)) 30 false, Qg 36 (.len false (.t 35)) 30 false, Qd 37 1 30 false, Qd 38 5 30 false, Qg 39 (.ia 2 (.t 
 37) (.t 38)) 30 false, Qg 40 (.fa 1 (.t 39)) 30 false, Qg 41 (.ld false 1 (.t 40)) 30 false, Qg 42 (.len false (.t 41)) 30 false, Qg 43 (.bin .neq (.t 36) (.t 42)) 30 false, Q 44 
 (.pick (.t 30) KT (.t 43))]) (.cond (.t 44) (.seq (.reg [Qx 4 KF]) .ret) .skip)) (.seq (.reg [Qx 6 (Ki 0)]) (.block 2 (.loop (.seq (.seq (.reg [Qc 45 6, Qc 46 0, Qc 47 5, Q 48 
 (.ia 2 (.t 46) (.t 47)), Q 49 (.fa 1 (.t 48)), Q 50 (.ld false 1 (.t 49)), Q 51 (.len false (.t 50)), Q 52 (.bin .lss (.t 45) (.t 51))]) (.cond (.t 52) .skip (.exit 2))) (.seq 
 (.block 3 (.seq (.dreg [Qc 55 0, Qc 56 5, Q 57 (.ia 2 (.t 55) (.t 56)), Q 58 (.fa 1 (.t 57)), Q 59 (.ld false 1 (.t 58)), Qc 60 6, Q 61 (.ia 5 (.t 59) (.t 60)), Q 62 (.ld true 5 
 (.t 61)), Qc 63 1, Qc 64 5, Q 65 (.ia 2 (.t 63) (.t 64)), Q 66 (.fa 1 (.t 65)), Q 67 (.ld false 1 (.t 66)), Qc 68 6, Q 69 (.ia 5 (.t 67) (.t 68)), Q 70 (.ld true 5 (.t 69)), 
 ⟨some 71, .call 30 [.t 62, .t 70], none⟩, Qa 7 71]) (.seq (.reg [Qc 72 7, Q 73 (.not (.t 72))]) (.cond (.t 73) (.seq (.reg [Qx 4 KF]) .ret) .skip)))) (.reg [Qc 53 6, Q 54 (.bin 
 .add (.t 53) (Ki 1)), Qa 6 54])))))))) (.reg [Qc 17 5, Q 18 (.bin .add (.t 17) (Ki 1)), Qa 5 18])))))) (.seq (.reg [Qx 4 KT]) .ret)))
def R_foliowrightref_SameOps : List LRes := [.tmp 4]
theorem lift_foliowrightref_SameOps : Lifts Tryz.prog 12 74 L_foliowrightref_SameOps R_foliowrightref_SameOps := ⟨_, _, Tryz.func12, rfl, by kernel_rfl, by kernel_rfl, rfl⟩
theorem sameOps_call (l : List OpV) (hl : OpsGood l) : PCall Tryz.prog 12 [.list (opsD l), .list (opsD l)] (fun r => r = .one (.bool true)) := by
 have hlen := opsD_length l
 have hl1 := hl.1
 refine lift_foliowrightref_SameOps.call rfl ?_
 simp (maxSteps := 2000000) only [go_sem, ↓reduceIte, L_foliowrightref_SameOps, R_foliowrightref_SameOps, hlen]
 refine run_loop (fun i : Nat => ⟨[(0, .d (.list (opsD l))), (1, .d (.list (opsD l))), (5, .d (.int .i64 i))], [], []⟩)
  (fun i => i ≤ l.length) (fun i => l.length - i) 0 ?_ ?_ ?_
 ·refine weak_mk ?_ trivial
  simp (maxSteps := 2000000) only [go_sem, ↓reduceIte, Sub, Int.natCast_add, Int.natCast_mul]
 ·omega
 ·intro i hi
  simp (maxSteps := 2000000) only [go_sem, ↓reduceIte, hlen]
  intro q1
  obtain ⟨o, ho⟩ := get_some (l := l) (i := i) (by omega)
  have hd := opsD_get ho
  obtain ⟨hi1, hi2⟩ := hl.2 o (List.mem_of_getElem? ho)
  have hal := valsD_len o.args
  simp (maxSteps := 2000000) (disch := omega) only [go_sem, ↓reduceIte, getI_nat, hd, hal]
  refine run_loop (fun k : Nat => ⟨[(0, .d (.list (opsD l))), (1, .d (.list (opsD l))), (5, .d (.int .i64 i)), (6, .d (.int .i64 k))], [], []⟩)
   (fun k => k ≤ o.args.length) (fun k => o.args.length - k) 0 ?_ ?_ ?_
  ·refine weak_mk ?_ trivial
   simp (maxSteps := 2000000) only [go_sem, ↓reduceIte, Sub, Int.natCast_add, Int.natCast_mul]
  ·omega
  ·intro k hk
   simp (maxSteps := 2000000) (disch := omega) only [go_sem, ↓reduceIte, getI_nat, hd, hal]
   refine ⟨fun r1 => ?_, fun r1 => ?_⟩
   ·obtain ⟨v, hv⟩ := get_some (l := o.args) (i := k) (by omega)
    have hvd := valsD_getV hv
    have hc := alikeR_call _ v v (Nat.le_refl _) (hi2 v (List.mem_of_getElem? hv))
    rw [alikeV_refl, Val.d_eq v] at hc
    simp (maxSteps := 2000000) (disch := omega) only [go_sem, ↓reduceIte, getI_nat, hd, hvd, hal]
    refine CallD.of hc ?_
    simp (maxSteps := 2000000) (disch := omega) only [go_sem, ↓reduceIte, getI_nat, hd, hvd, hal]
    refine ⟨k + 1, ?_, by omega, by omega⟩
    refine weak_mk ?_ trivial
    simp (maxSteps := 2000000) only [go_sem, ↓reduceIte, Sub, Int.natCast_add, Int.natCast_mul]
   ·refine ⟨i + 1, ?_, by omega, by omega⟩
    refine weak_mk ?_ trivial
    simp (maxSteps := 2000000) only [go_sem, ↓reduceIte, Sub, Int.natCast_add, Int.natCast_mul]
def tellsT : List UInt8 := [49, 32, 50, 32, 84, 100, 32, 40, 120, 41, 32, 84, 106]
def goodOp : RO → Bool
 | .ok [a, b] => decide (b.nm = [84, 106]) && decide (a.args.length = 2)
 | _ => false
theorem goodOp_ : goodOp (opsP tellsT) = true := by kernel_rfl
theorem tells_val : ∃ a b, opsP tellsT = .ok [a, b] ∧ b.nm = [84, 106] ∧ a.args.length = 2 := by
 have h := goodOp_
 cases hx : opsP tellsT with
 | bad e => rw [hx] at h; cases h
 | ok l =>
  rw [hx] at h
  match l, h with
  | [a, b], h =>
   simp only [goodOp, Bool.and_eq_true, decide_eq_true_eq] at h
   exact ⟨a, b, rfl, h.1, h.2⟩
def L_foliowrightlaw_tells : LCode :=
 .seq (.reg [Qx 0 KF]) (.seq (.reg [⟨some 4, .call 7 [.k (.d (.str [49, 32, 50, 32, 84, 100, 32, 40, 120, 41, 32, 84, 106]))], none⟩, Qc 3 4, Q 5 (.ext 0 (.t 3)), Q 6 (.ext 1 (.t 
 3)), Qa 1 5, Qa 2 6]) (.seq (.reg [Qc 7 2, ⟨some 8, .call 11 [.t 7, .k (.d (.int .i64 0))], none⟩, Qc 9 8, Qd 10 1 9 true, Qg 11 (.len false (.t 10)) 9 true, Qg 12 (.bin .eql (.t 
 11) (Ki 2)) 9 true, Q 13 (.pick (.t 9) (.t 12) KF), Qc 14 13, Qd 15 1 14 true, Qg 16 (.ia 2 (.t 15) (Ki 1)) 14 true, Qg 17 (.fa 0 (.t 16)) 14 true, Qg 18 (.ld false 1 (.t 17)) 14 
 true, Qg 19 (.bin .eql (.t 18) (.k (.d (.str [84, 106])))) 14 true, Q 20 (.pick (.t 14) (.t 19) KF), Qc 21 20, Qd 22 1 21 true, Qg 23 (.ia 2 (.t 22) (Ki 0)) 21 true, Qg 24 (.fa 1 
 (.t 23)) 21 true, Qg 25 (.ld false 1 (.t 24)) 21 true, Qg 26 (.len false (.t 25)) 21 true, Qg 27 (.bin .eql (.t 26) (Ki 2)) 21 true, Q 28 (.pick (.t 21) (.t 27) KF), Qa 0 28]) 
 .ret))
def R_foliowrightlaw_tells : List LRes := [.tmp 0]
theorem lift_foliowrightlaw_tells : Lifts Tryz.prog 5 29 L_foliowrightlaw_tells R_foliowrightlaw_tells := ⟨_, _, Tryz.func5, rfl, by kernel_rfl, by kernel_rfl, rfl⟩
theorem tells_call : PCall Tryz.prog 5 [] (fun r => r = .one (.bool true)) := by
 obtain ⟨a, b, h1, h2, h3⟩ := tells_val
 have hc := opsParse_call tellsT (by decide)
 have hd : opsD [a, b] = [.agg [.str a.nm, .list (valsD a.args)], .agg [.str [84, 106], .list (valsD b.args)]] := by rw [← h2]; rfl
 rw [h1, resOP, hd] at hc
 have hl : ((valsD a.args).length : Int) = 2 := by rw [valsD_len, h3]; rfl
 have g0 : ∀ x y : D, getI [x, y] 0 = some x := fun _ _ => rfl
 have g1 : ∀ x y : D, getI [x, y] 1 = some y := fun _ _ => rfl
 refine lift_foliowrightlaw_tells.call rfl ?_
 simp (maxSteps := 2000000) only [go_sem, ↓reduceIte, L_foliowrightlaw_tells, R_foliowrightlaw_tells]
 refine CallG.of hc ?_
 simp (maxSteps := 2000000) only [go_sem, ↓reduceIte]
 refine CallG.of (same_law 0 0) ?_
 simp (maxSteps := 2000000) only [go_sem, ↓reduceIte, hl, g0, g1]
theorem opsW_of {l : List OpV} (h1 : OpsIn l) (h2 : OpsLight l) (h3 : ∀ o ∈ l, ∀ v ∈ o.args, (ptV v).1 ≤ 1048576) : OpsW l :=
 ⟨h2.1, fun o ho => ⟨(h2.2 o ho).2.1, (h2.2 o ho).1, fun v hv => by
  obtain ⟨s1, s2⟩ := (h1.2 o ho).2.2 v hv
  refine ⟨s1, h3 o ho v hv, fun f0 => ?_⟩
  have hf := f0
  rw [faultV_0] at hf
  have q1 := aw_le v hf.2
  have q2 := (wt_aw 9000 v (by omega)).2.2 ((h2.2 o ho).2.2 v hv)
  have q3 := (h2.2 o ho).2.2 v hv
  omega⟩⟩
def L_foliowrightlaw_OpsSays : LCode :=
 .seq (.reg [Qx 4 KF]) (.seq (.reg [⟨some 14, .call 5 [], none⟩, Qa 5 14]) (.seq (.seq (.reg [Qc 15 5, Q 16 (.not (.t 15)), Qc 17 16, Qd 18 0 17 false, Qg 19 (.len true (.t 18)) 17 
 false, Qg 20 (.bin .gtr (.t 19) (Ki 3000)) 17 false, Q 21 (.pick (.t 17) KT (.t 20)), Qc 22 21, Qd 23 1 22 false, ⟨some 24, .call 6 [.t 23], some (22, false)⟩, Qg 25 (.not (.t 
 24)) 22 false, Q 26 (.pick (.t 22) KT (.t 25))]) (.cond (.t 26) (.seq (.reg [Qc 27 5, Qa 4 27]) .ret) .skip)) (.seq (.reg [Qc 29 0, ⟨some 30, .call 7 [.t 29], none⟩, Qc 28 30, Q 
 31 (.ext 0 (.t 28)), Q 32 (.ext 1 (.t 28)), Qa 6 31, Qa 7 32]) (.seq (.reg [Qc 34 0, ⟨some 35, .call 8 [.t 34], none⟩, Qc 33 35, Q 36 (.ext 0 (.t 33)), Q 37 (.ext 1 (.t 33)), Qa 
 8 36, Qa 9 37]) (.seq (.reg [Qc 39 1, ⟨some 40, .call 9 [.t 39], none⟩, Qc 38 40, Q 41 (.ext 0 (.t 38)), Q 42 (.ext 1 (.t 38)), Qa 10 41, Qa 11 42]) (.seq (.reg [Qc 44 1, ⟨some 
 45, .call 10 [.t 44], none⟩, Qc 43 45, Q 46 (.ext 0 (.t 43)), Q 47 (.ext 1 (.t 43)), Qa 12 46, Qa 13 47]) (.seq (.reg [Qc 48 7, Qc 49 9, ⟨some 50, .call 11 [.t 48, .t 49], none⟩, 
 Qc 51 50, Qd 52 11 51 true, Qd 53 13 51 true, ⟨some 54, .call 11 [.t 52, .t 53], some (51, true)⟩, Q 55 (.pick (.t 51) (.t 54) KF), Qc 56 55, Qd 57 6 56 true, Qd 58 8 56 true, 
 ⟨some 59, .call 12 [.t 57, .t 58], some (56, true)⟩, Q 60 (.pick (.t 56) (.t 59) KF), Qc 61 60, Qd 62 10 61 true, Qd 63 12 61 true, Qg 64 (.bin .eql (.t 62) (.t 63)) 61 true, Q 
 65 (.pick (.t 61) (.t 64) KF), Qa 4 65]) .ret)))))))
def R_foliowrightlaw_OpsSays : List LRes := [.tmp 4]
theorem lift_foliowrightlaw_OpsSays : Lifts Tryz.prog 3 66 L_foliowrightlaw_OpsSays R_foliowrightlaw_OpsSays := ⟨_, _, Tryz.func3, rfl, by kernel_rfl, by kernel_rfl, rfl⟩
theorem opsSays_call (s : List UInt8) (l : List OpV) (hl : OpsIn l) (hp : ∀ o ∈ l, ∀ v ∈ o.args, (ptV v).1 ≤ 1048576) : PCall Tryz.prog 3 [.str s, .list (opsD l)] (fun r => r = .one (.bool true)) := by
 refine lift_foliowrightlaw_OpsSays.call rfl ?_
 simp (maxSteps := 2000000) only [go_sem, ↓reduceIte, L_foliowrightlaw_OpsSays, R_foliowrightlaw_OpsSays]
 refine CallG.of tells_call ?_
 simp (maxSteps := 2000000) only [go_sem, ↓reduceIte]
 intro h1
 refine CallG.post (lightOps_call l hl) (fun r hr => ?_)
 obtain ⟨b, rfl, hb⟩ := hr
 cases b with
 | false => simp (maxSteps := 2000000) only [go_sem, ↓reduceIte]
 | true =>
  have hw := opsW_of hl (hb rfl) hp
  simp (maxSteps := 2000000) only [go_sem, ↓reduceIte]
  have c1 := opsParse_call s (by omega)
  have c2 := opsRef_call s (by omega)
  have c3 := opsWrite_call l hw
  have c4 := opsText_call l hw
  obtain ⟨x, e, e1, e2, e3⟩ : ∃ (x : List OpV) (e : Nat), resOP (opsP s) = .tup [.list (opsD x), errD e] ∧ resON (opsP s) = .tup [.list (opsD x), .int .i64 e] ∧ OpsGood x := by
   cases hx : opsP s with
   | ok x => exact ⟨x, 0, rfl, rfl, opsP_good hx⟩
   | bad e => exact ⟨[], e, rfl, rfl, by simp, by simp⟩
  obtain ⟨t, f, f1, f2⟩ : ∃ (t : List UInt8) (f : Nat), resTP (writeP l) = .tup [.str t, errD f] ∧ resTN (writeP l) = .tup [.str t, .int .i64 f] := by
   cases hx : writeP l with
   | ok t => exact ⟨t, 0, rfl, rfl⟩
   | bad f => exact ⟨[], f, rfl, rfl⟩
  rw [e1] at c1
  rw [e2] at c2
  rw [f1] at c3
  rw [f2] at c4
  refine CallG.of c1 ?_
  simp (maxSteps := 2000000) only [go_sem, ↓reduceIte]
  refine CallG.of c2 ?_
  simp (maxSteps := 2000000) only [go_sem, ↓reduceIte]
  refine CallG.of c3 ?_
  simp (maxSteps := 2000000) only [go_sem, ↓reduceIte]
  refine CallG.of c4 ?_
  simp (maxSteps := 2000000) only [go_sem, ↓reduceIte]
  refine CallG.of (same_law e e) ?_
  simp (maxSteps := 2000000) only [go_sem, ↓reduceIte]
  refine CallG.of (same_law f f) ?_
  simp (maxSteps := 2000000) only [go_sem, ↓reduceIte]
  refine CallG.of (sameOps_call x e3) ?_
  simp (maxSteps := 2000000) only [go_sem, ↓reduceIte]
theorem cells3 : Tryz.prog.cellsOf 3 = 1 := by kernel_rfl
theorem cells9 : Tryz.prog.cellsOf 9 = 1 := by kernel_rfl
theorem cellsL : Tryz.prog.cellsOf 38 = 1 := by kernel_rfl
theorem cellsF : Tryz.prog.cellsOf 39 = 1 := by kernel_rfl
theorem cellsV : Tryz.prog.cellsOf 41 = 5 := by kernel_rfl
theorem cellsX : Tryz.prog.cellsOf 77 = 6 := by kernel_rfl
theorem mkD_val (v : Val) : mkD v.d.cells = v.d := by rw [Val.d_eq]; rfl
theorem mkD_fld (x : Fld) : mkD x.d.cells = x.d := by rw [Fld.d_eq]; rfl
set_option maxRecDepth 100000 in
theorem val_of : ∀ k : Nat, (∀ ds, OfT Tryz.prog k 41 ds → ∃ v : Val, ds = v.d.cells) ∧ (∀ ds, OfT Tryz.prog k 77 ds → ∃ x : Fld, ds = x.d.cells) := by
 intro k
 induction k using Nat.strongRecOn with
 | _ k ih =>
  cases k with
  | zero => exact ⟨fun _ h => h.elim, fun _ h => h.elim⟩
  | succ k =>
   refine ⟨fun ds h => ?_, fun ds h => ?_⟩
   ·unfold OfT at h
    rw [Tryz.underlying41] at h
    obtain ⟨h1, h2⟩ := h
    rw [cellsV] at h1
    match ds, h1 with
    | [a, b, c, d, e], _ =>
     have f0 : OfT Tryz.prog k 3 (([a, b, c, d, e].drop 0).take (Tryz.prog.cellsOf 3)) := h2 0 _ rfl
     have f1 : OfT Tryz.prog k 3 (([a, b, c, d, e].drop 1).take (Tryz.prog.cellsOf 3)) := h2 1 _ rfl
     have f2 : OfT Tryz.prog k 9 (([a, b, c, d, e].drop 2).take (Tryz.prog.cellsOf 9)) := h2 2 _ rfl
     have f3 : OfT Tryz.prog k 38 (([a, b, c, d, e].drop 3).take (Tryz.prog.cellsOf 38)) := h2 3 _ rfl
     have f4 : OfT Tryz.prog k 39 (([a, b, c, d, e].drop 4).take (Tryz.prog.cellsOf 39)) := h2 4 _ rfl
     simp only [cells3, cells9, cellsL, cellsF, List.drop_zero, List.drop_succ_cons, List.take_succ_cons, List.take_zero] at f0 f1 f2 f3 f4
     obtain ⟨n0, e0, _⟩ := f0.int Tryz.underlying3
     obtain ⟨n1, e1, _⟩ := f1.int Tryz.underlying3
     obtain ⟨s, e2, _⟩ := f2.string Tryz.underlying9
     obtain ⟨l, m, hm, e3, _, hl⟩ := f3.slice Tryz.underlying38
     obtain ⟨f, m', hm', e4, _, hf⟩ := f4.slice Tryz.underlying39
     obtain ⟨ls, rfl⟩ := all_mapped (g := Val.d) (l := l) fun x hx => by
      obtain ⟨cs, q1, q2⟩ := hl x hx
      obtain ⟨v, rfl⟩ := (ih m (by omega)).1 cs q2
      exact ⟨v, by rw [q1, mkD_val]⟩
     obtain ⟨fs, rfl⟩ := all_mapped (g := Fld.d) (l := f) fun x hx => by
      obtain ⟨cs, q1, q2⟩ := hf x hx
      obtain ⟨y, rfl⟩ := (ih m' (by omega)).2 cs q2
      exact ⟨y, by rw [q1, mkD_fld]⟩
     simp only [List.cons.injEq, and_true] at e0 e1 e2 e3 e4
     refine ⟨.mk n0 n1 s ls fs, ?_⟩
     rw [mk_d, e0, e1, e2, e3, e4, valsD_eq, fldsD_eq]
     rfl
   ·unfold OfT at h
    rw [Tryz.underlying77] at h
    obtain ⟨h1, h2⟩ := h
    rw [cellsX] at h1
    match ds, h1 with
    | [a, b, c, d, e, f], _ =>
     have f0 : OfT Tryz.prog k 9 (([a, b, c, d, e, f].drop 0).take (Tryz.prog.cellsOf 9)) := h2 0 _ rfl
     have f1 : OfT Tryz.prog k 41 (([a, b, c, d, e, f].drop 1).take (Tryz.prog.cellsOf 41)) := h2 1 _ rfl
     simp only [cells9, cellsV, List.drop_zero, List.drop_succ_cons, List.take_succ_cons, List.take_zero] at f0 f1
     obtain ⟨s, e0, _⟩ := f0.string Tryz.underlying9
     obtain ⟨v, e1⟩ := (ih k (by omega)).1 _ f1
     simp only [List.cons.injEq, and_true] at e0
     refine ⟨.mk s v, ?_⟩
     rw [e0, e1]
     rfl
mutual
theorem bkV : ∀ (v : Val) (N : Nat), bkD v.d ≤ N → v.sm N = true ∧ (ptV v).1 ≤ bkD v.d
 | .mk k n s l f, N, h => by
  rw [mk_d] at h ⊢
  simp only [bkD, bkL] at h ⊢
  obtain ⟨a1, a2, a3⟩ := bkVL l N (by omega)
  obtain ⟨b1, b2, b3⟩ := bkVF f N (by omega)
  simp only [Val.sm, ptV, Bool.and_eq_true, decide_eq_true_eq]
  exact ⟨⟨by omega, by omega, by omega, a1, b1⟩, by omega⟩
theorem bkVL : ∀ (l : List Val) (N : Nat), bkL (valsD l) ≤ N → smL N l = true ∧ l.length ≤ bkL (valsD l) ∧ (ptL l).1 ≤ bkL (valsD l)
 | [], N, h => by simp [smL, ptL, valsD, bkL]
 | v :: r, N, h => by
  simp only [valsD, bkL] at h ⊢
  obtain ⟨a1, a2⟩ := bkV v N (by omega)
  obtain ⟨b1, b2, b3⟩ := bkVL r N (by omega)
  have := (ptV_pos v).1
  simp only [smL, ptL, Bool.and_eq_true, List.length_cons]
  exact ⟨⟨a1, b1⟩, by omega, by omega⟩
theorem bkVF : ∀ (l : List Fld) (N : Nat), bkL (fldsD l) ≤ N → smF N l = true ∧ l.length ≤ bkL (fldsD l) ∧ (ptF l).1 ≤ bkL (fldsD l)
 | [], N, h => by simp [smF, ptF, fldsD, bkL]
 | .mk nm v :: r, N, h => by
  have hd : bkD (Fld.mk nm v).d = nm.length + 1 + bkD v.d := by
   rw [fld_mk, Val.d_eq v]; simp only [bkD, bkL]
  simp only [fldsD, bkL, hd] at h ⊢
  obtain ⟨a1, a2⟩ := bkV v N (by omega)
  obtain ⟨b1, b2, b3⟩ := bkVF r N (by omega)
  have := (ptV_pos v).1
  simp only [smF, Fld.sm, ptF, Bool.and_eq_true, List.length_cons, decide_eq_true_eq]
  exact ⟨⟨⟨by omega, a1⟩, b1⟩, by omega, by omega⟩
end
theorem cellsO : Tryz.prog.cellsOf 48 = 2 := by kernel_rfl
theorem mkD_op (o : OpV) : mkD [.str o.nm, .list (valsD o.args)] = o.d := rfl
set_option maxRecDepth 100000 in
theorem op_of {k : Nat} {ds : List D} (h : OfT Tryz.prog k 48 ds) : ∃ o : OpV, ds = [.str o.nm, .list (valsD o.args)] := by
 cases k with
 | zero => exact h.elim
 | succ k =>
  unfold OfT at h
  rw [Tryz.underlying48] at h
  obtain ⟨h1, h2⟩ := h
  rw [cellsO] at h1
  match ds, h1 with
  | [a, b], _ =>
   have f0 : OfT Tryz.prog k 9 (([a, b].drop 0).take (Tryz.prog.cellsOf 9)) := h2 0 _ rfl
   have f1 : OfT Tryz.prog k 38 (([a, b].drop 1).take (Tryz.prog.cellsOf 38)) := h2 1 _ rfl
   simp only [cells9, cellsL, List.drop_zero, List.drop_succ_cons, List.take_succ_cons, List.take_zero] at f0 f1
   obtain ⟨s, e0, _⟩ := f0.string Tryz.underlying9
   obtain ⟨l, m, hm, e1, _, hl⟩ := f1.slice Tryz.underlying38
   obtain ⟨ls, rfl⟩ := all_mapped (g := Val.d) (l := l) fun x hx => by
    obtain ⟨cs, q1, q2⟩ := hl x hx
    obtain ⟨v, rfl⟩ := (val_of m).1 cs q2
    exact ⟨v, by rw [q1, mkD_val]⟩
   simp only [List.cons.injEq, and_true] at e0 e1
   exact ⟨⟨s, ls⟩, by rw [e0, e1, valsD_eq]⟩
theorem ops_of {k : Nat} {ds : List D} (h : OfT Tryz.prog k 22 ds) : ∃ l : List OpV, ds = [.list (opsD l)] := by
 obtain ⟨l, m, hm, e1, _, hl⟩ := h.slice Tryz.underlying22
 obtain ⟨ls, rfl⟩ := all_mapped (g := OpV.d) (l := l) fun x hx => by
  obtain ⟨cs, q1, q2⟩ := hl x hx
  obtain ⟨o, rfl⟩ := op_of q2
  exact ⟨o, by rw [q1, mkD_op]⟩
 exact ⟨ls, e1⟩
mutual
theorem aw_bk : ∀ v : Val, awV v ≤ bkD v.d
 | .mk k n s l f => by
  have h1 := awL_bk l
  have h2 := awF_bk f
  rw [mk_d]
  simp only [awV, bkD, bkL]
  omega
theorem awL_bk : ∀ l : List Val, awL l ≤ bkL (valsD l)
 | [] => by simp [awL]
 | v :: r => by
  have h1 := aw_bk v
  have h2 := awL_bk r
  simp only [awL, valsD, bkL]
  omega
theorem awF_bk : ∀ l : List Fld, awF l ≤ bkL (fldsD l)
 | [] => by simp [awF]
 | .mk nm v :: r => by
  have h1 := aw_bk v
  have h2 := awF_bk r
  simp only [awF, fldsD, bkL]
  have : nm.length + bkD v.d ≤ bkD (Fld.mk nm v).d := by
   rw [Fld.d_eq, Val.d_eq v]
   simp only [Fld.name, Fld.v, bkD, bkL, D.cells]
   omega
  omega
end
theorem bk_mem {x : D} : ∀ {l : List D}, x ∈ l → bkD x ≤ bkL l
 | y :: r, h => by
  simp only [bkL]
  rcases List.mem_cons.1 h with rfl | h
  ·omega
  ·have := bk_mem h; omega
theorem bk_op (o : OpV) : bkD o.d = o.nm.length + 1 + (bkL (valsD o.args) + 1) := by simp only [OpV.d, bkD, bkL]; try omega
theorem bk_lenO : ∀ l : List OpV, l.length ≤ bkL (opsD l)
 | [] => by simp
 | o :: r => by
  have := bk_lenO r
  have e : bkL (opsD (o :: r)) = bkD o.d + bkL (opsD r) := by simp only [opsD, List.map_cons, bkL]
  rw [e, bk_op]; simp only [List.length_cons]; omega
theorem bk_lenV : ∀ l : List Val, l.length ≤ bkL (valsD l)
 | [] => by simp
 | v :: r => by
  have := bk_lenV r
  have h := (bkV v _ (Nat.le_refl _)).2
  have := (ptV_pos v).1
  simp only [valsD, bkL, List.length_cons]; omega
theorem opsIn_of {l : List OpV} (h : bkD (.list (opsD l)) ≤ 1048576) : OpsIn l ∧ ∀ o ∈ l, ∀ v ∈ o.args, (ptV v).1 ≤ 1048576 := by
 simp only [bkD] at h
 have hlen := bk_lenO l
 have ho : ∀ o ∈ l, bkD o.d ≤ bkL (opsD l) := fun o ho => bk_mem (by unfold opsD; exact List.mem_map_of_mem ho)
 have hv : ∀ o ∈ l, ∀ v ∈ o.args, bkD v.d ≤ 1048576 := fun o h1 v h2 => by
  have := ho o h1
  rw [bk_op] at this
  have h3 : bkD v.d ≤ bkL (valsD o.args) := bk_mem (by rw [valsD_eq]; exact List.mem_map_of_mem h2)
  omega
 refine ⟨⟨by omega, fun o h1 => ?_⟩, fun o h1 v h2 => ?_⟩
 ·have := ho o h1
  rw [bk_op] at this
  have h4 := bk_lenV o.args
  exact ⟨by omega, by omega, fun v h2 => ⟨(bkV v 1048576 (hv o h1 v h2)).1, by have := aw_bk v; have := hv o h1 v h2; omega⟩⟩
 ·have := (bkV v 1048576 (hv o h1 v h2)).2
  have := hv o h1 v h2
  omega
end Go.Av.Tryz
