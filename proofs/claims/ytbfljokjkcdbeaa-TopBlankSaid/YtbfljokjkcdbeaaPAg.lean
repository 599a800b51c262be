import Derived.Test.YtbfljokjkcdbeaaPSh
import Derived.Test.YtbfljokjkcdbeaaPGood
import Derived.Test.YtbfljokjkcdbeaaPSkip
/- What stands behind a value, parted by a blank, tells nothing: the plain law. -/
set_option linter.unusedSimpArgs false
namespace Go.Av.Try
open Go.Proofs

/-! ### Rows alike so far -/
def Al (n : Nat) (t t' : List UInt8) : Prop := n ≤ t.length ∧ ∀ i, i < n → t'[i]? = t[i]?
theorem Al.cons {n : Nat} {c : UInt8} {r t' : List UInt8} (h : Al (n + 1) (c :: r) t') : ∃ r', t' = c :: r' ∧ Al n r r' := by
  obtain ⟨h1, h2⟩ := h
  have h0 := h2 0 (by omega)
  cases t' with
  | nil => simp at h0
  | cons c' r' =>
    simp at h0
    subst h0
    exact ⟨r', rfl, by simpa using h1, fun i hi => by simpa using h2 (i + 1) (by omega)⟩
theorem Al.mono {n m : Nat} {t t' : List UInt8} (h : Al n t t') (hm : m ≤ n) : Al m t t' := ⟨by have := h.1; omega, fun i hi => h.2 i (by omega)⟩
theorem Al.drop {n m : Nat} {t t' : List UInt8} (h : Al n t t') : Al (n - m) (t.drop m) (t'.drop m) :=
  ⟨by rw [List.length_drop]; have := h.1; omega, fun i hi => by rw [List.getElem?_drop, List.getElem?_drop]; exact h.2 _ (by omega)⟩

theorem skipF_al : ∀ (t t' : List UInt8) (n : Nat) (b : Bool) (k : Nat), Al n t t' → skipF b t k < k + n → skipF b t' k = skipF b t k
  | [], t', n, b, k, h, hlt => by
    have := h.1
    simp at this; subst this
    simp [skipF] at hlt
  | c :: r, t', 0, b, k, h, hlt => by have := (skipF_le (c :: r) b k).1; omega
  | c :: r, t', n + 1, b, k, h, hlt => by
    obtain ⟨r', rfl, hr⟩ := h.cons
    unfold skipF at hlt ⊢
    split
    · rename_i h1; rw [if_pos h1] at hlt; exact skipF_al r r' n _ (k + 1) hr (by omega)
    · rename_i h1; rw [if_neg h1] at hlt
      split
      · rename_i h2; rw [if_pos h2] at hlt; exact skipF_al r r' n _ (k + 1) hr (by omega)
      · rename_i h2; rw [if_neg h2] at hlt
        split
        · rename_i h3; rw [if_pos h3] at hlt; exact skipF_al r r' n _ (k + 1) hr (by omega)
        · rfl

theorem wordL_al : ∀ (t t' : List UInt8) (n : Nat), Al n t t' → t'[n]? = some 32 → (wordL t).length ≤ n → wordL t' = wordL t
  | t, t', 0, h, hx, hw => by
    have e : wordL t = [] := List.length_eq_zero_iff.1 (by omega)
    rw [e]
    cases t' with
    | nil => rfl
    | cons c r => simp at hx; subst hx; rw [wordL_cons, if_neg (by decide)]
  | [], t', n + 1, h, hx, hw => by have := h.1; simp at this
  | c :: r, t', n + 1, h, hx, hw => by
    obtain ⟨r', rfl, hr⟩ := h.cons
    rw [wordL_cons] at hw ⊢
    rw [wordL_cons]
    split
    · rename_i hc
      rw [if_pos hc] at hw
      rw [wordL_al r r' n hr (by simpa using hx) (by simpa using hw)]
    · rfl

theorem octG_al : ∀ (m : Nat) (v : Int) (t t' : List UInt8) (n k : Nat), Al n t t' → (octG m v t k).2 < k + n → octG m v t' k = octG m v t k
  | 0, _, _, _, _, _, _, _ => by simp [octG]
  | m + 1, v, t, t', 0, k, h, hlt => by
    exfalso
    have : k ≤ (octG (m + 1) v t k).2 := by
      have key : ∀ (m : Nat) (v : Int) (t : List UInt8) (k : Nat), k ≤ (octG m v t k).2 := fun m => by
        induction m with
        | zero => intro v t k; simp [octG]
        | succ m ih =>
          intro v t k
          cases t with
          | nil => simp [octG]
          | cons x q =>
            rw [octG]
            split
            · have := ih (8 * v + oct1 x) q (k + 1); omega
            · exact Nat.le_refl _
      exact key _ _ _ _
    omega
  | m + 1, v, [], t', n + 1, k, h, hlt => by have := h.1; simp at this
  | m + 1, v, x :: q, t', n + 1, k, h, hlt => by
    obtain ⟨q', rfl, hq⟩ := h.cons
    rw [octG] at hlt ⊢
    rw [octG]
    split
    · rename_i hx; rw [if_pos hx] at hlt; exact octG_al m _ q q' n (k + 1) hq (by omega)
    · rfl

theorem escL_al (t t' : List UInt8) (n : Nat) (h : Al n t t') (hlt : (escL t).2 < n) : escL t' = escL t := by
  cases t with
  | nil => have := h.1; simp at this; subst this; simp at hlt
  | cons e r =>
    cases n with
    | zero => omega
    | succ n =>
      obtain ⟨r', rfl, hr⟩ := h.cons
      unfold escL at hlt ⊢
      simp only at hlt ⊢
      split
      · rfl
      · split
        · rfl
        · split
          · rfl
          · split
            · rfl
            · split
              · rfl
              · split
                · rfl
                · split
                  · rename_i h1 h2 h3 h4 h5 h6 h7
                    rw [if_neg h1, if_neg h2, if_neg h3, if_neg h4, if_neg h5, if_neg h6, if_pos h7] at hlt
                    have hn : 1 ≤ n := by split at hlt <;> simp at hlt <;> omega
                    have : r'.head? = r.head? := by
                      have := hr.2 0 (by omega)
                      rw [List.head?_eq_getElem?, List.head?_eq_getElem?]; exact this
                    rw [this]
                  · split
                    · rfl
                    · rename_i h1 h2 h3 h4 h5 h6 h7 h8
                      rw [if_neg h1, if_neg h2, if_neg h3, if_neg h4, if_neg h5, if_neg h6, if_neg h7, if_neg h8] at hlt
                      unfold octL at hlt ⊢
                      rw [octG_al 2 (oct1 e) r r' n 1 hr (by simp only at hlt; omega)]

theorem litF_al : ∀ (t t' : List UInt8) (n j d : Nat) (b : List UInt8) (p : Nat) {q : List UInt8} {e : Nat}, Al n t t' → litF j d t b p = some (q, e) → e ≤ p + n → litF j d t' b p = some (q, e)
  | [], t', n, j, d, b, p, q, e, h, hl, he => by simp [litF] at hl
  | c :: r, t', 0, j, d, b, p, q, e, h, hl, he => by have := litF_end _ _ _ _ _ hl; omega
  | c :: r, t', n + 1, j + 1, d, b, p, q, e, h, hl, he => by
    obtain ⟨r', rfl, hr⟩ := h.cons
    rw [litF] at hl ⊢
    exact litF_al r r' n j d b (p + 1) hr hl (by omega)
  | c :: r, t', n + 1, 0, d, b, p, q, e, h, hl, he => by
    obtain ⟨r', rfl, hr⟩ := h.cons
    rw [litF] at hl ⊢
    split
    · rename_i h1; rw [if_pos h1] at hl
      by_cases hre : r = []
      · rw [if_pos hre] at hl; cases hl
      · rw [if_neg hre] at hl
        have hlt : (escL r).2 < n := by
          have key : ∀ (j d : Nat) (t b : List UInt8) (p : Nat) {q : List UInt8} {e : Nat}, litF j d t b p = some (q, e) → p + j < e := fun j => by
            induction j with
            | zero => intro d t b p q e hl; exact (litF_end _ _ _ _ _ hl).1
            | succ j ih =>
              intro d t b p q e hl
              cases t with
              | nil => simp [litF] at hl
              | cons x t => rw [litF] at hl; have := ih _ _ _ _ hl; omega
          have := key _ _ _ _ _ hl
          omega
        have he' := escL_al r r' n hr hlt
        have hre' : r' ≠ [] := fun e' => by
          subst e'
          have := hr.2 0 (by omega)
          cases r with
          | nil => exact hre rfl
          | cons x y => simp at this
        rw [if_neg hre', he']
        exact litF_al r r' n _ d _ (p + 1) hr hl (by omega)
    · rename_i h1; rw [if_neg h1] at hl
      split
      · rename_i h2; rw [if_pos h2] at hl
        split
        · rename_i h3; rw [if_pos h3] at hl; exact hl
        · rename_i h3; rw [if_neg h3] at hl; exact litF_al r r' n _ _ _ (p + 1) hr hl (by omega)
      · rename_i h2; rw [if_neg h2] at hl
        split
        · rename_i h3; rw [if_pos h3] at hl; exact litF_al r r' n _ _ _ (p + 1) hr hl (by omega)
        · rename_i h3; rw [if_neg h3] at hl; exact litF_al r r' n _ _ _ (p + 1) hr hl (by omega)

theorem unhexF_al : ∀ (t t' : List UInt8) (n : Nat) (h : Int) (b : List UInt8), Al n t t' → (unhexF t h b).2 = 0 → gtEnd t ≤ n → unhexF t' h b = unhexF t h b ∧ gtEnd t' = gtEnd t
  | [], t', n, h, b, ha, h0, hg => by simp [unhexF] at h0
  | c :: r, t', 0, h, b, ha, h0, hg => by unfold gtEnd at hg; split at hg <;> omega
  | c :: r, t', n + 1, h, b, ha, h0, hg => by
    obtain ⟨r', rfl, hr⟩ := ha.cons
    unfold unhexF at h0 ⊢
    unfold gtEnd at hg ⊢
    by_cases h1 : c.toNat = 62
    · simp [h1]
    · rw [if_neg h1] at hg h0
      rw [if_neg h1, if_neg h1, if_neg h1, if_neg h1]
      by_cases h2 : blankB c.toNat = true
      · rw [if_pos h2] at h0
        rw [if_pos h2, if_pos h2]
        have := unhexF_al r r' n h b hr h0 (by omega)
        exact ⟨this.1, by rw [this.2]⟩
      · rw [if_neg h2] at h0
        rw [if_neg h2, if_neg h2]
        by_cases h3 : hexI c.toNat < 0
        · rw [if_pos h3] at h0; simp at h0
        · rw [if_neg h3] at h0
          rw [if_neg h3, if_neg h3]
          by_cases h4 : h < 0
          · rw [if_pos h4] at h0
            rw [if_pos h4, if_pos h4]
            have := unhexF_al r r' n _ b hr h0 (by omega)
            exact ⟨this.1, by rw [this.2]⟩
          · rw [if_neg h4] at h0
            rw [if_neg h4, if_neg h4]
            have := unhexF_al r r' n _ _ hr h0 (by omega)
            exact ⟨this.1, by rw [this.2]⟩

/-! ### Texts alike up to a place, where a blank follows -/
structure Ag (s s' : List UInt8) (K : Nat) : Prop where
  al : Al K s s'
  nx : s'[K]? = some 32
section
variable {s s' : List UInt8} {K : Nat}
theorem Ag.get (h : Ag s s' K) {i : Nat} (hi : i < K) : s'[i]? = s[i]? := h.al.2 i hi
theorem Ag.skip (h : Ag s s' K) {k : Nat} (hk : skipP s k < K) : skipP s' k = skipP s k := by
  have hle : k ≤ skipP s k := (skipF_le (s.drop k) false k).1
  unfold skipP at hk hle ⊢
  exact skipF_al _ _ (K - k) _ _ h.al.drop (by omega)
theorem Ag.word (h : Ag s s' K) {k : Nat} (hk : k + (wordP s k).length ≤ K) : wordP s' k = wordP s k := by
  unfold wordP at hk ⊢
  refine wordL_al _ _ (K - k) h.al.drop ?_ (by omega)
  rw [List.getElem?_drop, show k + (K - k) = K by omega]
  exact h.nx
theorem Ag.name (h : Ag s s' K) {a k : Nat} {b : List UInt8} (hn : nameAt s a = some (b, k)) (hk : k ≤ K) : nameAt s' a = some (b, k) := by
  have hn0 := hn
  unfold nameAt at hn ⊢
  split at hn
  · cases hn
  · rename_i b' hb
    split at hn
    · rename_i hm
      cases hn
      rw [h.word (by omega), hb]
      simp only
      rw [if_pos hm]
    · cases hn
theorem Ag.lit (h : Ag s s' K) {a k : Nat} {v : Val} (hn : litAt s a = .ok v k) (hk : k ≤ K) : litAt s' a = .ok v k := by
  unfold litAt at hn ⊢
  cases hl : litF 0 1 (s.drop a) [] a with
  | none => rw [hl] at hn; cases hn
  | some x =>
    obtain ⟨b, e⟩ := x
    rw [hl] at hn
    simp only at hn
    have he : e = k := by split at hn <;> cases hn; rfl
    rw [litF_al _ _ (K - a) 0 1 [] a h.al.drop hl (by omega)]
    exact hn
theorem Ag.hex (h : Ag s s' K) {a k : Nat} {v : Val} (hn : hexAt s a = .ok v k) (hk : k ≤ K) : hexAt s' a = .ok v k := by
  have hn0 := hn
  unfold hexAt at hn ⊢
  split at hn
  · rename_i h0
    have he : a + gtEnd (s.drop a) = k := by split at hn <;> cases hn; rfl
    obtain ⟨h1, h2⟩ := unhexF_al _ _ (K - a) (-1) [] h.al.drop h0 (by omega)
    rw [h1, h2, if_pos h0]
    exact hn
  · cases hn

/-- What is behind a number: the rest of a reference. -/
def rtP (s : List UInt8) (e : Nat) : Option Nat :=
  if wordP s (skipP s e) = [48] then (if wordP s (skipP s (skipP s e + 1)) = [82] then some (skipP s (skipP s e + 1) + 1) else none) else none
theorem refAt_rt (s : List UInt8) (a : Nat) : refAt s a = match objF (wordP s a) with
    | none => none
    | some n => (rtP s (a + (wordP s a).length)).map fun k => (n, k) := by
  unfold refAt rtP
  cases objF (wordP s a) with
  | none => rfl
  | some n =>
    simp only
    split
    · split <;> rfl
    · rfl
theorem Ag.ref (h : Ag s s' K) {a n k : Nat} (hn : refAt s a = some (n, k)) (hk : k ≤ K) : refAt s' a = some (n, k) := by
  have hle : ∀ x, x ≤ skipP s x := fun x => (skipF_le (s.drop x) false x).1
  have hn0 := hn
  unfold refAt at hn ⊢
  cases ho : objF (wordP s a) with
  | none => rw [ho] at hn; cases hn
  | some m =>
    rw [ho] at hn
    simp only at hn
    have q1 := hle (a + (wordP s a).length)
    generalize hi : skipP s (a + (wordP s a).length) = i at hn q1
    have q2 := hle (i + 1)
    generalize hj : skipP s (i + 1) = j at hn q2
    split at hn
    · rename_i w1
      split at hn
      · rename_i w2
        cases hn
        have e1 : wordP s' a = wordP s a := h.word (by omega)
        rw [e1, ho]
        simp only
        rw [h.skip (by omega), hi, h.word (by rw [w1]; simp; omega), if_pos w1, h.skip (by omega), hj, h.word (by rw [w2]; simp; omega), if_pos w2]
      · cases hn
    · cases hn
/-- No reference there, none here. -/
def Shut (s s' : List UInt8) (e : Nat) : Prop := rtP s e = none → rtP s' e = none
theorem Ag.wordV (h : Ag s s' K) {a k : Nat} {v : Val} (hn : wordV s a = .ok v k) (hk : k ≤ K) (hs : v.kind = 2 → Shut s s' k) : wordV s' a = .ok v k := by
  have hn0 := hn
  unfold Go.Av.Try.wordV at hn
  by_cases w1 : wordP s a = [110, 117, 108, 108]
  · rw [if_pos w1] at hn
    cases hn
    unfold Go.Av.Try.wordV
    rw [h.word (by rw [w1]; simpa using hk), if_pos w1]
  · rw [if_neg w1] at hn
    by_cases w2 : wordP s a = [116, 114, 117, 101]
    · rw [if_pos w2] at hn
      cases hn
      unfold Go.Av.Try.wordV
      rw [h.word (by rw [w2]; simpa using hk), if_neg w1, if_pos w2]
    · rw [if_neg w2] at hn
      by_cases w3 : wordP s a = [102, 97, 108, 115, 101]
      · rw [if_pos w3] at hn
        cases hn
        unfold Go.Av.Try.wordV
        rw [h.word (by rw [w3]; simpa using hk), if_neg w1, if_neg w2, if_pos w3]
      · rw [if_neg w3] at hn
        cases hr : refAt s a with
        | some x =>
          obtain ⟨n, e⟩ := x
          rw [hr] at hn
          simp only at hn
          cases hn
          have hr' := h.ref hr hk
          have hle : ∀ x, x ≤ skipP s x := fun x => (skipF_le (s.drop x) false x).1
          have hw : wordP s' a = wordP s a := by
            refine h.word ?_
            rw [refAt_rt] at hr
            split at hr
            · cases hr
            · obtain ⟨k', h1, h2⟩ := Option.map_eq_some_iff.1 hr
              cases h2
              unfold rtP at h1
              have q1 := hle (a + (wordP s a).length)
              have q2 := hle (skipP s (a + (wordP s a).length) + 1)
              split at h1
              · split at h1
                · cases h1; omega
                · cases h1
              · cases h1
          unfold Go.Av.Try.wordV
          rw [hw, if_neg w1, if_neg w2, if_neg w3, hr']
        | none =>
          rw [hr] at hn
          simp only at hn
          split at hn
          · rename_i hp
            cases hn
            have hw : wordP s' a = wordP s a := h.word hk
            have hr' : refAt s' a = none := by
              rw [refAt_rt] at hr ⊢
              rw [hw]
              cases ho : objF (wordP s a) with
              | none => rfl
              | some m =>
                rw [ho] at hr
                simp only [Option.map_eq_none_iff] at hr ⊢
                exact hs rfl hr
            unfold Go.Av.Try.wordV
            rw [hw, if_neg w1, if_neg w2, if_neg w3, hr']
            simp only
            rw [if_pos hp]
          · cases hn
end
end Go.Av.Try
