import Derived.Test.YtbfljokjkcdbeaaPAg
/- What stands behind a value, parted by a blank, tells nothing: lists, dictionaries, values. -/
set_option linter.unusedSimpArgs false
namespace Go.Av.Try
open Go.Proofs

theorem wordP_sign {s : List UInt8} {i : Nat} {c : UInt8} (hc : s[i]? = some c) (h : signB c = true) : wordP s i = [] := by
  unfold wordP; rw [drop_at hc, wordL_cons, if_neg (by simp [h])]
theorem signB_of {c : UInt8} {n : Nat} (h : c.toNat = n) (hn : n ∈ [47, 40, 60, 91, 93, 62]) : signB c = true := by
  have : c = UInt8.ofNat n := by rw [← h]; simp
  subst this
  simp only [List.mem_cons, List.not_mem_nil, or_false] at hn
  rcases hn with rfl | rfl | rfl | rfl | rfl | rfl <;> decide

/-- What is known of a reader of values. -/
def RdOK (s : List UInt8) (rd : Nat → RV) : Prop := ∀ q x k, rd q = .ok x k → q < k ∧ skipP s q < k ∧ skipP s q + (wordP s (skipP s q)).length ≤ k ∧ (wordP s (skipP s q) = [48] → k = skipP s q + 1)

theorem wordV_end {s : List UInt8} {a k : Nat} {v : Val} (h : wordV s a = .ok v k) : a + (wordP s a).length ≤ k ∧ (wordP s a = [48] → k = a + 1) := by
  have hle : ∀ x, x ≤ skipP s x := fun x => (skipF_le (s.drop x) false x).1
  unfold wordV at h
  by_cases w1 : wordP s a = [110, 117, 108, 108]
  · rw [if_pos w1] at h; cases h; rw [w1]; exact ⟨by simp, fun e => by simp at e⟩
  · rw [if_neg w1] at h
    by_cases w2 : wordP s a = [116, 114, 117, 101]
    · rw [if_pos w2] at h; cases h; rw [w2]; exact ⟨by simp, fun e => by simp at e⟩
    · rw [if_neg w2] at h
      by_cases w3 : wordP s a = [102, 97, 108, 115, 101]
      · rw [if_pos w3] at h; cases h; rw [w3]; exact ⟨by simp, fun e => by simp at e⟩
      · rw [if_neg w3] at h
        cases hr : refAt s a with
        | some x =>
          obtain ⟨n, e⟩ := x
          rw [hr] at h
          simp only at h
          cases h
          rw [refAt_rt] at hr
          split at hr
          · cases hr
          · rename_i m ho
            obtain ⟨k', h1, h2⟩ := Option.map_eq_some_iff.1 hr
            cases h2
            unfold rtP at h1
            have q1 := hle (a + (wordP s a).length)
            have q2 := hle (skipP s (a + (wordP s a).length) + 1)
            refine ⟨?_, fun e => ?_⟩
            · split at h1
              · split at h1
                · cases h1; omega
                · cases h1
              · cases h1
            · have e0 : objF [48] = none := by decide
              rw [e, e0] at ho; cases ho
        | none =>
          rw [hr] at h
          simp only at h
          split at h
          · cases h; exact ⟨Nat.le_refl _, fun e => by rw [e]; rfl⟩
          · cases h

theorem readF_ok (s : List UInt8) (d : Nat) : RdOK s (readF d s) := by
  intro q x k h
  have hlen : q ≤ s.length := by
    refine Classical.byContradiction fun hq => ?_
    have hle := (skipF_le (s.drop q) false q).1
    have : s[skipP s q]? = none := List.getElem?_eq_none (by unfold skipP; omega)
    cases d <;> rw [readF, this] at h <;> cases h
  have hs := skipP_le hlen
  have e := readF_skip (skipP_idem s q) d
  have g1 := readF_good s d q hlen
  have g2 := readF_good s d (skipP s q) hs.2
  rw [e] at g2
  rw [h] at g1 g2
  refine ⟨g1.1, g2.1, ?_⟩
  cases d with
  | zero =>
    rw [readF] at h
    split at h <;> cases h
  | succ d =>
    rw [readF] at h
    cases hc : s[skipP s q]? with
    | none => rw [hc] at h; cases h
    | some c =>
      rw [hc] at h
      simp only at h
      have sg : signB c = true → skipP s q + (wordP s (skipP s q)).length ≤ k ∧ (wordP s (skipP s q) = [48] → k = skipP s q + 1) := fun h' => by
        rw [wordP_sign hc h']
        exact ⟨by have := g2.1; simp; omega, fun e => by simp at e⟩
      by_cases h1 : c.toNat = 47
      · exact sg (signB_of h1 (by simp))
      · rw [if_neg h1] at h
        by_cases h2 : c.toNat = 40
        · exact sg (signB_of h2 (by simp))
        · rw [if_neg h2] at h
          by_cases h3 : c.toNat = 60
          · exact sg (signB_of h3 (by simp))
          · rw [if_neg (fun h' => h3 h'.1), if_neg h3] at h
            by_cases h4 : c.toNat = 91
            · exact sg (signB_of h4 (by simp))
            · rw [if_neg h4] at h
              by_cases h5 : signB c = true
              · exact sg h5
              · rw [if_neg h5] at h
                exact wordV_end h

section
variable {s s' : List UInt8} {K : Nat}
theorem listF_gt {rd : Nat → RV} (hr : RdOK s rd) : ∀ (m : Nat) (acc : List Val) (a : Nat) {v : Val} {k : Nat}, listF rd s m acc a = .ok v k → skipP s a < k ∧ a < k
  | 0, _, _, _, _, h => by cases h
  | m + 1, acc, a, v, k, h => by
    have hle : a ≤ skipP s a := (skipF_le (s.drop a) false a).1
    rw [listF] at h
    split at h
    · cases h
    · split at h
      · cases h; omega
      · split at h
        · cases h
        · rename_i x k1 hx
          have := hr _ _ _ hx
          have := listF_gt hr m _ _ h
          omega
theorem dictF_gt {rd : Nat → RV} (hr : RdOK s rd) : ∀ (m : Nat) (acc : List Fld) (a : Nat) {v : Val} {k : Nat}, dictF rd s m acc a = .ok v k → skipP s a < k ∧ a < k
  | 0, _, _, _, _, h => by cases h
  | m + 1, acc, a, v, k, h => by
    have hle : a ≤ skipP s a := (skipF_le (s.drop a) false a).1
    rw [dictF] at h
    split at h
    · cases h
    · rename_i c hc
      split at h
      · cases h; omega
      · split at h
        · cases h
        · split at h
          · cases h
          · rename_i nm k1 hn
            have hng := nameAt_good (List.getElem?_eq_some_iff.1 hc).1 hn
            split at h
            · cases h
            · rename_i x k2 hx
              split at h
              · cases h
              · have := hr _ _ _ hx
                have := dictF_gt hr m _ _ h
                omega

/-- What a list's reader sees behind a value. -/
theorem Ag.head (h : Ag s s' K) {rd : Nat → RV} (hr : RdOK s rd) {m : Nat} {acc : List Val} {e : Nat} {v : Val} {k : Nat} (hl : listF rd s m acc e = .ok v k) (hk : k ≤ K) :
    skipP s' e = skipP s e ∧ wordP s' (skipP s e) = wordP s (skipP s e) ∧ (wordP s (skipP s e) = [48] → ∃ m' acc', listF rd s m' acc' (skipP s e + 1) = .ok v k) := by
  have hg := listF_gt hr _ _ _ hl
  refine ⟨h.skip (by omega), ?_⟩
  cases m with
  | zero => cases hl
  | succ m =>
    rw [listF] at hl
    cases hc : s[skipP s e]? with
    | none => rw [hc] at hl; cases hl
    | some c =>
      rw [hc] at hl
      simp only at hl
      by_cases h1 : c.toNat = 93
      · have sg := signB_of h1 (by simp)
        rw [wordP_sign hc sg, wordP_sign ((h.get (by omega)).trans hc) sg]
        exact ⟨rfl, fun e => by simp at e⟩
      · rw [if_neg h1] at hl
        split at hl
        · cases hl
        · rename_i x k1 hx
          have hq := hr _ _ _ hx
          rw [skipP_idem] at hq
          have hg2 := listF_gt hr _ _ _ hl
          refine ⟨h.word (by omega), fun e => ?_⟩
          have := hq.2.2.2 e
          subst this
          exact ⟨_, _, hl⟩
theorem Ag.shutL (h : Ag s s' K) {rd : Nat → RV} (hr : RdOK s rd) {m : Nat} {acc : List Val} {e : Nat} {v : Val} {k : Nat} (hl : listF rd s m acc e = .ok v k) (hk : k ≤ K) : Shut s s' e := by
  intro hn
  obtain ⟨h1, h2, h3⟩ := h.head hr hl hk
  unfold rtP at hn ⊢
  rw [h1, h2]
  by_cases w : wordP s (skipP s e) = [48]
  · rw [if_pos w] at hn ⊢
    obtain ⟨m', acc', hl'⟩ := h3 w
    obtain ⟨g1, g2, _⟩ := h.head hr hl' hk
    rw [g1, g2]
    split at hn
    · cases hn
    · rename_i w2; rw [if_neg w2]
  · rw [if_neg w]
theorem Ag.shutD (h : Ag s s' K) {rd : Nat → RV} (hr : RdOK s rd) {m : Nat} {acc : List Fld} {e : Nat} {v : Val} {k : Nat} (hl : dictF rd s m acc e = .ok v k) (hk : k ≤ K) : Shut s s' e := by
  intro hn
  have hg := dictF_gt hr _ _ _ hl
  have h1 := h.skip (k := e) (by omega)
  cases m with
  | zero => cases hl
  | succ m =>
    rw [dictF] at hl
    cases hc : s[skipP s e]? with
    | none => rw [hc] at hl; cases hl
    | some c =>
      rw [hc] at hl
      simp only at hl
      have sg : signB c = true := by
        split at hl
        · rename_i h2; exact signB_of h2.1 (by simp)
        · split at hl
          · cases hl
          · rename_i h3; exact signB_of (by omega : c.toNat = 47) (by simp)
      unfold rtP
      rw [h1, wordP_sign ((h.get (by omega)).trans hc) sg, if_neg (by simp)]

/-- A reader of values, on the other text. -/
def RdAg (s s' : List UInt8) (K : Nat) (rd rd' : Nat → RV) : Prop := ∀ q x k, rd q = .ok x k → k ≤ K → (x.kind = 2 → Shut s s' k) → rd' q = .ok x k

theorem Ag.listF (h : Ag s s' K) {rd rd' : Nat → RV} (hr : RdOK s rd) (ha : RdAg s s' K rd rd') : ∀ (m : Nat) (acc : List Val) (a : Nat) {v : Val} {k : Nat}, listF rd s m acc a = .ok v k → k ≤ K → Go.Av.Try.listF rd' s' m acc a = .ok v k
  | 0, _, _, _, _, hl, _ => by cases hl
  | m + 1, acc, a, v, k, hl, hk => by
    have hg := listF_gt hr _ _ _ hl
    rw [Go.Av.Try.listF] at hl ⊢
    rw [h.skip (by omega), h.get (by omega)]
    cases hc : s[skipP s a]? with
    | none => rw [hc] at hl; cases hl
    | some c =>
      rw [hc] at hl
      simp only at hl ⊢
      by_cases h1 : c.toNat = 93
      · rw [if_pos h1] at hl ⊢; exact hl
      · rw [if_neg h1] at hl ⊢
        cases hx : rd (skipP s a) with
        | bad e => rw [hx] at hl; cases hl
        | ok x k1 =>
          rw [hx] at hl
          simp only at hl
          have hg2 := listF_gt hr _ _ _ hl
          rw [ha _ _ _ hx (by omega) (fun _ => h.shutL hr hl hk)]
          exact Ag.listF h hr ha m _ _ hl hk
theorem Ag.dictF (h : Ag s s' K) {rd rd' : Nat → RV} (hr : RdOK s rd) (ha : RdAg s s' K rd rd') : ∀ (m : Nat) (acc : List Fld) (a : Nat) {v : Val} {k : Nat}, dictF rd s m acc a = .ok v k → k ≤ K → Go.Av.Try.dictF rd' s' m acc a = .ok v k
  | 0, _, _, _, _, hl, _ => by cases hl
  | m + 1, acc, a, v, k, hl, hk => by
    have hg := dictF_gt hr _ _ _ hl
    have hl0 := hl
    rw [Go.Av.Try.dictF] at hl ⊢
    rw [h.skip (by omega), h.get (by omega)]
    cases hc : s[skipP s a]? with
    | none => rw [hc] at hl; cases hl
    | some c =>
      rw [hc] at hl
      simp only at hl ⊢
      by_cases h1 : c.toNat = 62 ∧ s[skipP s a + 1]? = some 62
      · rw [if_pos h1] at hl
        have hk2 : skipP s a + 2 = k := by cases hl; rfl
        rw [h.get (by omega), if_pos h1]; exact hl
      · rw [if_neg h1] at hl
        by_cases h2 : c.toNat ≠ 47
        · rw [if_pos h2] at hl; cases hl
        · rw [if_neg h2] at hl
          rw [if_neg (fun h' => by omega), if_neg h2]
          cases hn : nameAt s (skipP s a) with
          | none => rw [hn] at hl; cases hl
          | some y =>
            obtain ⟨nm, k1⟩ := y
            rw [hn] at hl
            simp only at hl
            cases hx : rd k1 with
            | bad e => rw [hx] at hl; cases hl
            | ok x k2 =>
              rw [hx] at hl
              simp only at hl
              by_cases h3 : (getV nm acc).isSome = true
              · rw [if_pos h3] at hl; cases hl
              · rw [if_neg h3] at hl
                have hq := hr _ _ _ hx
                have hg2 := dictF_gt hr _ _ _ hl
                rw [h.name hn (by omega)]
                simp only
                rw [ha _ _ _ hx (by omega) (fun _ => h.shutD hr hl hk)]
                simp only
                rw [if_neg h3]
                exact Ag.dictF h hr ha m _ _ hl hk
theorem Ag.readF (h : Ag s s' K) : ∀ d, RdAg s s' K (readF d s) (Go.Av.Try.readF d s')
  | 0 => by
    intro q x k hx
    rw [Go.Av.Try.readF] at hx
    split at hx <;> cases hx
  | d + 1 => by
    intro q x k hx hk hs
    have hq := readF_ok s (d + 1) q x k hx
    rw [Go.Av.Try.readF] at hx ⊢
    rw [h.skip (by omega), h.get (by omega)]
    cases hc : s[skipP s q]? with
    | none => rw [hc] at hx; cases hx
    | some c =>
      rw [hc] at hx
      simp only at hx ⊢
      by_cases h1 : c.toNat = 47
      · rw [if_pos h1] at hx ⊢
        cases hn : nameAt s (skipP s q) with
        | none => rw [hn] at hx; cases hx
        | some y =>
          obtain ⟨b, e⟩ := y
          rw [hn] at hx
          simp only at hx
          cases hx
          rw [h.name hn hk]
      · rw [if_neg h1] at hx ⊢
        by_cases h2 : c.toNat = 40
        · rw [if_pos h2] at hx ⊢; exact h.lit hx hk
        · rw [if_neg h2] at hx ⊢
          by_cases h3 : c.toNat = 60
          · by_cases h4 : s[skipP s q + 1]? = some 60
            · rw [if_pos ⟨h3, h4⟩] at hx
              have hg := dictF_gt (readF_ok s d) _ _ _ hx
              rw [h.get (by omega), if_pos ⟨h3, h4⟩]
              exact h.dictF (readF_ok s d) (Ag.readF h d) _ _ _ hx hk
            · rw [if_neg (fun h' => h4 h'.2), if_pos h3] at hx
              have hg : skipP s q + 1 < k := by
                have := hexAt_good (s := s) (at_ := skipP s q + 1) (by have := (List.getElem?_eq_some_iff.1 hc).1; omega)
                rw [hx] at this
                exact this.1
              rw [h.get (by omega), if_neg (fun h' => h4 h'.2), if_pos h3]
              exact h.hex hx hk
          · rw [if_neg (fun h' => h3 h'.1), if_neg h3] at hx
            rw [if_neg (fun h' => h3 h'.1), if_neg h3]
            by_cases h4 : c.toNat = 91
            · rw [if_pos h4] at hx ⊢
              exact h.listF (readF_ok s d) (Ag.readF h d) _ _ _ hx hk
            · rw [if_neg h4] at hx ⊢
              by_cases h5 : signB c = true
              · rw [if_pos h5] at hx; cases hx
              · rw [if_neg h5] at hx ⊢
                exact h.wordV hx hk hs
end

theorem behind_value {s t : List UInt8} {v : Val} {k : Nat} (h : valueP s 0 = .ok v k) (hv : v.kind ≠ 2) (hl : (s.take k ++ [32] ++ t).length ≤ 60000) : k ≤ s.length ∧ valueP (s.take k ++ [32] ++ t) 0 = .ok v k := by
  unfold valueP at h
  split at h
  · cases h
  · rename_i hc
    cases hx : readF 8 s (0 : Int).toNat with
    | bad e => rw [hx] at h; cases h
    | ok x n =>
      rw [hx] at h
      simp only at h
      split at h
      · rename_i hf
        cases h
        have hx' : readF 8 s 0 = .ok v k := hx
        have hg := readF_good s 8 0 (by omega)
        rw [hx'] at hg
        obtain ⟨g1, g2, _⟩ := hg
        refine ⟨g2, ?_⟩
        have hlt : (s.take k).length = k := by rw [List.length_take]; omega
        have ag : Ag s (s.take k ++ [32] ++ t) k := ⟨⟨g2, fun i hi => by
          rw [List.append_assoc, List.getElem?_append_left (by omega), List.getElem?_take_of_lt hi]⟩, by
          rw [List.append_assoc, List.getElem?_append_right (by omega), hlt]; simp⟩
        have hr := ag.readF 8 0 v k hx' (Nat.le_refl _) (fun e => absurd e hv)
        unfold valueP
        rw [if_neg (by simp at hl ⊢; omega)]
        have e0 : readF 8 (s.take k ++ [32] ++ t) (0 : Int).toNat = .ok v k := hr
        rw [e0]
        simp only
        rw [if_pos hf]
      · cases h
end Go.Av.Try
