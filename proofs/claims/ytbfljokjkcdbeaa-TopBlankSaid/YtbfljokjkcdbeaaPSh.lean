import Derived.Test.YtbfljokjkcdbeaaPMod
/- What stands ahead of a value tells nothing: the plain law. -/
set_option linter.unusedSimpArgs false
namespace Go.Av.Try
open Go.Proofs

def shRV (m : Nat) : RV → RV
  | .ok v k => .ok v (m + k)
  | .bad e => .bad e
def shP {α : Type} (m : Nat) (x : Option (α × Nat)) : Option (α × Nat) := x.map fun y => (y.1, m + y.2)

section
variable {p s : List UInt8}
theorem sh_drop (k : Nat) : (p ++ s).drop (p.length + k) = s.drop k := by rw [List.drop_append, List.drop_eq_nil_of_le (by omega), List.nil_append]; congr 1; omega
theorem sh_get (k : Nat) : (p ++ s)[p.length + k]? = s[k]? := by rw [List.getElem?_append_right (by omega)]; congr 1; omega
theorem sh_skip (k : Nat) : skipP (p ++ s) (p.length + k) = p.length + skipP s k := by unfold skipP; rw [sh_drop, skipF_shift]
theorem sh_word (k : Nat) : wordP (p ++ s) (p.length + k) = wordP s k := by unfold wordP; rw [sh_drop]
theorem sh_name (k : Nat) : nameAt (p ++ s) (p.length + k) = shP p.length (nameAt s k) := by
  unfold nameAt
  rw [Nat.add_assoc, sh_word]
  cases nameF (wordP s (k + 1)) [] with
  | none => rfl
  | some b =>
    simp only
    split
    · simp only [shP, Option.map_some]; congr 2; omega
    · rfl
theorem litF_sh : ∀ (t : List UInt8) (k d : Nat) (b : List UInt8) (q m : Nat), litF k d t b (m + q) = shP m (litF k d t b q)
  | [], k, d, b, q, m => by simp [litF, shP]
  | c :: r, k + 1, d, b, q, m => by
    rw [litF, litF, Nat.add_assoc]; exact litF_sh r k d b (q + 1) m
  | c :: r, 0, d, b, q, m => by
    rw [litF, litF]
    simp only [Nat.add_assoc]
    split
    · split
      · rfl
      · exact litF_sh r _ _ _ _ _
    · split
      · split
        · rfl
        · exact litF_sh r _ _ _ _ _
      · split
        · exact litF_sh r _ _ _ _ _
        · exact litF_sh r _ _ _ _ _
theorem sh_lit (k : Nat) : litAt (p ++ s) (p.length + k) = shRV p.length (litAt s k) := by
  unfold litAt
  rw [sh_drop, litF_sh]
  cases litF 0 1 (s.drop k) [] k with
  | none => rfl
  | some x =>
    obtain ⟨b, n⟩ := x
    simp only [shP, Option.map_some]
    split <;> rfl
theorem sh_hex (k : Nat) : hexAt (p ++ s) (p.length + k) = shRV p.length (hexAt s k) := by
  unfold hexAt
  rw [sh_drop]
  split
  · split
    · simp only [shRV, Nat.add_assoc]
    · rfl
  · rfl
theorem sh_ref (k : Nat) : refAt (p ++ s) (p.length + k) = shP p.length (refAt s k) := by
  unfold refAt
  rw [sh_word]
  cases objF (wordP s k) with
  | none => rfl
  | some n =>
    simp only
    rw [Nat.add_assoc, sh_skip, sh_word, Nat.add_assoc, sh_skip, sh_word]
    split
    · split
      · simp only [shP, Option.map_some, Nat.add_assoc]
      · rfl
    · rfl
theorem sh_wordV (k : Nat) : wordV (p ++ s) (p.length + k) = shRV p.length (wordV s k) := by
  unfold wordV
  rw [sh_word, sh_ref]
  split
  · simp only [shRV, Nat.add_assoc]
  · split
    · simp only [shRV, Nat.add_assoc]
    · split
      · simp only [shRV, Nat.add_assoc]
      · cases refAt s k with
        | some x => rfl
        | none =>
          simp only [shP, Option.map_none]
          split
          · simp only [shRV, Nat.add_assoc]
          · rfl
theorem sh_list {rd rd' : Nat → RV} (h : ∀ k, rd' (p.length + k) = shRV p.length (rd k)) : ∀ (m : Nat) (acc : List Val) (k : Nat), listF rd' (p ++ s) m acc (p.length + k) = shRV p.length (listF rd s m acc k)
  | 0, _, _ => rfl
  | m + 1, acc, k => by
    rw [listF, listF, sh_skip, sh_get]
    cases s[skipP s k]? with
    | none => rfl
    | some c =>
      simp only
      split
      · simp only [shRV, Nat.add_assoc]
      · rw [h]
        cases rd (skipP s k) with
        | bad e => rfl
        | ok x n => exact sh_list h m _ n
theorem sh_dict {rd rd' : Nat → RV} (h : ∀ k, rd' (p.length + k) = shRV p.length (rd k)) : ∀ (m : Nat) (acc : List Fld) (k : Nat), dictF rd' (p ++ s) m acc (p.length + k) = shRV p.length (dictF rd s m acc k)
  | 0, _, _ => rfl
  | m + 1, acc, k => by
    rw [dictF, dictF, sh_skip, sh_get]
    cases s[skipP s k]? with
    | none => rfl
    | some c =>
      simp only
      rw [Nat.add_assoc, sh_get]
      split
      · simp only [shRV, Nat.add_assoc]
      · split
        · rfl
        · rw [sh_name]
          cases nameAt s (skipP s k) with
          | none => rfl
          | some x =>
            obtain ⟨nm, n⟩ := x
            simp only [shP, Option.map_some]
            rw [h]
            cases rd n with
            | bad e => rfl
            | ok x n' =>
              simp only [shRV]
              split
              · rfl
              · exact sh_dict h m _ n'
theorem sh_read : ∀ (d k : Nat), readF d (p ++ s) (p.length + k) = shRV p.length (readF d s k)
  | 0, k => by
    rw [readF, readF, sh_skip, sh_get]
    cases s[skipP s k]? <;> rfl
  | d + 1, k => by
    rw [readF, readF, sh_skip, sh_get]
    cases s[skipP s k]? with
    | none => rfl
    | some c =>
      simp only
      rw [sh_name, Nat.add_assoc, Nat.add_assoc, sh_lit, sh_get, sh_dict (sh_read d), sh_hex, sh_list (sh_read d), sh_wordV]
      split
      · cases nameAt s (skipP s k) <;> rfl
      · split
        · rfl
        · split
          · rfl
          · split
            · rfl
            · split
              · rfl
              · split <;> rfl
end

theorem readF_skip {s : List UInt8} {a b : Nat} (h : skipP s a = skipP s b) : ∀ d, readF d s a = readF d s b
  | 0 => by rw [readF, readF, h]
  | d + 1 => by rw [readF, readF, h]

/-- A note ends with its line. -/
theorem skipF_note : ∀ (n : List UInt8) (t : List UInt8) (k : Nat), (∀ c ∈ n, c.toNat ≠ 10 ∧ c.toNat ≠ 13) → skipF true (n ++ 10 :: t) k = skipF false t (k + n.length + 1)
  | [], t, k, _ => by
    rw [List.nil_append, skipF, if_pos rfl]; rfl
  | c :: r, t, k, h => by
    have hc := h c (by simp)
    rw [List.cons_append, skipF, if_pos rfl]
    have : (decide (c.toNat ≠ 10) && decide (c.toNat ≠ 13)) = true := by simp [hc.1, hc.2]
    rw [this, skipF_note r t (k + 1) (fun x hx => h x (by simp [hx])), List.length_cons]
    congr 1; omega

def aheadT (n : List UInt8) : List UInt8 := [32, 37] ++ n ++ [10]
theorem aheadT_len (n : List UInt8) : (aheadT n).length = n.length + 3 := by simp [aheadT]
theorem ahead_skip {n s : List UInt8} (h : ∀ c ∈ n, c.toNat ≠ 10 ∧ c.toNat ≠ 13) : skipP (aheadT n ++ s) 0 = skipP (aheadT n ++ s) ((aheadT n).length + 0) := by
  rw [sh_skip]
  have e : aheadT n ++ s = 32 :: 37 :: (n ++ 10 :: s) := by simp [aheadT]
  unfold skipP
  rw [List.drop_zero, List.drop_zero, e, skipF, if_neg (by decide), if_neg (by decide), if_pos (by decide), skipF, if_neg (by decide), if_pos (by decide), skipF_note n s _ h, aheadT_len,
    show 0 + 1 + 1 + n.length + 1 = (n.length + 3) + 0 by omega, skipF_shift]
theorem ahead_value {n s : List UInt8} (h : ∀ c ∈ n, c.toNat ≠ 10 ∧ c.toNat ≠ 13) (hl : (aheadT n ++ s).length ≤ 60000) : valueP (aheadT n ++ s) 0 = shRV (aheadT n).length (valueP s 0) := by
  unfold valueP
  rw [if_neg (by omega), if_neg (by simp at hl; omega)]
  have e : readF 8 (aheadT n ++ s) (0 : Int).toNat = shRV (aheadT n).length (readF 8 s (0 : Int).toNat) := by
    show readF 8 (aheadT n ++ s) 0 = _
    rw [readF_skip (ahead_skip h) 8, sh_read]; rfl
  rw [e]
  cases readF 8 s (0 : Int).toNat with
  | bad e => rfl
  | ok v k =>
    simp only [shRV]
    split <;> rfl
end Go.Av.Try
