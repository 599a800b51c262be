import Derived.Test.YtbfljokjkcdbeaaPHex
import Derived.Test.YtbfljokjkcdbeaaDParse
import Derived.Test.YtbfljokjkcdbeaaEVal15
/- Values as they are read: the plain law. -/
set_option linter.unusedSimpArgs false
namespace Go.Av.Try
open Go.Proofs

/-! ### Blanks, words -/
def signs10 : List UInt8 := [40, 41, 60, 62, 91, 93, 123, 125, 47, 37]
def signB (c : UInt8) : Bool := decide (c ∈ signs10)
def skipF (note : Bool) : List UInt8 → Nat → Nat
  | [], at_ => at_
  | c :: r, at_ =>
    if note = true then skipF (decide (c.toNat ≠ 10) && decide (c.toNat ≠ 13)) r (at_ + 1)
    else if c.toNat = 37 then skipF true r (at_ + 1)
    else if blankB c.toNat = true then skipF false r (at_ + 1)
    else at_
def skipP (s : List UInt8) (at_ : Nat) : Nat := skipF false (s.drop at_) at_
def wordL (s : List UInt8) : List UInt8 := s.takeWhile fun c => !blankB c.toNat && !signB c
def wordP (s : List UInt8) (at_ : Nat) : List UInt8 := wordL (s.drop at_)
/-- A place, brought into a text. -/
def clampP (s : List UInt8) (n : Int) : Nat := (min (max n 0) s.length).toNat

theorem skipF_le : ∀ (s : List UInt8) (b : Bool) (k : Nat), k ≤ skipF b s k ∧ skipF b s k ≤ k + s.length
  | [], b, k => by simp [skipF]
  | c :: r, b, k => by
    unfold skipF
    simp only [List.length_cons]
    split
    · have := skipF_le r (decide (c.toNat ≠ 10) && decide (c.toNat ≠ 13)) (k + 1); omega
    · split
      · have := skipF_le r true (k + 1); omega
      · split
        · have := skipF_le r false (k + 1); omega
        · omega
theorem skipP_le {s : List UInt8} {k : Nat} (h : k ≤ s.length) : k ≤ skipP s k ∧ skipP s k ≤ s.length := by
  have := skipF_le (s.drop k) false k
  rw [List.length_drop] at this
  unfold skipP
  omega
theorem skipF_shift : ∀ (s : List UInt8) (b : Bool) (k m : Nat), skipF b s (m + k) = m + skipF b s k
  | [], b, k, m => by simp [skipF]
  | c :: r, b, k, m => by
    unfold skipF
    split
    · rw [Nat.add_assoc, skipF_shift r _ (k + 1) m]
    · split
      · rw [Nat.add_assoc, skipF_shift r _ (k + 1) m]
      · split
        · rw [Nat.add_assoc, skipF_shift r _ (k + 1) m]
        · rfl
def stopL : List UInt8 → Prop
  | [] => True
  | c :: _ => c.toNat ≠ 37 ∧ blankB c.toNat = false
/-- What stands where blanks end is no blank, and begins no note. -/
theorem skipF_stop : ∀ (s : List UInt8) (b : Bool) (k : Nat), stopL (s.drop (skipF b s k - k))
  | [], b, k => by simp [skipF, stopL]
  | c :: r, b, k => by
    have step : ∀ b', stopL (r.drop (skipF b' r (k + 1) - (k + 1))) → stopL ((c :: r).drop (skipF b' r (k + 1) - k)) := fun b' h => by
      have := (skipF_le r b' (k + 1)).1
      rw [show skipF b' r (k + 1) - k = (skipF b' r (k + 1) - (k + 1)) + 1 by omega, List.drop_succ_cons]
      exact h
    unfold skipF
    by_cases h1 : b = true
    · rw [if_pos h1]; exact step _ (skipF_stop r _ (k + 1))
    · rw [if_neg h1]
      by_cases h2 : c.toNat = 37
      · rw [if_pos h2]; exact step _ (skipF_stop r _ (k + 1))
      · rw [if_neg h2]
        by_cases h3 : blankB c.toNat = true
        · rw [if_pos h3]; exact step _ (skipF_stop r _ (k + 1))
        · rw [if_neg h3, Nat.sub_self, List.drop_zero]
          exact ⟨h2, by simpa using h3⟩
theorem skipP_stop (s : List UInt8) (k : Nat) {c : UInt8} (h : s[skipP s k]? = some c) : c.toNat ≠ 37 ∧ blankB c.toNat = false := by
  have h1 := skipF_stop (s.drop k) false k
  have h2 := (skipF_le (s.drop k) false k).1
  rw [List.drop_drop, show k + (skipF false (s.drop k) k - k) = skipP s k by unfold skipP; omega, drop_at h] at h1
  exact h1
theorem skipP_idem (s : List UInt8) (k : Nat) : skipP s (skipP s k) = skipP s k := by
  cases h : s[skipP s k]? with
  | none =>
    have : s.drop (skipP s k) = [] := List.drop_eq_nil_of_le (List.getElem?_eq_none_iff.1 h)
    generalize skipP s k = q at this
    unfold skipP
    rw [this, skipF]
  | some c =>
    obtain ⟨h1, h2⟩ := skipP_stop s k h
    generalize skipP s k = q at h
    unfold skipP
    rw [drop_at h, skipF]
    simp [h1, h2]
theorem wordP_len (s : List UInt8) (k : Nat) : (wordP s k).length ≤ s.length - k := by
  have := (List.takeWhile_sublist (fun c : UInt8 => !blankB c.toNat && !signB c) (l := s.drop k)).length_le
  rw [List.length_drop] at this
  exact this

/-! ### Names, strings -/
/-- What a word behind '/' stands for. -/
def nameF : List UInt8 → List UInt8 → Option (List UInt8)
  | [], b => some b
  | c :: r, b =>
    if c.toNat = 35 then
      match r with
      | x :: y :: q => if hexI x.toNat < 0 ∨ hexI y.toNat < 0 then none else nameF q (b ++ [byteI (16 * hexI x.toNat + hexI y.toNat)])
      | _ => none
    else nameF r (b ++ [c])
def octB (c : UInt8) : Bool := decide (48 ≤ c.toNat) && decide (c.toNat ≤ 55)
def oct1 (e : UInt8) : Int := (e.toNat : Int) - 48
/-- Digits to the base 8, so many at most: the number, and how many bytes there were. -/
def octG : Nat → Int → List UInt8 → Nat → Int × Nat
  | 0, v, _, k => (v, k)
  | _ + 1, v, [], k => (v, k)
  | m + 1, v, x :: q, k => if octB x = true then octG m (8 * v + oct1 x) q (k + 1) else (v, k)
theorem octG_stop {m : Nat} {v : Int} {t : List UInt8} {k : Nat} (h : ∀ x q, t = x :: q → octB x = false) : octG m v t k = (v, k) := by
  match m, t with
  | 0, _ => rfl
  | m + 1, [] => rfl
  | m + 1, x :: q => rw [octG, if_neg (by simp [h x q rfl])]
def octL (e : UInt8) (r : List UInt8) : Option UInt8 × Nat := (some (byteI (octG 2 (oct1 e) r 1).1), (octG 2 (oct1 e) r 1).2)
/-- A byte behind '\\', and how many it takes. -/
def escL : List UInt8 → Option UInt8 × Nat
  | [] => (none, 1)
  | e :: r =>
    if e.toNat = 110 then (some 10, 1) else if e.toNat = 114 then (some 13, 1) else if e.toNat = 116 then (some 9, 1) else if e.toNat = 98 then (some 8, 1) else if e.toNat = 102 then (some 12, 1)
    else if e.toNat = 10 then (none, 1)
    else if e.toNat = 13 then (if r.head?.map UInt8.toNat = some 10 then (none, 2) else (none, 1))
    else if octB e = false then (some e, 1)
    else octL e r
/-- A string behind '(': the bytes, where it ends; none: it does not. -/
def litF : Nat → Nat → List UInt8 → List UInt8 → Nat → Option (List UInt8 × Nat)
  | _, _, [], _, _ => none
  | k + 1, d, _ :: r, b, p => litF k d r b (p + 1)
  | 0, d, c :: r, b, p =>
    if c.toNat = 92 then (if r = [] then none else litF (escL r).2 d r (b ++ (escL r).1.toList) (p + 1))
    else if c.toNat = 41 then (if d ≤ 1 then some (b, p + 1) else litF 0 (d - 1) r (b ++ [c]) (p + 1))
    else if c.toNat = 40 then litF 0 (d + 1) r (b ++ [c]) (p + 1)
    else litF 0 d r (b ++ [c]) (p + 1)
theorem litF_skip : ∀ (k : Nat) {d : Nat} {t b : List UInt8} {p : Nat}, k ≤ t.length → litF k d t b p = litF 0 d (t.drop k) b (p + k)
  | 0, _, _, _, _, _ => rfl
  | k + 1, d, [], b, p, h => by simp at h
  | k + 1, d, c :: r, b, p, h => by
    rw [litF, litF_skip k (by simpa using h), List.drop_succ_cons]
    congr 1; omega

/-! ### Values -/
inductive RV where
  | ok (v : Val) (k : Nat)
  | bad (e : Nat)
def numV (n : Int) : Val := .mk 2 n [] [] []
def strV (s : List UInt8) : Val := .mk 3 0 s [] []
def namV (s : List UInt8) : Val := .mk 4 0 s [] []
def lisV (l : List Val) : Val := .mk 5 0 [] l []
def dicV (f : List Fld) : Val := .mk 6 0 [] [] f

/-- Digits: the number; none: something else is there. -/
def digF : List UInt8 → Nat → Option Nat
  | [], n => some n
  | c :: r, n => if c.toNat < 48 ∨ 57 < c.toNat then none else digF r (10 * n + (c.toNat - 48))
/-- The digits of an object's number. -/
def objF (w : List UInt8) : Option Nat :=
  if w.length < 1 ∨ 2 < w.length ∨ w.head?.map UInt8.toNat = some 48 then none
  else match digF w 0 with
    | none => none
    | some n => if n ≤ 60 then some n else none
/-- A reference at a place: the number, where it ends. -/
def refAt (s : List UInt8) (at_ : Nat) : Option (Nat × Nat) :=
  match objF (wordP s at_) with
  | none => none
  | some n =>
    let i := skipP s (at_ + (wordP s at_).length)
    if wordP s i = [48] then
      let j := skipP s (i + 1)
      if wordP s j = [82] then some (n, j + 1) else none
    else none
def litAt (s : List UInt8) (at_ : Nat) : RV :=
  match litF 0 1 (s.drop at_) [] at_ with
  | none => .bad 5
  | some (b, k) => if b.length ≤ 200 then .ok (strV b) k else .bad 2
def hexAt (s : List UInt8) (at_ : Nat) : RV :=
  if (unhexF (s.drop at_) (-1) []).2 = 0 then (if (unhexF (s.drop at_) (-1) []).1.length ≤ 200 then .ok (strV (unhexF (s.drop at_) (-1) []).1) (at_ + gtEnd (s.drop at_)) else .bad 2)
  else .bad (unhexF (s.drop at_) (-1) []).2
/-- A name at the place of its '/': it, where it ends. -/
def nameAt (s : List UInt8) (at_ : Nat) : Option (List UInt8 × Nat) :=
  match nameF (wordP s (at_ + 1)) [] with
  | none => none
  | some b => if nameMay b = true then some (b, at_ + 1 + (wordP s (at_ + 1)).length) else none
def wordV (s : List UInt8) (at_ : Nat) : RV :=
  if wordP s at_ = [110, 117, 108, 108] then .ok zeroV (at_ + 4)
  else if wordP s at_ = [116, 114, 117, 101] then .ok (.mk 1 1 [] [] []) (at_ + 4)
  else if wordP s at_ = [102, 97, 108, 115, 101] then .ok (.mk 1 0 [] [] []) (at_ + 5)
  else match refAt s at_ with
    | some (n, k) => .ok (.mk 7 n [] [] []) k
    | none => if (parseF (wordP s at_)).2 = 0 then .ok (numV (parseF (wordP s at_)).1) (at_ + (wordP s at_).length) else .bad (parseF (wordP s at_)).2
def listF (rd : Nat → RV) (s : List UInt8) : Nat → List Val → Nat → RV
  | 0, _, _ => .bad 2
  | m + 1, acc, at_ =>
    match s[skipP s at_]? with
    | none => .bad 5
    | some c =>
      if c.toNat = 93 then .ok (lisV acc) (skipP s at_ + 1)
      else match rd (skipP s at_) with
        | .bad e => .bad e
        | .ok x k => listF rd s m (acc ++ [x]) k
def dictF (rd : Nat → RV) (s : List UInt8) : Nat → List Fld → Nat → RV
  | 0, _, _ => .bad 2
  | m + 1, acc, at_ =>
    match s[skipP s at_]? with
    | none => .bad 5
    | some c =>
      if c.toNat = 62 ∧ s[skipP s at_ + 1]? = some 62 then .ok (dicV acc) (skipP s at_ + 2)
      else if c.toNat ≠ 47 then .bad 4
      else match nameAt s (skipP s at_) with
        | none => .bad 4
        | some (nm, k) => match rd k with
          | .bad e => .bad e
          | .ok x k' => if (getV nm acc).isSome = true then .bad 3 else dictF rd s m (setF nm x acc) k'
/-- A value at a place, no deeper than that. -/
def readF : Nat → List UInt8 → Nat → RV
  | d, s, at_ =>
    match s[skipP s at_]? with
    | none => .bad 5
    | some c =>
      match d with
      | 0 => .bad 2
      | d + 1 =>
        if c.toNat = 47 then (match nameAt s (skipP s at_) with
          | none => .bad 4
          | some (b, k) => .ok (namV b) k)
        else if c.toNat = 40 then litAt s (skipP s at_ + 1)
        else if c.toNat = 60 ∧ s[skipP s at_ + 1]? = some 60 then dictF (readF d s) s 301 [] (skipP s at_ + 2)
        else if c.toNat = 60 then hexAt s (skipP s at_ + 1)
        else if c.toNat = 91 then listF (readF d s) s 301 [] (skipP s at_ + 1)
        else if signB c = true then .bad 4
        else wordV s (skipP s at_)
/-- A value from a place on. -/
def valueP (s : List UInt8) (at_ : Int) : RV :=
  if 60000 < s.length ∨ at_ < 0 ∨ (s.length : Int) < at_ then .bad 1
  else match readF 8 s at_.toNat with
    | .bad e => .bad e
    | .ok v k => if faultV v = 0 then .ok v k else .bad (faultV v)
end Go.Av.Try
