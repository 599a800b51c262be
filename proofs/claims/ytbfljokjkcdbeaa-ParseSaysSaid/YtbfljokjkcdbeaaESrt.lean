import Derived.Test.YtbfljokjkcdbeaaEVal15
import Derived.Test.YtbfljokjkcdbeaaEVal7
/- Dictionaries whose names rise. -/
set_option linter.unusedSimpArgs false
namespace Go.Av.Try
open Go.Proofs

theorem srt_tail {y : Fld} {r : List Fld} (h : srt (y :: r)) : srt r ∧ ∀ z ∈ r, Op.bytesLess y.name z.name = true :=
  ⟨fun i j a b hij ha hb => h (i + 1) (j + 1) a b (by omega) (by simpa using ha) (by simpa using hb), fun z hz => by
    obtain ⟨i, hi⟩ := List.getElem?_of_mem hz
    exact h 0 (i + 1) y z (by omega) rfl (by simpa using hi)⟩

theorem refSet_laid {nm : List UInt8} {x : Val} : ∀ {l : List Fld}, (∀ z ∈ l, z.name ≠ nm) → refSet nm x true l = l
  | [], _ => by simp [refSet]
  | y :: r, h => by
    have h1 := h y (by simp)
    simp [refSet, h1, refSet_laid (l := r) fun z hz => h z (by simp [hz])]

theorem leqB_not (a b : List UInt8) : leqB a b = !Op.bytesLess b a := bytesLeq_not a b

theorem refSet_eq {nm : List UInt8} {x : Val} : ∀ {l : List Fld}, srt l → refSet nm x false l = setF nm x l
  | [], _ => by simp [refSet, setF, hasV_nil, posV_nil]
  | y :: r, h => by
    obtain ⟨h1, h2⟩ := srt_tail h
    have hq := leqB_not nm y.name
    cases hl : Op.bytesLess y.name nm with
    | true =>
      rw [hl] at hq
      have hne : y.name ≠ nm := fun e => by rw [e, less_irr] at hl; cases hl
      have ih := refSet_eq (nm := nm) (x := x) h1
      have hp : posV nm (y :: r) = posV nm r + 1 := by simp [posV, hl]
      have hh : hasV nm (y :: r) = hasV nm r := by simp [hasV, hp]
      simp only [refSet, hq, Bool.not_true, Bool.and_false, Bool.false_or, if_neg hne, Bool.false_eq_true, if_false, List.nil_append, List.cons_append, ih]
      simp only [setF, hh, hp]
      split <;> simp
    | false =>
      rw [hl] at hq
      have hp : posV nm (y :: r) = 0 := by simp [posV, hl]
      by_cases he : y.name = nm
      · have hl2 := refSet_laid (nm := nm) (x := x) (l := r) fun z hz e => by
          have := h2 z hz
          rw [e, he, less_irr] at this; cases this
        have hh : hasV nm (y :: r) = true := by simp [hasV, hp, he]
        rw [he] at hq
        simp [refSet, hq, he, hl2, setF, hh, hp]
      · have hlt : Op.bytesLess nm y.name = true := by
          have := hq
          simp only [leqB, Bool.not_false, Bool.or_eq_true, decide_eq_true_eq] at this
          rcases this with h | h
          · exact h
          · exact absurd h.symm he
        have hl2 := refSet_laid (nm := nm) (x := x) (l := r) fun z hz e => by
          have := less_trans hlt (h2 z hz)
          rw [e, less_irr] at this; cases this
        have hh : hasV nm (y :: r) = false := by simp [hasV, hp, he]
        simp [refSet, hq, he, hl2, setF, hh, hp]

theorem alikeV_refl (a : Val) : alikeV a a = true := (alikeV_iff a a).2 rfl

theorem setF_mem {nm : List UInt8} {x : Val} {f : List Fld} {y : Fld} (h : y ∈ setF nm x f) : y = .mk nm x ∨ y ∈ f := by
  unfold setF at h
  split at h
  · rcases List.mem_or_eq_of_mem_set h with h | h
    · exact .inr h
    · exact .inl h
  · rcases List.mem_append.1 h with h | h
    · exact .inr (List.mem_of_mem_take h)
    · rcases List.mem_cons.1 h with h | h
      · exact .inl h
      · exact .inr (List.mem_of_mem_drop h)
end Go.Av.Try
