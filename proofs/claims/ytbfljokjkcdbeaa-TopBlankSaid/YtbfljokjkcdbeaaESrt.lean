import Derived.Test.YtbfljokjkcdbeaaEVal15
import Derived.Test.YtbfljokjkcdbeaaEVal7
/- Dictionaries whose names rise. -/
set_option linter.unusedSimpArgs false
namespace Go.Av.Try
open Go.Proofs

theorem srt_tail {y : Fld} {r : List Fld} (h : srt (y :: r)) : srt r ∧ ∀ z ∈ r, Op.bytesLess y.name z.name = true :=
  ⟨fun i j a b hij ha hb => h (i + 1) (j + 1) a b (by omega) (by simpa using ha) (by simpa using hb), fun z hz => by
    obtain ⟨i, hi⟩ := List.getElem?_of_mem hz
    exact h 0 (i + 1) y z (by omega) rfl (by simpa using hi)⟩

theorem leqB_not (a b : List UInt8) : leqB a b = !Op.bytesLess b a := bytesLeq_not a b

theorem alikeV_refl (a : Val) : alikeV a a = true := (alikeV_iff a a).2 rfl

theorem setF_mem {nm : List UInt8} {x : Val} {f : List Fld} {y : Fld} (h : y ∈ setF nm x f) : y = .mk nm x ∨ y ∈ f := by
  unfold setF at h
  split at h
  · rcases List.mem_or_eq_of_mem_set h with h | h
    · exact .inr h
    · exact .inl h
  · rcases List.mem_append.1 h with h | h
    · exact .inr (List.mem_of_mem_take h)
    · rcases List.mem_cons.1 h with h | h
      · exact .inl h
      · exact .inr (List.mem_of_mem_drop h)
end Go.Av.Try
