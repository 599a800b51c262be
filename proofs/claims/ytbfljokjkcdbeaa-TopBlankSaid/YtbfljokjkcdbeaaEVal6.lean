import Derived.Test.YtbfljokjkcdbeaaEVal5
import Derived.Test.YtbfljokjkcdbeaaDRefNum
/- Values of a file: which ones are well, by the document. -/
set_option linter.unusedSimpArgs false
namespace Go.Av.Try
open Go.Proofs

theorem bytesLeq_not : ∀ (x y : List UInt8), (Op.bytesLess x y || decide (x = y)) = !Op.bytesLess y x
  | [], [] => by simp [Op.bytesLess]
  | [], _ :: _ => by simp [Op.bytesLess]
  | _ :: _, [] => by simp [Op.bytesLess]
  | a :: x, b :: y => by
    have ih := bytesLeq_not x y
    have hab : a = b ↔ a.toNat = b.toNat := ⟨fun h => by rw [h], UInt8.toNat_inj.1⟩
    simp only [Op.bytesLess, UInt8.lt_iff_toNat_lt, beq_iff_eq, bne_iff_ne] at ih ⊢
    rcases Nat.lt_trichotomy a.toNat b.toNat with h | h | h
    · have h1 : ¬ b.toNat < a.toNat := by omega
      have h2 : ¬ a = b := fun e => by rw [hab] at e; omega
      have h3 : ¬ b = a := fun e => h2 e.symm
      simp [h, h1, h2, h3]
    · have h2 := hab.2 h
      subst h2
      simp [ih]
    · have h1 : ¬ a.toNat < b.toNat := by omega
      have h2 : ¬ a = b := fun e => by rw [hab] at e; omega
      have h3 : ¬ b = a := fun e => h2 e.symm
      simp [h, h1, h2, h3]

end Go.Av.Try
