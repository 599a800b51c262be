import Derived.Test.YtbfljokjkcdbeaaPSkip
/- The document's names and strings, walked. -/
set_option linter.unusedSimpArgs false
namespace Go.Av.Try
open Go.Proofs

theorem nameF_hex {c x y : UInt8} {r b : List UInt8} (h : c.toNat = 35) : nameF (c :: x :: y :: r) b = if hexI x.toNat < 0 ∨ hexI y.toNat < 0 then none else nameF r (b ++ [byteI (16 * hexI x.toNat + hexI y.toNat)]) := by
  rw [nameF, if_pos h]
theorem nameF_end {c : UInt8} {r b : List UInt8} (h : c.toNat = 35) (hr : r.length < 2) : nameF (c :: r) b = none := by
  match r, hr with
  | [], _ => rw [nameF, if_pos h]; intro x y q e; cases e
  | [x], _ => rw [nameF, if_pos h]; intro x y q e; cases e
theorem nameF_one {c : UInt8} {r b : List UInt8} (h : c.toNat ≠ 35) : nameF (c :: r) b = nameF r (b ++ [c]) := by
  match r with
  | [] => simp [nameF, h]
  | [x] => simp [nameF, h]
  | x :: y :: r => rw [nameF, if_neg h]
end Go.Av.Try
