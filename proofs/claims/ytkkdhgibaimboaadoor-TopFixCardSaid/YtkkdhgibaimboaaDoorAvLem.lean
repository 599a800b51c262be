/- Small facts that walks end in. -/
import Derived.Test.YtkkdhgibaimboaaDoorAvRun2
namespace Go.Av

theorem getI_nat {α : Type} (l : List α) (i : Nat) : getI l (i : Int) = l[i]? := by simp [getI]

theorem take_next {α : Type} {l : List α} {i : Nat} {c : α} (h : l[i]? = some c) : l.take (i + 1) = l.take i ++ [c] := by
  rw [List.take_add_one, h]; rfl

theorem get_some {α : Type} {l : List α} {i : Nat} (h : i < l.length) : ∃ c, l[i]? = some c := ⟨l[i], by simp [h]⟩

theorem bytesD_append (a b : List UInt8) : bytesD (a ++ b) = bytesD a ++ bytesD b := by simp [bytesD]
theorem bytesD_cons (a : UInt8) (b : List UInt8) : bytesD (a :: b) = .int .u8 a.toNat :: bytesD b := rfl
theorem bytesD_nil : bytesD [] = [] := rfl
theorem bytesD_length (a : List UInt8) : (bytesD a).length = a.length := by simp [bytesD]

theorem u8_lt (c : UInt8) : c.toNat < 256 := c.toNat_lt

/-- A byte's upper and lower half. -/
theorem shr_u8 (n k : Nat) : Int.fdiv (n : Int) (2 ^ k) = ((n / 2 ^ k : Nat) : Int) := by
  rw [Int.fdiv_eq_ediv_of_nonneg _ (by exact Int.le_of_lt (Int.pow_pos (by decide)))]
  simp

theorem and_u8 {n m : Nat} (hn : n < 256) (hm : m < 256) : IntKind.u8.wrap (((BitVec.ofInt IntKind.u8.bits (n : Int) &&& BitVec.ofInt IntKind.u8.bits (m : Int)).toNat : Nat) : Int) = ((n &&& m : Nat) : Int) := by
  have h1 : ∀ x : Nat, x < 256 → (BitVec.ofInt 8 (x : Int)).toNat = x := fun x hx => by
    simp; omega
  show IntKind.u8.wrap (((BitVec.ofInt 8 (n : Int) &&& BitVec.ofInt 8 (m : Int)).toNat : Nat) : Int) = _
  rw [BitVec.toNat_and, h1 n hn, h1 m hm]
  have : n &&& m ≤ n := Nat.and_le_left
  exact IntWalk.u8_in _ (by omega)

theorem and15 (n : Nat) : n &&& 15 = n % 16 := Nat.and_two_pow_sub_one_eq_mod n 4

end Go.Av
