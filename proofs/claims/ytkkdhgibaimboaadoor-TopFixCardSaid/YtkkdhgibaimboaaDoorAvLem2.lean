/- More small facts that walks end in. -/
import Derived.Test.YtkkdhgibaimboaaDoorAvLem
namespace Go.Av

theorem getI_addN {α : Type} (l : List α) (i j : Nat) : getI l ((i : Int) + (j : Int)) = l[i + j]? := by rw [← getI_nat]; rfl
theorem getI_add1 {α : Type} (l : List α) (i : Nat) : getI l ((i : Int) + 1) = l[i + 1]? := by rw [← getI_nat]; rfl
theorem tdivN (n k : Nat) : Int.tdiv (n : Int) (k : Int) = ((n / k : Nat) : Int) := rfl
theorem tmodN (n k : Nat) : Int.tmod (n : Int) (k : Int) = ((n % k : Nat) : Int) := rfl
theorem wrap64N {n : Nat} (h : n < 9223372036854775808) : IntKind.i64.wrap (n : Int) = n := IntWalk.i64_in _ (by omega)
theorem wrap8N {n : Nat} (h : n < 256) : IntKind.u8.wrap (n : Int) = n := IntWalk.u8_in _ (by omega)
theorem drop_cons {s : List UInt8} {i : Nat} {c : UInt8} (h : s[i]? = some c) : s.drop i = c :: s.drop (i + 1) := by
  obtain ⟨hi, rfl⟩ := List.getElem?_eq_some_iff.1 h
  exact List.drop_eq_getElem_cons hi
def byteI (n : Int) : UInt8 := UInt8.ofNat (n.toNat % 256)
theorem byteI_toNat {n : Int} (h : 0 ≤ n) : ((byteI n).toNat : Int) = n % 256 := by
  simp [byteI]; omega
theorem bytesD_snocI {b : List UInt8} {n : Int} (h : 0 ≤ n) (h2 : n < 256) : bytesD b ++ [D.int IntKind.u8 n] = bytesD (b ++ [byteI n]) := by
  rw [bytesD_append]
  have : ((byteI n).toNat : Int) = n := by rw [byteI_toNat h]; omega
  simp [bytesD, this]
theorem intB (c : UInt8) : D.int .u8 (c.toNat : Int) = .int .u8 c.toNat := rfl
/-- a number of a byte -/
def byteN (n : Nat) : UInt8 := UInt8.ofNat n
theorem byteN_toNat {n : Nat} (h : n < 256) : (byteN n).toNat = n := by simp [byteN]; omega
theorem allSz_bytesD (l : List UInt8) : allSz 1 (bytesD l) = true := by
  induction l with
  | nil => rfl
  | cons c r ih => rw [bytesD_cons]; simp [allSz, D.cells, ih]
theorem allOne_bytesD (l : List UInt8) : (bytesD l).all D.one = true := by
  induction l with
  | nil => rfl
  | cons c r ih => rw [bytesD_cons]; simp [D.one, ih]
theorem cutI_bytesD (l : List UInt8) (i j : Nat) : cutI (bytesD l) (i : Int) (j : Int) = bytesD ((l.take j).drop i) := by simp [cutI, bytesD]
theorem cutI0_bytesD (l : List UInt8) (j : Int) : cutI (bytesD l) 0 j = bytesD (l.take j.toNat) := by simp [cutI, bytesD]
theorem cutI_nat {α : Type} (l : List α) (i j : Nat) : cutI l (i : Int) (j : Int) = (l.take j).drop i := by simp [cutI]
theorem PutG_mif {p : Prop} [Decidable p] {x : D} {g : D → AV} {σ : St} {d : Nat} {N : St → Prop} : PutG ((if p then some x else none).map g) σ d N = (p ∧ N (σ.put d (g x))) := by
  by_cases h : p
  · rw [if_pos h]; simp [h, PutG]
  · rw [if_neg h]; simp [h, PutG]

end Go.Av
