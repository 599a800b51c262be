import Derived.Test.YtbfljokjkcdbeaaEVal8
import Derived.Shelf.Strings.Search3
import Derived.Shelf.LaysM
/- strings.Contains, by the library's contract. -/
set_option linter.unusedSimpArgs false
namespace Go.Av.Try
open Go.Proofs
open Go.Shelf
set_option maxRecDepth 100000
def containsLays_ren : Go.Shelf.Ren := ⟨fun | 144 => 75 | 143 => 94 | 219 => 107 | 217 => 110 | 225 => 114 | 224 => 115 | 267 => 116 | 266 => 119 | 314 => 122 | n => n, fun | 9 => 9 | 4 => 4 | 3 => 3 | 5 => 5 | 46 => 138 | 146 => 144 | 51 => 143 | n => n, fun | 1 => 0 | n => n⟩
theorem containsLays : Go.Proofs.LaysM.n144 Try.prog containsLays_ren where
  mixed := by kernel_rfl
  f143 := Try.func94.trans (congrArg some (by kernel_rfl))
  f144 := Try.func75.trans (congrArg some (by kernel_rfl))
  f217 := Try.func110.trans (congrArg some (by kernel_rfl))
  f219 := Try.func107.trans (congrArg some (by kernel_rfl))
  f224 := Try.func115.trans (congrArg some (by kernel_rfl))
  f225 := Try.func114.trans (congrArg some (by kernel_rfl))
  f266 := Try.func119.trans (congrArg some (by kernel_rfl))
  f267 := Try.func116.trans (congrArg some (by kernel_rfl))
  f314 := Try.func122.trans (congrArg some (by kernel_rfl))
  t3 := Try.underlying3
  a3 := Try.isAgg3
  z3 := Try.sizeOf3
  v3 := Try.zeroValue3
  t4 := Try.underlying4
  a4 := Try.isAgg4
  z4 := Try.sizeOf4
  v4 := Try.zeroValue4
  t5 := Try.underlying5
  a5 := Try.isAgg5
  z5 := Try.sizeOf5
  v5 := Try.zeroValue5
  t9 := Try.underlying9
  a9 := Try.isAgg9
  z9 := Try.sizeOf9
  v9 := Try.zeroValue9
  t46 := Try.underlying138
  a46 := Try.isAgg138
  z46 := Try.sizeOf138
  v46 := Try.zeroValue138
  t51 := Try.underlying143
  a51 := Try.isAgg143
  z51 := Try.sizeOf143
  v51 := Try.zeroValue143
  t146 := Try.underlying144
  a146 := Try.isAgg144
  z146 := Try.sizeOf144
  v146 := Try.zeroValue144
  g1 := by kernel_rfl
  i3 := by kernel_rfl
  i4 := by kernel_rfl
  i5 := by kernel_rfl
  i9 := by kernel_rfl
  i46 := by kernel_rfl
  i51 := by kernel_rfl
  i146 := by kernel_rfl
  m1 := by kernel_rfl
  s1_3 := fun w h => Go.Proofs.cell_of_shapedOpen_int (zero := #[.int .i64 0]) (t := 3) h (of_decide_eq_true (by kernel_rfl)) (by kernel_rfl) rfl (by kernel_rfl) (by kernel_rfl) Try.underlying3

theorem contains_call (s sub : List UInt8) (hs : s.length < 4294967281) : PCall Try.prog 75 [.str s, .str sub] (fun r => r = .one (.bool (Lib.contains s sub))) := by
  intro f w vs hI ht hsz hrd
  have hv : vs = #[.string ⟨s.toArray⟩, .string ⟨sub.toArray⟩] := by
    have h1 := hrd 0 _ rfl
    have h2 := hrd 1 _ rfl
    match vs, hsz with
    | ⟨[v, u]⟩, _ => cases h1; cases h2; rfl
  subst hv
  obtain ⟨m, hm⟩ := hI.2 0 (by kernel_rfl)
  refine (Any.strings_Contains containsLays.ton144 ⟨s.toArray⟩ ⟨sub.toArray⟩ m w (by show s.toArray.size < _; simpa using hs) hm).mono fun e w' ⟨he, hw⟩ => ?_
  subst hw
  exact ⟨_, _, f, rfl, he, .bool _, Nat.le_refl _, fun b hb => ⟨rfl, rfl⟩, ht, rfl, rfl, rfl⟩
end Go.Av.Try
