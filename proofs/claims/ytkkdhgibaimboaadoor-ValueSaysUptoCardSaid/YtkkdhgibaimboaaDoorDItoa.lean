import Derived.Test.YtkkdhgibaimboaaDoorAvF
import Derived.Test.YtkkdhgibaimboaaDoorProg
import Derived.Shelf.Strconv.Itoa3
/- strconv.Itoa: the library's contract, laid at this program. -/
namespace Go.Av.Tryd
open Go.Proofs
open Go.Shelf

theorem tab_lt {P : Program} {name : String} {k : IntKind} {zs : List Int} {w : World} (h : Lib.TabIs P w name k zs) (b : Nat) (hb : P.globalNamed name = some b) : b < w.heap.size := by
  unfold Lib.TabIs World.var? at h
  simp only [hb, Option.bind_some] at h
  cases hc : w.heap[b]? with
  | none => simp [hc] at h
  | some o => exact (Array.getElem?_eq_some_iff.1 hc).1

theorem tab_keep {P : Program} {name : String} {k : IntKind} {zs : List Int} {w w' : World} (hk : ∀ b, P.globalNamed name = some b → w'.heap[b]? = w.heap[b]?) (h : Lib.TabIs P w name k zs) : Lib.TabIs P w' name k zs := by
  unfold Lib.TabIs World.var? at h ⊢
  cases hg : P.globalNamed name with
  | none => simp [hg] at h
  | some g =>
    simp only [hg, Option.bind_some] at h ⊢
    rw [hk g hg]; exact h

/-- The table of powers of ten lies as the program lays it. -/
instance : Inv Tryd.prog := ⟨fun _ w => Lib.TabIs Tryd.prog w "internal/strconv.uint64pow10" .u64 Lib.pow10Tab, fun b => Tryd.prog.globalNamed "internal/strconv.uint64pow10" = some b,
  fun h b hb => tab_lt h b hb, fun hk h => tab_keep (fun b hb => (hk b hb).1) h⟩

set_option maxRecDepth 100000
def itoaLays_ren : Go.Shelf.Ren := ⟨fun | 171 => 73 | 243 => 120 | 246 => 150 | 283 => 171 | 284 => 172 | 285 => 173 | 286 => 174 | 129 => 182 | 317 => 181 | 318 => 183 | 319 => 184 | 320 => 185 | 337 => 189 | 338 => 190 | n => n, fun | 3 => 3 | 9 => 9 | 2 => 2 | 4 => 4 | 171 => 204 | 0 => 0 | 53 => 201 | 37 => 117 | 5 => 5 | 173 => 207 | 212 => 213 | 51 => 214 | 20 => 20 | 213 => 215 | 46 => 187 | 232 => 220 | 233 => 221 | n => n, fun | 17 => 3 | 18 => 4 | 19 => 5 | n => n⟩
theorem itoaLays : Go.Proofs.LaysM.n171 Tryd.prog itoaLays_ren where
  mixed := by kernel_rfl
  f129 := Tryd.func182.trans (congrArg some (by kernel_rfl))
  f171 := Tryd.func73.trans (congrArg some (by kernel_rfl))
  f243 := Tryd.func120.trans (congrArg some (by kernel_rfl))
  f246 := Tryd.func150.trans (congrArg some (by kernel_rfl))
  f283 := Tryd.func171.trans (congrArg some (by kernel_rfl))
  f284 := Tryd.func172.trans (congrArg some (by kernel_rfl))
  f285 := Tryd.func173.trans (congrArg some (by kernel_rfl))
  f286 := Tryd.func174.trans (congrArg some (by kernel_rfl))
  f317 := Tryd.func181.trans (congrArg some (by kernel_rfl))
  f318 := Tryd.func183.trans (congrArg some (by kernel_rfl))
  f319 := Tryd.func184.trans (congrArg some (by kernel_rfl))
  f320 := Tryd.func185.trans (congrArg some (by kernel_rfl))
  f337 := Tryd.func189.trans (congrArg some (by kernel_rfl))
  f338 := Tryd.func190.trans (congrArg some (by kernel_rfl))
  t0 := Tryd.underlying0
  a0 := Tryd.isAgg0
  z0 := Tryd.sizeOf0
  v0 := Tryd.zeroValue0
  t2 := Tryd.underlying2
  a2 := Tryd.isAgg2
  z2 := Tryd.sizeOf2
  v2 := Tryd.zeroValue2
  t3 := Tryd.underlying3
  a3 := Tryd.isAgg3
  z3 := Tryd.sizeOf3
  v3 := Tryd.zeroValue3
  t4 := Tryd.underlying4
  a4 := Tryd.isAgg4
  z4 := Tryd.sizeOf4
  v4 := Tryd.zeroValue4
  t5 := Tryd.underlying5
  a5 := Tryd.isAgg5
  z5 := Tryd.sizeOf5
  v5 := Tryd.zeroValue5
  t9 := Tryd.underlying9
  a9 := Tryd.isAgg9
  z9 := Tryd.sizeOf9
  v9 := Tryd.zeroValue9
  t20 := Tryd.underlying20
  a20 := Tryd.isAgg20
  z20 := Tryd.sizeOf20
  v20 := Tryd.zeroValue20
  t37 := Tryd.underlying117
  a37 := Tryd.isAgg117
  z37 := Tryd.sizeOf117
  v37 := Tryd.zeroValue117
  t46 := Tryd.underlying187
  a46 := Tryd.isAgg187
  z46 := Tryd.sizeOf187
  v46 := Tryd.zeroValue187
  t51 := Tryd.underlying214
  a51 := Tryd.isAgg214
  z51 := Tryd.sizeOf214
  v51 := Tryd.zeroValue214
  t53 := Tryd.underlying201
  a53 := Tryd.isAgg201
  z53 := Tryd.sizeOf201
  v53 := Tryd.zeroValue201
  t171 := Tryd.underlying204
  a171 := Tryd.isAgg204
  z171 := Tryd.sizeOf204
  v171 := Tryd.zeroValue204
  t173 := Tryd.underlying207
  a173 := Tryd.isAgg207
  z173 := Tryd.sizeOf207
  v173 := Tryd.zeroValue207
  t212 := Tryd.underlying213
  a212 := Tryd.isAgg213
  z212 := Tryd.sizeOf213
  v212 := Tryd.zeroValue213
  t213 := Tryd.underlying215
  a213 := Tryd.isAgg215
  z213 := Tryd.sizeOf215
  t232 := Tryd.underlying220
  a232 := Tryd.isAgg220
  z232 := Tryd.sizeOf220
  v232 := Tryd.zeroValue220
  t233 := Tryd.underlying221
  a233 := Tryd.isAgg221
  z233 := Tryd.sizeOf221
  v233 := Tryd.zeroValue221
  g17 := by kernel_rfl
  g18 := by kernel_rfl
  g19 := by kernel_rfl
  i0 := by kernel_rfl
  i2 := by kernel_rfl
  i3 := by kernel_rfl
  i4 := by kernel_rfl
  i5 := by kernel_rfl
  i9 := by kernel_rfl
  i20 := by kernel_rfl
  i37 := by kernel_rfl
  i46 := by kernel_rfl
  i51 := by kernel_rfl
  i53 := by kernel_rfl
  i171 := by kernel_rfl
  i173 := by kernel_rfl
  i212 := by kernel_rfl
  i232 := by kernel_rfl
  i233 := by kernel_rfl
  m17 := by kernel_rfl
  m18 := by kernel_rfl
  m19 := by kernel_rfl

theorem drewN_heap (w : World) (k : Nat) : (w.drewN k).heap = w.heap ∧ (w.drewN k).os = w.os ∧ (w.drewN k).tape = w.tape ∧ (w.drewN k).output = w.output := by
  exact ⟨rfl, rfl, rfl, rfl⟩

theorem itoa_call (n : Int) (h0 : -9223372036854775808 ≤ n) (h1 : n ≤ 9223372036854775807) : PCall Tryd.prog 73 [.int .i64 n] (fun r => r = .one (.str (Lib.itoa n))) := by
  intro f w vs hI ht hsz hrd
  have hv : vs = #[.int .i64 n] := by
    have h2 := hrd 0 _ rfl
    match vs, hsz with
    | ⟨[v]⟩, _ => cases h2; rfl
  subst hv
  refine (Any.strconv_Itoa itoaLays n h0 h1 w hI).mono fun e w' ⟨he, k, os, hw⟩ => ?_
  subst hw
  obtain ⟨d1, d2, d3, d4⟩ := drewN_heap w k
  have hheap : (Sort.grow (w.drewN k) os).heap = w.heap ++ os := by simp [Sort.grow]
  refine ⟨_, _, f, rfl, he, .str _, ⟨?_, fun b hb => ⟨?_, rfl⟩, fun b hb => ht b ?_, d2, d3, d4⟩⟩
  · rw [hheap]; simp
  · rw [hheap, Array.getElem?_append_left hb]
  · rw [hheap] at hb; simp at hb; omega
end Go.Av.Tryd
