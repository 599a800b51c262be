import Derived.Test.YtbfljokjkcdbeaaDBase
import Derived.Test.YtbfljokjkcdbeaaAvG
import Derived.Shelf.RegionOpenPlain
import Derived.WalkKit
import Derived.Lib.Walk
import Derived.Lib.SliceRun
import Derived.Lib.JoinLaws
import Derived.Lib.AppendZerosOnto
import Derived.Lib.Overlaps
import Derived.Laws.Externs
import Derived.Laws.IdiomCopy
import Derived.Laws.NewBlocks
/- slices.Insert at rows of fields, walked: what it does to the world. -/
set_option linter.unusedVariables false
set_option linter.unusedSimpArgs false
namespace Go.Av.Try
open Go.Proofs Go.RowKit Go.Lib

section
variable {P : Program}

/-- Elements go over from a row to a row. -/
theorem run_copy_sz (w : World) (dT sT ty elem : TypeId) (sz k b o dLen dCap : Nat) (a : Addr) (sLen sCap : Nat) (cs : List Value)
    (hu : P.underlying dT = some (.slice elem)) (hs : (P.info? elem).map (·.size) = some sz) (hk : k = Nat.min sLen dLen) (hn : cs.length = k * sz)
    (hsrc : ∀ j v, cs[j]? = some v → w.cell? (a.add j) = some v) (hc : ∀ j, j < cs.length → (w.cell? ⟨b, o + j, none⟩).isSome = true) (hf : ∀ j, j < cs.length → w.frozen? ⟨b, o + j, none⟩ = false) (h1 : ∀ v ∈ cs, v.oneCell' = true) :
    (Builtin.copy_ #[dT, sT] ty #[.slice (some ⟨b, o, none⟩) dLen dCap, .slice (some a) sLen sCap]).run P w = .ok (goInt k) (w.setCells b o cs) := by
  have hl := run_loadCells_list (P := P) w a cs hsrc
  have hst := run_storeCells_cells (P := P) b o cs 0 w (by simpa using hc) (by simpa using hf) h1
  cases hq : P.info? elem with
  | none => simp [hq] at hs
  | some i =>
    have hi : i.size = sz := by simpa [hq] using hs
    simp [Builtin.copy_, run_underlying hu, Builtin.lenOf, Builtin.firstCells, sizeOf, typeInfo, hq, hi, ← hk, ← hn, hl, hst]

theorem wp_copy_runJ (w : World) {o : Oper} {a : Act} {K : Act → World → Prop} {Q : Exit → Act → World → Prop} (d s : Operand) (t t' : TypeId)
    (ho : o.op = .call { callee := .builtin .copy, args := #[d, s], argTypes := #[t, t'] }) (v u : Value) (hd : a.eval d = v) (hs : a.eval s = u) {v' : Value} {w' : World}
    (hr : (Builtin.copy_ #[t, t'] o.type #[v, u]).run P w = .ok v' w') (h : K (a.put o.dst v') w') : o.wp P a w K Q := by
  unfold Oper.wp execOp
  simp only [ho, resolve, invoke, builtin, Sem.run_bind, Sem.run_pure, Result.andThen_ok, List.map_toArray, List.map_cons, List.map_nil, hd, hs, hr]
  exact h
theorem wpList_copy_runJ (w : World) {ops : Array Oper} {rest : List Oper} {o : Oper} {a : Act} {Q : Exit → Act → World → Prop} (hgd : o.guard = none) (d s : Operand) (t t' : TypeId)
    (ho : o.op = .call { callee := .builtin .copy, args := #[d, s], argTypes := #[t, t'] }) (v u : Value) (hd : a.eval d = v) (hs : a.eval s = u) {v' : Value} {w' : World}
    (hr : (Builtin.copy_ #[t, t'] o.type #[v, u]).run P w = .ok v' w') (h : wpList P ops Q rest (a.put o.dst v') w') : wpList P ops Q (o :: rest) a w :=
  wpList_plain hgd fun _ hK => wp_copy_runJ w d s t t' ho v u hd hs hr (hK _ _ h)
theorem step_copy_runJ {ops : Array Oper} {o : Oper} {a : Act} {w : World} {K : Act → World → Prop} {Q : Exit → Act → World → Prop} {E : Prop}
    (hg : o.guard = none) (d x : Operand) (dT sT : TypeId) (hop : o.op = Op.call { callee := Callee.builtin Builtin.copy, args := #[d, x], argTypes := #[dT, sT] })
    (v u : Value) (hd : a.eval d = v) (hx : a.eval x = u) {v' : Value} {w' : World} (hr : (Builtin.copy_ #[dT, sT] o.type #[v, u]).run P w = .ok v' w') (hK : K (a.put o.dst v') w') :
    if Region.wanted o (yielded ops a.tmps) = true then Oper.wp P o a w K Q else E := by
  have hw : Region.wanted o (yielded ops a.tmps) = true := by simp [Region.wanted, hg]
  rw [if_pos hw]
  unfold Oper.wp
  simp [execOp, hop, resolve, invoke, builtin, hd, hx, hr, Result.andThen]
  exact hK

/-- Two rows in two blocks, the second of which is plain: they do not overlap. -/
theorem run_overlaps_plain (w : World) (tS tR e : TypeId) (ht : P.underlying tS = some (.slice e)) (size : Nat) (hz : ∀ w, (Go.sizeOf e).run P w = .ok size w)
    (a b : Addr) (la ca lb cb : Nat) (hne : a.block ≠ b.block) (tA : TypeId) (kA : Nat) (hsa : w.shape? a.block = some (tA, kA)) (hkA : kA ≠ 0) {cs : Array Value} {el : TypeId} (hb : w.heap[b.block]? = some (.cells cs el (0, 0))) :
    (Extern.SlicesOverlaps.overlaps #[tS, tS] #[tR] #[.slice (some a) la ca, .slice (some b) lb cb]).run P w = .ok (.bool false) w := by
  have hnb : (a.block != b.block) = true := by simpa using hne
  have hnb' : (a.block == b.block) = false := by simpa using hne
  have hsb : w.shape? b.block = some (el, cs.size) := by simp [World.shape?, hb]
  have hfb : w.frozen? b = false := by simp [World.frozen?, hb]
  have hfe : w.frozen? { block := b.block, off := cs.size } = false := by simp [World.frozen?, hb]
  change Sem.run P (α := Value) (do
    let some t := (#[tS, tS] : Array TypeId)[0]? | stuck "slices.overlaps: no parameter types"
    let .slice elem ← underlying t | stuck "slices.overlaps: slice type expected"
    let size ← sizeOf elem
    match (some a : Option Addr), (some b : Option Addr) with
    | some a, some b =>
      if la = 0 ∨ lb = 0 ∨ size = 0 then pure (Value.bool false)
      else if a.block != b.block && (← frozen a) && (← frozen b) then unsupported .addressObserved
      else do
        if a.block != b.block then do
          noView a; noView b
          if ← mayBeOne a b then return Value.bool ((← choose (.extern "sameAddr.stringBytes" 2)) == 1)
        pure (Value.bool (a.block == b.block && a.off < b.off + lb * size && b.off < a.off + la * size))
    | _, _ => pure (Value.bool false)) w = _
  by_cases h0 : la = 0 ∨ lb = 0 ∨ size = 0
  · simp [run_underlying ht, hz, h0]
  · cases kA with
    | zero => exact absurd rfl hkA
    | succ kA =>
      cases hfa : w.frozen? a <;> cases hf2 : w.frozen? { block := a.block, off := kA + 1 } <;>
      simp [run_underlying ht, hz, h0, hnb, hnb', frozen, noView, viewAt, mayBeOne, stringish, shape, Sem.run, hsa, hsb, hfa, hf2, hfb, hfe]

/-- A row's cells, some of them written. -/
theorem heap_setCells (b : Nat) (el : TypeId) (fr : Nat × Nat) : ∀ (vs : List Value) (o : Nat) (w : World) (cur : Array Value), w.heap[b]? = some (.cells cur el fr) → o + vs.length ≤ cur.size →
    ∃ cur', (w.setCells b o vs).heap[b]? = some (.cells cur' el fr) ∧ cur'.toList = cur.toList.take o ++ vs ++ cur.toList.drop (o + vs.length)
  | [], o, w, cur, h, _ => ⟨cur, h, by simp⟩
  | v :: r, o, w, cur, h, hl => by
    simp only [List.length_cons] at hl
    have h1 := heap_setCell_at w b o v h
    obtain ⟨cur', h2, h3⟩ := heap_setCells b el fr r (o + 1) _ _ h1 (by simp; omega)
    refine ⟨cur', h2, ?_⟩
    rw [h3]
    have ho : o < cur.toList.length := by simp; omega
    simp only [Array.toList_setIfInBounds, List.length_cons]
    rw [List.take_add_one, List.drop_set_of_lt (by omega), List.take_set_of_le (Nat.le_refl _)]
    simp only [List.getElem?_set_self ho, Option.toList_some]
    simp [Nat.add_assoc, Nat.add_comm 1]

theorem setCells_other (b k : Nat) (hk : k ≠ b) : ∀ (vs : List Value) (o : Nat) (w : World), (w.setCells b o vs).heap[k]? = w.heap[k]?
  | [], _, _ => rfl
  | v :: r, o, w => by
    show ((w.setCell (at_ b o) v).setCells b (o + 1) r).heap[k]? = _
    rw [setCells_other b k hk r, heap_setCell_ne w b o k v hk]
theorem setCells_size (b : Nat) : ∀ (vs : List Value) (o : Nat) (w : World), (w.setCells b o vs).heap.size = w.heap.size
  | [], _, _ => rfl
  | v :: r, o, w => by
    show ((w.setCell (at_ b o) v).setCells b (o + 1) r).heap.size = _
    rw [setCells_size b r]; simp
end

theorem overlaps_run (w : World) (a b : Addr) (la ca lb cb : Nat) (hne : a.block ≠ b.block) (tA : TypeId) (kA : Nat) (hsa : w.shape? a.block = some (tA, kA)) (hkA : kA ≠ 0) {cs : Array Value} {el : TypeId} (hb : w.heap[b.block]? = some (.cells cs el (0, 0))) :
    (callFunc 112 #[.slice (some a) la ca, .slice (some b) lb cb]).run Try.prog w = .ok (.value (.bool false)) w := by
  rw [run_callFunc_extern Try.func112 (by kernel_rfl) (by kernel_rfl) (by kernel_rfl) (e := Extern.SlicesOverlaps.overlaps #[46, 46] #[4]) (by kernel_rfl),
    run_overlaps_plain w 46 4 87 Try.underlying46 6 (fun w => by kernel_rfl) a b la ca lb cb hne tA kA hsa hkA hb]
  rfl

set_option maxHeartbeats 4000000 in
set_option maxRecDepth 100000 in
theorem insert_end (v v' : Value) (n : Nat) (vb voff vc : Nat) (w w' : World) (base : Option Addr) (c : Nat) (hn : n ≤ c) (hc : c ≤ 9223372036854775807) (hv : v = .slice base n c) (hb : base = none → n = 0)
    (hr : (Builtin.append_ #[46, 46] 46 #[v, .slice (some (at_ vb voff)) 1 vc]).run Try.prog w = .ok v' w') :
    Calls Try.prog 104 #[v, .int .i64 n, .slice (some (at_ vb voff)) 1 vc] w fun e W => e = .returned v' ∧ W = w' := by
  subst hv
  go_enter Try.func104, Try.ntmps104
  cases base with
  | none =>
    have h0 := hb rfl
    subst h0
    go_wp2_with (at_builtin; refine Lib.wpList_append_run _ rfl _ _ _ _ rfl _ _ rfl rfl _ _ hr ?_)
    go_ret
    exact ⟨rfl, rfl⟩
  | some a =>
    obtain ⟨ab, ao, asp⟩ := a
    go_wp2_with (at_builtin; refine Lib.wpList_append_run _ rfl _ _ _ _ rfl _ _ rfl rfl _ _ hr ?_)
    all_goals (go_ret; exact ⟨rfl, rfl⟩)

theorem isSome_setCellsJ (b : Nat) (vs : List Value) (o : Nat) (w : World) (h : ∀ j, j < vs.length → (w.cell? ⟨b, o + j, none⟩).isSome = true) (k : Nat) (hk : (w.cell? ⟨b, k, none⟩).isSome = true) : ((w.setCells b o vs).cell? ⟨b, k, none⟩).isSome = true := by
  by_cases hin : o ≤ k ∧ k < o + vs.length
  · have := World.cell?_setCells_in b vs o w h (k - o) (by omega)
    rw [show o + (k - o) = k by omega] at this
    rw [this]; rfl
  · rw [World.cell?_setCells_out b vs o w ⟨b, k, none⟩ (fun _ _ => by show k < o ∨ o + vs.length ≤ k; omega)]
    exact hk

set_option maxHeartbeats 4000000 in
set_option maxRecDepth 100000 in
theorem insert_shift (b n c i vb voff vc : Nat) (cs vs : List Value) (w : World) (hi : i < n) (hroom : n + 1 ≤ c) (hc63 : c ≤ 9223372036854775807) (hvb : vb ≠ b) (hcl : cs.length = n * 6) (hvl : vs.length = 6)
    (hcs : ∀ j v, cs[j]? = some v → w.cell? ⟨b, j, none⟩ = some v) (hsp : ∀ j, j < (n + 1) * 6 → (w.cell? ⟨b, j, none⟩).isSome = true) (hfz : ∀ j, w.frozen? ⟨b, j, none⟩ = false)
    (hvs : ∀ j v, vs[j]? = some v → w.cell? ⟨vb, voff + j, none⟩ = some v) (h1c : ∀ v ∈ cs, v.oneCell' = true) (h1v : ∀ v ∈ vs, v.oneCell' = true)
    (tA : TypeId) (kA : Nat) (hsa : w.shape? vb = some (tA, kA)) (hkA : kA ≠ 0) {arr : Array Value} {el : TypeId} (hb : w.heap[b]? = some (.cells arr el (0, 0))) :
    Calls Try.prog 104 #[.slice (some ⟨b, 0, none⟩) n c, .int .i64 i, .slice (some ⟨vb, voff, none⟩) 1 vc] w fun e w' =>
      e = .returned (.slice (some ⟨b, 0, none⟩) (n + 1) c) ∧ w' = (w.drew.setCells b ((i + 1) * 6) (cs.drop (i * 6))).setCells b (i * 6) vs := by
  have hz2 : ¬ ((i : Int) = (n : Int)) := by omega
  have hsz : (Try.prog.info? 87).map (·.size) = some 6 := by kernel_rfl
  have hov : ∀ lb cb, (callFunc 112 #[.slice (some ⟨vb, voff, none⟩) 1 vc, .slice (some ⟨b, (i + 1) * 6, none⟩) lb cb]).run Try.prog w = .ok (.value (.bool false)) w := fun lb cb =>
    overlaps_run w ⟨vb, voff, none⟩ ⟨b, (i + 1) * 6, none⟩ 1 vc lb cb hvb tA kA hsa hkA hb
  have hdl : (cs.drop (i * 6)).length = (n - i) * 6 := by rw [List.length_drop, hcl, Nat.sub_mul]
  have mixed : Try.prog.follows .mixedOrders = true := by kernel_rfl
  have hcp1 : ∀ ty dc sc, (Builtin.copy_ #[46, 46] ty #[.slice (some ⟨b, (i + 1) * 6, none⟩) (n + 1 - (i + 1)) dc, .slice (some ⟨b, i * 6, none⟩) (n + 1 - i) sc]).run Try.prog w.drew = .ok (goInt ((n - i : Nat) : Int)) (w.drew.setCells b ((i + 1) * 6) (cs.drop (i * 6))) := fun ty dc sc =>
    run_copy_sz w.drew _ _ ty 87 6 (n - i) b ((i + 1) * 6) (n + 1 - (i + 1)) dc ⟨b, i * 6, none⟩ (n + 1 - i) sc (cs.drop (i * 6)) Try.underlying46 hsz (by simp only [Nat.min_def]; split <;> omega) hdl
      (fun j v hj => by rw [Addr.add_lit]; exact hcs (i * 6 + j) v (by rwa [List.getElem?_drop] at hj))
      (fun j hj => hsp _ (by omega)) (fun j hj => hfz _) (fun v hv => h1c v (List.mem_of_mem_drop hv))
  obtain ⟨W1, hW1⟩ : ∃ W1, W1 = w.drew.setCells b ((i + 1) * 6) (cs.drop (i * 6)) := ⟨_, rfl⟩
  have hsp1 : ∀ k, k < (n + 1) * 6 → (W1.cell? ⟨b, k, none⟩).isSome = true := fun k hk => by
    rw [hW1]
    exact isSome_setCellsJ b (cs.drop (i * 6)) ((i + 1) * 6) w.drew (fun j hj => hsp _ (by rw [hdl] at hj; omega)) _ (hsp k hk)
  have hcp2 : ∀ (W : World), (∀ x, W.cell? x = W1.cell? x) → (∀ x, W.frozen? x = W1.frozen? x) → ∀ ty dc, (Builtin.copy_ #[46, 46] ty #[.slice (some ⟨b, i * 6, none⟩) (n + 1 - i) dc, .slice (some ⟨vb, voff, none⟩) 1 vc]).run Try.prog W = .ok (goInt 1) (W.setCells b (i * 6) vs) := fun W hWc hWf ty dc =>
    run_copy_sz W _ _ ty 87 6 1 b (i * 6) (n + 1 - i) dc ⟨vb, voff, none⟩ 1 vc vs Try.underlying46 hsz (by simp only [Nat.min_def]; split <;> omega) (by rw [hvl])
      (fun j v hj => by
        rw [Addr.add_lit, hWc, hW1, World.cell?_setCells_out b _ _ _ _ (fun h _ => absurd h hvb)]
        exact hvs j v hj)
      (fun j hj => by rw [hWc]; exact hsp1 _ (by omega)) (fun j hj => by rw [hWf, hW1, World.frozen?_setCells]; exact hfz _) h1v
  rw [← hW1] at hcp1
  have hw1 : IntKind.i64.wrap ((i : Int) + 1) = (i : Int) + 1 := by rw [IntKind.wrap_i64]; omega
  have hw2 : IntKind.i64.wrap ((n : Int) + 1) = (n : Int) + 1 := by rw [IntKind.wrap_i64]; omega
  have hb1 : (0 : Int) ≤ (i : Int) + 1 := by omega
  have hin : i ≤ n := by omega
  have htn : ((i : Int) + 1).toNat = i + 1 := by omega
  have hb2 : ¬ (c = i + 1) := by omega
  have hb3 : (i : Int) ≤ (n : Int) + 1 := by omega
  have hb4 : ¬ (c = i) := by omega
  go_enter Try.func104, Try.ntmps104
  go_wp2_with (simp only [hov])
  go_region_law_o (refine step_copy_runJ rfl _ _ 46 46 rfl (.slice (some ⟨b, (i + 1) * 6, none⟩) (n + 1 - (i + 1)) (c - (i + 1))) (.slice (some ⟨b, i * 6, none⟩) (n + 1 - i) (c - i)) (by simp [Act.eval, Act.put]) (by simp [Act.eval, Act.put]) (hcp1 3 (c - (i + 1)) (c - i)) ?_)
  go_wp2_with (refine wpList_copy_runJ _ rfl _ _ 46 46 rfl _ _ rfl rfl (hcp2 _ (fun _ => rfl) (fun _ => rfl) _ _) ?_)
  go_ret
  first | exact ⟨rfl, rfl⟩ | exact ⟨rfl, by rw [hW1]⟩

set_option maxHeartbeats 4000000 in
set_option maxRecDepth 100000 in
theorem insert_grow (b n c i vb voff vc : Nat) (cs vs : List Value) (w : World) (hi : i < n) (hnc : n ≤ c) (hroom : c < n + 1) (hn : n ≤ 1048576) (hvb : vb ≠ b) (hcl : cs.length = n * 6) (hvl : vs.length = 6)
    (hcs : ∀ j v, cs[j]? = some v → w.cell? ⟨b, j, none⟩ = some v)
    (hvs : ∀ j v, vs[j]? = some v → w.cell? ⟨vb, voff + j, none⟩ = some v) (h1c : ∀ v ∈ cs, v.oneCell' = true) (h1v : ∀ v ∈ vs, v.oneCell' = true)
    {ti : TypeInfo} {z : Value} (hi0 : Try.prog.info? 87 = some ti) (hz0 : ti.zero = some z) (hzs : z.cells.size = ti.size) (hzo : ∀ x ∈ z.cells.toList, x.oneCell' = true) (hsz6 : ti.size = 6) (hbz : ti.bytes = 96) :
    ∃ ROW : Array Value, ∃ G : Nat, n + 1 ≤ G ∧ G ≤ maxLen ∧ ROW.size = G * 6 ∧ (∀ x ∈ ROW.toList, x.oneCell' = true) ∧ ROW.toList.take (i * 6) = cs.take (i * 6) ∧
    Calls Try.prog 104 #[.slice (some ⟨b, 0, none⟩) n c, .int .i64 i, .slice (some ⟨vb, voff, none⟩) 1 vc] w fun e w' =>
      e = .returned (.slice (some ⟨w.heap.size, 0, none⟩) (n + 1) G) ∧ w' = (((w.alloc (.cells ROW 87)).drew.setCells w.heap.size (i * 6) vs).drew).setCells w.heap.size ((i + 1) * 6) (cs.drop (i * 6)) := by
  have hz2 : ¬ ((i : Int) = (n : Int)) := by omega
  have hz3 : (c : Int) < (n : Int) + 1 := by omega
  have hsz : (Try.prog.info? 87).map (·.size) = some 6 := by rw [hi0]; simp [hsz6]
  have mixed : Try.prog.follows .mixedOrders = true := by kernel_rfl
  have hbw : b < w.heap.size := block_lt_of_cell (hcs 0 _ (List.getElem?_eq_getElem (by omega)))
  have hvw : vb < w.heap.size := block_lt_of_cell (hvs 0 _ (List.getElem?_eq_getElem (by omega)))
  have hkk : (n : Int) + 1 - (i : Int) = ((n + 1 - i : Nat) : Int) := by omega
  have hik : i + (n + 1 - i) = n + 1 := by omega
  have hold : (Builtin.firstCells ti.size i (.slice (some ⟨b, 0, none⟩) i c)).run Try.prog w.drew = .ok (cs.take (i * 6)).toArray w.drew := by
    rw [hsz6]
    exact run_firstCells_some w.drew 6 i ⟨b, 0, none⟩ i c (cs.take (i * 6)) (by rw [List.length_take]; omega) (fun j v hj => by
      rw [Addr.add_lit]
      rw [List.getElem?_take] at hj
      split at hj
      · rw [Nat.zero_add]; exact hcs j v hj
      · cases hj)
  have hrz : ∀ ty, (Builtin.append_ #[46, 3] ty #[.slice (some ⟨b, 0, none⟩) i c, .int .i64 ((n : Int) + 1 - (i : Int))]).run Try.prog w =
      .ok (.slice (some ⟨w.heap.size, 0, none⟩) (n + 1) (grownCap w (n + 1) c 87)) (w.drew.alloc (.cells ((cs.take (i * 6)).toArray ++ Builtin.zeroCells z.cells (n + 1 - i) ++ Builtin.zeroCells z.cells (grownCap w (n + 1) c 87 - (n + 1))) 87)) := fun ty => by
    have h := Lib.run_append_grow_zeros w 46 3 ty 87 ti z .i64 .i64 Try.underlying46 Try.underlying3 hi0 hz0 (some ⟨b, 0, none⟩) i c (cs.take (i * 6)) hold (n + 1 - i) (by omega) (by omega) (by omega) (by omega) (by rw [hbz]; omega) (by rw [hbz, hik]; exact growslice_fits hroom (by omega))
    rw [hik] at h
    rw [hkk]
    exact h
  obtain ⟨G, hG⟩ : ∃ G, G = grownCap w (n + 1) c 87 := ⟨_, rfl⟩
  obtain ⟨ROW, hROW⟩ : ∃ ROW : Array Value, ROW = (cs.take (i * 6)).toArray ++ Builtin.zeroCells z.cells (n + 1 - i) ++ Builtin.zeroCells z.cells (G - (n + 1)) := ⟨_, rfl⟩
  rw [← hG] at hrz
  rw [← hROW] at hrz
  have hGn : n + 1 ≤ G := by rw [hG]; exact grownCap_ge w _ _ _
  have hGm : G ≤ maxLen := by rw [hG]; exact grownCap_le_maxLen w (n + 1) c 87 (by unfold maxLen; omega)
  have hRs : ROW.size = G * 6 := by
    rw [hROW]
    simp only [Array.size_append, List.size_toArray, size_zeroCells, hzs, hsz6, List.length_take, hcl]
    omega
  have hRt : ROW.toList.take (i * 6) = cs.take (i * 6) := by
    rw [hROW]
    simp only [Array.toList_append, List.append_assoc]
    rw [List.take_append_of_le_length (by simp; omega), List.take_of_length_le (by simp; omega)]
  have hRo : ∀ x ∈ ROW.toList, x.oneCell' = true := fun x hx => by
    rw [hROW] at hx
    simp only [Array.toList_append, List.mem_append] at hx
    rcases hx with (hx | hx) | hx
    · exact h1c x (List.mem_of_mem_take hx)
    · exact hzo x (zeroCells_mem hx)
    · exact hzo x (zeroCells_mem hx)
  refine ⟨ROW, G, hGn, hGm, hRs, hRo, hRt, ?_⟩
  obtain ⟨W1, hW1⟩ : ∃ W1, W1 = w.drew.alloc (.cells ROW 87) := ⟨_, rfl⟩
  rw [← hW1] at hrz
  have hN : ∀ j, j < (n + 1) * 6 → (W1.cell? ⟨w.heap.size, j, none⟩).isSome = true := fun j hj => by
    rw [hW1, World.cell?_alloc_at (w := w.drew) ROW _ w.heap.size j rfl, Array.getElem?_eq_getElem (by omega)]; rfl
  have hNf : ∀ j, W1.frozen? ⟨w.heap.size, j, none⟩ = false := fun j => by rw [hW1]; exact World.frozen?_alloc_at (w := w.drew) ROW _ w.heap.size j rfl
  have hOb : ∀ j v, w.cell? ⟨b, j, none⟩ = some v → W1.cell? ⟨b, j, none⟩ = some v := fun j v h => by rw [hW1, World.cell?_alloc_past (w := w.drew) _ b j hbw]; exact h
  have hOv : ∀ j v, w.cell? ⟨vb, j, none⟩ = some v → W1.cell? ⟨vb, j, none⟩ = some v := fun j v h => by rw [hW1, World.cell?_alloc_past (w := w.drew) _ vb j hvw]; exact h
  have hcpA : ∀ (W : World), (∀ x, W.cell? x = W1.cell? x) → (∀ x, W.frozen? x = W1.frozen? x) → ∀ ty dc, (Builtin.copy_ #[46, 46] ty #[.slice (some ⟨w.heap.size, i * 6, none⟩) (n + 1 - i) dc, .slice (some ⟨vb, voff, none⟩) 1 vc]).run Try.prog W = .ok (goInt 1) (W.setCells w.heap.size (i * 6) vs) := fun W hWc hWf ty dc =>
    run_copy_sz W _ _ ty 87 6 1 w.heap.size (i * 6) (n + 1 - i) dc ⟨vb, voff, none⟩ 1 vc vs Try.underlying46 hsz (by simp only [Nat.min_def]; split <;> omega) (by rw [hvl])
      (fun j v hj => by rw [Addr.add_lit, hWc]; exact hOv _ v (hvs j v hj))
      (fun j hj => by rw [hWc]; exact hN _ (by omega)) (fun j hj => by rw [hWf]; exact hNf _) h1v
  have hG63 : G ≤ 9223372036854775807 := by unfold maxLen at hGm; omega
  have hGi : ¬ (G = i) := by omega
  have hGim : ¬ (G = i + 1) := by omega
  have hci : ¬ (c = i) := by omega
  have hbN : b ≠ w.heap.size := by omega
  have hdl : (cs.drop (i * 6)).length = (n - i) * 6 := by rw [List.length_drop, hcl, Nat.sub_mul]
  have hcpB : ∀ (W : World), (∀ x, W.cell? x = (W1.setCells w.heap.size (i * 6) vs).cell? x) → (∀ x, W.frozen? x = (W1.setCells w.heap.size (i * 6) vs).frozen? x) → ∀ ty dc sc, (Builtin.copy_ #[46, 46] ty #[.slice (some ⟨w.heap.size, (i + 1) * 6, none⟩) (n + 1 - (i + 1)) dc, .slice (some ⟨b, i * 6, none⟩) (n - i) sc]).run Try.prog W = .ok (goInt ((n - i : Nat) : Int)) (W.setCells w.heap.size ((i + 1) * 6) (cs.drop (i * 6))) := fun W hWc hWf ty dc sc =>
    run_copy_sz W _ _ ty 87 6 (n - i) w.heap.size ((i + 1) * 6) (n + 1 - (i + 1)) dc ⟨b, i * 6, none⟩ (n - i) sc (cs.drop (i * 6)) Try.underlying46 hsz (by simp only [Nat.min_def]; split <;> omega) hdl
      (fun j v hj => by
        rw [Addr.add_lit, hWc, World.cell?_setCells_out _ _ _ _ _ (fun h _ => absurd h hbN)]
        exact hOb _ v (hcs (i * 6 + j) v (by rwa [List.getElem?_drop] at hj)))
      (fun j hj => by rw [hWc]; exact isSome_setCellsJ _ _ _ _ (fun t ht => hN _ (by omega)) _ (hN _ (by omega)))
      (fun j hj => by rw [hWf, World.frozen?_setCells]; exact hNf _) (fun v hv => h1c v (List.mem_of_mem_drop hv))
  subst hW1
  have hE1 : ∀ x, ((w.alloc (.cells ROW 87)).drew).cell? x = (w.drew.alloc (.cells ROW 87)).cell? x := fun x => rfl
  have hE2 : ∀ x, ((w.alloc (.cells ROW 87)).drew).frozen? x = (w.drew.alloc (.cells ROW 87)).frozen? x := fun x => rfl
  have hF1 : ∀ x, (((w.alloc (.cells ROW 87)).drew.setCells w.heap.size (i * 6) vs).drew).cell? x = ((w.drew.alloc (.cells ROW 87)).setCells w.heap.size (i * 6) vs).cell? x := fun x => rfl
  have hF2 : ∀ x, (((w.alloc (.cells ROW 87)).drew.setCells w.heap.size (i * 6) vs).drew).frozen? x = ((w.drew.alloc (.cells ROW 87)).setCells w.heap.size (i * 6) vs).frozen? x := fun x => rfl
  have hw1 : IntKind.i64.wrap ((i : Int) + 1) = (i : Int) + 1 := by rw [IntKind.wrap_i64]; omega
  have hw2 : IntKind.i64.wrap ((n : Int) + 1) = (n : Int) + 1 := by rw [IntKind.wrap_i64]; omega
  have hw3 : IntKind.i64.wrap ((n : Int) + 1 - i) = (n : Int) + 1 - i := by rw [IntKind.wrap_i64]; omega
  have hb1 : (0 : Int) ≤ (i : Int) + 1 := by omega
  have hin : i ≤ n := by omega
  have htn : ((i : Int) + 1).toNat = i + 1 := by omega
  have hb3 : (i : Int) ≤ (n : Int) := by omega
  clear hkk hik hold hROW hG
  go_enter Try.func104, Try.ntmps104
  go_wp2_with (first
    | (at_builtin; refine Lib.wpList_append_run _ rfl _ _ _ _ rfl _ _ rfl rfl _ _ (hrz _) ?_)
    | (refine wpList_copy_runJ _ rfl _ _ 46 46 rfl _ _ rfl rfl (hcpA _ hE1 hE2 _ _) ?_)
    | (refine wpList_copy_runJ _ rfl _ _ 46 46 rfl _ _ rfl rfl (hcpB _ (fun _ => rfl) (fun _ => rfl) _ _ _) ?_))
  go_region_law_o (refine step_copy_runJ rfl _ _ 46 46 rfl (.slice (some ⟨w.heap.size, (i + 1) * 6, none⟩) (n + 1 - (i + 1)) (G - (i + 1))) (.slice (some ⟨b, i * 6, none⟩) (n - i) (c - i)) (by simp [Act.eval, Act.put]) (by simp [Act.eval, Act.put]) (hcpB _ hF1 hF2 3 (G - (i + 1)) (c - i)) ?_)
  go_wp2
  go_ret
  exact ⟨rfl, rfl⟩

theorem setCells_rest (b : Nat) : ∀ (vs : List Value) (o : Nat) (w : World), (w.setCells b o vs).os = w.os ∧ (w.setCells b o vs).tape = w.tape ∧ (w.setCells b o vs).output = w.output
  | [], _, _ => ⟨rfl, rfl, rfl⟩
  | v :: r, o, w => by
    have := setCells_rest b r (o + 1) (w.setCell (at_ b o) v)
    exact this

theorem cell_shape {w : World} {b o : Nat} {u : Value} (h : w.cell? (at_ b o) = some u) : ∃ t k, w.shape? b = some (t, k) ∧ k ≠ 0 := by
  simp only [World.cell?, at_] at h
  split at h
  · rename_i cs t fr hh
    simp at h
    have := (Array.getElem?_eq_some_iff.1 h).1
    exact ⟨t, cs.size, by simp [World.shape?, hh], by omega⟩
  · cases h

theorem fieldInfo : ∃ ti z, Try.prog.info? 87 = some ti ∧ ti.zero = some z ∧ z.cells.size = ti.size ∧ (∀ x ∈ z.cells.toList, x.oneCell' = true) ∧ ti.size = 6 ∧ ti.bytes = 96 := by
  obtain ⟨ti, z, h1, h2, h3, h4⟩ := zeroOne_inv (P := Try.prog) (e := 87) (by kernel_rfl)
  have h5 : (Try.prog.info? 87).map (fun i => (i.size, i.bytes)) = some (6, 96) := by kernel_rfl
  rw [h1] at h5
  simp at h5
  exact ⟨ti, z, h1, h2, h3, h4, h5.1, h5.2⟩

/-- What was there, an element put in, what was there behind it. -/
theorem shift_list {C xs news : List Value} {m i : Nat} (hx : C.take (m * 6) = xs) (hC : (m + 1) * 6 ≤ C.length) (hn : news.length = 6) (hi : i ≤ m) {C1 C2 : List Value}
    (h1 : C1 = C.take ((i + 1) * 6) ++ xs.drop (i * 6) ++ C.drop ((i + 1) * 6 + (xs.drop (i * 6)).length)) (h2 : C2 = C1.take (i * 6) ++ news ++ C1.drop (i * 6 + news.length)) :
    C2.length = C.length ∧ C2.take ((m + 1) * 6) = xs.take (i * 6) ++ news ++ xs.drop (i * 6) ∧ ∀ x ∈ C2, x ∈ C ∨ x ∈ news := by
  have hxl : xs.length = m * 6 := by rw [← hx, List.length_take]; omega
  have hdl : (xs.drop (i * 6)).length = (m - i) * 6 := by rw [List.length_drop, hxl, Nat.sub_mul]
  have hmi : (i + 1) * 6 + (m - i) * 6 = (m + 1) * 6 := by omega
  have htl : (C.take ((i + 1) * 6)).length = (i + 1) * 6 := by rw [List.length_take]; omega
  have e1 : C1.take (i * 6) = xs.take (i * 6) := by
    rw [h1, List.append_assoc, List.take_append_of_le_length (by omega), List.take_take, ← hx, List.take_take]
    congr 1; omega
  have e2 : C1.drop (i * 6 + news.length) = xs.drop (i * 6) ++ C.drop ((m + 1) * 6) := by
    have : i * 6 + news.length = (C.take ((i + 1) * 6)).length := by omega
    rw [this, h1, List.append_assoc, List.drop_left, hdl, hmi]
  rw [e1, e2] at h2
  have htl2 : (xs.take (i * 6)).length = i * 6 := by rw [List.length_take]; omega
  refine ⟨?_, ?_, fun x hx2 => ?_⟩
  · rw [h2]; simp only [List.length_append, htl2, hn, hdl, List.length_drop]; omega
  · have : (m + 1) * 6 = (xs.take (i * 6) ++ news ++ xs.drop (i * 6)).length := by simp only [List.length_append, htl2, hn, hdl]; omega
    rw [h2, ← List.append_assoc, this, List.take_left]
  · have hsub : ∀ y ∈ xs, y ∈ C := fun y hy => by rw [← hx] at hy; exact List.mem_of_mem_take hy
    rw [h2] at hx2
    simp only [List.mem_append] at hx2
    rcases hx2 with (h | h) | h | h
    · exact .inl (hsub x (List.mem_of_mem_take h))
    · exact .inr h
    · exact .inl (hsub x (List.mem_of_mem_drop h))
    · exact .inl (List.mem_of_mem_drop h)

theorem grow_list {R xs news : List Value} {m i : Nat} (hx : xs.length = m * 6) (hR : R.take (i * 6) = xs.take (i * 6)) (hRl : (m + 1) * 6 ≤ R.length) (hn : news.length = 6) (hi : i ≤ m) {C1 C2 : List Value}
    (h1 : C1 = R.take (i * 6) ++ news ++ R.drop (i * 6 + news.length)) (h2 : C2 = C1.take ((i + 1) * 6) ++ xs.drop (i * 6) ++ C1.drop ((i + 1) * 6 + (xs.drop (i * 6)).length)) :
    C2.length = R.length ∧ C2.take ((m + 1) * 6) = xs.take (i * 6) ++ news ++ xs.drop (i * 6) ∧ ∀ x ∈ C2, x ∈ R ∨ x ∈ news ∨ x ∈ xs := by
  have hdl : (xs.drop (i * 6)).length = (m - i) * 6 := by rw [List.length_drop, hx, Nat.sub_mul]
  have htl : (xs.take (i * 6)).length = i * 6 := by rw [List.length_take]; omega
  rw [hR] at h1
  have hc1 : C1.length = R.length := by rw [h1]; simp only [List.length_append, htl, hn, List.length_drop]; omega
  have e1 : C1.take ((i + 1) * 6) = xs.take (i * 6) ++ news := by
    have : (i + 1) * 6 = (xs.take (i * 6) ++ news).length := by simp only [List.length_append, htl, hn]; omega
    rw [h1, this, List.take_left]
  rw [e1] at h2
  refine ⟨?_, ?_, fun x hx2 => ?_⟩
  · rw [h2]; simp only [List.length_append, htl, hn, hdl, List.length_drop, hc1]; omega
  · have : (m + 1) * 6 = (xs.take (i * 6) ++ news ++ xs.drop (i * 6)).length := by simp only [List.length_append, htl, hn, hdl]; omega
    rw [h2, this, List.take_left]
  · rw [h2] at hx2
    simp only [List.mem_append] at hx2
    rcases hx2 with ((h | h) | h) | h
    · exact .inr (.inr (List.mem_of_mem_take h))
    · exact .inr (.inl h)
    · exact .inr (.inr (List.mem_of_mem_drop h))
    · have h := List.mem_of_mem_drop h
      rw [h1] at h
      simp only [List.mem_append] at h
      rcases h with (h | h) | h
      · exact .inr (.inr (List.mem_of_mem_take h))
      · exact .inr (.inl h)
      · exact .inl (List.mem_of_mem_drop h)

theorem insSpec : InsSpec Try.prog 104 6 := by
  refine ⟨by kernel_rfl, fun w el v m xs i vb voff vc news hown ho hi hm hne hnl hnc => ?_⟩
  obtain ⟨ti, z, q1, q2, q3, q4, q5, q6⟩ := fieldInfo
  have hxl : xs.length = m * 6 := hown.1
  have hnews : ∀ j u, news[j]? = some u → w.cell? ⟨vb, voff + j, none⟩ = some u := fun j u hj => (hnc j u hj).1
  have h1v : ∀ u ∈ news, u.oneCell' = true := fun u hu => by
    obtain ⟨j, hj⟩ := List.getElem?_of_mem hu
    exact (hnc j u hj).2
  have hmax : (1048577 : Nat) ≤ maxLen := by simp [maxLen]
  -- at the end
  have atEnd : ∀ base c, v = .slice base m c → m ≤ c → c ≤ 9223372036854775807 → (base = none → m = 0) → i = m →
      Calls Try.prog 104 #[v, .int .i64 i, .slice (some (at_ vb voff)) 1 vc] w fun e w' => ∃ v' el', e = .returned v' ∧ w'.ownsRow 0 el' 6 v' (m + 1) (xs.take (i * 6) ++ news ++ xs.drop (i * 6)) ∧ Grow w w' v v' 0 ∧ OneAll w' v' := fun base c hv hmc hc hb him => by
    subst him
    have hsrc : Src Try.prog ti.size 46 (.slice (some (at_ vb voff)) 1 vc) 1 news w := Src.ofSlice w Try.underlying46 (at_ vb voff) 1 vc news (by rw [q5, hnl]) (fun j u hj => by rw [at_add]; exact hnews j u hj) h1v
    rw [← q5] at hown
    obtain ⟨v', w', el', r1, r2, r3, r4⟩ := run_append_one (P := Try.prog) w 46 46 46 87 el ti z Try.underlying46 q1 q2 q3 v i xs hown _ 1 news hsrc (by omega) (by rw [q6]; omega) (by omega) ho q4
    refine (insert_end v v' i vb voff vc w w' base c hmc hc hv hb r1).mono fun e W ⟨he, hW⟩ => ?_
    subst he; subst hW
    refine ⟨v', el', rfl, ?_, { r3 with cells := fun b hb j hj => by omega }, r4⟩
    rw [List.take_of_length_le (by omega), List.drop_of_length_le (by omega), List.append_nil, ← q5]
    exact r2
  rcases hown.2 with ⟨rfl, rfl⟩ | ⟨g, cap, cur, rfl, _, hg, hnc2, hcm, hcs, htake⟩
  · exact atEnd none 0 rfl (by omega) (by omega) (fun _ => rfl) (by omega)
  · have hc63 : cap ≤ 9223372036854775807 := by simp only [maxLen] at hcm; omega
    by_cases him : i = m
    · exact atEnd _ cap rfl hnc2 hc63 (fun h => by cases h) him
    · have hlt : i < m := by omega
      have hgb : vb ≠ g := fun e => hne (by rw [e]; rfl)
      have hcell : ∀ j u, xs[j]? = some u → w.cell? ⟨g, j, none⟩ = some u := fun j u hj => by
        have := hown.cells (g := g) rfl j u hj
        rw [add_zero_at] at this
        exact this
      have h1c : ∀ u ∈ xs, u.oneCell' = true := fun u hu => by
        rw [← htake] at hu
        exact ho g cur _ _ rfl hg u (List.mem_of_mem_take hu)
      have hcl : cur.toList.length = cap * 6 := by simpa using hcs
      by_cases hroom : m + 1 ≤ cap
      · obtain ⟨u, hu⟩ : ∃ u, news[0]? = some u := ⟨_, List.getElem?_eq_getElem (by omega)⟩
        obtain ⟨tA, kA, s1, s2⟩ := cell_shape (hnc 0 u hu).1
        refine (insert_shift g m cap i vb voff vc xs news w hlt hroom hc63 hgb hxl hnl hcell (fun j hj => ?_) (fun j => by simp [World.frozen?, hg]) hnews h1c h1v tA kA s1 s2 hg).mono fun e W ⟨he, hW⟩ => ?_
        · simp only [World.cell?, hg]
          have : j < cur.size := by rw [hcs]; omega
          simp [this]
        · subst he
          have hdl : (xs.drop (i * 6)).length = (m - i) * 6 := by rw [List.length_drop, hxl, Nat.sub_mul]
          obtain ⟨c1, k1, k2⟩ := heap_setCells g el (0, 0) (xs.drop (i * 6)) ((i + 1) * 6) w.drew cur hg (by rw [hdl, hcs]; omega)
          have hc1 : c1.size = cur.size := by
            have := congrArg List.length k2
            simp only [Array.length_toList, List.length_append, List.length_take, List.length_drop, hdl] at this
            have hxl' := hxl
            omega
          obtain ⟨c2, k3, k4⟩ := heap_setCells g el (0, 0) news (i * 6) _ c1 k1 (by rw [hnl, hc1, hcs]; omega)
          rw [← hW] at k3
          obtain ⟨l1, l2, l3⟩ := shift_list (C := cur.toList) (xs := xs) (news := news) (m := m) (i := i) htake (by rw [hcl]; omega) hnl hi k2 k4
          refine ⟨_, el, rfl, ⟨?_, .inr ⟨g, cap, c2, rfl, Nat.zero_le _, k3, hroom, hcm, ?_, l2⟩⟩, ⟨?_, fun b hb hbb => ?_, fun _ _ j hj => by omega, .inl rfl, ?_, ?_, ?_⟩, fun b arr e2 fr hb hh x hx => ?_⟩
          · simp only [List.length_append, List.length_take, hdl, hnl, hxl]; omega
          · have : c2.size = cur.size := by simpa using l1
            rw [this, hcs]
          · rw [hW, setCells_size, setCells_size]; exact Nat.le_refl _
          · have : b ≠ g := fun e => hbb (by rw [e]; rfl)
            rw [hW, setCells_other g b this, setCells_other g b this]; rfl
          · rw [hW, (setCells_rest _ _ _ _).1, (setCells_rest _ _ _ _).1]; rfl
          · rw [hW, (setCells_rest _ _ _ _).2.1, (setCells_rest _ _ _ _).2.1]; rfl
          · rw [hW, (setCells_rest _ _ _ _).2.2, (setCells_rest _ _ _ _).2.2]; rfl
          · simp [Value.ownBlock] at hb; subst hb
            rw [k3] at hh; cases hh
            rcases l3 x hx with h | h
            · exact ho g cur _ _ rfl hg x h
            · exact h1v x h
      · obtain ⟨ROW, G, g1, g2, g3, g4, g5, hcall⟩ := insert_grow g m cap i vb voff vc xs news w hlt hnc2 (by omega) hm hgb hxl hnl hcell hnews h1c h1v q1 q2 q3 q4 q5 q6
        refine hcall.mono fun e W ⟨he, hW⟩ => ?_
        subst he
        have hdl : (xs.drop (i * 6)).length = (m - i) * 6 := by rw [List.length_drop, hxl, Nat.sub_mul]
        have hnew : ((w.alloc (.cells ROW 87)).drew).heap[w.heap.size]? = some (.cells ROW 87 (0, 0)) := heap_alloc_at w _
        obtain ⟨c1, k1, k2⟩ := heap_setCells w.heap.size 87 (0, 0) news (i * 6) _ ROW hnew (by rw [hnl, g3]; omega)
        have hc1 : c1.size = ROW.size := by
          have := congrArg List.length k2
          simp only [Array.length_toList, List.length_append, List.length_take, List.length_drop, hnl] at this
          omega
        obtain ⟨c2, k3, k4⟩ := heap_setCells w.heap.size 87 (0, 0) (xs.drop (i * 6)) ((i + 1) * 6) _ c1 (show (((w.alloc (.cells ROW 87)).drew.setCells w.heap.size (i * 6) news).drew).heap[w.heap.size]? = _ from k1) (by rw [hdl, hc1, g3]; omega)
        rw [← hW] at k3
        have hRl : ROW.toList.length = G * 6 := by simpa using g3
        obtain ⟨l1, l2, l3⟩ := grow_list (R := ROW.toList) (xs := xs) (news := news) (m := m) (i := i) hxl g5 (by rw [hRl]; omega) hnl hi k2 k4
        refine ⟨_, 87, rfl, ⟨?_, .inr ⟨w.heap.size, G, c2, rfl, Nat.zero_le _, k3, g1, g2, ?_, l2⟩⟩, ⟨?_, fun b hb hbb => ?_, fun _ _ j hj => by omega, .inr ⟨_, rfl, Nat.le_refl _⟩, ?_, ?_, ?_⟩, fun b arr e2 fr hb hh x hx => ?_⟩
        · simp only [List.length_append, List.length_take, hdl, hnl, hxl]; omega
        · have : c2.size = ROW.size := by simpa using l1
          rw [this, g3]
        · rw [hW, setCells_size]
          show _ ≤ ((w.alloc (.cells ROW 87)).drew.setCells w.heap.size (i * 6) news).heap.size
          rw [setCells_size]
          show _ ≤ (w.alloc (.cells ROW 87)).heap.size
          simp
        · have hb' : b ≠ w.heap.size := by omega
          rw [hW, setCells_other _ b hb']
          show ((w.alloc (.cells ROW 87)).drew.setCells w.heap.size (i * 6) news).heap[b]? = _
          rw [setCells_other _ b hb']
          exact heap_alloc_lt w _ hb
        · rw [hW, (setCells_rest _ _ _ _).1]
          show ((w.alloc (.cells ROW 87)).drew.setCells w.heap.size (i * 6) news).os = _
          rw [(setCells_rest _ _ _ _).1]; rfl
        · rw [hW, (setCells_rest _ _ _ _).2.1]
          show ((w.alloc (.cells ROW 87)).drew.setCells w.heap.size (i * 6) news).tape = _
          rw [(setCells_rest _ _ _ _).2.1]; rfl
        · rw [hW, (setCells_rest _ _ _ _).2.2]
          show ((w.alloc (.cells ROW 87)).drew.setCells w.heap.size (i * 6) news).output = _
          rw [(setCells_rest _ _ _ _).2.2]; rfl
        · simp [Value.ownBlock] at hb; subst hb
          rw [k3] at hh; cases hh
          rcases l3 x hx with h | h | h
          · exact g4 x h
          · exact h1v x h
          · exact h1c x h
end Go.Av.Try
