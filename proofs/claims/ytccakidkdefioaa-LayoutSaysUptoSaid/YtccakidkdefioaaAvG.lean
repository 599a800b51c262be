import Derived.Test.YtccakidkdefioaaAvF
import Derived.MapKept
import Derived.Laws.IdiomRangeMap
/- Rows whose elements may be written in place: appending to them. -/
set_option linter.unusedSectionVars false
namespace Go.Av

variable {E : Entry} {n : Nat} {G : Ghost} {σ : St} {ts : Array Value} {w : World} {P : Program} [Inv P]

def rowC (sz : Nat) (fs : List D) (c : Nat) : List AV := (fs.flatMap D.cells).map .d ++ List.replicate ((c - fs.length) * sz) .junk

theorem flatCells_len {sz : Nat} : ∀ {fs : List D}, (∀ y ∈ fs, y.cells.length = sz) → (fs.flatMap D.cells).length = fs.length * sz
  | [], _ => by simp
  | f :: fs, h => by
    rw [List.flatMap_cons, List.length_append, flatCells_len (fun y hy => h y (by simp [hy])), h f (by simp), List.length_cons, Nat.add_mul]; omega

theorem rowC_len {sz c : Nat} {fs : List D} (h : ∀ y ∈ fs, y.cells.length = sz) (hc : fs.length ≤ c) : (rowC sz fs c).length = c * sz := by
  rw [rowC, List.length_append, List.length_map, flatCells_len h, List.length_replicate, ← Nat.add_mul]; congr 1; omega

theorem flat_get {sz : Nat} : ∀ {fs : List D}, (∀ y ∈ fs, y.cells.length = sz) → ∀ {i : Nat} {y : D}, (fs.flatMap D.cells)[i]? = some y → ∃ k j f, fs[k]? = some f ∧ f.cells[j]? = some y ∧ i = k * sz + j ∧ j < sz
  | [], _, i, y, h => by simp at h
  | f :: fs, hc, i, y, h => by
    have hf := hc f (by simp)
    rw [List.flatMap_cons] at h
    by_cases hi : i < sz
    · rw [List.getElem?_append_left (by omega)] at h
      exact ⟨0, i, f, rfl, h, by omega, hi⟩
    · rw [List.getElem?_append_right (by omega), hf] at h
      obtain ⟨k, j, g, h1, h2, h3, h4⟩ := flat_get (fun y hy => hc y (by simp [hy])) h
      exact ⟨k + 1, j, g, by simpa using h1, h2, by rw [Nat.add_mul]; omega, h4⟩

theorem flat_at {sz : Nat} {fs : List D} (hc : ∀ y ∈ fs, y.cells.length = sz) {k j : Nat} {f y : D} (hk : fs[k]? = some f) (hj : f.cells[j]? = some y) : (fs.flatMap D.cells)[k * sz + j]? = some y := by
  induction fs generalizing k with
  | nil => simp at hk
  | cons g fs ih =>
    rw [List.flatMap_cons]
    have hg := hc g (by simp)
    cases k with
    | zero =>
      simp at hk; subst hk
      have := (List.getElem?_eq_some_iff.1 hj).1
      rw [List.getElem?_append_left (by omega)]; simpa using hj
    | succ k =>
      simp at hk
      rw [List.getElem?_append_right (by rw [Nat.add_mul]; omega), hg]
      have := ih (fun y hy => hc y (by simp [hy])) hk
      rw [← this]; congr 1; rw [Nat.add_mul]; omega

def OneAll (w : World) (v : Value) : Prop := ∀ b arr el fr, v.ownBlock = some b → w.heap[b]? = some (.cells arr el fr) → ∀ x ∈ arr.toList, x.oneCell' = true

theorem zeroCells_mem {z : Array Value} {k : Nat} {x : Value} (h : x ∈ (Builtin.zeroCells z k).toList) : x ∈ z.toList := by
  unfold Builtin.zeroCells at h
  simp only [Array.toList_map, Array.toList_range, List.mem_map, List.mem_range] at h
  obtain ⟨i, hi, rfl⟩ := h
  have hz : 0 < z.size := by rcases Nat.eq_zero_or_pos z.size with h | h; · rw [h] at hi; omega
                             · exact h
  have := Nat.mod_lt i hz
  rw [getElem!_pos z (i % z.size) this]
  simp

theorem run_append_one (w : World) (t tx ty e el : TypeId) (i : TypeInfo) (z : Value) (ht : P.underlying t = some (.slice e)) (hi : P.info? e = some i) (hz : i.zero = some z) (hzs : z.cells.size = i.size)
    (v : Value) (k : Nat) (xs : List Value) (hown : w.ownsRow 0 el i.size v k xs) (x : Value) (m : Nat) (news : List Value) (hs : Src P i.size tx x m news w)
    (h63 : k + m ≤ maxLen) (hbytes : (k + m) * i.bytes ≤ 140737488355328) (hm : m ≠ 0) (ho : OneAll w v) (hzo : ∀ x ∈ z.cells.toList, x.oneCell' = true) :
    ∃ v' w' el', (Builtin.append_ #[t, tx] ty #[v, x]).run P w = .ok v' w' ∧ w'.ownsRow 0 el' i.size v' (k + m) (xs ++ news) ∧ Grow w w' v v' (k * i.size) ∧ OneAll w' v' := by
  have hsmall : k + m ≤ 9223372036854775807 := by simp only [maxLen] at h63; omega
  have hlen : (xs ++ news).length = (k + m) * i.size := by rw [List.length_append, hown.1, hs.newsLen, Nat.add_mul]
  have hxs : ∀ x ∈ xs, x.oneCell' = true := by
    rcases hown.2 with ⟨_, rfl⟩ | ⟨g, cap, cur, rfl, hbg, hg, hnc, hcm, hcs, htake⟩
    · have : xs = [] := List.eq_nil_of_length_eq_zero (by simpa using hown.1)
      subst this; simp
    · intro x hx
      rw [← htake] at hx
      exact ho g cur _ _ rfl hg x (List.mem_of_mem_take hx)
  have grown : ∀ (old : Nat), old < k + m →
      (w.drew.alloc (.cells ((xs ++ news).toArray ++ Builtin.zeroCells z.cells (grownCap w (k + m) old e - (k + m))) e)).ownsRow 0 e i.size
        (.slice (some ⟨w.heap.size, 0, none⟩) (k + m) (grownCap w (k + m) old e)) (k + m) (xs ++ news) ∧
      Grow w (w.drew.alloc (.cells ((xs ++ news).toArray ++ Builtin.zeroCells z.cells (grownCap w (k + m) old e - (k + m))) e)) v (.slice (some ⟨w.heap.size, 0, none⟩) (k + m) (grownCap w (k + m) old e)) (k * i.size) ∧
      OneAll (w.drew.alloc (.cells ((xs ++ news).toArray ++ Builtin.zeroCells z.cells (grownCap w (k + m) old e - (k + m))) e)) (.slice (some ⟨w.heap.size, 0, none⟩) (k + m) (grownCap w (k + m) old e)) := by
    intro old hold
    have hge := grownCap_ge w (k + m) old e
    have hcm : grownCap w (k + m) old e ≤ maxLen := grownCap_le_maxLen w (k + m) old e h63
    have hnew : (w.drew.alloc (.cells ((xs ++ news).toArray ++ Builtin.zeroCells z.cells (grownCap w (k + m) old e - (k + m))) e)).heap[w.heap.size]? = _ := heap_alloc_at w.drew _
    refine ⟨⟨hlen, .inr ⟨w.heap.size, _, _, rfl, Nat.zero_le _, hnew, hge, hcm, ?_, ?_⟩⟩, ⟨by simp, fun b hb _ => heap_alloc_lt w.drew _ hb, fun b hb j _ => ?_, .inr ⟨_, rfl, Nat.le_refl _⟩, rfl, rfl, rfl⟩, ?_⟩
    · simp only [Array.size_append, List.size_toArray, size_zeroCells, hzs, hlen, ← Nat.add_mul]
      congr 1
      omega
    · simp only [Array.toList_append]
      rw [← hlen]
      exact List.take_left
    · have hlt := hown.lt b hb
      simp only [World.cell?, at_]
      rw [heap_alloc_lt w.drew _ hlt.2]
      rfl
    · intro b arr el' fr hb hh x hx
      simp only [Value.ownBlock, Option.some.injEq] at hb; subst hb
      rw [hnew] at hh; cases hh
      simp only [Array.toList_append, List.mem_append] at hx
      rcases hx with (hx | hx) | hx
      · exact hxs x hx
      · exact hs.one x hx
      · exact hzo x (zeroCells_mem hx)
  rcases hown.2 with ⟨rfl, rfl⟩ | ⟨g, cap, cur, rfl, hbg, hg, hnc, hcm, hcs, htake⟩
  · have hx : xs = [] := List.eq_nil_of_length_eq_zero (by simpa using hown.1)
    subst hx
    have hr := run_append_grow_src (P := P) w t tx ty e i z ht hi hz none 0 0 [] (run_firstCells_none w.drew i.size 0 0 0) x m news hs (by omega) (by omega) (growslice_fits (by omega) hbytes)
    have hgr := grown 0 (by omega)
    simp only [Nat.zero_add, List.nil_append] at hgr hr ⊢
    exact ⟨_, _, _, hr, hgr.1, hgr.2.1, hgr.2.2⟩
  · by_cases hroom : k + m ≤ cap
    · have hfit : k * i.size + 0 + news.length ≤ cur.size := by rw [hs.newsLen, hcs, Nat.add_zero, ← Nat.add_mul]; exact Nat.mul_le_mul_right _ hroom
      have hst := run_storeCells_at P g (k * i.size) el news 0 cur w hg hfit hs.one
      simp only [Nat.add_zero] at hst
      have hr : (Builtin.append_ #[t, tx] ty #[.slice (some ⟨g, 0, none⟩) k cap, x]).run P w = .ok (.slice (some ⟨g, 0, none⟩) (k + m) cap) (w.setRow g (cur.toList.take (k * i.size) ++ news ++ cur.toList.drop (k * i.size + news.length)).toArray) := by
        rcases hs.kind with ⟨e', hk⟩ | hk <;> simp [Builtin.append_, run_underlying ht, run_underlying hk, sizeOf, typeInfo, hi, hs.len, hroom, hs.cells, Addr.add_lit, hst]
      have hheap := setRow_heap w g cur (cur.toList.take (k * i.size) ++ news ++ cur.toList.drop (k * i.size + news.length)).toArray el _ hg
      refine ⟨_, _, _, hr, ⟨hlen, .inr ⟨g, cap, _, rfl, Nat.zero_le _, hheap, hroom, hcm, ?_, ?_⟩⟩, ⟨by simp, fun b _ hb => setRow_other w g b _ (fun e => hb (by simp [Value.ownBlock, e])), fun b hb j hj => ?_, .inl rfl, rfl, rfl, rfl⟩, ?_⟩
      · simp only [List.size_toArray, List.length_append, List.length_take, List.length_drop, Array.length_toList]
        omega
      · rw [htake, ← hlen]
        exact List.take_left
      · simp [Value.ownBlock] at hb
        subst hb
        simp only [World.cell?, at_, hheap, hg]
        have h1 : (cur.toList.take (k * i.size)).length = k * i.size := by rw [htake]; exact hown.1
        simp only [Option.isSome_none, Bool.false_eq_true, if_false, List.getElem?_toArray, List.append_assoc]
        rw [List.getElem?_append_left (by omega), List.getElem?_take, if_pos hj]
        simp
      · intro b arr el' fr hb hh y hy
        simp only [Value.ownBlock, Option.some.injEq] at hb; subst hb
        rw [hheap] at hh; cases hh
        simp only [List.mem_append] at hy
        rcases hy with (hy | hy) | hy
        · exact ho g cur _ _ rfl hg y (List.mem_of_mem_take hy)
        · exact hs.one y hy
        · exact ho g cur _ _ rfl hg y (List.mem_of_mem_drop hy)
    · have holds : (Builtin.firstCells i.size k (.slice (some ⟨g, 0, none⟩) k cap)).run P w.drew = .ok xs.toArray w.drew :=
        run_firstCells_some w.drew i.size k ⟨g, 0, none⟩ k cap xs hown.1 (hown.cells (g := g) rfl)
      have hr := run_append_grow_src (P := P) w t tx ty e i z ht hi hz (some ⟨g, 0, none⟩) k cap xs holds x m news hs (by omega) (by omega) (growslice_fits (by omega) hbytes)
      have hgr := grown cap (by omega)
      exact ⟨_, _, _, hr, hgr.1, hgr.2.1, hgr.2.2⟩

def RowAt (G : Ghost) (σ : St) (d : Nat) (v : Value) : Prop := v = .slice none 0 0 ∨ ∃ o k c, σ.obj (.l d) = some o ∧ v = .slice (some (at_ (G.b (.l d)) 0)) k c

theorem SR.rowTo (h : SR E n G σ ts w) (d : Nat) {v v' : Value} {w' : World} {e sz m : Nat} {xs' : List Value} {fs : List D} (hv : RowAt G σ d v)
    (hg : Grow w w' v v' 0) (hown : w'.ownsRow 0 e sz v' m xs') (hm : m ≠ 0) (hone : OneAll w' v') (hfl : fs.length = m) (hfs : ∀ y ∈ fs, y.cells.length = sz)
    (hrd : ∀ (i : Nat) (y : D), (fs.flatMap D.cells)[i]? = some y → RD G.f w' y (xs'.getD i undef)) :
    ∃ b c, m ≤ c ∧ c ≤ maxLen ∧ v' = .slice (some (at_ b 0)) m c ∧ SR E n { G with b := updf G.b (.l d) b } ((σ.drop d).setObj (.l d) (.cells (rowC sz fs c))) ts w' := by
  rcases hown.2 with ⟨_, h0⟩ | ⟨g, cap, cur, rfl, hbg, hgg, hnc, hcm, hcs, htake⟩
  · exact absurd h0 hm
  refine ⟨g, cap, hnc, hcm, rfl, ?_⟩
  have hd := h.drop d
  have hobj1 : ∀ r o, St.obj { σ.drop d with L := adel (σ.drop d).L d } r = some o → r ≠ .l d ∧ (σ.drop d).obj r = some o := fun r o hr => by
    cases r with
    | l t =>
      simp only [St.obj, aget_adel] at hr
      split at hr
      · cases hr
      · rename_i hne; exact ⟨fun e => hne (by injection e with e; exact e.symm), hr⟩
    | x k => exact ⟨by simp, hr⟩
  have h1 : SR E n G { σ.drop d with L := adel (σ.drop d).L d } ts w := hd.wk ⟨fun _ _ h => h, fun r o hr => (hobj1 r o hr).2⟩
  have old : ∀ b, v.ownBlock = some b → ∃ o, σ.obj (.l d) = some o ∧ b = G.b (.l d) := fun b hb => by
    rcases hv with rfl | ⟨o, k, c, h2, rfl⟩
    · cases hb
    · simp [Value.ownBlock, at_] at hb; exact ⟨o, h2, hb.symm⟩
  have hX : ∀ b, v.ownBlock = some b → (∀ r o, St.obj { σ.drop d with L := adel (σ.drop d).L d } r = some o → G.b r ≠ b) ∧ (∀ q v p, G.lam q = some (v, p) → v.ownBlock ≠ some b) ∧ (E.w0.heap.size ≤ b ∨ E.M b) := fun b hb => by
    obtain ⟨o, ho, rfl⟩ := old b hb
    refine ⟨fun r o' hr e => ?_, fun q vq p hq hvb => ?_, h.newObj _ _ ho⟩
    · obtain ⟨h2, h3⟩ := hobj1 r o' hr
      obtain ⟨o2, h4, _⟩ := σ.obj_drop d r h3
      exact h2 (h.inj _ _ _ _ h4 ho e)
    · obtain ⟨e1, s1⟩ := p
      exact h.lamObj q vq e1 s1 _ hq hvb _ _ ho rfl
  have hf0 : ∀ b, v.ownBlock = some b → G.f b = 0 := fun b hb => by
    obtain ⟨o, ho, rfl⟩ := old b hb
    exact h.objf _ _ ho
  have hext : Ext G.f w G.f w' := ⟨hg.size, fun _ => Nat.le_refl _, fun b i hi => by
    by_cases hb : v.ownBlock = some b
    · rw [hf0 b hb] at hi; omega
    · have hlt : b < w.heap.size := by
        rcases Nat.lt_or_ge b w.heap.size with h2 | h2
        · exact h2
        · rw [h.top b h2] at hi; omega
      simp only [World.cell?, at_]
      rw [hg.block b hlt hb], fun b es c hb hm => by rw [hg.block b (Array.getElem?_eq_some_iff.1 hm).1 (fun e => by rw [hf0 b e] at hb; omega)]; exact hm⟩
  have h2 : SR E n { G with f := G.f } { σ.drop d with L := adel (σ.drop d).L d } ts w' := h1.world' (fun b => v.ownBlock = some b) hX hext (fun b hb hx => ⟨hg.block b hb hx, rfl⟩) (fun b hb => h.top b (Nat.le_trans hg.size hb)) hg.os hg.tape hg.output
  have hgn : v.ownBlock = some g ∨ w.heap.size ≤ g := by
    rcases hg.own with h3 | ⟨b, h3, h4⟩
    · exact .inl h3.symm
    · simp [Value.ownBlock] at h3; subst h3; exact .inr h4
  have h3 := h2.addObj0 d g (.cells (rowC sz fs cap))
    (fun t x hx => by
      have hx : aget (σ.drop d).ρ t = some x := hx
      simp only [St.drop, aget_amap] at hx
      cases hy : aget σ.ρ t with
      | none => simp [hy] at hx
      | some y => simp [hy] at hx; subst hx; exact AV.drop_has _ _)
    (fun t cs x hx hm => by
      have hx : aget (adel (σ.drop d).L d) t = some (.cells cs) := hx
      simp only [aget_adel] at hx
      split at hx
      · cases hx
      · simp only [St.drop, aget_amap] at hx
        cases hy : aget σ.L t with
        | none => simp [hy] at hx
        | some o =>
          cases o with
          | siter s p => simp [hy, dropObj] at hx
          | miter l c => simp [hy, dropObj] at hx
          | mobj l c => simp [hy, dropObj] at hx
          | cells cs0 =>
            simp [hy, dropObj] at hx; subst hx
            obtain ⟨y, _, rfl⟩ := List.mem_map.1 hm
            exact AV.drop_has _ _)
    (by rcases hgn with h4 | h4
        · exact hf0 g h4
        · exact h.top g h4)
    (fun r o hr => by
      rcases hgn with h4 | h4
      · exact (hX g h4).1 r o hr
      · have := (h1.obj r o hr).lt
        exact fun e => by rw [e] at this; omega)
    (fun q vq p hq => by
      rcases hgn with h4 | h4
      · exact (hX g h4).2.1 q vq p hq
      · intro hb
        obtain ⟨e1, s1⟩ := p
        have := (h.lam q vq e1 s1 hq).lt hb
        omega)
    (by rcases hgn with h4 | h4
        · exact (hX g h4).2.2
        · exact .inl (Nat.le_trans h.ext.size h4))
    (by
      have hl := rowC_len hfs (c := cap) (by omega)
      refine ⟨cur, e, by show w'.heap[updf G.b (.l d) g (.l d)]? = _; rw [updf_same]; exact hgg, by rw [hcs, hl], fun i x hx => ?_⟩
      have hi : i < cur.size := by rw [hcs, ← hl]; exact (List.getElem?_eq_some_iff.1 hx).1
      have hmem : cur.getD i undef ∈ cur.toList := by simp [hi]
      have h1c := hone g cur e _ rfl hgg _ hmem
      unfold rowC at hx
      by_cases hlt : i < (fs.flatMap D.cells).length
      · rw [List.getElem?_append_left (by simpa using hlt), List.getElem?_map] at hx
        cases hy : (fs.flatMap D.cells)[i]? with
        | none => simp [hy] at hx
        | some y =>
          simp [hy] at hx; subst hx
          have hcx : cur.getD i undef = xs'.getD i undef := by
            rw [flatCells_len hfs, hfl] at hlt
            rw [← htake, List.getD_eq_getElem?_getD, List.getElem?_take, if_pos hlt]
            simp
          exact ⟨.d _ _ (by rw [hcx]; exact hrd i y hy), h1c, (fun q hq => by cases hq), (fun e he => by cases he)⟩
      · rw [List.getElem?_append_right (by simpa using hlt)] at hx
        have : x = .junk := (List.mem_replicate.1 (List.mem_of_getElem? hx)).2
        subst this
        exact ⟨.junk _, h1c, (fun q hq => by cases hq), (fun e he => by cases he)⟩)
  refine h3.congr rfl (fun r => ?_)
  simp only [St.obj_setObj]
  split
  · rfl
  · rename_i hne
    cases r with
    | l t =>
      have : d ≠ t := fun e => hne (by rw [e])
      simp only [St.obj, aget_adel, if_neg this]
    | x k => rfl

def zeroOne (P : Program) (e : TypeId) : Bool :=
  match P.info? e with
  | some ti => match ti.zero with
    | some z => z.cells.size == ti.size && z.cells.all fun x => x.oneCell'
    | none => false
  | none => false

theorem zeroOne_inv {e : TypeId} (h : zeroOne P e = true) : ∃ i z, P.info? e = some i ∧ i.zero = some z ∧ z.cells.size = i.size ∧ ∀ x ∈ z.cells.toList, x.oneCell' = true := by
  unfold zeroOne at h
  split at h
  · rename_i ti hi
    split at h
    · rename_i z hz
      simp only [Bool.and_eq_true, beq_iff_eq, Array.all_eq_true_iff_forall_mem] at h
      exact ⟨ti, z, hi, hz, h.1, fun x hx => h.2 x (by simpa using hx)⟩
    · cases h
  · cases h

theorem liftSl_inv {t e sz by_ : Nat} (h : liftSl P t = some (e, sz, by_)) : ∃ i, P.underlying t = some (.slice e) ∧ P.info? e = some i ∧ i.size = sz ∧ i.bytes = by_ := by
  unfold liftSl at h
  split at h
  · rename_i e0 ht
    split at h
    · rename_i ti hi
      simp only [Option.some.injEq, Prod.mk.injEq] at h
      obtain ⟨rfl, rfl, rfl⟩ := h
      exact ⟨ti, ht, hi, rfl, rfl⟩
    · cases h
  · cases h

theorem isSl_inv {t : TypeId} (h : isSl P t = true) : ∃ e, P.underlying t = some (.slice e) := by
  unfold isSl at h
  split at h
  · exact ⟨_, by assumption⟩
  · cases h

theorem SR.rowOwn (h : SR E n G σ ts w) {d sz c : Nat} {fs : List D} (ho : σ.obj (.l d) = some (.cells (rowC sz fs c))) (hfs : ∀ y ∈ fs, y.cells.length = sz) (hc : fs.length ≤ c ∧ c ≤ maxLen) :
    ∃ el xs, w.ownsRow 0 el sz (.slice (some (at_ (G.b (.l d)) 0)) fs.length c) fs.length xs ∧ OneAll w (.slice (some (at_ (G.b (.l d)) 0)) fs.length c) ∧ ∀ (i : Nat) (y : D), (fs.flatMap D.cells)[i]? = some y → RD G.f w y (xs.getD i undef) := by
  obtain ⟨arr, el, h1, h2, h3⟩ := h.obj _ _ ho
  have hl := rowC_len hfs hc.1
  rw [hl] at h2
  have hle : fs.length * sz ≤ c * sz := Nat.mul_le_mul_right _ hc.1
  refine ⟨el, arr.toList.take (fs.length * sz), ⟨by rw [List.length_take, show arr.toList.length = c * sz by simpa using h2]; exact Nat.min_eq_left hle, .inr ⟨G.b (.l d), c, arr, rfl, Nat.zero_le _, h1, hc.1, hc.2, h2, rfl⟩⟩, fun b a2 el2 fr hb hh x hx => ?_, fun i y hy => ?_⟩
  · simp [Value.ownBlock, at_] at hb; subst hb
    rw [h1] at hh; cases hh
    obtain ⟨i, hi, rfl⟩ := List.mem_iff_getElem.1 hx
    have hi' : i < arr.size := by simpa using hi
    have := (h3 i ((rowC sz fs c)[i]'(by rw [hl, ← h2]; exact hi')) (List.getElem?_eq_getElem _)).2.1
    simpa [hi'] using this
  · have hi : i < fs.length * sz := by rw [← flatCells_len hfs]; exact (List.getElem?_eq_some_iff.1 hy).1
    have hx : (rowC sz fs c)[i]? = some (.d y) := by
      rw [rowC, List.getElem?_append_left (by rw [List.length_map, flatCells_len hfs]; exact hi), List.getElem?_map, hy]; rfl
    have := (h3 i _ hx).1.dinv
    rw [List.getD_eq_getElem?_getD, List.getElem?_take, if_pos hi]
    simpa using this

theorem primOf_app {o : Oper} {ts : List TypeId} {os : List Operand} (h : primOf P o = some (.bi .append ts, os)) : ∃ (al : Array Operand) (tt : Array TypeId), o.op = .call { callee := .builtin .append, args := al, argTypes := tt } ∧ tt.toList = ts ∧ os = al.toList := by
  unfold primOf at h
  split at h
  · split at h
    · split at h <;> cases h
    · cases h
  · rename_i b al tt ho
    split at h
    · split at h
      · cases h; exact ⟨al, tt, ho, rfl, rfl⟩
      · cases h
    · split at h
      · cases h
      · cases h; exact ⟨al, tt, ho, rfl, rfl⟩
  all_goals first | (cases h; done) | (split at h <;> cases h)

theorem nilConst {S : Operand} (hX : liftX S = some (.k (.d (.list [])))) : S = .const (.slice none 0 0) := by
  cases S with
  | tmp t => simp [liftX] at hX
  | func f => simp [liftX] at hX
  | global g => simp [liftX] at hX
  | const v =>
    have hc : cst v = some (.list []) := by
      simp only [liftX] at hX
      cases hc : cst v with
      | none => simp [hc] at hX
      | some d => simp [hc] at hX; rw [hX]
    unfold cst at hc
    split at hc
    · obtain ⟨y, _, h2⟩ := Option.map_eq_some_iff.1 hc; cases h2
    · obtain ⟨y, _, h2⟩ := Option.map_eq_some_iff.1 hc; cases h2
    · rw [cst1_nil hc]
theorem PrimG.appRow {d t tx e sz by_ c : Nat} {s x : LX} {N : St → Prop} {σ : St} {fs ys : List D} (hsl : liftSl P t = some (e, sz, by_)) (hz : zeroOne P e = true) (htx : isSl P tx = true)
    (hs : ((σ.ev s = .ns ∨ s = .k (.d (.list []))) ∧ fs = []) ∨ (σ.ev s = .rs (.l d) fs.length c ∧ σ.obj (.l d) = some (.cells (rowC sz fs c)) ∧ fs.length ≤ c ∧ c ≤ maxLen))
    (hx : σ.ev x = .d (.list ys)) (hys : ys ≠ []) (hyc : ∀ y ∈ ys, y.cells.length = sz) (hfs : ∀ y ∈ fs, y.cells.length = sz) (hb : fs.length + ys.length ≤ maxLen ∧ (fs.length + ys.length) * by_ ≤ 140737488355328)
    (hK : ∀ c', fs.length + ys.length ≤ c' → c' ≤ maxLen → N (((σ.drop d).setObj (.l d) (.cells (rowC sz (fs ++ ys) c'))).put d (.rs (.l d) (fs.length + ys.length) c'))) :
    PrimG P (some d) (.bi .append [t, tx]) [s, x] N σ := by
  intro E _ n G a w o os hp hl hdst hdn h
  obtain ⟨al, tt, hop, htt, rfl⟩ := primOf_app hp
  obtain ⟨S, X, hS, hX, he⟩ : ∃ S X, al.toList = [S, X] ∧ liftX S = some s ∧ liftX X = some x := by
    match has : al.toList, hl with
    | [S, X], hl =>
      obtain ⟨u, v, h1, h2, h3⟩ := liftL2 hl
      cases h3; exact ⟨S, X, rfl, h1, h2⟩
    | [], hl => simp [liftL] at hl
    | [S], hl => simp only [liftL] at hl; split at hl <;> simp at hl; rename_i h2; cases h2; simp at hl
    | S :: X :: Y :: r, hl =>
      simp only [liftL] at hl
      split at hl
      · rename_i h1 h2
        split at h2
        · rename_i h3 h4
          split at h4
          · cases h4; cases h2; simp at hl
          · cases h4
        · cases h2
      · cases hl
  have has : al = #[S, X] := by apply Array.ext'; exact hS
  have htt' : tt = #[t, tx] := by apply Array.ext'; exact htt
  subst has; subst htt'
  obtain ⟨i, ht, hi, rfl, rfl⟩ := liftSl_inv hsl
  obtain ⟨i', z, hi', hz1, hz2, hz3⟩ := zeroOne_inv hz
  rw [hi] at hi'; cases hi'
  obtain ⟨e', hk⟩ := isSl_inv htx
  have rs := h.ev hX
  have rx := h.ev he
  rw [hx] at rx
  obtain ⟨news, hsd⟩ := SrcD.ofList (P := P) hk rx.dinv hyc
  have hyl : 0 < ys.length := List.length_pos_iff.2 hys
  -- the row al it is owned
  have hrow : ∃ el xs, w.ownsRow 0 el i.size (a.eval S) fs.length xs ∧ OneAll w (a.eval S) ∧ (∀ (j : Nat) (y : D), (fs.flatMap D.cells)[j]? = some y → RD G.f w y (xs.getD j undef)) ∧ RowAt G σ d (a.eval S) := by
    rcases hs with ⟨hs | hs, rfl⟩ | ⟨hs, ho, hc1, hc2⟩
    rotate_left
    · subst hs
      have hv : a.eval S = .slice none 0 0 := by
        rw [nilConst hX]; rfl
      rw [hv]
      exact ⟨e, [], World.ownsRow_nil w 0 e i.size, (fun b _ _ _ hb => by cases hb), (fun j y hy => by simp at hy), .inl rfl⟩
    rotate_left
    · rw [hs] at rs
      generalize hv : a.eval S = v at rs
      cases rs
      exact ⟨e, [], World.ownsRow_nil w 0 e i.size, (fun b _ _ _ hb => by cases hb), (fun j y hy => by simp at hy), .inl rfl⟩
    · rw [hs] at rs
      generalize hv : a.eval S = v at rs
      cases rs
      obtain ⟨el, xs, g1, g2, g3⟩ := h.rowOwn ho hfs ⟨hc1, hc2⟩
      exact ⟨el, xs, g1, g2, g3, .inr ⟨_, _, _, ho, rfl⟩⟩
  obtain ⟨el, xs, g1, g2, g3, g4⟩ := hrow
  obtain ⟨v', w', el', r1, r2, r3, r4⟩ := run_append_one w t tx o.type e el i z ht hi hz1 hz2 (a.eval S) fs.length xs g1 (a.eval X) ys.length news hsd.src hb.1 hb.2 (by omega) g2 hz3
  have hr3 : Grow w w' (a.eval S) v' 0 := { r3 with cells := fun b hb j hj => by omega }
  have hfy : ∀ y ∈ fs ++ ys, y.cells.length = i.size := fun y hy => by
    rcases List.mem_append.1 hy with hy | hy
    · exact hfs y hy
    · exact hyc y hy
  have hxl : xs.length = fs.length * i.size := g1.1
  have hf0 : ∀ b, (a.eval S).ownBlock = some b → G.f b = 0 := fun b hb => by
    rcases g4 with hn | ⟨o, k, c, h2, hn⟩
    · rw [hn] at hb; cases hb
    · rw [hn] at hb; simp [Value.ownBlock, at_] at hb; subst hb; exact h.objf _ _ h2
  have hext : Ext G.f w G.f w' := ⟨r3.size, fun _ => Nat.le_refl _, fun b j hj => by
    by_cases hb : (a.eval S).ownBlock = some b
    · rw [hf0 b hb] at hj; omega
    · have hlt : b < w.heap.size := by
        rcases Nat.lt_or_ge b w.heap.size with h2 | h2
        · exact h2
        · rw [h.top b h2] at hj; omega
      simp only [World.cell?, at_]
      rw [r3.block b hlt hb], fun b es c hb hm => by rw [r3.block b (Array.getElem?_eq_some_iff.1 hm).1 (fun e => by rw [hf0 b e] at hb; omega)]; exact hm⟩
  have hrd : ∀ (j : Nat) (y : D), ((fs ++ ys).flatMap D.cells)[j]? = some y → RD G.f w' y ((xs ++ news).getD j undef) := fun j y hy => by
    rw [List.flatMap_append] at hy
    have hfl := flatCells_len hfs
    by_cases hj : j < fs.length * i.size
    · rw [List.getElem?_append_left (by omega)] at hy
      rw [List.getD_eq_getElem?_getD, List.getElem?_append_left (by omega), ← List.getD_eq_getElem?_getD]
      exact (g3 j y hy).ext hext
    · rw [List.getElem?_append_right (by omega), hfl] at hy
      rw [List.getD_eq_getElem?_getD, List.getElem?_append_right (by omega), ← List.getD_eq_getElem?_getD, hxl]
      obtain ⟨k, jj, f, h1, h2, h3, h4⟩ := flat_get hyc hy
      rw [h3]
      exact (hsd.rd k f jj y h1 h2).ext hext
  obtain ⟨b, c', q1, q2, rfl, q3⟩ := h.rowTo d g4 hr3 r2 (by omega) r4 (by simp) hfy hrd
  refine .inl ⟨.slice (some (at_ b 0)) (fs.length + ys.length) c', w', ?_, { G with b := updf G.b (.l d) b }, _, ⟨trivial, hK c' q1 q2⟩, ?_⟩
  · simp only [execOp, hop, resolve, invoke, builtin, Sem.run_bind, Sem.run_pure, Result.andThen_ok, List.map_toArray, List.map_cons, List.map_nil]
    rw [r1]
    rfl
  · have hput := q3.put (s := d) (x := .rs (.l d) (fs.length + ys.length) c') (v := .slice (some (at_ b 0)) (fs.length + ys.length) c') (by
      have := AVR.rs (G := { G with b := updf G.b (.l d) b }) (w := w') (.l d) (fs.length + ys.length) c'
      simpa [updf_same] using this) (by simpa [dstOk] using hdn)
    simpa [Act.put] using hput

end Go.Av
/- Functions that hand back a row that may be written; calls that take one. -/
set_option linter.unusedSectionVars false
namespace Go.Av

variable {E : Entry} {n : Nat} {G : Ghost} {σ : St} {ts : Array Value} {w : World} {P : Program} [Inv P]

inductive XR where
  | nul (xs : List AV)
  | row (xs : List AV) (sz : Nat) (fs : List D) (c : Nat)

def AV.dns : AV → Bool
  | .d _ | .ns => true
  | _ => false
def AV.den1 : AV → D
  | .d x => x
  | _ => .list []
def XR.avAt (k : Nat) : XR → AV
  | .nul xs => .sx (xs ++ [.ns])
  | .row xs _ fs c => .sx (xs ++ [.rs (.l k) fs.length c])
def XR.objs : XR → List (Nat × AObj)
  | .nul _ => []
  | .row _ sz fs c => [(0, .cells (rowC sz fs c))]
def XR.ok : XR → Prop
  | .nul xs => ∀ x ∈ xs, x.dns = true
  | .row xs sz fs c => (∀ x ∈ xs, x.dns = true) ∧ (∀ y ∈ fs, y.cells.length = sz) ∧ fs.length ≤ c ∧ c ≤ maxLen
def XR.data : XR → D
  | .nul xs => .agg (xs.map AV.den1 ++ [.list []])
  | .row xs _ fs _ => .agg (xs.map AV.den1 ++ [.list fs])

def freshE (f : Nat → Nat) (w : World) : Entry := { w0 := w, f0 := f, M := fun _ => False, b0 := fun _ => 0 }

def NCall (P : Program) [Inv P] (fn : FuncId) (args : List D) (Post : XR → Prop) : Prop :=
  ∀ (f : Nat → Nat) (w : World) (vs : Array Value), Inv.inv P f w → (∀ b, w.heap.size ≤ b → f b = 0) → vs.size = args.length → (∀ (i : Nat) (y : D), args[i]? = some y → RD f w y (vs.getD i undef)) →
    Calls P fn vs w fun e w' => ∃ r G' v, Post r ∧ r.ok ∧ e = .returned v ∧ SR (freshE f w) 1 G' ⟨[(0, r.avAt 0)], r.objs, []⟩ #[v] w'

theorem NCall.mono {fn : FuncId} {args : List D} {Post Post' : XR → Prop} (h : NCall P fn args Post) (hp : ∀ r, Post r → Post' r) : NCall P fn args Post' :=
  fun f w vs h0 h1 h2 h3 => (h f w vs h0 h1 h2 h3).mono fun _ _ ⟨r, G', v, a, b⟩ => ⟨r, G', v, hp r a, b⟩

/-! ### The cells of a row do not hang on names -/
theorem AVR.rowCell {G' : Ghost} {x : AV} {v : Value} (hf : G'.f = G.f) (hx : (∃ y, x = .d y) ∨ x = .junk) (h : AVR G w x v) : AVR G' w x v := by
  rcases hx with ⟨y, rfl⟩ | rfl
  · exact .d _ _ (hf ▸ h.dinv)
  · exact .junk _

theorem rowC_cell {sz c : Nat} {fs : List D} {x : AV} (h : x ∈ rowC sz fs c) : (∃ y, x = .d y) ∨ x = .junk := by
  unfold rowC at h
  rcases List.mem_append.1 h with h | h
  · obtain ⟨y, _, rfl⟩ := List.mem_map.1 h; exact .inl ⟨y, rfl⟩
  · exact .inr (List.mem_replicate.1 h).2

theorem ObjR.rowMove {G' : Ghost} {r r' : Ref} {sz c : Nat} {fs : List D} (hf : G'.f = G.f) (hb : G'.b r' = G.b r) (h : ObjR G w r (.cells (rowC sz fs c))) : ObjR G' w r' (.cells (rowC sz fs c)) := by
  obtain ⟨arr, el, h1, h2, h3⟩ := h
  refine ⟨arr, el, by rw [hb]; exact h1, h2, fun i x hx => ?_⟩
  have hm := rowC_cell (List.mem_of_getElem? hx)
  obtain ⟨g1, g2, _, _⟩ := h3 i x hx
  refine ⟨g1.rowCell hf hm, g2, fun q hq => ?_, fun e he => ?_⟩
  · rcases hm with ⟨y, rfl⟩ | rfl <;> cases hq
  · rcases hm with ⟨y, rfl⟩ | rfl <;> cases he

theorem AVR.dns_run {G' : Ghost} {x : AV} {v : Value} (hf : G'.f = G.f) (hx : x.dns = true) (h : AVR G w x v) : AVR G' w x v := by
  cases x <;> simp [AV.dns] at hx
  · exact .d _ _ (hf ▸ h.dinv)
  · cases h; exact .ns
theorem AVR.den1 {x : AV} {v : Value} (hx : x.dns = true) (h : AVR G w x v) : RD G.f w x.den1 v := by
  cases x <;> simp [AV.dns] at hx
  · exact h.dinv
  · cases h; exact .nils

theorem AVR.sxLast {G' : Ghost} {xs : List AV} {y y' : AV} {v : Value} (hf : G'.f = G.f) (hxs : ∀ x ∈ xs, x.dns = true) (hs : y'.simple = true) (hy : ∀ u, AVR G w y u → AVR G' w y' u) (h : AVR G w (.sx (xs ++ [y])) v) : AVR G' w (.sx (xs ++ [y'])) v := by
  cases h with
  | sx _ vs hl hsim ho hh =>
    refine .sx _ vs (by simpa using hl) (fun x hx => ?_) (fun i hi => ho i (by simpa using hi)) (fun i x hi => ?_)
    · rcases List.mem_append.1 hx with hx | hx
      · have := hxs x hx
        cases x <;> simp [AV.dns] at this <;> rfl
      · simp at hx; subst hx; exact hs
    · by_cases hlt : i < xs.length
      · rw [List.getElem?_append_left hlt] at hi
        exact (hh i x (by rw [List.getElem?_append_left hlt]; exact hi)).dns_run hf (hxs x (List.mem_of_getElem? hi))
      · rw [List.getElem?_append_right (by omega)] at hi
        have hi0 : i - xs.length = 0 := by
          have := (List.getElem?_eq_some_iff.1 hi).1
          simpa using this
        rw [hi0] at hi; simp at hi; subst hi
        exact hy _ (hh i y (by rw [List.getElem?_append_right (by omega), hi0]; rfl))

theorem AVR.sxMove {G' : Ghost} {r r' : Ref} {k c : Nat} {xs : List AV} {v : Value} (hf : G'.f = G.f) (hxs : ∀ x ∈ xs, x.dns = true) (hb : G'.b r' = G.b r) (h : AVR G w (.sx (xs ++ [.rs r k c])) v) : AVR G' w (.sx (xs ++ [.rs r' k c])) v :=
  h.sxLast hf hxs rfl fun u hu => by cases hu; rw [← hb]; exact .rs r' k c
theorem AVR.sxNil {G' : Ghost} {xs : List AV} {v : Value} (hf : G'.f = G.f) (hxs : ∀ x ∈ xs, x.dns = true) (h : AVR G w (.sx (xs ++ [.ns])) v) : AVR G' w (.sx (xs ++ [.ns])) v :=
  h.sxLast hf hxs rfl fun u hu => by cases hu; exact .ns

theorem SR.fin (h : SR E n G σ ts w) {r : XR} {k : Nat} {v : Value} (hok : r.ok) (hr : AVR G w (r.avAt k) v) (ho : ∀ xs sz fs c, r = .row xs sz fs c → aget σ.L k = some (.cells (rowC sz fs c))) :
    ∃ G', SR E 1 G' ⟨[(0, r.avAt 0)], r.objs, []⟩ #[v] w := by
  cases r with
  | nul xs =>
    have hno : ∀ r o, St.obj ⟨[(0, (XR.nul xs).avAt 0)], (XR.nul xs).objs, []⟩ r = some o → False := fun r o ho => by cases r <;> simp [St.obj, aget, XR.objs] at ho
    refine ⟨{ G with lam := fun _ => none }, { size := rfl, slot := fun s y hy => ?_, obj := fun r o ho => (hno r o ho).elim, objf := fun r o ho => (hno r o ho).elim, inj := fun r _ o _ ho => (hno r o ho).elim, lam := fun _ _ _ _ h => (by cases h), lamObj := fun _ _ _ _ _ h => (by cases h), lamInj := fun _ _ _ _ _ _ _ h => (by cases h), newObj := fun r o ho => (hno r o ho).elim, newLam := fun _ _ _ _ _ h => (by cases h), ext := h.ext, fr := h.fr, top := h.top, ext0 := h.ext0, own0 := fun r cs x s ho => (hno _ _ ho).elim, os := h.os, tape := h.tape, output := h.output }⟩
    simp only [aget] at hy
    split at hy
    · rename_i e; subst e; cases hy; exact AVR.sxNil (G := G) rfl hok hr
    · cases hy
  | row xs sz fs c =>
    have hk : σ.obj (.l k) = some (.cells (rowC sz fs c)) := ho xs sz fs c rfl
    have hob : ∀ r o, St.obj ⟨[(0, (XR.row xs sz fs c).avAt 0)], (XR.row xs sz fs c).objs, []⟩ r = some o → r = .l 0 ∧ o = .cells (rowC sz fs c) := fun r o ho => by
      cases r with
      | l t =>
        simp only [St.obj, XR.objs, aget] at ho
        split at ho
        · rename_i e; subst e; cases ho; exact ⟨rfl, rfl⟩
        · cases ho
      | x t => simp [St.obj, aget] at ho
    refine ⟨{ f := G.f, b := updf G.b (.l 0) (G.b (.l k)), lam := fun _ => none }, { size := rfl, slot := fun s y hy => ?_, obj := fun r o ho => ?_, objf := fun r o ho => ?_, inj := fun r r' o o' h1 h2 _ => ?_, lam := fun _ _ _ _ h => (by cases h), lamObj := fun _ _ _ _ _ h => (by cases h), lamInj := fun _ _ _ _ _ _ _ h => (by cases h), newObj := fun r o ho => ?_, newLam := fun _ _ _ _ _ h => (by cases h), ext := h.ext, fr := h.fr, top := h.top, ext0 := fun r hx1 => ?_, own0 := fun r cs x s ho => ?_, os := h.os, tape := h.tape, output := h.output }⟩
    · simp only [aget] at hy
      split at hy
      · rename_i e; subst e; cases hy
        exact AVR.sxMove (G := G) rfl hok.1 (by simp) hr
      · cases hy
    · obtain ⟨rfl, rfl⟩ := hob r o ho
      exact ObjR.rowMove (G := G) (r := .l k) (r' := .l 0) rfl (by simp) (h.obj _ _ hk)
    · obtain ⟨rfl, rfl⟩ := hob r o ho
      show G.f (updf G.b (.l 0) (G.b (.l k)) (.l 0)) = 0
      rw [updf_same]; exact h.objf _ _ hk
    · rw [(hob r o h1).1, (hob r' o' h2).1]
    · obtain ⟨rfl, rfl⟩ := hob r o ho
      show _ ≤ updf G.b (.l 0) (G.b (.l k)) (.l 0) ∨ E.M (updf G.b (.l 0) (G.b (.l k)) (.l 0))
      rw [updf_same]; exact h.newObj _ _ hk
    · show updf G.b (.l 0) (G.b (.l k)) (.x r) = _
      rw [updf_ne _ _ (by simp)]; exact h.ext0 r hx1
    · cases (hob _ _ ho).1

/-! ### As a contract of data -/
theorem row_list (h : SR E n G σ ts w) {k sz c : Nat} {fs : List D} (ho : σ.obj (.l k) = some (.cells (rowC sz fs c))) (hfs : ∀ y ∈ fs, y.cells.length = sz) (hc : fs.length ≤ c) :
    RD (updf G.f (G.b (.l k)) (rowC sz fs c).length) w (.list fs) (.slice (some (at_ (G.b (.l k)) 0)) fs.length c) ∧ ∀ y ∈ fs, y.flat := by
  obtain ⟨arr, el, h1, h2, h3⟩ := h.obj _ _ ho
  have hl := rowC_len hfs hc
  have hle : fs.length * sz ≤ c * sz := Nat.mul_le_mul_right _ hc
  have hf0 := h.objf _ _ ho
  have hext : Ext G.f w (updf G.f (G.b (.l k)) (rowC sz fs c).length) w := ⟨Nat.le_refl _, fun b => by
    by_cases e : b = G.b (.l k)
    · rw [e, hf0]; exact Nat.zero_le _
    · rw [updf_ne _ _ e]; exact Nat.le_refl _, fun _ _ _ => rfl, fun _ _ _ _ h => h⟩
  have hcell : ∀ (i j : Nat) (e d : D), fs[i]? = some e → e.cells[j]? = some d → i * sz + j < c * sz ∧ RD G.f w d (arr.getD (i * sz + j) undef) ∧ (arr.getD (i * sz + j) undef).oneCell' = true := fun i j e d he hd => by
    have hx := flat_at hfs he hd
    have hlt : i * sz + j < fs.length * sz := by rw [← flatCells_len hfs]; exact (List.getElem?_eq_some_iff.1 hx).1
    have hx2 : (rowC sz fs c)[i * sz + j]? = some (.d d) := by
      rw [rowC, List.getElem?_append_left (by rw [List.length_map, flatCells_len hfs]; exact hlt), List.getElem?_map, hx]; rfl
    obtain ⟨g1, g2, _⟩ := h3 _ _ hx2
    exact ⟨by omega, g1.dinv, g2⟩
  have hflat : ∀ y ∈ fs, y.flat := fun y hy e he => by
    obtain ⟨i, hi⟩ := List.getElem?_of_mem hy
    obtain ⟨j, hj⟩ := List.getElem?_of_mem he
    obtain ⟨_, g1, g2⟩ := hcell i j y e hi hj
    exact g1.one_of g2
  refine ⟨.list fs (G.b (.l k)) 0 c sz (fun i => arr.getD i undef) hc (fun e he => ⟨hfs e he, hflat e he⟩) (by rw [updf_same, hl]; omega) (fun i hi => ?_) (fun i e j d he hd => (hcell i j e d he hd).2.1.ext hext), hflat⟩
  rw [Nat.zero_add, cell_of_heap h1]
  have : i < arr.size := by rw [h2, hl]; omega
  simp [this]

theorem inv_now {E : Entry} [HasInv P E] (h : SR E n G σ ts w) : Inv.inv P G.f w :=
  Inv.ext (fun b hb => h.fr b (Inv.lt (HasInv.holds (P := P) (E := E)) b hb) (HasInv.none b hb)) (HasInv.holds (P := P) (E := E))

end Go.Av
/- Calls that read a row; the call that puts an element into one. -/
set_option linter.unusedSectionVars false
namespace Go.Av

variable {E : Entry} {n : Nat} {G : Ghost} {σ : St} {ts : Array Value} {w : World} {P : Program} [Inv P]

theorem prim_call_run {o : Oper} {os : List Operand} {f : LX} {args : List LX} {g : FuncId} {a : Act} (h : SR E n G σ a.tmps w) (hp : primOf P o = some (.call, os)) (hl : liftL os = some (f :: args)) (hf : σ.ev f = .fn (.func g) [] []) (hok : callOk P g = true) :
    ∃ vs : List Value, (execOp a.eval o).run P w = .ok (.enter g vs.toArray) w ∧ vs.length = (evL σ args).length ∧ ∀ (i : Nat) (x : AV), (evL σ args)[i]? = some x → AVR G w x (vs.getD i undef) := by
  obtain ⟨fo, osa, tt, hop, rfl⟩ := primOf_call hp
  simp only [liftL] at hl
  split at hl
  · rename_i x l hxf hxl
    obtain ⟨rfl, rfl⟩ : x = f ∧ l = args := by simpa using hl
    have rf := h.ev hxf
    rw [hf] at rf
    generalize hfv : a.eval fo = fv at rf
    cases rf with
    | fn _ _ _ us vs hl1 hs1 hh1 hl2 hs2 hh2 =>
      have e1 : us = #[] := by cases us; simp_all
      have e2 : vs = #[] := by cases vs; simp_all
      subst e1; subst e2
      obtain ⟨k1, k2⟩ := liftL_rel h hxl
      refine ⟨osa.toList.map a.eval, ?_, by simpa using k1, k2⟩
      simp only [execOp, hop, resolve, hfv, Deferred.ofValue, invoke, Sem.run_bind, Sem.run_pure, Result.andThen_ok, callOk_run hok]
      have : (#[] ++ osa.map a.eval ++ #[] : Array Value) = (osa.toList.map a.eval).toArray := by
        apply Array.ext'; simp
      rw [this]
  · cases hl

/-! ### An element is put into a row -/
def InsSpec (P : Program) (g : FuncId) (sz : Nat) : Prop :=
  callOk P g = true ∧ ∀ (w : World) (el : TypeId) (v : Value) (m : Nat) (xs : List Value) (i : Nat) (vb voff vc : Nat) (news : List Value), w.ownsRow 0 el sz v m xs → OneAll w v → i ≤ m → m ≤ 1048576 → v.ownBlock ≠ some vb →
    news.length = sz → (∀ j u, news[j]? = some u → w.cell? (at_ vb (voff + j)) = some u ∧ u.oneCell' = true) →
    Calls P g #[v, .int .i64 i, .slice (some (at_ vb voff)) 1 vc] w fun e w' => ∃ v' el', e = .returned v' ∧ w'.ownsRow 0 el' sz v' (m + 1) (xs.take (i * sz) ++ news ++ xs.drop (i * sz)) ∧ Grow w w' v v' 0 ∧ OneAll w' v'

theorem take_flat {sz : Nat} : ∀ {fs : List D} {i : Nat}, (∀ y ∈ fs, y.cells.length = sz) → (fs.take i).flatMap D.cells = (fs.flatMap D.cells).take (i * sz)
  | [], i, _ => by simp
  | f :: fs, 0, _ => by simp
  | f :: fs, i + 1, h => by
    have hf := h f (by simp)
    have e : (i + 1) * sz = f.cells.length + i * sz := by rw [Nat.add_mul]; omega
    rw [List.take_succ_cons, List.flatMap_cons, List.flatMap_cons, take_flat (fun y hy => h y (by simp [hy])), e, List.take_length_add_append]
theorem drop_flat {sz : Nat} : ∀ {fs : List D} {i : Nat}, (∀ y ∈ fs, y.cells.length = sz) → (fs.drop i).flatMap D.cells = (fs.flatMap D.cells).drop (i * sz)
  | [], i, _ => by simp
  | f :: fs, 0, _ => by simp
  | f :: fs, i + 1, h => by
    have hf := h f (by simp)
    have e : (i + 1) * sz = f.cells.length + i * sz := by rw [Nat.add_mul]; omega
    rw [List.drop_succ_cons, List.flatMap_cons, drop_flat (fun y hy => h y (by simp [hy])), e, List.drop_length_add_append]

theorem PrimG.insert {d k sz c i : Nat} {f s x y : LX} {N : St → Prop} {σ : St} {g : FuncId} {fs : List D} {z : D} (hI : InsSpec P g sz) (hf : σ.ev f = .fn (.func g) [] [])
    (hs : (σ.ev s = .ns ∧ fs = []) ∨ (σ.ev s = .rs (.l k) fs.length c ∧ σ.obj (.l k) = some (.cells (rowC sz fs c)) ∧ fs.length ≤ c ∧ c ≤ maxLen))
    (hx : σ.ev x = .d (.int .i64 i)) (hy : σ.ev y = .d (.list [z])) (hz : z.cells.length = sz) (hsz : sz ≠ 0) (hfs : ∀ y ∈ fs, y.cells.length = sz) (hi : i ≤ fs.length) (hb : fs.length ≤ 1048576)
    (hK : ∀ c', fs.length + 1 ≤ c' → c' ≤ maxLen → N (((σ.drop k).setObj (.l k) (.cells (rowC sz (fs.take i ++ z :: fs.drop i) c'))).put d (.rs (.l k) (fs.length + 1) c'))) :
    PrimG P (some d) .call [f, s, x, y] N σ := by
  intro E _ n G a w o os hp hl hdst hdn h
  obtain ⟨vs, hrun, hvl, hvs⟩ := prim_call_run h hp hl hf hI.1
  simp only [evL, List.length_cons, List.length_nil] at hvl
  obtain ⟨v0, v1, v2, rfl⟩ : ∃ v0 v1 v2, vs = [v0, v1, v2] := by
    match vs, hvl with
    | [a, b, c], _ => exact ⟨a, b, c, rfl⟩
  have r0 : AVR G w (σ.ev s) v0 := hvs 0 _ rfl
  have r1 : AVR G w (σ.ev x) v1 := hvs 1 _ rfl
  have r2 : AVR G w (σ.ev y) v2 := hvs 2 _ rfl
  rw [hx] at r1
  rw [hy] at r2
  have r1 := r1.dinv
  have r2 := r2.dinv
  cases r1
  -- the element's cells
  obtain ⟨vb, voff, vc, news, rfl, hnl, hnc, hnr, hvb⟩ : ∃ (vb voff vc : Nat) (news : List Value), v2 = .slice (some (at_ vb voff)) 1 vc ∧ news.length = sz ∧ (∀ j u, news[j]? = some u → w.cell? (at_ vb (voff + j)) = some u ∧ u.oneCell' = true) ∧ (∀ j e, z.cells[j]? = some e → RD G.f w e (news.getD j undef)) ∧ 0 < G.f vb := by
    cases r2 with
    | list l b o cap sz' us hcap hsz' hbb hcell hr =>
      have e1 : sz' = sz := by rw [← (hsz' z (by simp)).1]; exact hz
      subst e1
      have hflat := (hsz' z (by simp)).2
      refine ⟨b, o, cap, (List.range sz').map us, rfl, by simp, fun j u hj => ?_, fun j e he => ?_, by simp at hbb; omega⟩
      · have hj' : j < sz' := by have := (List.getElem?_eq_some_iff.1 hj).1; simpa using this
        simp [hj'] at hj; subst hj
        refine ⟨hcell j (by simpa using hj'), ?_⟩
        have he := List.getElem?_eq_getElem (l := z.cells) (i := j) (by omega)
        have := hr 0 z j _ rfl he
        rw [Nat.zero_mul, Nat.zero_add] at this
        exact (this.one (hflat _ (List.getElem_mem _))).1
      · have hj' : j < sz' := by have := (List.getElem?_eq_some_iff.1 he).1; omega
        have := hr 0 z j e rfl he
        rw [Nat.zero_mul, Nat.zero_add] at this
        simpa [List.getD_eq_getElem?_getD, hj'] using this
  -- the row as it is owned
  have hrow : ∃ el xs, (w.ownsRow 0 el sz v0 fs.length xs ∧ OneAll w v0 ∧ (∀ (j : Nat) (y : D), (fs.flatMap D.cells)[j]? = some y → RD G.f w y (xs.getD j undef)) ∧ RowAt G σ k v0) := by
    rcases hs with ⟨hs, rfl⟩ | ⟨hs, ho, hc1, hc2⟩
    · rw [hs] at r0
      cases r0
      exact ⟨0, [], World.ownsRow_nil w 0 0 sz, (fun b _ _ _ hb => by cases hb), (fun j y hy => by simp at hy), .inl rfl⟩
    · rw [hs] at r0
      cases r0
      obtain ⟨el, xs, g1, g2, g3⟩ := h.rowOwn ho hfs ⟨hc1, hc2⟩
      exact ⟨el, xs, g1, g2, g3, .inr ⟨_, _, _, ho, rfl⟩⟩
  obtain ⟨el, xs, g1, g2, g3, g4⟩ := hrow
  have hf0 : ∀ b, v0.ownBlock = some b → G.f b = 0 := fun b hb => by
    rcases g4 with hn | ⟨o, k', c', h2, hn⟩
    · rw [hn] at hb; cases hb
    · rw [hn] at hb; simp [Value.ownBlock, at_] at hb; subst hb; exact h.objf _ _ h2
  have hne : v0.ownBlock ≠ some vb := fun e => by have := hf0 vb e; omega
  refine .inr (.inr ⟨g, _, hrun, (hI.2 w el v0 fs.length xs i vb voff vc news g1 g2 hi hb hne hnl hnc).mono fun e w' ⟨v', el', p1, p2, p3, p4⟩ => ⟨v', p1, ?_⟩⟩)
  have hext : Ext G.f w G.f w' := ⟨p3.size, fun _ => Nat.le_refl _, fun b j hj => by
    by_cases hb' : v0.ownBlock = some b
    · rw [hf0 b hb'] at hj; omega
    · have hlt : b < w.heap.size := by
        rcases Nat.lt_or_ge b w.heap.size with h2 | h2
        · exact h2
        · rw [h.top b h2] at hj; omega
      simp only [World.cell?, at_]
      rw [p3.block b hlt hb'], fun b es c hb hm => by rw [p3.block b (Array.getElem?_eq_some_iff.1 hm).1 (fun e => by rw [hf0 b e] at hb; omega)]; exact hm⟩
  have hnew : ∀ y ∈ fs.take i ++ z :: fs.drop i, y.cells.length = sz := fun y hy => by
    rcases List.mem_append.1 hy with hy | hy
    · exact hfs y (List.mem_of_mem_take hy)
    · rcases List.mem_cons.1 hy with rfl | hy
      · exact hz
      · exact hfs y (List.mem_of_mem_drop hy)
  have hfl := flatCells_len hfs
  have hxl : xs.length = fs.length * sz := g1.1
  have hile : i * sz ≤ fs.length * sz := Nat.mul_le_mul_right _ hi
  have hrd : ∀ (j : Nat) (y : D), ((fs.take i ++ z :: fs.drop i).flatMap D.cells)[j]? = some y → RD G.f w' y ((xs.take (i * sz) ++ news ++ xs.drop (i * sz)).getD j undef) := fun j y hy => by
    rw [List.flatMap_append, List.flatMap_cons, take_flat hfs, drop_flat hfs] at hy
    have htl : ((fs.flatMap D.cells).take (i * sz)).length = i * sz := by rw [List.length_take]; omega
    have htl2 : (xs.take (i * sz)).length = i * sz := by rw [List.length_take]; omega
    rw [List.append_assoc]
    by_cases h1 : j < i * sz
    · rw [List.getElem?_append_left (by omega), List.getElem?_take, if_pos h1] at hy
      rw [List.getD_eq_getElem?_getD, List.getElem?_append_left (by omega), List.getElem?_take, if_pos h1, ← List.getD_eq_getElem?_getD]
      exact (g3 j y hy).ext hext
    · rw [List.getElem?_append_right (by omega), htl] at hy
      rw [List.getD_eq_getElem?_getD, List.getElem?_append_right (by omega), htl2]
      by_cases h2 : j - i * sz < sz
      · rw [List.getElem?_append_left (by omega)] at hy ⊢
        rw [← List.getD_eq_getElem?_getD]
        exact (hnr _ y hy).ext hext
      · rw [List.getElem?_append_right (by omega), List.getElem?_drop] at hy ⊢
        rw [hz] at hy
        rw [hnl, ← List.getD_eq_getElem?_getD]
        exact (g3 _ y hy).ext hext
  obtain ⟨b, c', q1, q2, rfl, q3⟩ := h.rowTo k g4 p3 p2 (by omega) p4 (by simp; omega) hnew hrd
  refine ⟨{ G with b := updf G.b (.l k) b }, _, ⟨trivial, hK c' q1 q2⟩, ?_⟩
  have hput := q3.put (s := d) (x := .rs (.l k) (fs.length + 1) c') (v := .slice (some (at_ b 0)) (fs.length + 1) c') (by
    have := AVR.rs (G := { G with b := updf G.b (.l k) b }) (w := w') (.l k) (fs.length + 1) c'
    simpa [updf_same] using this) (by simpa [dstOk] using hdn)
  simpa [Act.put] using hput

theorem CStep.frozen {dst : Option Nat} {f : Nat} {x : LX} {N : St → Prop} {σ : St} {k sz c : Nat} {fs : List D} {r : Res} (hx : σ.ev x = .rs (.l k) fs.length c) (ho : aget σ.L k = some (.cells (rowC sz fs c)))
    (hfs : ∀ y ∈ fs, y.cells.length = sz) (hc : fs.length ≤ c) (hcall : PCall P f [.list fs] (fun r' => r' = r)) (hK : N (putO { σ with L := adel σ.L k } dst r.av)) : CStep P dst f [x] N σ := by
  intro E _ n G a w vs hdn h hvl hv
  have h0 := hv 0 _ (show (evL σ [x])[0]? = some (.rs (.l k) fs.length c) by simp [evL, hx])
  obtain ⟨q1, _⟩ := row_list h (k := k) ho hfs hc
  have h1 := h.freeze ho
  have hsz : vs.size = 1 := by simpa using hvl
  have hval : vs.getD 0 undef = .slice (some (at_ (G.b (.l k)) 0)) fs.length c := by
    generalize vs.getD 0 undef = v at h0
    cases h0; rfl
  refine (hcall _ w vs (inv_now h1) h1.top (by simp [hsz]) (fun i y hy => ?_)).mono fun e w' ⟨r', v, f', p1, p2, p3, p4⟩ => ?_
  · match i, hy with
    | 0, hy => cases hy; rw [hval]; exact q1
    | (i + 1), hy => simp at hy
  · subst p1
    refine ⟨v, p2, ?_⟩
    have h2 : SR E n { G with f := f' } { σ with L := adel σ.L k } a.tmps w' := h1.world (p4.ext h1.top) (fun b hb => p4.block b hb) p4.top p4.os p4.tape p4.output
    cases dst with
    | none => exact ⟨_, _, hK, by simpa [Act.put, putO] using h2⟩
    | some d =>
      refine ⟨{ G with f := f' }, _, hK, ?_⟩
      have hr : AVR { G with f := f' } w' r'.av v := by
        cases r' with
        | one x => exact .d _ _ p3
        | tup xs =>
          obtain ⟨us, rfl, hl, hu⟩ := p3
          refine .tuple _ _ (by simpa using hl) (fun y hy => ?_) fun i y hy => ?_
          · obtain ⟨z, _, rfl⟩ := List.mem_map.1 hy; rfl
          · rw [List.getElem?_map] at hy
            cases hz : xs[i]? with
            | none => simp [hz] at hy
            | some z => simp [hz] at hy; subst hy; exact .d _ _ (hu i z hz)
      simpa [Act.put, putO] using h2.put hr (by simpa [dstOk] using hdn)
end Go.Av
/- Arguments read as data, and how great these are. -/
namespace Go.Av
open Go.RowKit

mutual
def bkD : D → Nat
  | .str s => s.length + 1
  | .list l => bkL l + 1
  | .agg cs => bkL cs
  | _ => 1
def bkL : List D → Nat
  | [] => 0
  | x :: r => bkD x + bkL r
end
theorem bkL_append (a b : List D) : bkL (a ++ b) = bkL a + bkL b := by
  induction a with
  | nil => simp [bkL]
  | cons x r ih => simp only [List.cons_append, bkL, ih]; omega
theorem bkD_mkD (ds : List D) : bkD (mkD ds) = bkL ds := by
  unfold mkD
  split
  · simp [bkL]
  · simp [bkD]
theorem bkL_mkD (L : List (List D)) : bkL (L.map mkD) = (L.map bkL).sum := by
  induction L with
  | nil => simp [bkL]
  | cons x r ih => simp only [List.map_cons, bkL, ih, bkD_mkD, List.sum_cons]
theorem bk_sum : ∀ {L : List (List D)} {bs : List Nat}, bs.length = L.length → (∀ (i : Nat) (ds : List D), L[i]? = some ds → bkL ds ≤ bs.getD i 0) → (L.map bkL).sum ≤ bs.sum
  | [], _, _, _ => by simp
  | x :: L, [], h, _ => by simp at h
  | x :: L, b :: bs, h, hb => by
    have h0 := hb 0 x rfl
    have ih := bk_sum (L := L) (bs := bs) (by simpa using h) fun i ds hi => by
      have := hb (i + 1) ds (by simpa using hi)
      simpa using this
    simp only [List.map_cons, List.sum_cons]
    simp at h0
    omega

structure BulkOK {H : Type} (bk : DataW H → Nat) : Prop where
  str : ∀ bytes, bytes.length + 1 ≤ bk (.lit (.string bytes))
  lit : ∀ l, 1 ≤ bk (.lit l)
  map : ∀ es, 1 ≤ bk (.map es)
  nil : 1 ≤ bk .nil
  slice : ∀ el sp, (el.map bk).sum + 1 ≤ bk (.slice el sp)
  agg : ∀ ps, (ps.map bk).sum ≤ bk (.agg ps)

section
variable {H : Type} {enc : TypeId × Value → H} {P : Program} {w : World} {base : Nat} {spare : Nat → Bool} {held : Bool}

theorem build_fieldsB {n : Nat} {cs : List Value} : ∀ (fs : List Field) (bs : List Nat) (off tot : Nat), offsOK P fs off tot = true → bs.length = fs.length →
    (∀ (i : Nat) (f : Field), fs[i]? = some f → ∃ ds : List D, OfT P n f.type ds ∧ ds.length = P.cellsOf f.type ∧ (∀ d ∈ ds, d.one = true) ∧ (∀ (i : Nat) (d : D) (v : Value), ds[i]? = some d → cs[f.offset + i]? = some v → RD (front w) w d v) ∧ bkL ds ≤ bs.getD i 0) →
    ∃ ds : List D, off + ds.length = tot ∧ (∀ f ∈ fs, off ≤ f.offset ∧ OfT P n f.type ((ds.drop (f.offset - off)).take (P.cellsOf f.type))) ∧ (∀ d ∈ ds, d.one = true) ∧ (∀ (i : Nat) (d : D) (v : Value), ds[i]? = some d → cs[off + i]? = some v → RD (front w) w d v) ∧ bkL ds ≤ bs.sum := by
  intro fs
  induction fs with
  | nil => intro bs off tot h _ _; simp [offsOK] at h; exact ⟨[], by simp [h], by simp, by simp, by simp, by simp [bkL]⟩
  | cons f r ih =>
    intro bs off tot h hbl hf
    cases bs with
    | nil => simp at hbl
    | cons bb bs =>
    simp only [offsOK, Bool.and_eq_true, beq_iff_eq] at h
    obtain ⟨h1, h2⟩ := h
    obtain ⟨da, a1, a2, a3, a4, a5⟩ := hf 0 f rfl
    obtain ⟨db, b1, b2, b3, b4, b5⟩ := ih bs _ _ h2 (by simpa using hbl) fun i g hg => by
      obtain ⟨ds, q1, q2, q3, q4, q5⟩ := hf (i + 1) g (by simpa using hg)
      exact ⟨ds, q1, q2, q3, q4, by simpa using q5⟩
    refine ⟨da ++ db, by simp; omega, fun g hg => ?_, fun d hd => ?_, fun i d v hd hv => ?_, by rw [bkL_append, List.sum_cons]; simp at a5; omega⟩
    · rcases List.mem_cons.1 hg with rfl | hg
      · refine ⟨by omega, ?_⟩
        rw [h1, Nat.sub_self, List.drop_zero, ← a2, List.take_left']
        · exact a1
        · rfl
      · obtain ⟨c1, c2⟩ := b2 g hg
        refine ⟨by omega, ?_⟩
        have : (da ++ db).drop (g.offset - off) = db.drop (g.offset - (off + P.cellsOf f.type)) := by
          rw [List.drop_append, List.drop_eq_nil_of_le (by omega), List.nil_append]; congr 1; omega
        rw [this]; exact c2
    · rcases List.mem_append.1 hd with hd | hd
      · exact a3 d hd
      · exact b3 d hd
    · by_cases hi : i < da.length
      · rw [List.getElem?_append_left hi] at hd
        exact a4 i d v hd (by rw [h1]; exact hv)
      · rw [List.getElem?_append_right (by omega)] at hd
        exact b4 _ d v hd (by rw [← hv]; congr 1; omega)

theorem readTB {bk : DataW H → Nat} (hbk : BulkOK bk) {ts : List TypeId} (hts : okTs P ts = true) : ∀ (fuel : Nat) (t : TypeId) (cs : List Value) (x : DataW H × List MemPlace), t ∈ ts → DataW.trod enc P w base spare held fuel t cs = some x →
    ∃ ds, OfT P fuel t ds ∧ ds.length = cs.length ∧ cs.length = P.cellsOf t ∧ (∀ d ∈ ds, d.one = true) ∧ (∀ (i : Nat) (d : D) (v : Value), ds[i]? = some d → cs[i]? = some v → RD (front w) w d v) ∧ bkL ds ≤ bk x.1 := by
  intro fuel
  induction fuel with
  | zero => intro t cs x _ h; simp [DataW.trod] at h
  | succ n ih =>
    intro t cs x ht h
    have hok := List.all_eq_true.1 hts t ht
    have one : ∀ {d : D} {v : Value}, RD (front w) w d v → ∀ (i : Nat) (d' : D) (v' : Value), [d][i]? = some d' → [v][i]? = some v' → RD (front w) w d' v' := by
      intro d v hr i d' v' h1 h2
      cases i with
      | zero => simp at h1 h2; subst h1; subst h2; exact hr
      | succ i => simp at h1
    unfold OfT
    cases hu : P.underlying t with
    | none => simp [hu] at hok
    | some T =>
      cases T with
      | bool =>
        simp only [hu, beq_iff_eq] at hok
        obtain ⟨b, rfl, rfl⟩ := DataW.trod_bool hu h
        exact ⟨[.bool b], ⟨b, rfl⟩, rfl, by simp [hok], by simp [D.one], one (.bool b), hbk.lit _⟩
      | int k =>
        simp only [hu, beq_iff_eq] at hok
        obtain ⟨m, rfl, rfl, hw⟩ := DataW.trod_int hu h
        exact ⟨[.int k m], ⟨m, rfl, hw⟩, rfl, by simp [hok], by simp [D.one], one (.int k m), hbk.lit _⟩
      | string =>
        simp only [hu, beq_iff_eq] at hok
        obtain ⟨s, rfl, rfl, hs⟩ := DataW.trod_string hu h
        exact ⟨[.str s.data.toList], ⟨_, rfl, by simpa using hs⟩, rfl, by simp [hok], by simp [D.one], one (by cases s; exact .str _), by simpa [bkL, bkD] using hbk.str s.data.toList⟩
      | slice e =>
        simp only [hu, Bool.and_eq_true, beq_iff_eq, bne_iff_ne, ne_eq, List.contains_iff_mem] at hok
        obtain ⟨h1, he, hz⟩ := hok
        rcases DataW.trod_slice hu h with ⟨rfl, rfl⟩ | ⟨a, len, cap, elems, rest, m, hm, rfl, rfl, _, hl, hc, hlen, hel, _, _⟩
        · exact ⟨[.list []], ⟨[], rfl, by simp, by simp⟩, rfl, by simp [h1], by simp [D.one], one .nils, by simpa [bkL, bkD] using hbk.nil⟩
        · have hm' : m = n := by omega
          subst hm'
          by_cases h0 : len = 0
          · subst h0
            exact ⟨[.list []], ⟨[], rfl, by simp, by simp⟩, rfl, by simp [h1], by simp [D.one], one (.emp _ _), by have := hbk.slice (elems.map (·.1)) (rest.map (·.1)); simp [bkL, bkD]; omega⟩
          · have key : ∀ i, i < len → ∃ ds : List D, (OfT P m e ds ∧ ds.length = P.cellsOf e ∧ (∀ d ∈ ds, d.one = true) ∧ ∀ j, j < P.cellsOf e → ∃ d v, ds[j]? = some d ∧ w.cell? ((a.add (i * P.cellsOf e)).add j) = some v ∧ RD (front w) w d v) ∧ bkL ds ≤ (elems.map (fun y => bk y.1)).getD i 0 := by
              intro i hi
              have hx := hel i hi
              rw [List.getElem?_eq_getElem (by omega)] at hx
              obtain ⟨cs', hcs, ht'⟩ := Option.bind_eq_some_iff.1 hx
              obtain ⟨ds, o1, o2, o3, o4, o5, o6⟩ := ih e cs' _ he ht'
              obtain ⟨c1, c2⟩ := cells_get hcs
              refine ⟨ds, ⟨o1, by omega, o4, fun j hj => ?_⟩, by
                have hi2 : i < elems.length := by omega
                rw [List.getD_eq_getElem?_getD, List.getElem?_map, List.getElem?_eq_getElem hi2]
                exact o6⟩
              have q1 := List.getElem?_eq_getElem (l := ds) (i := j) (by omega)
              have q2 := List.getElem?_eq_getElem (l := cs') (i := j) (by omega)
              exact ⟨_, _, q1, by rw [c2 j hj, q2], o5 j _ _ q1 q2⟩
            obtain ⟨L, hL, hpB⟩ := choose_list len key
            have hp := fun i ds h => (hpB i ds h).1
            -- the address is plain
            have hspot : a.spot = none := by
              obtain ⟨ds, ⟨_, _, _, h5⟩, _⟩ := key 0 (by omega)
              obtain ⟨_, _, _, h6, _⟩ := h5 0 (by omega)
              rw [Nat.zero_mul] at h6
              exact World.cell?_spot h6
            obtain ⟨b, o, sp⟩ := a
            simp only at hspot
            subst hspot
            have hadd : ∀ i j, ((⟨b, o, none⟩ : Addr).add i).add j = at_ b (o + (i + j)) := fun i j => by
              rw [Go.WideShapes.add_plain, Go.WideShapes.add_plain]; simp [at_]; omega
            have hget : ∀ i, i < len → ∃ ds, L[i]? = some ds ∧ OfT P m e ds ∧ ds.length = P.cellsOf e ∧ (∀ d ∈ ds, d.one = true) ∧ ∀ j, j < P.cellsOf e → ∃ d v, ds[j]? = some d ∧ w.cell? (at_ b (o + (i * P.cellsOf e + j))) = some v ∧ RD (front w) w d v := by
              intro i hi
              have q1 := List.getElem?_eq_getElem (l := L) (i := i) (by omega)
              obtain ⟨p1, p2, p3, p4⟩ := hp i _ q1
              refine ⟨_, q1, p1, p2, p3, fun j hj => ?_⟩
              obtain ⟨d, v, r1, r2, r3⟩ := p4 j hj
              rw [hadd] at r2
              exact ⟨d, v, r1, r2, r3⟩
            have hmem : ∀ ds ∈ L, OfT P m e ds ∧ ds.length = P.cellsOf e ∧ (∀ d ∈ ds, d.one = true) := by
              intro ds hds
              obtain ⟨i, hi⟩ := List.getElem?_of_mem hds
              have hil : i < len := by rw [← hL]; exact (List.getElem?_eq_some_iff.1 hi).1
              obtain ⟨ds', g1, g2, g3, g4, _⟩ := hget i hil
              rw [hi] at g1; cases g1
              exact ⟨g2, g3, g4⟩
            have hcell : ∀ k, k < len * P.cellsOf e → ∃ v, w.cell? (at_ b (o + k)) = some v := by
              intro k hk
              have hpz : 0 < P.cellsOf e := Nat.pos_of_ne_zero hz
              have hi : k / P.cellsOf e < len := Nat.div_lt_of_lt_mul (by rw [Nat.mul_comm]; exact hk)
              obtain ⟨ds, _, _, _, _, g5⟩ := hget _ hi
              obtain ⟨d, v, _, r2, _⟩ := g5 (k % P.cellsOf e) (Nat.mod_lt _ hpz)
              have : k / P.cellsOf e * P.cellsOf e + k % P.cellsOf e = k := by rw [Nat.mul_comm]; exact Nat.div_add_mod _ _
              rw [this] at r2
              exact ⟨v, r2⟩
            refine ⟨[.list (L.map mkD)], ⟨L.map mkD, rfl, by simp [hL]; omega, fun x hx => ?_⟩, rfl, by simp [h1], by simp [D.one], one ?_, ?_⟩
            · obtain ⟨ds, hds, rfl⟩ := List.mem_map.1 hx
              exact ⟨ds, rfl, (hmem ds hds).1⟩
            · have := RD.list (f := front w) (w := w) (L.map mkD) b o cap (P.cellsOf e) (fun k => (w.cell? (at_ b (o + k))).getD undef) (by simp [hL]; exact hl) (fun x hx => by
                  obtain ⟨ds, hds, rfl⟩ := List.mem_map.1 hx
                  obtain ⟨_, q2, q3⟩ := hmem ds hds
                  unfold D.flat
                  rw [mkD_cells q3]
                  exact ⟨q2, q3⟩) (by
                  rw [List.length_map, hL]
                  have hpos : 0 < len * P.cellsOf e := Nat.mul_pos (by omega) (Nat.pos_of_ne_zero hz)
                  obtain ⟨v, hv⟩ := hcell (len * P.cellsOf e - 1) (by omega)
                  have := lt_front hv
                  omega) (fun k hk => by
                  rw [List.length_map, hL] at hk
                  obtain ⟨v, hv⟩ := hcell k hk
                  rw [hv]; rfl) (fun i x j d hx hd => by
                  rw [List.getElem?_map] at hx
                  cases hLi : L[i]? with
                  | none => simp [hLi] at hx
                  | some ds =>
                    simp [hLi] at hx; subst hx
                    obtain ⟨_, q2, q3⟩ := hmem ds (List.mem_of_getElem? hLi)
                    rw [mkD_cells q3] at hd
                    have hil : i < len := by rw [← hL]; exact (List.getElem?_eq_some_iff.1 hLi).1
                    obtain ⟨ds', g1, _, _, _, g5⟩ := hget i hil
                    rw [hLi] at g1; cases g1
                    obtain ⟨d', v, r1, r2, r3⟩ := g5 j (by rw [← q2]; exact (List.getElem?_eq_some_iff.1 hd).1)
                    rw [hd] at r1; cases r1
                    rw [r2]; exact r3)
              rw [List.length_map, hL] at this
              exact this
            · have hb := hbk.slice (elems.map (·.1)) (rest.map (·.1))
              have hsum := bk_sum (L := L) (bs := elems.map (fun y => bk y.1)) (by simp [hL, hlen]) (fun i ds hi => (hpB i ds hi).2)
              rw [List.map_map] at hb
              simp only [bkL, bkD, bkL_mkD]
              have e : (elems.map (bk ∘ fun x => x.1)) = elems.map (fun y => bk y.1) := rfl
              rw [e] at hb
              omega
      | map kt e =>
        simp only [hu, Bool.and_eq_true, beq_iff_eq, List.contains_iff_mem] at hok
        obtain ⟨h1, he, hk, hv⟩ := hok
        rcases trod_map hu h with ⟨rfl, hx⟩ | ⟨b, es, clock, ⟨rfl, l, hx⟩, hb, hs, hc, hn, hm⟩
        · exact ⟨[.map [] []], ⟨[], [], rfl, rfl, by simp, by simp, by simp⟩, rfl, by simp [h1], by simp [D.one], one .mapn, by simp only [bkL, bkD, hx]; exact hbk.nil⟩
        · obtain ⟨ks, vs, q1, q2, q3, q4, q5⟩ := map_rd hb hs hc hn hk hv fun m hmm => by
            obtain ⟨a1, a2, y, a3⟩ := hm m hmm
            obtain ⟨ds, o1, o2, o3, o4, o5, _⟩ := ih e _ y he a3
            exact ⟨a1, a2, ds, o1, o2, o3, o4, o5⟩
          exact ⟨[.map ks vs], ⟨ks, vs, rfl, q1, q2, q3, q4⟩, rfl, by simp [h1], by simp [D.one], one q5, by simp only [bkL, bkD, hx]; exact hbk.map _⟩
      | struct fs =>
        simp only [hu, Bool.and_eq_true] at hok
        obtain ⟨o1, o2⟩ := hok
        obtain ⟨xs, m, hm, rfl, hlen, hxl, hf⟩ := DataW.trod_struct hu h
        have hm' : m = n := by omega
        subst hm'
        obtain ⟨ds, c1, c2, c3, c4, c5⟩ := build_fieldsB (w := w) (n := m) (cs := cs) fs.toList (xs.map (fun y => bk y.1)) 0 (P.cellsOf t) o2 (by simp [hxl]) (fun i f hi => by
          have hfm := List.mem_of_getElem? hi
          have hfi : fs[i]? = some f := by simpa using hi
          have hil : i < xs.length := by rw [hxl]; exact (Array.getElem?_eq_some_iff.1 hfi).1
          have hx := hf i f hfi
          rw [List.getElem?_eq_getElem hil] at hx
          obtain ⟨ds, p1, p2, p3, p4, p5, p6⟩ := ih _ _ _ (by have := List.all_eq_true.1 o1 f hfm; simpa using this) hx
          refine ⟨ds, p1, by omega, p4, fun j d v hd hv => p5 j d v hd ?_, by rw [List.getD_eq_getElem?_getD, List.getElem?_map, List.getElem?_eq_getElem hil]; exact p6⟩
          have hj : j < ds.length := (List.getElem?_eq_some_iff.1 hd).1
          rw [List.getElem?_take, if_pos (by omega), List.getElem?_drop]
          exact hv)
        refine ⟨ds, ⟨by omega, fun i f hfi => ?_⟩, by omega, by omega, c3, fun i d v hd hv => c4 i d v hd (by rw [Nat.zero_add]; exact hv), by
          have := hbk.agg (xs.map (·.1))
          rw [List.map_map] at this
          exact Nat.le_trans c5 this⟩
        have := (c2 f (by simpa using List.mem_of_getElem? (l := fs.toList) (i := i) (by simpa using hfi))).2
        rwa [Nat.sub_zero] at this
      | _ => simp [hu] at hok

end

end Go.Av
/- Maps as data: their length, what is found in them, walks through them and through strings. -/
set_option linter.unusedSectionVars false
namespace Go.Av
open Go.RowKit

variable {E : Entry} {n : Nat} {G : Ghost} {σ : St} {ts : Array Value} {w : World} {P : Program} [Inv P]

def AObj.isIter : AObj → Bool
  | .cells _ => false
  | _ => true

theorem SR.setIter (h : SR E n G σ ts w) {r : Ref} {o o' : AObj} (hr : σ.obj r = some o) (hi : o'.isIter = true) {w' : World} (hs : w'.heap.size = w.heap.size) (hb : ∀ b, b ≠ G.b r → w'.heap[b]? = w.heap[b]?)
    (hos : w'.os = w.os) (htp : w'.tape = w.tape) (hout : w'.output = w.output) (ho' : Ext G.f w G.f w' → ObjR G w' r o') : SR E n G (σ.setObj r o') ts w' := by
  have hf := h.objf r _ hr
  have hext : Ext G.f w G.f w' := by
    refine ⟨by omega, fun _ => Nat.le_refl _, fun b j hj => ?_, fun b es c h0 hm => ?_⟩
    · have hne : b ≠ G.b r := fun e => by rw [e, hf] at hj; omega
      simp only [World.cell?, at_]; rw [hb b hne]
    · rw [hb b (fun e => by rw [e, hf] at h0; omega)]; exact hm
  have obj : ∀ r' o1, (σ.setObj r o').obj r' = some o1 → (r' = r ∧ o1 = o') ∨ (r' ≠ r ∧ σ.obj r' = some o1) := fun r' o1 h1 => by
    rw [St.obj_setObj] at h1
    split at h1
    · rename_i e; exact .inl ⟨e.symm, by simpa using h1.symm⟩
    · rename_i e; exact .inr ⟨fun e' => e e'.symm, h1⟩
  have dom : ∀ r' o1, (σ.setObj r o').obj r' = some o1 → ∃ o2, σ.obj r' = some o2 := fun r' o1 h1 => by
    rcases obj r' o1 h1 with ⟨rfl, _⟩ | ⟨_, h1⟩
    · exact ⟨_, hr⟩
    · exact ⟨_, h1⟩
  refine ⟨h.size, fun t y hy => ?_, fun r' o1 ho => ?_, fun r' o1 ho => ?_, fun r1 r2 o1 o2 h1 h2 => ?_, fun q v' e sz hq => ?_, fun q v' e sz b hq hb' r' o1 ho => ?_, h.lamInj, fun r' o1 ho => ?_, h.newLam, h.ext.trans hext, fun b hb0 hM => ?_, fun b hb0 => h.top b (by omega), h.ext0, fun k cs' y s ho hy => ?_,
    hos.trans h.os, htp.trans h.tape, hout.trans h.output⟩
  · have h2 : aget σ.ρ t = some y := by cases r <;> exact hy
    exact AVR.mono (G' := G) (h := h.slot t y h2) hext (fun _ _ => rfl) (fun _ _ _ hp => hp)
  · rcases obj r' o1 ho with ⟨rfl, rfl⟩ | ⟨hne, ho⟩
    · exact ho' hext
    · have hb1 : G.b r' ≠ G.b r := fun e => hne (h.inj r' r _ _ ho hr e)
      exact (h.obj r' o1 ho).mono (G' := G) hext rfl (hb _ hb1) (fun _ _ _ _ _ _ => rfl) (fun _ _ hp => hp)
  · obtain ⟨o2, h2⟩ := dom r' o1 ho; exact h.objf r' o2 h2
  · obtain ⟨o3, h3⟩ := dom r1 o1 h1; obtain ⟨o4, h4⟩ := dom r2 o2 h2; exact h.inj r1 r2 o3 o4 h3 h4
  · exact (h.lam q v' e sz hq).mono fun b hb1 => ⟨hb b (fun e' => h.lamObj q v' e sz b hq hb1 r _ hr e'.symm), rfl⟩
  · obtain ⟨o2, h2⟩ := dom r' o1 ho; exact h.lamObj q v' e sz b hq hb' r' o2 h2
  · obtain ⟨o2, h2⟩ := dom r' o1 ho; exact h.newObj r' o2 h2
  · have hb' : b ≠ G.b r := fun e => by
      rcases h.newObj r _ hr with h2 | h2
      · omega
      · rw [e] at hM; exact hM h2
    exact ⟨(hb b hb').trans (h.fr b hb0 hM).1, (h.fr b hb0 hM).2⟩
  · rcases obj (.x k) _ ho with ⟨e, h2⟩ | ⟨_, ho⟩
    · subst h2; cases hi
    · exact h.own0 k cs' y s ho hy

theorem SR.newIter (h : SR E n G σ ts w) {d : Nat} (hn : d < n) {o : Obj} {o' : AObj} (hi : o'.isIter = true)
    (ho : ∀ G' : Ghost, G'.f = updf G.f w.heap.size 0 → G'.b (.l d) = w.heap.size → Ext G.f w G'.f (w.alloc o) → ObjR G' (w.alloc o) (.l d) o') :
    ∃ G', SR E n G' (((σ.drop d).setObj (.l d) o').put d (.ptr (.l d) 0)) (ts.setIfInBounds d (.pointer (some (at_ w.heap.size 0)))) (w.alloc o) := by
  have h1 := (h.drop d).alloc o 0
  have hlt : ∀ r o, (σ.drop d).obj r = some o → G.b r < w.heap.size := fun r o ho => ((h.drop d).obj r o ho).lt
  have hρ : ∀ t x, aget (σ.drop d).ρ t = some x → x.has (.l d) = false := fun t x hx => by
    simp only [St.drop, aget_amap] at hx
    cases hy : aget σ.ρ t with
    | none => simp [hy] at hx
    | some y => simp [hy] at hx; subst hx; exact (AV.drop_has _ _)
  have hL : ∀ t cs x, aget (σ.drop d).L t = some (.cells cs) → x ∈ cs → x.has (.l d) = false := fun t cs x hx hm => by
    simp only [St.drop, aget_amap] at hx
    cases hy : aget σ.L t with
    | none => simp [hy] at hx
    | some y =>
      simp [hy] at hx
      cases y with
      | siter s p => simp [dropObj] at hx
      | miter l c => simp [dropObj] at hx
      | mobj l c => simp [dropObj] at hx
      | cells cs' => simp [dropObj] at hx; subst hx; obtain ⟨y, _, rfl⟩ := List.mem_map.1 hm; exact AV.drop_has _ _
  have hext : Ext G.f w (updf G.f w.heap.size 0) (w.alloc o) := Ext.alloc w h.top _ 0
  have h2 := h1.addObj d w.heap.size o' hρ hL (by show updf G.f w.heap.size 0 w.heap.size = 0; simp) (fun r o ho => by have := hlt r o ho; exact fun e' => by have e'' : G.b r = w.heap.size := e'; omega)
    (fun q v p hq hb => by obtain ⟨e1, s1⟩ := p; have := (h.lam q v e1 s1 hq).lt hb; omega) h.ext.size
    (ho _ rfl (by simp) hext)
  have h3 := h2.put (s := d) (x := .ptr (.l d) 0) (v := .pointer (some (at_ w.heap.size 0))) (by
    have := AVR.ptr (G := { f := updf G.f w.heap.size 0, b := updf G.b (.l d) w.heap.size, lam := G.lam }) (w := w.alloc o) (.l d) 0
    simpa using this) hn
  exact ⟨_, h3⟩

/-! ### Reading off the operation -/
theorem primOf_range {o : Oper} {t : TypeId} {os : List Operand} (h : primOf P o = some (.range t, os)) : ∃ x, o.op = .range t x ∧ os = [x] := by
  unfold primOf at h
  split at h
  all_goals first
    | (cases h; done)
    | (rename_i ho; cases h; exact ⟨_, ho, rfl⟩)
    | (split at h <;> (try cases h) <;> (split at h <;> cases h))
    | (split at h <;> cases h)

theorem primOf_next {o : Oper} {s : Bool} {t : TypeId} {os : List Operand} (h : primOf P o = some (.next s t, os)) : ∃ x, o.op = .next x s ∧ os = [x] := by
  unfold primOf at h
  split at h
  all_goals first
    | (cases h; done)
    | (rename_i ho; cases h; exact ⟨_, ho, rfl⟩)
    | (split at h <;> (try cases h) <;> (split at h <;> cases h))
    | (split at h <;> cases h)

theorem primOf_lookup {o : Oper} {t : TypeId} {ok : Bool} {os : List Operand} (h : primOf P o = some (.lookup t ok, os)) : ∃ x i, o.op = .lookup t x i ok ∧ os = [x, i] := by
  unfold primOf at h
  split at h
  all_goals first
    | (cases h; done)
    | (rename_i ho; cases h; exact ⟨_, _, ho, rfl⟩)
    | (split at h <;> (try cases h) <;> (split at h <;> cases h))
    | (split at h <;> cases h)

theorem liftL_len : ∀ {l : List Operand} {r : List LX}, liftL l = some r → r.length = l.length
  | [], r, h => by simp [liftL] at h; subst h; rfl
  | x :: l, r, h => by
    simp only [liftL] at h
    split at h
    · rename_i u v hu hv; cases h; simp [liftL_len hv]
    · cases h

def keyEq : D → D → Bool
  | .int _ a, .int _ b => a == b
  | .str a, .str b => a == b
  | _, _ => false
def mlook : List D → List D → D → Option D
  | k :: ks, v :: vs, x => if keyEq x k then some v else mlook ks vs x
  | _, _, _ => none
def keyKind : TypeDesc → D → Bool
  | .int k, .int k' _ => k' == k
  | .string, .str _ => true
  | _, _ => false

theorem keyKind_isKey {kd : TypeDesc} {x : D} {v : Value} {f : Nat → Nat} (h : keyKind kd x = true) (hr : RD f w x v) : MapKept.IsKey kd v := by
  cases kd <;> cases x <;> simp [keyKind] at h <;> cases hr <;> simp [MapKept.IsKey, h]

theorem keyEq_iff {kd : TypeDesc} {x y : D} {u v : Value} {f f' : Nat → Nat} {w' : World} (hx : keyKind kd x = true) (hy : keyKind kd y = true) (hu : RD f w x u) (hv : RD f' w' y v) : keyEq x y = true ↔ u = v := by
  cases kd <;> cases x <;> simp [keyKind] at hx <;> cases y <;> simp [keyKind] at hy <;> cases hu <;> cases hv <;> simp [keyEq]
  all_goals first | (subst hx; subst hy; simp) | skip

theorem find_spec {kd : TypeDesc} {f : Nat → Nat} {key : D} {kv : Value} (hkey : keyKind kd key = true) (hr : RD f w key kv) : ∀ (es : List MapEntry) (ks vs : List D) (i : Nat), ks.length = es.length → vs.length = es.length → (∀ k ∈ ks, keyKind kd k = true) →
    (∀ (i : Nat) k e, ks[i]? = some k → es[i]? = some e → RD f w k e.key) → (∀ (i : Nat) v e, vs[i]? = some v → es[i]? = some e → RD f w v e.val) →
    (mlook ks vs key = none ∧ Instr.findNow kd kv es i = some none) ∨ ∃ v j u, mlook ks vs key = some v ∧ Instr.findNow kd kv es i = some (some (j, u)) ∧ RD f w v u
  | [], [], [], i, _, _, _, _, _ => .inl ⟨rfl, rfl⟩
  | [], _ :: _, _, i, h, _, _, _, _ => by simp at h
  | [], _, _ :: _, i, _, h, _, _, _ => by simp at h
  | _ :: _, [], _, i, h, _, _, _, _ => by simp at h
  | _ :: _, _, [], i, _, h, _, _, _ => by simp at h
  | e :: es, k :: ks, v :: vs, i, h1, h2, h3, h4, h5 => by
    have rk := h4 0 k e rfl rfl
    obtain ⟨r, q1, q2⟩ := MapKept.sameNow_of_keys (keyKind_isKey hkey hr) (keyKind_isKey (h3 k (by simp)) rk)
    have q3 := keyEq_iff hkey (h3 k (by simp)) hr rk
    simp only [mlook, Instr.findNow, q1]
    cases r with
    | true =>
      rw [if_pos (q3.2 (q2.1 rfl))]
      exact .inr ⟨v, i, e.val, rfl, rfl, h5 0 v e rfl rfl⟩
    | false =>
      rw [if_neg (fun h => by have := q2.2 (q3.1 h); cases this)]
      exact find_spec hkey hr es ks vs (i + 1) (by simpa using h1) (by simpa using h2) (fun k hk => h3 k (by simp [hk])) (fun i k e hk he => h4 (i + 1) k e (by simpa using hk) (by simpa using he)) (fun i k e hk he => h5 (i + 1) k e (by simpa using hk) (by simpa using he))

theorem PrimG.lookup {d : Nat} {t kt e : TypeId} {kd : TypeDesc} {x i : LX} {K : St → Prop} {σ : St} {ks vs : List D} {key zero : D} (hx : σ.ev x = .d (.map ks vs)) (hi : σ.ev i = .d key) (ht : P.underlying t = some (.map kt e)) (hkt : P.underlying kt = some kd)
    (hkey : keyKind kd key = true) (hks : ∀ k ∈ ks, keyKind kd k = true) (hz : Program.zeroOf P e = some zero) (hK : K (σ.put d (.tuple [.d ((mlook ks vs key).getD zero), .d (.bool (mlook ks vs key).isSome)]))) : PrimG P (some d) (.lookup t true) [x, i] K σ := by
  refine PrimG.value _ (fun E _ n G a w o os hp hl hσ => ?_) hK
  obtain ⟨X, I, hop, rfl⟩ := primOf_lookup hp
  obtain ⟨x', i', hx', hi', he⟩ := liftL2 hl
  cases he
  have rx := hσ.ev hx'
  have ri := hσ.ev hi'
  rw [hx] at rx
  rw [hi] at ri
  have rx := rx.dinv
  have ri := ri.dinv
  generalize hv : a.eval X = v at rx
  generalize hvi : a.eval I = vi at ri
  obtain ⟨zi, zv, hzi, hzv, hzc⟩ : ∃ zi zv, P.info? e = some zi ∧ zi.zero = some zv ∧ cst zv = some zero := by
    unfold Program.zeroOf at hz
    obtain ⟨zv, h1, h2⟩ := Option.bind_eq_some_iff.1 hz
    obtain ⟨zi, h3, h4⟩ := Option.bind_eq_some_iff.1 h1
    exact ⟨zi, zv, h3, h4, h2⟩
  have hzero : ∀ w, (zeroValue e).run P w = .ok zv w := fun w => by simp [zeroValue, typeInfo, hzi, hzv]
  have hkk := keyKind_isKey hkey ri
  have tup : ∀ (u : D) (uv : Value) (b : Bool), RD G.f w u uv → AVR G w (.tuple [.d u, .d (.bool b)]) (.tuple #[uv, .bool b]) := fun u uv b hu =>
    .tuple _ _ rfl (by simp [AV.simple]) fun j y hj => by
      match j, hj with
      | 0, hj => cases hj; exact .d _ _ hu
      | 1, hj => cases hj; exact .d _ _ (.bool _)
      | (j + 2), hj => simp at hj
  cases rx with
  | mapn =>
    refine ⟨.tuple #[zv, .bool false], ?_, tup _ _ _ (by simpa [mlook] using cst_rd hzc)⟩
    simp only [execOp, hop, hv, hvi, Instr.lookup, Sem.run_bind, run_underlying ht, Result.andThen_ok, Sem.run_pure, MapKept.run_checkKey hkt hkk, MapKept.run_findKey hkt (show Instr.findNow kd vi (#[] : Array MapEntry).toList 0 = some none from rfl), hzero]
    rfl
  | map _ _ b es clock hb hh hk hv' hn hc hr hr' =>
    rcases find_spec hkey ri es.toList ks vs 0 (by simpa using hk) (by simpa using hv') hks (fun i k e h1 h2 => hr i k e h1 (by simpa using h2)) (fun i k e h1 h2 => hr' i k e h1 (by simpa using h2)) with ⟨h1, h2⟩ | ⟨v, j, u, h1, h2, h3⟩
    · rw [h1]
      refine ⟨.tuple #[zv, .bool false], ?_, tup _ _ _ (cst_rd hzc)⟩
      simp only [execOp, hop, hv, hvi, Instr.lookup, Sem.run_bind, run_underlying ht, Result.andThen_ok, Sem.run_pure, MapKept.run_getObj_map hh, MapKept.run_checkKey hkt hkk, MapKept.run_findKey hkt h2, hzero, h1]
      rfl
    · rw [h1]
      refine ⟨.tuple #[u, .bool true], ?_, tup _ _ _ h3⟩
      simp only [execOp, hop, hv, hvi, Instr.lookup, Sem.run_bind, run_underlying ht, Result.andThen_ok, Sem.run_pure, MapKept.run_getObj_map hh, MapKept.run_checkKey hkt hkk, MapKept.run_findKey hkt h2, hzero, h1]
      rfl

theorem ptr_inv {r : Ref} {v : Value} (h : AVR G w (.ptr r 0) v) : v = .pointer (some (at_ (G.b r) 0)) := by cases h; rfl

/-! ### Walks through strings -/
theorem PrimG.rangeStr {d : Nat} {t : TypeId} {x : LX} {K : St → Prop} {σ : St} {s : List UInt8} (hx : σ.ev x = .d (.str s)) (ht : P.underlying t = some .string) (hK : K (((σ.drop d).setObj (.l d) (.siter s 0)).put d (.ptr (.l d) 0))) : PrimG P (some d) (.range t) [x] K σ := by
  intro E _ n G a w o os hp hl hdst hd hσ
  obtain ⟨X, hop, rfl⟩ := primOf_range hp
  obtain ⟨x', hx', he⟩ := liftL1 hl
  cases he
  have rx := hσ.ev hx'
  rw [hx] at rx
  have rx := rx.dinv
  generalize hv : a.eval X = v at rx
  have hdn : d < n := by simpa [dstOk] using hd
  cases rx
  obtain ⟨G', h1⟩ := hσ.newIter hdn (o := .stringIter ⟨s.toArray⟩ 0) (o' := .siter s 0) rfl fun G' h1 h2 h3 => by
    show (w.alloc _).heap[G'.b (.l d)]? = _
    rw [h2]; exact heap_alloc_at _ _
  exact .inl ⟨_, _, by simp only [execOp, hop, hv, Sem.run_bind, Go.run_range_string w t _ ht]; rfl, G', _, ⟨trivial, hK⟩, h1⟩

def runeAt (s : List UInt8) (pos : Nat) : Nat × Nat := Utf8.decode ⟨s.toArray⟩ pos

theorem PrimG.nextStr {d k : Nat} {ty : TypeId} {x : LX} {K : St → Prop} {σ : St} {s : List UInt8} {pos : Nat} (hx : σ.ev x = .ptr (.l k) 0) (ho : σ.obj (.l k) = some (.siter s pos)) (h0 : s.length ≤ pos → K (σ.put d (.tuple [.d (.bool false)])))
    (h1 : pos < s.length → K ((σ.setObj (.l k) (.siter s (pos + (runeAt s pos).2))).put d (.tuple [.d (.bool true), .d (.int .i64 pos), .d (.int .i32 (runeAt s pos).1)]))) : PrimG P (some d) (.next true ty) [x] K σ := by
  intro E _ n G a w o os hp hl hdst hd hσ
  obtain ⟨X, hop, rfl⟩ := primOf_next hp
  obtain ⟨x', hx', he⟩ := liftL1 hl
  cases he
  have rx := hσ.ev hx'
  rw [hx] at rx
  have hv := ptr_inv rx
  have hdn : d < n := by simpa [dstOk] using hd
  have hh : w.heap[G.b (.l k)]? = some (.stringIter ⟨s.toArray⟩ pos) := hσ.obj _ _ ho
  by_cases hlt : pos < s.length
  · have hlt' := (hσ.obj _ _ ho).lt
    have hsz : (ByteArray.mk s.toArray).size = s.length := by simp [ByteArray.size]
    have hrun : (Instr.next (.pointer (some (at_ (G.b (.l k)) 0))) true o.type).run P w = .ok (.tuple #[.bool true, .int .i64 pos, .int .i32 (runeAt s pos).1]) { w with heap := w.heap.setIfInBounds (G.b (.l k)) (.stringIter ⟨s.toArray⟩ (pos + (runeAt s pos).2)) } := by
      simp only [Instr.next, at_, getObj, setObj, Sem.run_bind, Sem.run, hh, Result.andThen, hsz, hlt, if_true]
      simp [goInt, runeAt, Sem.run, hh]
    refine .inl ⟨.tuple #[.bool true, .int .i64 pos, .int .i32 (runeAt s pos).1], _, by simp only [execOp, hop, hv, Sem.run_bind, hrun]; rfl, G, _, ⟨trivial, h1 hlt⟩, ?_⟩
    have hS := hσ.setIter (w' := { w with heap := w.heap.setIfInBounds (G.b (.l k)) (.stringIter ⟨s.toArray⟩ (pos + (runeAt s pos).2)) }) ho (o' := .siter s (pos + (runeAt s pos).2)) rfl (by simp) (fun b hb => Array.getElem?_setIfInBounds_ne (Ne.symm hb)) rfl rfl rfl fun hext => by
      show (w.heap.setIfInBounds _ _)[G.b (.l k)]? = _
      simp [hlt']
    simpa [Act.put] using hS.put (x := .tuple [.d (.bool true), .d (.int .i64 pos), .d (.int .i32 (runeAt s pos).1)]) (v := .tuple #[.bool true, .int .i64 pos, .int .i32 (runeAt s pos).1]) (.tuple _ _ rfl (by simp [AV.simple]) fun j y hj => by
      match j, hj with
      | 0, hj => cases hj; exact .d _ _ (.bool _)
      | 1, hj => cases hj; exact .d _ _ (.int _ _)
      | 2, hj => cases hj; exact .d _ _ (.int _ _)
      | (j + 3), hj => simp at hj) hdn
  · refine .inl ⟨.tuple #[.bool false], w, ?_, G, _, ⟨trivial, h0 (by omega)⟩, by
      simpa [Act.put] using hσ.put (x := .tuple [.d (.bool false)]) (.tuple _ _ rfl (by simp [AV.simple]) fun j y hj => by
        match j, hj with
        | 0, hj => cases hj; exact .d _ _ (.bool _)
        | (j + 1), hj => simp at hj) hdn⟩
    have hsz : (ByteArray.mk s.toArray).size = s.length := by simp [ByteArray.size]
    simp only [execOp, hop, hv, Instr.next, at_, getObj, Sem.run_bind, Sem.run, hh, Result.andThen, hsz, hlt, if_false]
    rfl
end Go.Av
/- Maps that a function makes for itself. -/
set_option linter.unusedSectionVars false
namespace Go.Av
open Go.RowKit

variable {E : Entry} {n : Nat} {G : Ghost} {σ : St} {ts : Array Value} {w : World} {P : Program} [Inv P]

theorem primOf_mkMap {o : Oper} {t : TypeId} {os : List Operand} (h : primOf P o = some (.mkMap t, os)) : ∃ r, o.op = .makeMap t r ∧ os = r.toList := by
  unfold primOf at h
  split at h
  all_goals first
    | (cases h; done)
    | (rename_i ho; cases h; exact ⟨_, ho, rfl⟩)
    | (split at h <;> (try cases h) <;> (split at h <;> cases h))
    | (split at h <;> cases h)

theorem SR.newObj' (h : SR E n G σ ts w) {d : Nat} (hn : d < n) {o : Obj} {o' : AObj} {x : AV} {v : Value}
    (ho : ∀ G' : Ghost, G'.f = updf G.f w.heap.size 0 → G'.b (.l d) = w.heap.size → Ext G.f w G'.f (w.alloc o) → ObjR G' (w.alloc o) (.l d) o')
    (hx : ∀ G' : Ghost, G'.b (.l d) = w.heap.size → AVR G' (w.alloc o) x v) :
    ∃ G', SR E n G' (((σ.drop d).setObj (.l d) o').put d x) (ts.setIfInBounds d v) (w.alloc o) := by
  have h1 := (h.drop d).alloc o 0
  have hlt : ∀ r o, (σ.drop d).obj r = some o → G.b r < w.heap.size := fun r o ho => ((h.drop d).obj r o ho).lt
  have hρ : ∀ t x, aget (σ.drop d).ρ t = some x → x.has (.l d) = false := fun t x hx => by
    simp only [St.drop, aget_amap] at hx
    cases hy : aget σ.ρ t with
    | none => simp [hy] at hx
    | some y => simp [hy] at hx; subst hx; exact (AV.drop_has _ _)
  have hL : ∀ t cs x, aget (σ.drop d).L t = some (.cells cs) → x ∈ cs → x.has (.l d) = false := fun t cs x hx hm => by
    simp only [St.drop, aget_amap] at hx
    cases hy : aget σ.L t with
    | none => simp [hy] at hx
    | some y =>
      simp [hy] at hx
      cases y with
      | siter s p => simp [dropObj] at hx
      | miter l c => simp [dropObj] at hx
      | mobj l c => simp [dropObj] at hx
      | cells cs' => simp [dropObj] at hx; subst hx; obtain ⟨y, _, rfl⟩ := List.mem_map.1 hm; exact AV.drop_has _ _
  have hext : Ext G.f w (updf G.f w.heap.size 0) (w.alloc o) := Ext.alloc w h.top _ 0
  have h2 := h1.addObj d w.heap.size o' hρ hL (by show updf G.f w.heap.size 0 w.heap.size = 0; simp) (fun r o ho => by have := hlt r o ho; exact fun e' => by have e'' : G.b r = w.heap.size := e'; omega)
    (fun q v p hq hb => by obtain ⟨e1, s1⟩ := p; have := (h.lam q v e1 s1 hq).lt hb; omega) h.ext.size
    (ho _ rfl (by simp) hext)
  exact ⟨_, h2.put (hx _ (by simp)) hn⟩

theorem PrimG.mkMap {d : Nat} {t k e : TypeId} {K : St → Prop} {σ : St} (ht : P.underlying t = some (.map k e)) (hK : K (((σ.drop d).setObj (.l d) (.mobj [] [])).put d (.mp (.l d)))) : PrimG P (some d) (.mkMap t) [] K σ := by
  intro E _ n G a w o os hp hl hdst hd hσ
  obtain ⟨r, hop, rfl⟩ := primOf_mkMap hp
  have hr : r = none := by
    cases r with
    | none => rfl
    | some r => have := liftL_len hl; simp at this
  subst hr
  obtain ⟨G', h1⟩ := hσ.newObj' (by simpa [dstOk] using hd) (o := .map #[] 0) (o' := .mobj [] []) (x := .mp (.l d)) (v := .map (some w.heap.size))
    (fun G' h1 h2 h3 => ⟨#[], 0, by rw [h2]; exact heap_alloc_at _ _, rfl, rfl, by simp, by simp, by simp, by simp⟩) (fun G' h2 => by rw [← h2]; exact .mp _)
  refine .inl ⟨_, _, ?_, G', _, ⟨trivial, hK⟩, h1⟩
  simp [execOp, hop, Instr.makeMap, newObj, Sem.run]

end Go.Av
