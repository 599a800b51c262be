/- 'append' over abstract states. -/
import Derived.Test.YtkkdhgibaimboaaDoorAvSteps3
namespace Go.Av

variable {E : Entry} {n : Nat} {G : Ghost} {σ : St} {ts : Array Value} {w : World}

/-- What append has done to the world: it wrote behind the owned cells, or it made a new row. -/
structure Grow (w w' : World) (v v' : Value) (k : Nat) : Prop where
  size : w.heap.size ≤ w'.heap.size
  block : ∀ b, b < w.heap.size → v.ownBlock ≠ some b → w'.heap[b]? = w.heap[b]?
  cells : ∀ b, v.ownBlock = some b → ∀ j, j < k → w'.cell? (at_ b j) = w.cell? (at_ b j)
  own : v'.ownBlock = v.ownBlock ∨ ∃ b, v'.ownBlock = some b ∧ w.heap.size ≤ b
  os : w'.os = w.os
  tape : w'.tape = w.tape
  output : w'.output = w.output

theorem add_zero_at (g j : Nat) : (⟨g, 0, none⟩ : Addr).add j = at_ g j := by unfold Addr.add at_; split <;> simp_all

theorem run_append_av {P : Program} (w : World) (t tx ty e : TypeId) (i : TypeInfo) (z : Value) (ht : P.underlying t = some (.slice e)) (hi : P.info? e = some i) (hz : i.zero = some z) (hzs : z.cells.size = i.size)
    (v : Value) (k : Nat) (xs : List Value) (hown : w.ownsRow 0 e i.size v k xs) (x : Value) (m : Nat) (news : List Value) (hs : Src P i.size tx x m news w)
    (h63 : k + m ≤ maxLen) (hbytes : (k + m) * i.bytes ≤ 140737488355328) :
    ∃ v' w', (Builtin.append_ #[t, tx] ty #[v, x]).run P w = .ok v' w' ∧ w'.ownsRow 0 e i.size v' (k + m) (xs ++ news) ∧ Grow w w' v v' (k * i.size) := by
  have hsmall : k + m ≤ 9223372036854775807 := by simp only [maxLen] at h63; omega
  have hlen : (xs ++ news).length = (k + m) * i.size := by rw [List.length_append, hown.1, hs.newsLen, Nat.add_mul]
  have grown : ∀ (old : Nat), old < k + m →
      (w.drew.alloc (.cells ((xs ++ news).toArray ++ Builtin.zeroCells z.cells (grownCap w (k + m) old e - (k + m))) e)).ownsRow 0 e i.size
        (.slice (some ⟨w.heap.size, 0, none⟩) (k + m) (grownCap w (k + m) old e)) (k + m) (xs ++ news) ∧
      Grow w (w.drew.alloc (.cells ((xs ++ news).toArray ++ Builtin.zeroCells z.cells (grownCap w (k + m) old e - (k + m))) e)) v (.slice (some ⟨w.heap.size, 0, none⟩) (k + m) (grownCap w (k + m) old e)) (k * i.size) := by
    intro old ho
    have hge := grownCap_ge w (k + m) old e
    have hcm : grownCap w (k + m) old e ≤ maxLen := grownCap_le_maxLen w (k + m) old e h63
    have hnew : (w.drew.alloc (.cells ((xs ++ news).toArray ++ Builtin.zeroCells z.cells (grownCap w (k + m) old e - (k + m))) e)).heap[w.heap.size]? = _ := heap_alloc_at w.drew _
    refine ⟨⟨hlen, .inr ⟨w.heap.size, _, _, rfl, Nat.zero_le _, hnew, hge, hcm, ?_, ?_⟩⟩, ⟨by simp, fun b hb _ => heap_alloc_lt w.drew _ hb, fun b hb j _ => ?_, .inr ⟨_, rfl, Nat.le_refl _⟩, rfl, rfl, rfl⟩⟩
    · simp only [Array.size_append, List.size_toArray, size_zeroCells, hzs, hlen, ← Nat.add_mul]
      congr 1
      omega
    · simp only [Array.toList_append]
      rw [← hlen]
      exact List.take_left
    · have hlt := hown.lt b hb
      simp only [World.cell?, at_]
      rw [heap_alloc_lt w.drew _ hlt.2]
      rfl
  rcases hown.2 with ⟨rfl, rfl⟩ | ⟨g, cap, cur, rfl, hbg, hg, hnc, hcm, hcs, htake⟩
  · have hx : xs = [] := List.eq_nil_of_length_eq_zero (by simpa using hown.1)
    subst hx
    by_cases hm : m = 0
    · subst hm
      have hn : news = [] := List.eq_nil_of_length_eq_zero (by simpa using hs.newsLen)
      subst hn
      refine ⟨.slice none 0 0, w, ?_, World.ownsRow_nil w 0 e i.size, ⟨Nat.le_refl _, fun _ _ _ => rfl, fun _ _ _ _ => rfl, .inl rfl, rfl, rfl, rfl⟩⟩
      rcases hs.kind with ⟨e', hk⟩ | hk <;> simp [Builtin.append_, run_underlying ht, run_underlying hk, sizeOf, typeInfo, hi, hs.len, hs.cells]
    · have hr := run_append_grow_src (P := P) w t tx ty e i z ht hi hz none 0 0 [] (run_firstCells_none w.drew i.size 0 0 0) x m news hs (by omega) (by omega) (growslice_fits (by omega) hbytes)
      have hgr := grown 0 (by omega)
      simp only [Nat.zero_add, List.nil_append] at hgr hr ⊢
      exact ⟨_, _, hr, hgr.1, hgr.2⟩
  · by_cases hroom : k + m ≤ cap
    · have hfit : k * i.size + 0 + news.length ≤ cur.size := by rw [hs.newsLen, hcs, Nat.add_zero, ← Nat.add_mul]; exact Nat.mul_le_mul_right _ hroom
      have hst := run_storeCells_at P g (k * i.size) e news 0 cur w hg hfit hs.one
      simp only [Nat.add_zero] at hst
      have hr : (Builtin.append_ #[t, tx] ty #[.slice (some ⟨g, 0, none⟩) k cap, x]).run P w = .ok (.slice (some ⟨g, 0, none⟩) (k + m) cap) (w.setRow g (cur.toList.take (k * i.size) ++ news ++ cur.toList.drop (k * i.size + news.length)).toArray) := by
        rcases hs.kind with ⟨e', hk⟩ | hk <;> simp [Builtin.append_, run_underlying ht, run_underlying hk, sizeOf, typeInfo, hi, hs.len, hroom, hs.cells, Addr.add_lit, hst]
      have hheap := setRow_heap w g cur (cur.toList.take (k * i.size) ++ news ++ cur.toList.drop (k * i.size + news.length)).toArray e _ hg
      refine ⟨_, _, hr, ⟨hlen, .inr ⟨g, cap, _, rfl, Nat.zero_le _, hheap, hroom, hcm, ?_, ?_⟩⟩, ⟨by simp, fun b _ hb => setRow_other w g b _ (fun e => hb (by simp [Value.ownBlock, e])), fun b hb j hj => ?_, .inl rfl, rfl, rfl, rfl⟩⟩
      · simp only [List.size_toArray, List.length_append, List.length_take, List.length_drop, Array.length_toList]
        omega
      · rw [htake, ← hlen]
        exact List.take_left
      · simp [Value.ownBlock] at hb
        subst hb
        simp only [World.cell?, at_, hheap, hg]
        have h1 : (cur.toList.take (k * i.size)).length = k * i.size := by rw [htake]; exact hown.1
        simp only [Option.isSome_none, Bool.false_eq_true, if_false, List.getElem?_toArray, List.append_assoc]
        rw [List.getElem?_append_left (by omega), List.getElem?_take, if_pos hj]
        simp
    · have holds : (Builtin.firstCells i.size k (.slice (some ⟨g, 0, none⟩) k cap)).run P w.drew = .ok xs.toArray w.drew :=
        run_firstCells_some w.drew i.size k ⟨g, 0, none⟩ k cap xs hown.1 (hown.cells (g := g) rfl)
      have hr := run_append_grow_src (P := P) w t tx ty e i z ht hi hz (some ⟨g, 0, none⟩) k cap xs holds x m news hs (by omega) (by omega) (growslice_fits (by omega) hbytes)
      have hgr := grown cap (by omega)
      exact ⟨_, _, hr, hgr.1, hgr.2⟩

/-- What is appended, as data. -/
structure SrcD (P : Program) (f : Nat → Nat) (w : World) (sz : Nat) (tx : TypeId) (x : Value) (ys : List D) (news : List Value) : Prop where
  src : Src P sz tx x ys.length news w
  cells : ∀ y ∈ ys, y.cells.length = sz ∧ y.flat
  rd : ∀ i y j d, ys[i]? = some y → y.cells[j]? = some d → RD f w d (news.getD (i * sz + j) undef)

theorem idx_lt {i j m sz : Nat} (hi : i < m) (hj : j < sz) : i * sz + j < m * sz := by
  have : (i + 1) * sz ≤ m * sz := Nat.mul_le_mul_right _ hi
  rw [Nat.add_mul] at this
  omega

theorem at_add (b o j : Nat) : (at_ b o).add j = at_ b (o + j) := by unfold Addr.add at_; split <;> simp_all

/-- A slice of data is a source. -/
theorem SrcD.ofList {P : Program} {f : Nat → Nat} {w : World} {sz : Nat} {tx e' : TypeId} (hk : P.underlying tx = some (.slice e')) {ys : List D} {x : Value} (h : RD f w (.list ys) x) (hc : ∀ y ∈ ys, y.cells.length = sz) :
    ∃ news, SrcD P f w sz tx x ys news := by
  cases h with
  | nils => exact ⟨[], Src.ofNil w hk 0, fun y hy => by simp at hy, fun i y j d hy => by simp at hy⟩
  | emp a c => exact ⟨[], Src.ofSlice w hk _ 0 _ [] (by simp) (fun j u hj => by simp at hj) (fun u hu => by simp at hu), fun y hy => by simp at hy, fun i y j d hy => by simp at hy⟩
  | list l b o cap sz' vs hcap hsz hb hcell hr =>
    have hz : ys = [] ∨ sz' = sz := by
      cases ys with
      | nil => exact .inl rfl
      | cons y r => right; rw [← (hsz y (by simp)).1]; exact hc y (by simp)
    rcases hz with rfl | rfl
    · exact ⟨[], Src.ofSlice w hk _ 0 _ [] (by simp) (fun j u hj => by simp at hj) (fun u hu => by simp at hu), fun y hy => by simp at hy, fun i y j d hy => by simp at hy⟩
    · have hget : ∀ j, j < ys.length * sz' → ((List.range (ys.length * sz')).map vs)[j]? = some (vs j) := fun j hj => by simp [hj]
      have hone : ∀ j, j < ys.length * sz' → (vs j).oneCell' = true := fun j hj => by
        have hp : 0 < sz' := by rcases Nat.eq_zero_or_pos sz' with h | h; · rw [h] at hj; omega
                                · exact h
        have hdm := Nat.div_add_mod j sz'
        have hm := Nat.mod_lt j hp
        have hd : j / sz' < ys.length := Nat.div_lt_of_lt_mul (by rw [Nat.mul_comm]; exact hj)
        have hy := List.getElem?_eq_getElem hd
        have hcl := (hsz _ (List.getElem_mem hd)).1
        have hd' := List.getElem?_eq_getElem (l := (ys[j / sz']).cells) (i := j % sz') (by omega)
        have h3 := hr (j / sz') _ (j % sz') _ hy hd'
        rw [Nat.mul_comm, hdm] at h3
        exact (h3.one ((hsz _ (List.getElem_mem hd)).2 _ (List.getElem_mem _))).1
      refine ⟨(List.range (ys.length * sz')).map vs, Src.ofSlice w hk _ _ _ _ (by simp) (fun j u hj => ?_) (fun u hu => ?_), hsz, fun i y j d hy hd => ?_⟩
      · have hj' : j < ys.length * sz' := by have := (List.getElem?_eq_some_iff.1 hj).1; simpa using this
        rw [hget j hj'] at hj
        rw [at_add, hcell j hj']; exact hj
      · obtain ⟨j, hj, rfl⟩ := List.mem_map.1 hu
        exact hone j (List.mem_range.1 hj)
      · have hi : i < ys.length := (List.getElem?_eq_some_iff.1 hy).1
        have hj : j < sz' := by have := (List.getElem?_eq_some_iff.1 hd).1; rw [(hsz y (List.mem_of_getElem? hy)).1] at this; exact this
        have hlt := idx_lt hi hj
        rw [List.getD_eq_getElem?_getD, hget _ hlt]
        exact hr i y j d hy hd

def bytesD (s : List UInt8) : List D := s.map fun b => .int .u8 b.toNat

theorem SrcD.ofStr {P : Program} {f : Nat → Nat} {w : World} {tx : TypeId} (hk : P.underlying tx = some .string) {s : List UInt8} {x : Value} (h : RD f w (.str s) x) :
    ∃ news, SrcD P f w 1 tx x (bytesD s) news := by
  cases h
  refine ⟨byteCells ⟨s.toArray⟩, ?_, fun y hy => ?_, fun i y j d hy hd => ?_⟩
  · have := Src.ofString w hk ⟨s.toArray⟩
    have e : (bytesD s).length = (⟨s.toArray⟩ : ByteArray).size := by simp [bytesD, ByteArray.size]
    rw [e]; exact this
  · obtain ⟨b, _, rfl⟩ := List.mem_map.1 hy
    exact ⟨rfl, fun e he => by simp [D.cells] at he; subst he; rfl⟩
  · simp only [bytesD, List.getElem?_map] at hy
    cases hb : s[i]? with
    | none => simp [hb] at hy
    | some b =>
      simp [hb] at hy; subst hy
      cases j with
      | succ j => simp [D.cells] at hd
      | zero =>
        simp [D.cells] at hd; subst hd
        have : (byteCells ⟨s.toArray⟩).getD (i * 1 + 0) undef = .int .u8 b.toNat := by simp [byteCells, List.getD_eq_getElem?_getD, hb]
        rw [this]; exact .int _ _

/-- The header of an owned slice has its elements' number. -/
theorem own_len {f : Nat → Nat} {w : World} {l : List D} {v : Value} {e sz k : Nat} {xs : List Value} (h : RD f w (.list l) v) (ho : w.ownsRow 0 e sz v k xs) : k = l.length := by
  rcases ho.2 with ⟨rfl, rfl⟩ | ⟨g, cap, cur, rfl, _⟩
  · cases h; rfl
  · cases h <;> rfl

def growF (f : Nat → Nat) (v' : Value) (k : Nat) : Nat → Nat :=
  match v'.ownBlock with
  | some b => updf f b k
  | none => f

/-- The state behind an append: the label q goes to q', nobody else bears it. -/
theorem SR.append (h : SR E n G σ ts w) {q q' : Lab} {e sz : Nat} {l ys : List D} {v v' : Value} {k : Nat} {xs news : List Value} {w' : World} (hq : G.lam q = some (v, e, sz)) (hv : RD G.f w (.list l) v) (hl : ∀ y ∈ l, y.cells.length = sz)
    (hown : w.ownsRow 0 e sz v k xs) (hfb : ∀ b, v.ownBlock = some b → G.f b = k * sz) (hown' : w'.ownsRow 0 e sz v' (k + ys.length) (xs ++ news)) (hg : Grow w w' v v' (k * sz))
    (hc : ∀ y ∈ ys, y.cells.length = sz ∧ y.flat) (hrd : ∀ i y j d, ys[i]? = some y → y.cells[j]? = some d → RD G.f w d (news.getD (i * sz + j) undef)) (hnl : news.length = ys.length * sz) :
    ∃ G', SR E n G' ((σ.erase q).erase q') ts w' ∧ AVR G' w' (.own q' e sz (l ++ ys)) v' := by
  have hk := own_len hv hown
  have h1 := (h.erase q).erase q'
  have hfr : ∀ b, v.ownBlock = some b → b < w.heap.size := fun b hb => (hown.lt b hb).2
  -- who else is there
  have dom : ∀ r o, ((σ.erase q).erase q').obj r = some o → ∃ o', σ.obj r = some o' := fun r o ho => by
    rw [St.obj_erase] at ho
    cases h2 : (σ.erase q).obj r with
    | none => simp [h2] at ho
    | some o2 =>
      rw [St.obj_erase] at h2
      cases h3 : σ.obj r with
      | none => simp [h3] at h2
      | some o3 => exact ⟨o3, rfl⟩
  have labs : ∀ p vp, updf (updf G.lam q none) q' none p = some vp → p ≠ q ∧ p ≠ q' ∧ G.lam p = some vp := fun p vp hp => by
    simp only [updf] at hp
    split at hp
    · cases hp
    · rename_i h2
      split at hp
      · cases hp
      · rename_i h3; exact ⟨h3, h2, hp⟩
  have hXob : ∀ b, v.ownBlock = some b → (∀ r o, ((σ.erase q).erase q').obj r = some o → G.b r ≠ b) ∧ (∀ p vp x, updf (updf G.lam q none) q' none p = some (vp, x) → vp.ownBlock ≠ some b) ∧ (E.w0.heap.size ≤ b ∨ E.M b) := fun b hb =>
    ⟨fun r o ho => by obtain ⟨o', h2⟩ := dom r o ho; exact h.lamObj q v e sz b hq hb r o' h2,
     fun p vp x hp hb' => by obtain ⟨h2, _, h3⟩ := labs p _ hp; exact h2 (h.lamInj p q vp v x _ b h3 hq hb' hb),
     h.newLam q v e sz b hq hb⟩
  have hgf : ∀ b, growF G.f v' ((k + ys.length) * sz) b = G.f b ∨ (v'.ownBlock = some b ∧ growF G.f v' ((k + ys.length) * sz) b = (k + ys.length) * sz) := fun b => by
    unfold growF
    cases hb : v'.ownBlock with
    | none => exact .inl rfl
    | some b' =>
      by_cases e : b = b'
      · subst e; right; simp
      · left; exact updf_ne _ _ e
  have hgb : ∀ b, v'.ownBlock = some b → growF G.f v' ((k + ys.length) * sz) b = (k + ys.length) * sz := fun b hb => by simp [growF, hb]
  have hext : Ext G.f w (growF G.f v' ((k + ys.length) * sz)) w' := by
    refine ⟨hg.size, fun b => ?_, fun b i hi => ?_⟩
    · rcases hgf b with h2 | ⟨h2, h3⟩
      · rw [h2]; exact Nat.le_refl _
      · rw [h3]
        rcases hg.own with h4 | ⟨b', h4, h5⟩
        · rw [hfb b (by rw [← h4]; exact h2)]; exact Nat.mul_le_mul_right _ (by omega)
        · rw [h4] at h2; cases h2; rw [h.top _ h5]; exact Nat.zero_le _
    · by_cases hb : v.ownBlock = some b
      · exact hg.cells b hb i (by rw [← hfb b hb]; exact hi)
      · have hlt : b < w.heap.size := by
          rcases Nat.lt_or_ge b w.heap.size with h2 | h2
          · exact h2
          · rw [h.top b h2] at hi; omega
        simp only [World.cell?, at_]
        rw [hg.block b hlt hb]
  have h2 : SR E n { G with f := growF G.f v' ((k + ys.length) * sz), lam := updf (updf G.lam q none) q' none } ((σ.erase q).erase q') ts w' := by
    refine SR.world' (G := { G with lam := updf (updf G.lam q none) q' none }) h1 (fun b => v.ownBlock = some b) hXob hext (fun b hb hx => ⟨hg.block b hb hx, ?_⟩) (fun b hb => ?_) hg.os hg.tape hg.output
    · rcases hgf b with h3 | ⟨h3, _⟩
      · exact h3
      · rcases hg.own with h4 | ⟨b', h4, h5⟩
        · exact absurd (h4 ▸ h3) hx
        · rw [h4] at h3; cases h3; omega
    · rcases hgf b with h3 | ⟨h3, _⟩
      · rw [h3]; exact h.top b (Nat.le_trans hg.size hb)
      · have := (hown'.lt b h3).2; omega
  have hOK : OwnOK (growF G.f v' ((k + ys.length) * sz)) w' v' e sz := ⟨k + ys.length, xs ++ news, hown', hgb⟩
  have h3 := h2.addLam q' (by simp) hOK (fun b hb => by
    rcases hg.own with h4 | ⟨b', h4, h5⟩
    · exact hXob b (by rw [← h4]; exact hb)
    · rw [h4] at hb; cases hb
      refine ⟨fun r o ho => ?_, fun p vp x hp hb' => ?_, .inl (Nat.le_trans h.ext.size h5)⟩
      · obtain ⟨o', h6⟩ := dom r o ho
        have := (h.obj r o' h6).lt
        exact fun e' => by have e'' : G.b r = b := e'; omega
      · obtain ⟨_, _, h6⟩ := labs p _ hp
        obtain ⟨e1, sz1⟩ := x
        have := (h.lam p vp e1 sz1 h6).lt hb'
        omega)
  refine ⟨_, h3, .own q' e sz (l ++ ys) v' (by simp) ?_ (fun y hy => ?_)⟩
  · -- the new slice reads as both
    rcases hown'.2 with ⟨rfl, h4⟩ | ⟨g, cap, cur, rfl, _, hgg, hnc, hcm, hcs, htake⟩
    · have h5 : l = [] := List.eq_nil_of_length_eq_zero (by omega)
      have h6 : ys = [] := List.eq_nil_of_length_eq_zero (by omega)
      subst h5; subst h6; exact .nils
    · have hcl : ∀ y ∈ l ++ ys, y.cells.length = sz ∧ y.flat := fun y hy => by
        rcases List.mem_append.1 hy with hy | hy
        · refine ⟨hl y hy, ?_⟩
          cases hv with
          | nils => cases hy
          | emp _ _ => cases hy
          | list _ b o c s' vs hcap hsz hb hcell hr => exact (hsz y hy).2
        · exact hc y hy
      have hcell : ∀ j, j < (k + ys.length) * sz → w'.cell? (at_ g j) = some ((xs ++ news).getD j undef) := fun j hj => by
        have hj' : j < (xs ++ news).length := by rw [hown'.1]; exact hj
        have := hown'.cells (g := g) rfl j ((xs ++ news)[j]) (List.getElem?_eq_getElem hj')
        rw [add_zero_at] at this
        rw [this, List.getD_eq_getElem?_getD, List.getElem?_eq_getElem hj']; rfl
      have hlen : (l ++ ys).length = k + ys.length := by rw [List.length_append, hk]
      have := RD.list (f := growF G.f (.slice (some ⟨g, 0, none⟩) (k + ys.length) cap) ((k + ys.length) * sz)) (w := w') (l ++ ys) g 0 cap sz (fun j => (xs ++ news).getD j undef) (by rw [hlen]; exact hnc) hcl
        (by rw [hlen, hgb g rfl]; omega) (fun j hj => by rw [Nat.zero_add]; exact hcell j (by rw [← hlen]; exact hj)) (fun i y j d hy hd => ?_)
      · rw [hlen] at this; exact this
      · have hxl : xs.length = l.length * sz := by rw [hown.1, hk]
        by_cases hi : i < l.length
        · rw [List.getElem?_append_left hi] at hy
          cases hv with
          | nils => simp at hi
          | emp _ _ => simp at hi
          | list _ b o c s' vs hcap hsz hb hcell' hr =>
            have hj : j < s' := by have := (List.getElem?_eq_some_iff.1 hd).1; rw [(hsz y (List.mem_of_getElem? hy)).1] at this; exact this
            have hs' : s' = sz := by rw [← (hsz y (List.mem_of_getElem? hy)).1]; exact hl y (List.mem_of_getElem? hy)
            subst hs'
            have hlt := idx_lt hi hj
            have h7 := hr i y j d hy hd
            have h8 := hcell' (i * s' + j) hlt
            -- the owned cells are these
            rcases hown.2 with ⟨h9, _⟩ | ⟨g0, cap0, cur0, h9, _⟩
            · cases h9
            · cases h9
              have h10 := hown.cells (g := b) rfl (i * s' + j) (xs[i * s' + j]'(by rw [hxl]; exact hlt)) (List.getElem?_eq_getElem _)
              rw [add_zero_at] at h10
              have h11 : some (vs (i * s' + j)) = some (xs[i * s' + j]'(by rw [hxl]; exact hlt)) := by rw [← h8, ← h10]; simp [at_]
              have h12 : (xs ++ news).getD (i * s' + j) undef = vs (i * s' + j) := by
                rw [List.getD_eq_getElem?_getD, List.getElem?_append_left (by rw [hxl]; exact hlt), List.getElem?_eq_getElem (by rw [hxl]; exact hlt)]
                simp at h11 ⊢; exact h11.symm
              show RD _ w' d ((xs ++ news).getD (i * s' + j) undef)
              rw [h12]; exact h7.ext hext
        · rw [List.getElem?_append_right (by omega)] at hy
          have h7 := hrd (i - l.length) y j d hy hd
          have h8 : (xs ++ news).getD (i * sz + j) undef = news.getD ((i - l.length) * sz + j) undef := by
            have h9 : i * sz = l.length * sz + (i - l.length) * sz := by rw [← Nat.add_mul]; congr 1; omega
            rw [List.getD_eq_getElem?_getD, List.getD_eq_getElem?_getD, List.getElem?_append_right (by rw [hxl]; omega), hxl]
            congr 2; omega
          show RD _ w' d ((xs ++ news).getD (i * sz + j) undef)
          rw [h8]; exact h7.ext hext
  · rcases List.mem_append.1 hy with hy | hy
    · exact hl y hy
    · exact (hc y hy).1

end Go.Av
