/- Composite literals over abstract states. -/
import Derived.Test.YtkkdhgibaimboaaDoorAvOps4
namespace Go.Av

variable {E : Entry} {n : Nat} {G : Ghost} {σ : St} {a : Act} {w : World} {P : Program}

def setV (cells : Array Value) (off : Nat) (v : Array Value) : Array Value := v.zipIdx.foldl (fun cs (c, j) => cs.setIfInBounds (off + j) c) cells

theorem setV_list (off : Nat) : ∀ (l : List Value) (k : Nat) (cells : Array Value), ((l.zipIdx k).foldl (fun cs (p : Value × Nat) => cs.setIfInBounds (off + p.2) p.1) cells).size = cells.size ∧
    ∀ i, off + k + l.length ≤ cells.size → ((l.zipIdx k).foldl (fun cs (p : Value × Nat) => cs.setIfInBounds (off + p.2) p.1) cells).getD i undef = if off + k ≤ i ∧ i < off + k + l.length then l.getD (i - off - k) undef else cells.getD i undef
  | [], k, cells => ⟨rfl, fun i _ => by simp; intro h1 h2; omega⟩
  | v :: l, k, cells => by
    obtain ⟨h1, h2⟩ := setV_list off l (k + 1) (cells.setIfInBounds (off + k) v)
    simp only [List.zipIdx_cons, List.foldl_cons]
    refine ⟨by rw [h1]; simp, fun i hi => ?_⟩
    simp only [List.length_cons] at hi
    rw [h2 i (by simp; omega)]
    simp only [List.length_cons]
    by_cases hc : off + k = i
    · subst hc
      rw [if_neg (by omega), if_pos (by omega)]
      have : off + k - off - k = 0 := by omega
      rw [this]
      simp [show off + k < cells.size by omega]
    · by_cases hd : off + (k + 1) ≤ i ∧ i < off + (k + 1) + l.length
      · rw [if_pos hd, if_pos (by omega)]
        have : i - off - k = (i - off - (k + 1)) + 1 := by omega
        rw [this]; rfl
      · rw [if_neg hd, if_neg (by omega)]
        simp [Array.getElem?_setIfInBounds_ne hc]

theorem setV_spec (cells : Array Value) (off : Nat) (v : Array Value) (h : off + v.size ≤ cells.size) : (setV cells off v).size = cells.size ∧
    ∀ i, (setV cells off v).getD i undef = if off ≤ i ∧ i < off + v.size then v.getD (i - off) undef else cells.getD i undef := by
  obtain ⟨l⟩ := v
  have h0 := setV_list off l 0 cells
  have e : setV cells off ⟨l⟩ = (l.zipIdx 0).foldl (fun cs (p : Value × Nat) => cs.setIfInBounds (off + p.2) p.1) cells := by
    simp only [setV]
    rw [← Array.foldl_toList]
    simp
  rw [e]
  refine ⟨h0.1, fun i => ?_⟩
  rw [h0.2 i (by simpa using h)]
  simp [List.getD_eq_getElem?_getD]

theorem fill_cons (place : Nat → Option (Nat × Nat)) (cells : Array Value) (i : Nat) (v : Value) (r : List (Nat × Value)) (off size : Nat) (hp : place i = some (off, size)) (hs : v.cells.size = size) (ho : off + size ≤ cells.size) :
    Instr.fill place cells ((i, v) :: r) = Instr.fill place (setV cells off v.cells) r := by
  simp only [Instr.fill, hp]
  rw [if_neg (by simp [hs]; omega)]
  rfl

/-! ### Structs and arrays -/
def setR (cs : List D) (off : Nat) (xs : List D) : List D := cs.take off ++ xs ++ cs.drop (off + xs.length)

def lookP : List (Nat × Nat) → Nat → Option (Nat × Nat)
  | [], _ => none
  | p :: _, 0 => some p
  | _ :: r, i + 1 => lookP r i

theorem lookP_eq (l : List (Nat × Nat)) (i : Nat) : lookP l i = l[i]? := by
  induction l generalizing i with
  | nil => rfl
  | cons p r ih => cases i <;> simp [lookP, ih]

def fillD (places : List (Nat × Nat)) (cs : List D) : List (Nat × AV) → Option (List D)
  | [] => some cs
  | (i, x) :: r => match lookP places i, x.rd with
    | some (off, size), some y => if y.cells.length = size ∧ off + size ≤ cs.length then fillD places (setR cs off y.cells) r else none
    | _, _ => none

def CellsR (f : Nat → Nat) (w : World) (cs : List D) (arr : Array Value) : Prop :=
  arr.size = cs.length ∧ ∀ i y, cs[i]? = some y → y.one = true ∧ RD f w y (arr.getD i undef)

theorem CellsR.agg {f : Nat → Nat} {cs : List D} {arr : Array Value} (h : CellsR f w cs arr) : RD f w (.agg cs) (.agg arr) :=
  .agg cs arr h.1 (fun e he => by obtain ⟨i, hi⟩ := List.mem_iff_getElem?.1 he; exact (h.2 i e hi).1) (fun i e hi => (h.2 i e hi).2)

theorem CellsR.set {f : Nat → Nat} {cs : List D} {arr : Array Value} (h : CellsR f w cs arr) {y : D} {v : Value} (hv : RD f w y v) {off : Nat} (ho : off + y.cells.length ≤ cs.length) :
    CellsR f w (setR cs off y.cells) (setV arr off v.cells) := by
  have hs := hv.cells_size
  obtain ⟨h1, h2⟩ := setV_spec arr off v.cells (by rw [hs, h.1]; exact ho)
  have hlen : (setR cs off y.cells).length = cs.length := by simp [setR]; omega
  refine ⟨by rw [h1, h.1, hlen], fun i z hz => ?_⟩
  rw [h2 i]
  have htl : (cs.take off).length = off := by simp; omega
  by_cases hc : off ≤ i ∧ i < off + v.cells.size
  · rw [if_pos hc]
    unfold setR at hz
    rw [List.append_assoc, List.getElem?_append_right (by omega), htl, List.getElem?_append_left (by omega)] at hz
    exact ⟨hv.flat z (List.mem_of_getElem? hz), hv.cell hz⟩
  · rw [if_neg hc]
    unfold setR at hz
    by_cases hi : i < off
    · rw [List.append_assoc, List.getElem?_append_left (by omega), List.getElem?_take, if_pos hi] at hz
      exact h.2 i z hz
    · rw [List.append_assoc, List.getElem?_append_right (by omega), htl, List.getElem?_append_right (by omega), List.getElem?_drop] at hz
      have : off + y.cells.length + (i - off - y.cells.length) = i := by omega
      rw [this] at hz
      exact h.2 i z hz

theorem fillD_run {places : List (Nat × Nat)} : ∀ {xs : List (Nat × AV)} {vs : List (Nat × Value)} {cs out : List D} {arr : Array Value}, vs.map (·.1) = xs.map (·.1) → (∀ (i : Nat) (p : Nat × AV) (q : Nat × Value), xs[i]? = some p → vs[i]? = some q → AVR G w p.2 q.2) →
    CellsR G.f w cs arr → fillD places cs xs = some out → ∃ arr', Instr.fill (places[·]?) arr vs = some arr' ∧ CellsR G.f w out arr'
  | [], vs, cs, out, arr, hk, _, hc, h => by
    have : vs = [] := by simpa using hk
    subst this
    simp [fillD] at h; subst h
    exact ⟨arr, rfl, hc⟩
  | (i, x) :: xs, vs, cs, out, arr, hk, hr, hc, h => by
    cases vs with
    | nil => simp at hk
    | cons q vs =>
      obtain ⟨i', v⟩ := q
      simp at hk
      obtain ⟨rfl, hk⟩ := hk
      simp only [fillD] at h
      split at h
      · rename_i off size y hp hy
        split at h
        · rename_i hb
          have hv : RD G.f w y v := (hr 0 _ _ rfl rfl).rd hy
          have hs := hv.cells_size
          rw [lookP_eq] at hp
          rw [fill_cons _ arr i' v vs off size hp (by rw [hs]; exact hb.1) (by rw [hc.1]; exact hb.2)]
          exact fillD_run (by simpa using hk) (fun j p q hp hq => hr (j + 1) p q (by simpa using hp) (by simpa using hq)) (hc.set hv (by rw [hb.1]; exact hb.2)) h
        · cases h
      · cases h

/-- A type's places for a composite literal, its zero's cells. -/
def Program.placesOf (P : Program) (t : TypeId) (parts : Nat) : Option (List (Nat × Nat)) :=
  match P.underlying t with
  | some (.struct fs) => fs.toList.mapM (fun f => (P.info? f.type).map fun i => (f.offset, i.size))
  | some (.array _ e) => (P.info? e).map fun ie => (List.range parts).map fun i => (i * ie.size, ie.size)
  | _ => none

def Program.zeroOf (P : Program) (t : TypeId) : Option D := ((P.info? t).bind (·.zero)).bind cst

theorem fill_congr {p q : Nat → Option (Nat × Nat)} : ∀ {vs : List (Nat × Value)} {arr : Array Value}, (∀ x ∈ vs, p x.1 = q x.1) → Instr.fill p arr vs = Instr.fill q arr vs
  | [], _, _ => rfl
  | (i, v) :: r, arr, h => by
    simp only [Instr.fill, h (i, v) (by simp)]
    split
    · rfl
    · split
      · rfl
      · exact fill_congr fun x hx => h x (by simp [hx])

theorem fBld_run {t : TypeId} {places : List (Nat × Nat)} {m : Nat} {z : D} {xs : List (Nat × AV)} {vs : List (Nat × Value)} {out : List D} (hp : Go.Av.Program.placesOf P t m = some places) (hz : Go.Av.Program.zeroOf P t = some z) 
    (hm : ∀ x ∈ xs, x.1 < m) (hk : vs.map (·.1) = xs.map (·.1)) (hr : ∀ (i : Nat) (p : Nat × AV) (q : Nat × Value), xs[i]? = some p → vs[i]? = some q → AVR G w p.2 q.2) (h : fillD places z.cells xs = some out) :
    ∃ r, (Instr.build t vs.toArray).run P w = .ok r w ∧ AVR G w (.d (.agg out)) r := by
  unfold Program.zeroOf at hz
  cases hi : P.info? t with
  | none => simp [hi] at hz
  | some ti =>
    cases hzv : ti.zero with
    | none => simp [hi, hzv] at hz
    | some zv =>
      simp [hi, hzv] at hz
      have hzr : RD G.f w z zv := cst_rd hz
      have hc0 : CellsR G.f w z.cells zv.cells := ⟨hzr.cells_size, fun i y hy => ⟨hzr.flat y (List.mem_of_getElem? hy), hzr.cell hy⟩⟩
      obtain ⟨arr', h1, h2⟩ := fillD_run hk hr hc0 h
      refine ⟨.agg arr', run_build w t _ arr' ?_, .d _ _ h2.agg⟩
      unfold Program.placesOf at hp
      cases hu : P.underlying t with
      | none => simp [hu] at hp
      | some d =>
        cases d with
        | struct fs =>
          simp only [hu] at hp
          simp only [Program.built, hi, hu, hzv, hp]
          simpa using h1
        | array k e =>
          simp only [hu] at hp
          cases hie : P.info? e with
          | none => simp [hie] at hp
          | some ie =>
            simp [hie] at hp
            simp only [Program.built, hi, hu, hzv, hie]
            rw [← h1]
            refine fill_congr fun x hx => ?_
            have hxm : x.1 < m := by
              have : x.1 ∈ vs.map (·.1) := List.mem_map.2 ⟨x, hx, rfl⟩
              rw [hk] at this
              obtain ⟨y, hy, e⟩ := List.mem_map.1 this
              rw [← e]; exact hm y hy
            simp [← hp, hxm]
        | _ => simp [hu] at hp

/-! ### A slice's literal, all of its elements in order -/
theorem fillS {size : Nat} : ∀ (vs : List Value) (k : Nat) (arr : Array Value), (∀ v ∈ vs, v.cells.size = size) → (k + vs.length) * size ≤ arr.size →
    ∃ out, Instr.fill (fun i => some (i * size, size)) arr ((vs.zipIdx k).map fun p => (p.2, p.1)) = some out ∧ out.size = arr.size ∧ (∀ i, i < k * size → out.getD i undef = arr.getD i undef) ∧
      ∀ i v j, vs[i]? = some v → j < size → out.getD ((k + i) * size + j) undef = v.cells.getD j undef
  | [], k, arr, _, _ => ⟨arr, rfl, rfl, fun _ _ => rfl, fun _ _ _ h => by simp at h⟩
  | v :: vs, k, arr, hs, hle => by
    have hsv := hs v (by simp)
    simp only [List.length_cons] at hle
    have hle1 : k * size + size ≤ arr.size := by
      have : (k + 1) * size ≤ (k + (vs.length + 1)) * size := Nat.mul_le_mul_right _ (by omega)
      rw [Nat.succ_mul] at this; omega
    obtain ⟨g1, g2⟩ := setV_spec arr (k * size) v.cells (by rw [hsv]; exact hle1)
    obtain ⟨out, h1, h2, h3, h4⟩ := fillS vs (k + 1) (setV arr (k * size) v.cells) (fun u hu => hs u (by simp [hu])) (by rw [g1, show k + 1 + vs.length = k + (vs.length + 1) by omega]; exact hle)
    refine ⟨out, ?_, by rw [h2, g1], fun i hi => ?_, fun i u j hu hj => ?_⟩
    · simp only [List.zipIdx_cons, List.map_cons]
      rw [fill_cons _ arr k v _ (k * size) size rfl hsv hle1]
      exact h1
    · rw [h3 i (by rw [Nat.succ_mul]; omega), g2, if_neg (by omega)]
    · cases i with
      | zero =>
        simp at hu; subst hu
        rw [Nat.add_zero, h3 _ (by rw [Nat.succ_mul]; omega), g2, if_pos (by omega)]
        congr 1; omega
      | succ i =>
        simp at hu
        have := h4 i u j hu hj
        have e : k + 1 + i = k + (i + 1) := by omega
        rw [e] at this; exact this

def rdAll : List AV → Option (List D)
  | [] => some []
  | x :: r => match x.rd, rdAll r with
    | some y, some l => some (y :: l)
    | _, _ => none

theorem rdAll_get : ∀ {xs : List AV} {l : List D}, rdAll xs = some l → xs.length = l.length ∧ ∀ (i : Nat) (x : AV), xs[i]? = some x → ∃ y, l[i]? = some y ∧ x.rd = some y
  | [], l, h => by simp [rdAll] at h; subst h; exact ⟨rfl, fun _ _ h => by simp at h⟩
  | x :: r, l, h => by
    simp only [rdAll] at h
    split at h
    · rename_i y l' hy hl
      cases h
      obtain ⟨h1, h2⟩ := rdAll_get hl
      refine ⟨by simp [h1], fun i z hz => ?_⟩
      cases i with
      | zero => simp at hz; subst hz; exact ⟨y, rfl, hy⟩
      | succ i => simp at hz; simpa using h2 i z hz
    · cases h

/-- What a new row of data is good for. -/
theorem bsl_run {t e : TypeId} {ti : TypeInfo} {zv : Value} {sz : Nat} (ht : P.underlying t = some (.slice e)) (hi : P.info? e = some ti) (hz : ti.zero = some zv) (hs : ti.size = sz) {xs : List AV} {vs : List Value} {l : List D} (hl : xs.length = vs.length)
    (hr : ∀ (i : Nat) (x : AV) (v : Value), xs[i]? = some x → vs[i]? = some v → AVR G w x v) (hrd : rdAll xs = some l) (hc : allSz sz l = true) (hb : vs.length * sz ≤ 16777216) :
    ∃ arr, (Instr.buildSlice t vs.length ((vs.zipIdx.map fun p => (p.2, p.1)).toArray)).run P w = .ok (.slice (some (at_ w.heap.size 0)) vs.length vs.length) (w.alloc (.cells arr e)) ∧ arr.size = vs.length * sz ∧ l.length = vs.length ∧
      ∀ i y j d, l[i]? = some y → y.cells[j]? = some d → d.one = true ∧ RD G.f w d (arr.getD (i * sz + j) undef) := by
  have hc := allSz_iff.1 hc
  obtain ⟨hxl, hget⟩ := rdAll_get hrd
  have hv : ∀ i v, vs[i]? = some v → ∃ y, l[i]? = some y ∧ RD G.f w y v := fun i v hv => by
    have hi' : i < xs.length := by rw [hl]; exact (List.getElem?_eq_some_iff.1 hv).1
    obtain ⟨y, h1, h2⟩ := hget i _ (List.getElem?_eq_getElem hi')
    exact ⟨y, h1, (hr i _ v (List.getElem?_eq_getElem hi') hv).rd h2⟩
  have hsz : ∀ v ∈ vs, v.cells.size = sz := fun v hm => by
    obtain ⟨i, hi'⟩ := List.mem_iff_getElem?.1 hm
    obtain ⟨y, h1, h2⟩ := hv i v hi'
    rw [h2.cells_size]; exact hc y (List.mem_of_getElem? h1)
  obtain ⟨out, h1, h2, _, h4⟩ := fillS (size := sz) vs 0 ((Array.range (vs.length * sz)).map (fun k => (if vs.length * sz = 0 then #[] else zv.cells)[k % (if vs.length * sz = 0 then #[] else zv.cells).size]!)) hsz (by simp)
  refine ⟨out, ?_, by rw [h2]; simp, by rw [← hxl, hl], fun i y j d hy hd => ?_⟩
  · have hbig : ¬ (vs.length * sz > 2 ^ 24) := by omega
    unfold Instr.buildSlice
    simp only [Sem.run_bind, run_underlying ht, Result.andThen_ok, sizeOf, typeInfo, run_program, hi, hs, Sem.run_pure, zeroValue, if_neg hbig]
    by_cases h0 : vs.length * sz = 0
    · simp only [h0, if_true, Sem.run_bind, Sem.run_pure, Result.andThen_ok] at h1 ⊢
      rw [h1]
      simp [newRow, at_]
    · simp only [h0, if_false, Sem.run_bind, Sem.run_pure, Result.andThen_ok] at h1 ⊢
      simp [hi, hz, h1, newRow, at_]
  · have hi' : i < vs.length := by rw [← hl, hxl]; exact (List.getElem?_eq_some_iff.1 hy).1
    obtain ⟨y', e1, e2⟩ := hv i _ (List.getElem?_eq_getElem hi')
    rw [hy] at e1; cases e1
    have hj : j < sz := by have := (List.getElem?_eq_some_iff.1 hd).1; rw [hc y (List.mem_of_getElem? hy)] at this; exact this
    have := h4 i _ j (List.getElem?_eq_getElem hi') hj
    rw [Nat.zero_add] at this
    rw [this]
    exact ⟨e2.flat d (List.mem_of_getElem? hd), e2.cell hd⟩

end Go.Av
