/- From the form by which a statement reads its arguments to data, and from a contract to what a statement asks. -/
import Derived.Test.YtkkdhgibaimboaaDoorAvLem2
import Derived.WalkKit
import Derived.ProofKit
import Derived.OpenShut
import Derived.ShutString
import Derived.ChangeOld
import Derived.Below
namespace Go.Av
open Go.RowKit

/-- how many cells a block has -/
def front (w : World) (b : Nat) : Nat := match w.heap[b]? with | some (.cells cs _ _) => cs.size | _ => 0

theorem front_top {w : World} {b : Nat} (h : w.heap.size ≤ b) : front w b = 0 := by
  unfold front
  rw [Array.getElem?_eq_none h]

theorem lt_front {w : World} {b i : Nat} {v : Value} (h : w.cell? (at_ b i) = some v) : i < front w b := by
  unfold World.cell? at_ at h
  unfold front
  split at h
  · rename_i cs e z hb
    rw [hb]
    split at h
    · cases h
    · exact (Array.getElem?_eq_some_iff.1 h).1
  · cases h

theorem choose_list {α : Type} {p : Nat → α → Prop} : ∀ (n : Nat), (∀ i, i < n → ∃ x, p i x) → ∃ l : List α, l.length = n ∧ ∀ i x, l[i]? = some x → p i x := by
  intro n
  induction n with
  | zero => exact fun _ => ⟨[], rfl, fun i x h => by simp at h⟩
  | succ n ih =>
    intro h
    obtain ⟨l, hl, hp⟩ := ih fun i hi => h i (by omega)
    obtain ⟨x, hx⟩ := h n (by omega)
    refine ⟨l ++ [x], by simp [hl], fun i y hy => ?_⟩
    rcases Nat.lt_or_ge i n with hi | hi
    · rw [List.getElem?_append_left (by omega)] at hy
      exact hp i y hy
    · have : i = n := by
        have := (List.getElem?_eq_some_iff.1 hy).1
        simp [hl] at this; omega
      subst this
      rw [List.getElem?_append_right (by omega), hl] at hy
      simp at hy; subst hy; exact hx

/-- one datum of these cells -/
def mkD (ds : List D) : D := match ds with | [x] => x | _ => .agg ds
theorem mkD_cells {ds : List D} (h : ∀ d ∈ ds, d.one = true) : (mkD ds).cells = ds := by
  unfold mkD
  split
  · rename_i x
    have := h x (by simp)
    cases x <;> first | rfl | (simp [D.one] at this)
  · rfl

/-- The data that a value of this type may be, by its cells. -/
def OfT (P : Program) : Nat → TypeId → List D → Prop
  | 0, _, _ => False
  | k + 1, t, ds => match P.underlying t with
    | some .bool => ∃ b, ds = [.bool b]
    | some (.int i) => ∃ n, ds = [.int i n] ∧ (Lit.int i n).wf = true
    | some .string => ∃ s, ds = [.str s] ∧ s.length ≤ maxLen
    | some (.slice e) => ∃ l, ds = [.list l] ∧ l.length ≤ maxLen ∧ ∀ x ∈ l, ∃ cs, x = mkD cs ∧ OfT P k e cs
    | some (.struct fs) => ds.length = P.cellsOf t ∧ ∀ (i : Nat) (f : Field), fs[i]? = some f → OfT P k f.type ((ds.drop f.offset).take (P.cellsOf f.type))
    | _ => False

/-- The fields lie one behind the other. -/
def offsOK (P : Program) : List Field → Nat → Nat → Bool
  | [], off, tot => off == tot
  | f :: r, off, tot => f.offset == off && offsOK P r (off + P.cellsOf f.type) tot

/-- The types that are read so. -/
def okTs (P : Program) (ts : List TypeId) : Bool := ts.all fun t => match P.underlying t with
  | some .bool | some (.int _) | some .string => P.cellsOf t == 1
  | some (.slice e) => P.cellsOf t == 1 && (ts.contains e && P.cellsOf e != 0)
  | some (.struct fs) => fs.toList.all (fun f => ts.contains f.type) && offsOK P fs.toList 0 (P.cellsOf t)
  | _ => false

section
variable {H : Type} {enc : TypeId × Value → H} {P : Program} {w : World} {base : Nat} {spare : Nat → Bool} {held : Bool}

theorem cells_get {a : Addr} {n : Nat} {cs : List Value} (h : w.cells? base a n = some cs) : cs.length = n ∧ ∀ j, j < n → w.cell? (a.add j) = cs[j]? := by
  unfold World.cells? at h
  split at h
  · exact ⟨by simpa using mapM_some_length h, fun j hj => mapM_some_get h j j (by simp [hj])⟩
  · cases h

theorem build_fields {n : Nat} {cs : List Value} : ∀ (fs : List Field) (off tot : Nat), offsOK P fs off tot = true →
    (∀ f ∈ fs, ∃ ds : List D, OfT P n f.type ds ∧ ds.length = P.cellsOf f.type ∧ (∀ d ∈ ds, d.one = true) ∧ ∀ (i : Nat) (d : D) (v : Value), ds[i]? = some d → cs[f.offset + i]? = some v → RD (front w) w d v) →
    ∃ ds : List D, off + ds.length = tot ∧ (∀ f ∈ fs, off ≤ f.offset ∧ OfT P n f.type ((ds.drop (f.offset - off)).take (P.cellsOf f.type))) ∧ (∀ d ∈ ds, d.one = true) ∧ ∀ (i : Nat) (d : D) (v : Value), ds[i]? = some d → cs[off + i]? = some v → RD (front w) w d v := by
  intro fs
  induction fs with
  | nil => intro off tot h _; simp [offsOK] at h; exact ⟨[], by simp [h], by simp, by simp, by simp⟩
  | cons f r ih =>
    intro off tot h hf
    simp only [offsOK, Bool.and_eq_true, beq_iff_eq] at h
    obtain ⟨h1, h2⟩ := h
    obtain ⟨da, a1, a2, a3, a4⟩ := hf f (by simp)
    obtain ⟨db, b1, b2, b3, b4⟩ := ih _ _ h2 fun g hg => hf g (by simp [hg])
    refine ⟨da ++ db, by simp; omega, fun g hg => ?_, fun d hd => ?_, fun i d v hd hv => ?_⟩
    · rcases List.mem_cons.1 hg with rfl | hg
      · refine ⟨by omega, ?_⟩
        rw [h1, Nat.sub_self, List.drop_zero, ← a2, List.take_left']
        · exact a1
        · rfl
      · obtain ⟨c1, c2⟩ := b2 g hg
        refine ⟨by omega, ?_⟩
        have : (da ++ db).drop (g.offset - off) = db.drop (g.offset - (off + P.cellsOf f.type)) := by
          rw [List.drop_append, List.drop_eq_nil_of_le (by omega), List.nil_append]; congr 1; omega
        rw [this]; exact c2
    · rcases List.mem_append.1 hd with hd | hd
      · exact a3 d hd
      · exact b3 d hd
    · by_cases hi : i < da.length
      · rw [List.getElem?_append_left hi] at hd
        exact a4 i d v hd (by rw [h1]; exact hv)
      · rw [List.getElem?_append_right (by omega)] at hd
        exact b4 _ d v hd (by rw [← hv]; congr 1; omega)

theorem readT {ts : List TypeId} (hts : okTs P ts = true) : ∀ (fuel : Nat) (t : TypeId) (cs : List Value) (x : DataW H × List MemPlace), t ∈ ts → DataW.trod enc P w base spare held fuel t cs = some x →
    ∃ ds, OfT P fuel t ds ∧ ds.length = cs.length ∧ cs.length = P.cellsOf t ∧ (∀ d ∈ ds, d.one = true) ∧ ∀ (i : Nat) (d : D) (v : Value), ds[i]? = some d → cs[i]? = some v → RD (front w) w d v := by
  intro fuel
  induction fuel with
  | zero => intro t cs x _ h; simp [DataW.trod] at h
  | succ n ih =>
    intro t cs x ht h
    have hok := List.all_eq_true.1 hts t ht
    have one : ∀ {d : D} {v : Value}, RD (front w) w d v → ∀ (i : Nat) (d' : D) (v' : Value), [d][i]? = some d' → [v][i]? = some v' → RD (front w) w d' v' := by
      intro d v hr i d' v' h1 h2
      cases i with
      | zero => simp at h1 h2; subst h1; subst h2; exact hr
      | succ i => simp at h1
    unfold OfT
    cases hu : P.underlying t with
    | none => simp [hu] at hok
    | some T =>
      cases T with
      | bool =>
        simp only [hu, beq_iff_eq] at hok
        obtain ⟨b, rfl, _⟩ := DataW.trod_bool hu h
        exact ⟨[.bool b], ⟨b, rfl⟩, rfl, by simp [hok], by simp [D.one], one (.bool b)⟩
      | int k =>
        simp only [hu, beq_iff_eq] at hok
        obtain ⟨m, rfl, _, hw⟩ := DataW.trod_int hu h
        exact ⟨[.int k m], ⟨m, rfl, hw⟩, rfl, by simp [hok], by simp [D.one], one (.int k m)⟩
      | string =>
        simp only [hu, beq_iff_eq] at hok
        obtain ⟨s, rfl, _, hs⟩ := DataW.trod_string hu h
        exact ⟨[.str s.data.toList], ⟨_, rfl, by simpa using hs⟩, rfl, by simp [hok], by simp [D.one], one (by cases s; exact .str _)⟩
      | slice e =>
        simp only [hu, Bool.and_eq_true, beq_iff_eq, bne_iff_ne, ne_eq, List.contains_iff_mem] at hok
        obtain ⟨h1, he, hz⟩ := hok
        rcases DataW.trod_slice hu h with ⟨rfl, _⟩ | ⟨a, len, cap, elems, rest, m, hm, rfl, _, _, hl, hc, hlen, hel, _, _⟩
        · exact ⟨[.list []], ⟨[], rfl, by simp, by simp⟩, rfl, by simp [h1], by simp [D.one], one .nils⟩
        · have hm' : m = n := by omega
          subst hm'
          by_cases h0 : len = 0
          · subst h0
            exact ⟨[.list []], ⟨[], rfl, by simp, by simp⟩, rfl, by simp [h1], by simp [D.one], one (.emp _ _)⟩
          · have key : ∀ i, i < len → ∃ ds : List D, OfT P m e ds ∧ ds.length = P.cellsOf e ∧ (∀ d ∈ ds, d.one = true) ∧ ∀ j, j < P.cellsOf e → ∃ d v, ds[j]? = some d ∧ w.cell? ((a.add (i * P.cellsOf e)).add j) = some v ∧ RD (front w) w d v := by
              intro i hi
              have hx := hel i hi
              rw [List.getElem?_eq_getElem (by omega)] at hx
              obtain ⟨cs', hcs, ht'⟩ := Option.bind_eq_some_iff.1 hx
              obtain ⟨ds, o1, o2, o3, o4, o5⟩ := ih e cs' _ he ht'
              obtain ⟨c1, c2⟩ := cells_get hcs
              refine ⟨ds, o1, by omega, o4, fun j hj => ?_⟩
              have q1 := List.getElem?_eq_getElem (l := ds) (i := j) (by omega)
              have q2 := List.getElem?_eq_getElem (l := cs') (i := j) (by omega)
              exact ⟨_, _, q1, by rw [c2 j hj, q2], o5 j _ _ q1 q2⟩
            obtain ⟨L, hL, hp⟩ := choose_list len key
            -- the address is plain
            have hspot : a.spot = none := by
              obtain ⟨ds, _, _, _, h5⟩ := key 0 (by omega)
              obtain ⟨_, _, _, h6, _⟩ := h5 0 (by omega)
              rw [Nat.zero_mul] at h6
              exact World.cell?_spot h6
            obtain ⟨b, o, sp⟩ := a
            simp only at hspot
            subst hspot
            have hadd : ∀ i j, ((⟨b, o, none⟩ : Addr).add i).add j = at_ b (o + (i + j)) := fun i j => by
              rw [Go.WideShapes.add_plain, Go.WideShapes.add_plain]; simp [at_]; omega
            have hget : ∀ i, i < len → ∃ ds, L[i]? = some ds ∧ OfT P m e ds ∧ ds.length = P.cellsOf e ∧ (∀ d ∈ ds, d.one = true) ∧ ∀ j, j < P.cellsOf e → ∃ d v, ds[j]? = some d ∧ w.cell? (at_ b (o + (i * P.cellsOf e + j))) = some v ∧ RD (front w) w d v := by
              intro i hi
              have q1 := List.getElem?_eq_getElem (l := L) (i := i) (by omega)
              obtain ⟨p1, p2, p3, p4⟩ := hp i _ q1
              refine ⟨_, q1, p1, p2, p3, fun j hj => ?_⟩
              obtain ⟨d, v, r1, r2, r3⟩ := p4 j hj
              rw [hadd] at r2
              exact ⟨d, v, r1, r2, r3⟩
            have hmem : ∀ ds ∈ L, OfT P m e ds ∧ ds.length = P.cellsOf e ∧ (∀ d ∈ ds, d.one = true) := by
              intro ds hds
              obtain ⟨i, hi⟩ := List.getElem?_of_mem hds
              have hil : i < len := by rw [← hL]; exact (List.getElem?_eq_some_iff.1 hi).1
              obtain ⟨ds', g1, g2, g3, g4, _⟩ := hget i hil
              rw [hi] at g1; cases g1
              exact ⟨g2, g3, g4⟩
            have hcell : ∀ k, k < len * P.cellsOf e → ∃ v, w.cell? (at_ b (o + k)) = some v := by
              intro k hk
              have hpz : 0 < P.cellsOf e := Nat.pos_of_ne_zero hz
              have hi : k / P.cellsOf e < len := Nat.div_lt_of_lt_mul (by rw [Nat.mul_comm]; exact hk)
              obtain ⟨ds, _, _, _, _, g5⟩ := hget _ hi
              obtain ⟨d, v, _, r2, _⟩ := g5 (k % P.cellsOf e) (Nat.mod_lt _ hpz)
              have : k / P.cellsOf e * P.cellsOf e + k % P.cellsOf e = k := by rw [Nat.mul_comm]; exact Nat.div_add_mod _ _
              rw [this] at r2
              exact ⟨v, r2⟩
            refine ⟨[.list (L.map mkD)], ⟨L.map mkD, rfl, by simp [hL]; omega, fun x hx => ?_⟩, rfl, by simp [h1], by simp [D.one], one ?_⟩
            · obtain ⟨ds, hds, rfl⟩ := List.mem_map.1 hx
              exact ⟨ds, rfl, (hmem ds hds).1⟩
            · have := RD.list (f := front w) (w := w) (L.map mkD) b o cap (P.cellsOf e) (fun k => (w.cell? (at_ b (o + k))).getD undef) (by simp [hL]; exact hl) (fun x hx => by
                  obtain ⟨ds, hds, rfl⟩ := List.mem_map.1 hx
                  obtain ⟨_, q2, q3⟩ := hmem ds hds
                  unfold D.flat
                  rw [mkD_cells q3]
                  exact ⟨q2, q3⟩) (by
                  rw [List.length_map, hL]
                  have hpos : 0 < len * P.cellsOf e := Nat.mul_pos (by omega) (Nat.pos_of_ne_zero hz)
                  obtain ⟨v, hv⟩ := hcell (len * P.cellsOf e - 1) (by omega)
                  have := lt_front hv
                  omega) (fun k hk => by
                  rw [List.length_map, hL] at hk
                  obtain ⟨v, hv⟩ := hcell k hk
                  rw [hv]; rfl) (fun i x j d hx hd => by
                  rw [List.getElem?_map] at hx
                  cases hLi : L[i]? with
                  | none => simp [hLi] at hx
                  | some ds =>
                    simp [hLi] at hx; subst hx
                    obtain ⟨_, q2, q3⟩ := hmem ds (List.mem_of_getElem? hLi)
                    rw [mkD_cells q3] at hd
                    have hil : i < len := by rw [← hL]; exact (List.getElem?_eq_some_iff.1 hLi).1
                    obtain ⟨ds', g1, _, _, _, g5⟩ := hget i hil
                    rw [hLi] at g1; cases g1
                    obtain ⟨d', v, r1, r2, r3⟩ := g5 j (by rw [← q2]; exact (List.getElem?_eq_some_iff.1 hd).1)
                    rw [hd] at r1; cases r1
                    rw [r2]; exact r3)
              rw [List.length_map, hL] at this
              exact this
      | struct fs =>
        simp only [hu, Bool.and_eq_true] at hok
        obtain ⟨o1, o2⟩ := hok
        obtain ⟨xs, m, hm, _, hlen, hxl, hf⟩ := DataW.trod_struct hu h
        have hm' : m = n := by omega
        subst hm'
        obtain ⟨ds, c1, c2, c3, c4⟩ := build_fields (w := w) (n := m) (cs := cs) fs.toList 0 (P.cellsOf t) o2 (fun f hfm => by
          obtain ⟨i, hi⟩ := List.getElem?_of_mem hfm
          have hfi : fs[i]? = some f := by simpa using hi
          have hil : i < xs.length := by rw [hxl]; exact (Array.getElem?_eq_some_iff.1 hfi).1
          have hx := hf i f hfi
          rw [List.getElem?_eq_getElem hil] at hx
          obtain ⟨ds, p1, p2, p3, p4, p5⟩ := ih _ _ _ (by have := List.all_eq_true.1 o1 f hfm; simpa using this) hx
          refine ⟨ds, p1, by omega, p4, fun j d v hd hv => p5 j d v hd ?_⟩
          have hj : j < ds.length := (List.getElem?_eq_some_iff.1 hd).1
          rw [List.getElem?_take, if_pos (by omega), List.getElem?_drop]
          exact hv)
        refine ⟨ds, ⟨by omega, fun i f hfi => ?_⟩, by omega, by omega, c3, fun i d v hd hv => c4 i d v hd (by rw [Nat.zero_add]; exact hv)⟩
        have := (c2 f (by simpa using List.mem_of_getElem? (l := fs.toList) (i := i) (by simpa using hfi))).2
        rwa [Nat.sub_zero] at this
      | _ => simp [hu] at hok
end

end Go.Av
