/- Operations over abstract states, continued: parts of slices, fields, interface values, tuples, closures, bytes to a string. -/
import Derived.Test.YtkkdhgibaimboaaDoorAvOps3
namespace Go.Av

variable {E : Entry} {n : Nat} {G : Ghost} {σ : St} {a : Act} {w : World} {P : Program}

/-! ### A part of a slice -/
def allSz (sz : Nat) : List D → Bool
  | [] => true
  | x :: r => x.cells.length == sz && allSz sz r

theorem allSz_iff {sz : Nat} {l : List D} : allSz sz l = true ↔ ∀ x ∈ l, x.cells.length = sz := by
  induction l with
  | nil => simp [allSz]
  | cons x r ih => simp [allSz, ih]

def fSub (sz : Nat) (x : AV) (lo hi : Option AV) : Option AV :=
  match x.rd with
  | some (.list l) => match loOf lo, hiOf l.length hi with
    | some i, some j => if 0 ≤ i ∧ i ≤ j ∧ j ≤ l.length ∧ allSz sz l = true then some (.d (.list (cutI l i j))) else none
    | _, _ => none
  | _ => none

theorem mem_cutI {α : Type} {l : List α} {i j : Int} {x : α} (h : x ∈ cutI l i j) : x ∈ l := List.mem_of_mem_take (List.mem_of_mem_drop h)

theorem cutI_get {α : Type} {l : List α} {i j : Int} {k : Nat} {x : α} (h : (cutI l i j)[k]? = some x) : l[i.toNat + k]? = some x := by
  unfold cutI at h
  rw [List.getElem?_drop, List.getElem?_take] at h
  split at h
  · exact h
  · cases h

theorem cutI_len {α : Type} {l : List α} {i j : Int} (hj : j ≤ l.length) : (cutI l i j).length = j.toNat - i.toNat := by
  unfold cutI; simp; omega

theorem RD.cut {f : Nat → Nat} {l : List D} {b o cap sz : Nat} {i j : Int} (h : RD f w (.list l) (.slice (some (at_ b o)) l.length cap)) (hs : ∀ x ∈ l, x.cells.length = sz) (h0 : 0 ≤ i) (h1 : i ≤ j) (h2 : j ≤ l.length) (c' : Nat) (hc' : j.toNat - i.toNat ≤ c') :
    RD f w (.list (cutI l i j)) (.slice (some (at_ b (o + i.toNat * sz))) (j.toNat - i.toNat) c') := by
  have hlen := cutI_len (l := l) (i := i) h2
  cases h with
  | emp _ _ =>
    simp at h2
    have : i = 0 := by omega
    have : j = 0 := by omega
    subst i; subst j
    exact .emp _ _
  | list _ _ _ _ sz' vs hcap hsz hb hc hr =>
    by_cases hl : l = []
    · subst hl
      simp at h2
      have : i = 0 := by omega
      have : j = 0 := by omega
      subst i; subst j
      have e : cutI ([] : List D) 0 0 = [] := rfl
      rw [e]
      exact .list [] b (o + (0 : Int).toNat * sz) c' 0 (fun _ => undef) (Nat.zero_le _) (fun _ h => by simp at h) (by simpa using hb) (fun k hk => by simp at hk) (fun _ _ _ _ h => by simp at h)
    · obtain ⟨x, r, rfl⟩ := List.exists_cons_of_ne_nil hl
      have e1 : sz' = sz := by rw [← (hsz x (by simp)).1]; exact hs x (by simp)
      subst e1
      rw [← hlen] at hc' ⊢
      have hle : i.toNat * sz' + (cutI (x :: r) i j).length * sz' ≤ (x :: r).length * sz' := by
        rw [← Nat.add_mul, hlen]; exact Nat.mul_le_mul_right _ (by omega)
      refine .list _ b _ c' sz' (fun k => vs (i.toNat * sz' + k)) hc' (fun y hy => hsz y (mem_cutI hy)) (by omega) (fun k hk => ?_) (fun p y q d hy hd => ?_)
      · rw [Nat.add_assoc]; exact hc _ (by omega)
      · have := hr (i.toNat + p) y q d (cutI_get hy) hd
        rw [Nat.add_mul, Nat.add_assoc] at this; exact this

theorem fSub_run {x z : AV} {lo hi : Option AV} {v : Value} {ul uh : Option Value} {t e : TypeId} {sz : Nat} (ht : P.underlying t = some (.slice e)) (hs : (P.info? e).map (·.size) = some sz) (hx : AVR G w x v) (hl : OptR G w lo ul) (hh : OptR G w hi uh) (h : fSub sz x lo hi = some z) :
    ∃ r, (Instr.sliceAt t v ul uh none).run P w = .ok r w ∧ AVR G w z r := by
  unfold fSub at h
  split at h
  · rename_i l hrd
    split at h
    · rename_i i j h1 h2
      split at h
      · rename_i hb; cases h
        obtain ⟨b0, b1, b2, b3⟩ := hb
        have b3 := allSz_iff.1 b3
        have hr := hx.rd hrd
        cases hti : P.info? e with
        | none => simp [hti] at hs
        | some ti =>
          simp [hti] at hs
          -- the bounds' own runs
          have run : ∀ (ad : Option Addr) (cap : Nat), l.length ≤ cap →
              (Instr.sliceAt t (.slice ad l.length cap) ul uh none).run P w = .ok (.slice (if cap = i.toNat then ad else ad.map (·.add (i.toNat * sz))) (j.toNat - i.toNat) (cap - i.toNat)) w := fun ad cap hcap => by
            rcases loOf_inv hl h1 with ⟨rfl, rfl⟩ | ⟨k1, rfl⟩ <;> rcases hiOf_inv hh h2 with ⟨rfl, rfl⟩ | ⟨k2, rfl⟩
            · simp [Instr.sliceAt, Instr.slice, run_underlying ht, Instr.sliceBounds, sizeOf, typeInfo, hti]
            · have g := run_sliceBound_str (P := P) k2 j cap .sliceAcap (by omega) (by omega) w
              simp [Instr.sliceAt, Instr.slice, run_underlying ht, Instr.sliceBounds, g, sizeOf, typeInfo, hti]
            · have g := run_sliceBound_str (P := P) k1 i l.length .sliceB b0 b1 w
              simp [Instr.sliceAt, Instr.slice, run_underlying ht, Instr.sliceBounds, g, sizeOf, typeInfo, hti, hs]
            · have g := run_sliceBound_str (P := P) k2 j cap .sliceAcap (by omega) (by omega) w
              have g2 := run_sliceBound_str (P := P) k1 i j.toNat .sliceB b0 (by omega) w
              simp [Instr.sliceAt, Instr.slice, run_underlying ht, Instr.sliceBounds, g, g2, sizeOf, typeInfo, hti, hs]
          cases hr with
          | nils =>
            simp at b2
            have e1 : i = 0 := by omega
            have e2 : j = 0 := by omega
            subst i; subst j
            refine ⟨_, run none 0 (by simp), .d _ _ ?_⟩
            simp [cutI]; exact .nils
          | emp a' cap =>
            simp at b2
            have e1 : i = 0 := by omega
            have e2 : j = 0 := by omega
            subst i; subst j
            refine ⟨_, run (some a') cap (by simp), .d _ _ ?_⟩
            have e3 : cutI ([] : List D) 0 0 = [] := rfl
            rw [e3]
            split <;> exact .emp _ _
          | list _ b o cap sz' vs hcap hsz hbb hc hr =>
            refine ⟨_, run _ cap hcap, .d _ _ ?_⟩
            by_cases hc0 : cap = i.toNat
            · -- nothing is left
              have e1 : j.toNat - i.toNat = 0 := by omega
              have e2 : cutI l i j = [] := List.eq_nil_of_length_eq_zero (by rw [cutI_len b2]; exact e1)
              rw [if_pos hc0, e1, e2]
              exact .list [] b o _ 0 (fun _ => undef) (Nat.zero_le _) (fun _ h => by simp at h) (by simp; omega) (fun k hk => by simp at hk) (fun _ _ _ _ h => by simp at h)
            · rw [if_neg hc0]
              simp only [Option.map_some, at_add]
              exact RD.cut (.list l b o cap sz' vs hcap hsz hbb hc hr) b3 b0 b1 b2 _ (by omega)
      · cases h
    · cases h
  · cases h

/-! ### A field of a struct that is no variable -/
def fFld (agg : Bool) (m off : Nat) : AV → Option AV
  | .d (.agg cs) => if agg then (if off + m ≤ cs.length then some (.d (.agg ((cs.drop off).take m))) else none) else (cs[off]?).map .d
  | _ => none

theorem fFld_run {x z : AV} {v : Value} {t i m : Nat} {fs : Array Field} {f : Field} {d : TypeDesc} (ht : P.underlying t = some (.struct fs)) (hf : fs[i]? = some f) (hd : P.underlying f.type = some d) (hs : (P.info? f.type).map (·.size) = some m)
    (hx : AVR G w x v) (h : fFld (aggT d) m f.offset x = some z) : ∃ r, (Instr.field t v i).run P w = .ok r w ∧ AVR G w z r := by
  unfold fFld at h; split at h
  · rename_i cs
    have hx := hx.dinv
    cases hx with | agg _ vs hl ho hr => ?_
    cases hti : P.info? f.type with
    | none => simp [hti] at hs
    | some ti =>
      simp [hti] at hs
      cases hda : aggT d with
      | true =>
        simp only [hda, if_true] at h
        split at h
        · rename_i hle; cases h
          refine ⟨.agg (vs.extract f.offset (f.offset + m)), ?_, .d _ _ (.agg _ _ (by simp; omega) (fun y hy => ho y (List.mem_of_mem_drop (List.mem_of_mem_take hy))) (fun j y hj => ?_))⟩
          · simp [Instr.field, run_underlying ht, hf, asAgg, part, isAgg_run hd, hda, sizeOf, typeInfo, hti, hs]
          · have hj' : j < m := by have := (List.getElem?_eq_some_iff.1 hj).1; simp at this; omega
            rw [List.getElem?_take, if_pos hj', List.getElem?_drop] at hj
            have := hr (f.offset + j) y hj
            have e : (vs.extract f.offset (f.offset + m)).getD j undef = vs.getD (f.offset + j) undef := by
              simp only [Array.getD_eq_getD_getElem?, Array.getElem?_extract]
              rw [if_pos (by omega)]
            rw [e]; exact this
        · cases h
      | false =>
        simp only [hda, Bool.false_eq_true, if_false] at h
        cases hy : cs[f.offset]? with
        | none => simp [hy] at h
        | some y =>
          simp [hy] at h; subst h
          have hlt : f.offset < vs.size := by rw [hl]; exact (List.getElem?_eq_some_iff.1 hy).1
          have hget : vs[f.offset]? = some (vs.getD f.offset undef) := by simp [hlt]
          refine ⟨vs.getD f.offset undef, ?_, .d _ _ (hr _ y hy)⟩
          simp [Instr.field, run_underlying ht, hf, asAgg, part, isAgg_run hd, hda, hlt]
  · cases h

/-! ### Interface values, tuples, closures -/
def fMkI (t : TypeId) (x : AV) : Option AV := x.rd.map fun y => .d (.iface t y)

theorem fMkI_run {x z : AV} {v : Value} {t : TypeId} (ht : P.concrete t = true) (hx : AVR G w x v) (h : fMkI t x = some z) : ∃ r, (Instr.makeInterface t v).run P w = .ok r w ∧ AVR G w z r := by
  unfold fMkI at h
  cases hy : x.rd with
  | none => simp [hy] at h
  | some y => simp [hy] at h; subst h; exact ⟨_, run_makeInterface w t v ht, .d _ _ (.iface t y v (hx.rd hy))⟩

def fAsT (t : TypeId) (zero : D) : AV → Option AV
  | .d (.iface t' y) => if t' = t then some (.tuple [.d y, .d (.bool true)]) else some (.tuple [.d zero, .d (.bool false)])
  | .d .nil => some (.tuple [.d zero, .d (.bool false)])
  | _ => none

theorem AVR.pair {x y : AV} {u v : Value} (hx : AVR G w x u) (hy : AVR G w y v) (h1 : x.simple = true) (h2 : y.simple = true) : AVR G w (.tuple [x, y]) (.tuple #[u, v]) :=
  .tuple _ _ rfl (fun z hz => by simp at hz; rcases hz with rfl | rfl <;> assumption) (fun i z hz => by
    match i, hz with
    | 0, hz => simp at hz; subst hz; exact hx
    | 1, hz => simp at hz; subst hz; exact hy)

theorem fAsT_run {x z : AV} {v zv : Value} {xt t : TypeId} {d : TypeDesc} {zero : D} {ti : TypeInfo} (ht : P.underlying t = some d) (hd : ∀ ms, d ≠ .interface ms) (hi : P.info? t = some ti) (hz : ti.zero = some zv) (hzv : cst zv = some zero)
    (hx : AVR G w x v) (h : fAsT t zero x = some z) : ∃ r, (Instr.typeAssert v xt t true).run P w = .ok r w ∧ AVR G w z r := by
  have hzr : AVR G w (.d zero) zv := .d _ _ (cst_rd hzv)
  have hzero : (zeroValue t).run P w = .ok zv w := by simp [zeroValue, typeInfo, hi, hz]
  unfold fAsT at h; split at h
  · rename_i t' y
    have hx := hx.dinv
    cases hx with | iface _ _ u hy => ?_
    split at h
    · rename_i e; cases h; subst e
      refine ⟨.tuple #[u, .bool true], ?_, .pair (.d _ _ hy) (.d _ _ (.bool true)) rfl rfl⟩
      cases d <;> first | (exact absurd rfl (hd _)) | simp [Instr.typeAssert, run_underlying ht]
    · rename_i e; cases h
      refine ⟨.tuple #[zv, .bool false], ?_, .pair hzr (.d _ _ (.bool false)) rfl rfl⟩
      cases d <;> first | (exact absurd rfl (hd _)) | simp [Instr.typeAssert, run_underlying ht, e, hzero]
  · cases h
    have hx := hx.dinv; cases hx
    refine ⟨.tuple #[zv, .bool false], ?_, .pair hzr (.d _ _ (.bool false)) rfl rfl⟩
    cases d <;> first | (exact absurd rfl (hd _)) | simp [Instr.typeAssert, run_underlying ht, hzero]
  · cases h

def fExt (i : Nat) : AV → Option AV
  | .tuple xs => match xs[i]? with
    | some x => if x.simple then some x else none
    | none => none
  | _ => none

theorem fExt_run {x z : AV} {v : Value} {i : Nat} (hx : AVR G w x v) (h : fExt i x = some z) : ∃ r, (Instr.extract v i).run P w = .ok r w ∧ AVR G w z r := by
  unfold fExt at h; split at h
  · rename_i xs
    split at h
    · rename_i y hy
      split at h
      · cases h
        cases hx with
        | tuple _ vs hl hs hr =>
          have hlt : i < vs.size := by rw [hl]; exact (List.getElem?_eq_some_iff.1 hy).1
          refine ⟨vs.getD i undef, ?_, hr i _ hy⟩
          simp [Instr.extract, hlt]
      · cases h
    · cases h
  · cases h

def fNck : AV → Option AV
  | .ptr r o => some (.ptr r o)
  | .dptr cs => some (.dptr cs)
  | _ => none

/-! ### Bytes to a string -/
def bytesOf : List D → Option (List UInt8)
  | [] => some []
  | .int .u8 b :: r => (bytesOf r).map (UInt8.ofNat b.toNat :: ·)
  | _ => none

theorem bytesOf_bytesD (s : List UInt8) : bytesOf (bytesD s) = some s := by
  induction s with
  | nil => rfl
  | cons b r ih =>
    have : bytesD (b :: r) = .int .u8 b.toNat :: bytesD r := rfl
    rw [this, bytesOf, ih]; simp

def fB2s (x : AV) : Option AV :=
  match x.rd with
  | some (.list l) => (bytesOf l).map fun s => .d (.str s)
  | _ => none

theorem bytesOf_spec : ∀ {l : List D} {s : List UInt8}, bytesOf l = some s → ∃ ns : List Int, l = ns.map (D.int .u8) ∧ s = ns.map fun k => UInt8.ofNat k.toNat
  | [], s, h => by simp [bytesOf] at h; subst h; exact ⟨[], rfl, rfl⟩
  | x :: r, s, h => by
    cases x with
    | int k b =>
      cases k <;> simp [bytesOf] at h
      obtain ⟨s', h1, rfl⟩ := h
      obtain ⟨ns, rfl, rfl⟩ := bytesOf_spec h1
      exact ⟨b :: ns, rfl, rfl⟩
    | _ => simp [bytesOf] at h

theorem foldl_push (ns : List Int) : ∀ r : ByteArray, ns.foldl (fun r k => r.push (UInt8.ofNat k.toNat)) r = ⟨(r.data.toList ++ ns.map fun k => UInt8.ofNat k.toNat).toArray⟩ := by
  induction ns with
  | nil => intro r; simp
  | cons b ns ih => intro r; simp only [List.foldl_cons, ih, List.map_cons]; congr 1; simp [ByteArray.push]

theorem fB2s_run {x z : AV} {v : Value} {s t e : TypeId} (hs : P.underlying s = some (.slice e)) (he : P.underlying e = some (.int .u8)) (ht : P.underlying t = some .string) (hx : AVR G w x v) (h : fB2s x = some z) :
    ∃ r, (convert s t v).run P w = .ok r w ∧ AVR G w z r := by
  unfold fB2s at h; split at h
  · rename_i l hl
    cases hb : bytesOf l with
    | none => simp [hb] at h
    | some bs =>
      simp [hb] at h; subst h
      obtain ⟨ns, rfl, rfl⟩ := bytesOf_spec hb
      have hr := hx.rd hl
      have conv : ∀ u, (Conv.bytesToString v).run P w = .ok u w → (∃ a n c, v = .slice a n c) → (convert s t v).run P w = .ok u w := fun u hu ⟨a', n', c', e'⟩ => by
        subst e'
        simp [convert, run_underlying hs, run_underlying he, run_underlying ht, hu]
      generalize hL : ns.map (D.int .u8) = L at hr
      cases hr with
      | nils =>
        have : ns = [] := by cases ns <;> simp_all
        subst this
        exact ⟨.string .empty, conv _ (by simp [Conv.bytesToString]) ⟨_, _, _, rfl⟩, .d _ _ (RD.str [])⟩
      | emp a' cap =>
        have : ns = [] := by cases ns <;> simp_all
        subst this
        refine ⟨.string .empty, conv _ ?_ ⟨_, _, _, rfl⟩, .d _ _ (RD.str [])⟩
        have hload : (loadCells a' 0).run P w = .ok #[] w := by
          have := run_loadCells_list (P := P) w a' [] (fun j v hj => by simp at hj)
          simpa using this
        simp [Conv.bytesToString, hload, Result.andThen]
      | list _ b o cap sz vs hcap hsz hbb hc hr =>
        subst hL
        have hv : ∀ (k : Nat) (m : Int), ns[k]? = some m → sz = 1 ∧ vs (k * sz) = .int .u8 m := fun k m hk => by
          have h1 : (ns.map (D.int .u8))[k]? = some (.int .u8 m) := by simp [hk]
          have h2 := (hsz _ (List.mem_of_getElem? h1)).1
          have h3 := hr k _ 0 _ h1 rfl
          refine ⟨h2.symm, ?_⟩
          rw [Nat.add_zero] at h3
          generalize vs (k * sz) = u at h3
          cases h3; rfl
        have hload : (loadCells (at_ b o) (ns.map (D.int .u8)).length).run P w = .ok (ns.map (Value.int .u8)).toArray w := by
          have := run_loadCells_list (P := P) w (at_ b o) (ns.map (Value.int .u8)) (fun j v hj => by
            simp only [List.getElem?_map] at hj
            cases hk : ns[j]? with
            | none => simp [hk] at hj
            | some m =>
              simp [hk] at hj; subst hj
              obtain ⟨e1, e2⟩ := hv j m hk
              subst e1
              rw [at_add, ← e2, Nat.mul_one]
              exact hc j (by have := (List.getElem?_eq_some_iff.1 hk).1; simpa using this))
          simpa using this
        refine ⟨_, conv _ (run_bytesToString w (at_ b o) _ cap ns hload) ⟨_, _, _, rfl⟩, ?_⟩
        rw [foldl_push]
        exact .d _ _ (RD.str _)
  · cases h

end Go.Av
