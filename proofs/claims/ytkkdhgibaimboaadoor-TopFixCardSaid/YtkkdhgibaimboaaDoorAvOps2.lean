/- Operations over abstract states, continued: comparisons, conversions, strings, addresses, loads. -/
import Derived.Test.YtkkdhgibaimboaaDoorAvOps
namespace Go.Av

variable {E : Entry} {n : Nat} {G : Ghost} {σ : St} {a : Act} {w : World} {P : Program}

theorem AVR.dinv {x : D} {v : Value} (h : AVR G w (.d x) v) : RD G.f w x v := by cases h; assumption

/-! ### Equality of bools; against nil -/
def fEqB (neg : Bool) : AV → AV → Option AV
  | .d (.bool a), .d (.bool b) => some (.d (.bool (if neg then !decide (a = b) else decide (a = b))))
  | _, _ => none

def isNil : AV → Option Bool
  | .d .nil => some true
  | .d (.iface _ _) => some false
  | .d .nilp => some true
  | .ptr _ _ => some false
  | .dptr _ => some false
  | .d .nilf => some true
  | .fn _ _ _ => some false
  | _ => none

/-- A test against the literal nil. -/
def fNil (neg : Bool) (x : AV) : Option AV := (isNil x).map fun b => .d (.bool (if neg then !b else b))

def eqOp (neg : Bool) : BinOp := if neg then .neq else .eql

theorem equal_of {t : TypeId} {v u : Value} {b : Bool} (h : ∀ d, (Op.equalIn (d + 1) t v u).run P w = .ok b w) : (Op.equal t v u).run P w = .ok b w := h 9999

theorem fEqB_run {neg : Bool} {x y z : AV} {v u : Value} {t : TypeId} (ht : P.underlying t = some .bool) (hx : AVR G w x v) (hy : AVR G w y u) (h : fEqB neg x y = some z) :
    ∃ r, (binOp (eqOp neg) t v u).run P w = .ok r w ∧ AVR G w z r := by
  unfold fEqB at h
  split at h
  · rename_i a b
    cases h
    have hx := hx.dinv; have hy := hy.dinv
    cases hx; cases hy
    have he : (Op.equal t (.bool a) (.bool b)).run P w = .ok (a == b) w := equal_of (fun d => by simp [Op.equalIn, run_underlying ht])
    have h1 : binOp .eql t (.bool a) (.bool b) = (do pure (.bool (← Op.equal t (.bool a) (.bool b)))) := rfl
    have h2 : binOp .neq t (.bool a) (.bool b) = (do pure (.bool (!(← Op.equal t (.bool a) (.bool b))))) := rfl
    refine ⟨.bool _, ?_, .d _ _ (.bool _)⟩
    cases neg
    · simp only [eqOp, Bool.false_eq_true, if_false, h1, Sem.run_bind, he, Result.andThen_ok, Sem.run_pure]; cases a <;> cases b <;> rfl
    · simp only [eqOp, if_true, h2, Sem.run_bind, he, Result.andThen_ok, Sem.run_pure]; cases a <;> cases b <;> rfl
  · cases h

/-- Which literal nil goes with which type. -/
def nilOf : TypeDesc → Option Value
  | .interface _ => some .nilIface
  | .pointer _ => some (.pointer none)
  | .func _ _ _ => some .nilFunc
  | _ => none

def nilFits : TypeDesc → AV → Bool
  | .interface _, .d .nil => true
  | .interface _, .d (.iface _ _) => true
  | .pointer _, .d .nilp => true
  | .pointer _, .ptr _ _ => true
  | .pointer _, .dptr _ => true
  | .func _ _ _, .d .nilf => true
  | .func _ _ _, .fn _ _ _ => true
  | _, _ => false

theorem fNil_run {neg : Bool} {x z : AV} {v u : Value} {t : TypeId} {d : TypeDesc} (ht : P.underlying t = some d) (hu : nilOf d = some u) (hx : AVR G w x v) (h : fNil neg x = some z)
    (hk : nilFits d x = true) :
    ∃ r, (binOp (eqOp neg) t v u).run P w = .ok r w ∧ AVR G w z r := by
  have key : ∃ b, isNil x = some b ∧ z = .d (.bool (if neg then !b else b)) := by
    unfold fNil at h
    cases hb : isNil x with
    | none => simp [hb] at h
    | some b => simp [hb] at h; exact ⟨b, rfl, h.symm⟩
  obtain ⟨b, hb, rfl⟩ := key
  refine ⟨.bool (if neg then !b else b), ?_, .d _ _ (.bool _)⟩
  have fin : ∀ {v u : Value}, (Op.equal t v u).run P w = .ok b w → binOp .eql t v u = (do pure (.bool (← Op.equal t v u))) → binOp .neq t v u = (do pure (.bool (!(← Op.equal t v u)))) →
      (binOp (eqOp neg) t v u).run P w = .ok (.bool (if neg then !b else b)) w := fun he h1 h2 => by
    cases neg
    · simp only [eqOp, Bool.false_eq_true, if_false, h1, Sem.run_bind, he, Result.andThen_ok, Sem.run_pure]
    · simp only [eqOp, if_true, h2, Sem.run_bind, he, Result.andThen_ok, Sem.run_pure]
  cases d with
  | interface ms =>
    simp only [nilOf, Option.some.injEq] at hu; subst hu
    cases x with
    | d y =>
      cases y with
      | nil => simp only [isNil, Option.some.injEq] at hb; subst hb; have hx := hx.dinv; cases hx; exact fin (equal_of (fun d => by simp [Op.equalIn, run_underlying ht])) rfl rfl
      | iface t' y => simp only [isNil, Option.some.injEq] at hb; subst hb; have hx := hx.dinv; cases hx; exact fin (equal_of (fun d => by simp [Op.equalIn, run_underlying ht])) rfl rfl
      | _ => cases hk
    | _ => cases hk
  | pointer e =>
    simp only [nilOf, Option.some.injEq] at hu; subst hu
    cases x with
    | d y =>
      cases y with
      | nilp => simp only [isNil, Option.some.injEq] at hb; subst hb; have hx := hx.dinv; cases hx; exact fin (equal_of (fun d => by simp [Op.equalIn, run_underlying ht])) rfl rfl
      | _ => cases hk
    | ptr r o => simp only [isNil, Option.some.injEq] at hb; subst hb; cases hx; exact fin (equal_of (fun d => by simp [Op.equalIn, run_underlying ht])) rfl rfl
    | dptr cs => simp only [isNil, Option.some.injEq] at hb; subst hb; cases hx; exact fin (equal_of (fun d => by simp [Op.equalIn, run_underlying ht])) rfl rfl
    | _ => cases hk
  | func p r b =>
    simp only [nilOf, Option.some.injEq] at hu; subst hu
    cases x with
    | d y =>
      cases y with
      | nilf => simp only [isNil, Option.some.injEq] at hb; subst hb; have hx := hx.dinv; cases hx; exact fin (equal_of (fun d => by simp [Op.equalIn, run_underlying ht])) rfl rfl
      | _ => cases hk
    | fn f a b => simp only [isNil, Option.some.injEq] at hb; subst hb; cases hx; exact fin (equal_of (fun d => by simp [Op.equalIn, run_underlying ht])) rfl rfl
    | _ => cases hk
  | _ => simp [nilOf] at hu

/-! ### not, minus, conversions of numbers -/
def fNot : AV → Option AV
  | .d (.bool b) => some (.d (.bool (!b)))
  | _ => none

def fNeg : AV → Option AV
  | .d (.int k x) => some (.d (.int k (k.wrap (0 - x))))
  | _ => none

def fCvI (k : IntKind) : AV → Option AV
  | .d (.int _ x) => some (.d (.int k (k.wrap x)))
  | _ => none

def fI2s : AV → Option AV
  | .d (.int _ x) => some (.d (.str (Utf8.encode x).data.toList))
  | _ => none

theorem fNot_run {x z : AV} {v : Value} (hx : AVR G w x v) (h : fNot x = some z) : ∃ r, (Op.unary .not v).run P w = .ok r w ∧ AVR G w z r := by
  unfold fNot at h; split at h
  · cases h; have hx := hx.dinv; cases hx; exact ⟨_, rfl, .d _ _ (.bool _)⟩
  · cases h

theorem fNeg_run {x z : AV} {v : Value} (hx : AVR G w x v) (h : fNeg x = some z) : ∃ r, (Op.unary .neg v).run P w = .ok r w ∧ AVR G w z r := by
  unfold fNeg at h; split at h
  · cases h; have hx := hx.dinv; cases hx; exact ⟨_, rfl, .d _ _ (.int _ _)⟩
  · cases h

theorem fCvI_run {k : IntKind} {x z : AV} {v : Value} {s t : TypeId} {ds : TypeDesc} (hs : P.underlying s = some ds) (ht : P.underlying t = some (.int k)) (hx : AVR G w x v) (h : fCvI k x = some z) :
    ∃ r, (convert s t v).run P w = .ok r w ∧ AVR G w z r := by
  unfold fCvI at h; split at h
  · cases h; have hx := hx.dinv; cases hx
    refine ⟨_, ?_, .d _ _ (.int _ _)⟩
    simp [convert, run_underlying hs, run_underlying ht, Conv.intToInt]
  · cases h

theorem fI2s_run {x z : AV} {v : Value} {s t : TypeId} {ds : TypeDesc} (hs : P.underlying s = some ds) (ht : P.underlying t = some .string) (hx : AVR G w x v) (h : fI2s x = some z) :
    ∃ r, (convert s t v).run P w = .ok r w ∧ AVR G w z r := by
  unfold fI2s at h; split at h
  · cases h; have hx := hx.dinv; cases hx
    rename_i k n
    refine ⟨.string (Utf8.encode n), ?_, ?_⟩
    · simp [convert, run_underlying hs, run_underlying ht, Conv.intToString]
    · exact .d _ _ (RD.str _)
  · cases h

/-! ### Bytes of a string; parts of it; lengths -/
def getI {α : Type} (l : List α) (i : Int) : Option α := if 0 ≤ i then l[i.toNat]? else none

def fIdxS : AV → AV → Option AV
  | .d (.str s), .d (.int _ i) => (getI s i).map fun b => .d (.int .u8 b.toNat)
  | _, _ => none

theorem fIdxS_run {x y z : AV} {v u : Value} {t : TypeId} (ht : P.underlying t = some .string) (hx : AVR G w x v) (hy : AVR G w y u) (h : fIdxS x y = some z) :
    ∃ r, (Instr.index t v u).run P w = .ok r w ∧ AVR G w z r := by
  unfold fIdxS at h; split at h
  · rename_i s k i
    have hx := hx.dinv; cases hx
    have hy := hy.dinv; cases hy
    unfold getI at h
    split at h
    · rename_i h0
      cases hb : s[i.toNat]? with
      | none => simp [hb] at h
      | some b =>
        simp [hb] at h; subst h
        have hlt : i.toNat < s.length := (List.getElem?_eq_some_iff.1 hb).1
        have h1 : (⟨s.toArray⟩ : ByteArray)[i.toNat]? = some b := by
          rw [ByteArray.getElem?_lt' _ _ (by simpa [ByteArray.size] using hlt)]
          have := (List.getElem?_eq_some_iff.1 hb).2
          simp [← this, ByteArray.getElem_eq_getElem_data]
        refine ⟨.int .u8 b.toNat, ?_, .d _ _ (.int _ _)⟩
        simp [Instr.index, asIntOf, run_underlying ht, h0, h1]
    · simp at h
  · cases h

/-- Bounds of a part: whole numbers, in order. -/
def loOf : Option AV → Option Int
  | none => some 0
  | some (.d (.int _ i)) => some i
  | _ => none

def hiOf (len : Nat) : Option AV → Option Int
  | none => some len
  | some (.d (.int _ i)) => some i
  | _ => none

def cutI {α : Type} (l : List α) (lo hi : Int) : List α := (l.take hi.toNat).drop lo.toNat

def fSubS (x : AV) (lo hi : Option AV) : Option AV :=
  match x with
  | .d (.str s) => match loOf lo, hiOf s.length hi with
    | some l, some h => if 0 ≤ l ∧ l ≤ h ∧ h ≤ s.length then some (.d (.str (cutI s l h))) else none
    | _, _ => none
  | _ => none

def OptR (G : Ghost) (w : World) : Option AV → Option Value → Prop
  | none, none => True
  | some x, some v => AVR G w x v
  | _, _ => False

theorem loOf_inv {lo : Option AV} {l : Int} {ul : Option Value} (h : OptR G w lo ul) (hl : loOf lo = some l) : (ul = none ∧ l = 0) ∨ ∃ k, ul = some (.int k l) := by
  unfold loOf at hl; split at hl
  · cases hl; cases ul <;> simp_all [OptR]
  · cases hl
    cases ul with
    | none => cases h
    | some u => have h := AVR.dinv h; cases h; exact .inr ⟨_, rfl⟩
  · cases hl

theorem hiOf_inv {hi : Option AV} {len : Nat} {l : Int} {ul : Option Value} (h : OptR G w hi ul) (hl : hiOf len hi = some l) : (ul = none ∧ l = len) ∨ ∃ k, ul = some (.int k l) := by
  unfold hiOf at hl; split at hl
  · cases hl; cases ul <;> simp_all [OptR]
  · cases hl
    cases ul with
    | none => cases h
    | some u => have h := AVR.dinv h; cases h; exact .inr ⟨_, rfl⟩
  · cases hl

theorem extract_cut (s : List UInt8) (l h : Int) : (⟨s.toArray⟩ : ByteArray).extract l.toNat h.toNat = ⟨(cutI s l h).toArray⟩ := by
  apply ByteArray.ext
  simp [cutI, ByteArray.data_extract, List.extract_eq_take_drop, List.drop_take]

theorem size_str (s : List UInt8) : (⟨s.toArray⟩ : ByteArray).size = s.length := by rw [← ByteArray.size_data]; simp

theorem cutI_all {α : Type} (l : List α) : cutI l 0 l.length = l := by simp [cutI]

theorem run_sliceBound_str (k : IntKind) (i : Int) (y : Nat) (code : BoundsCode) (h0 : 0 ≤ i) (h1 : i ≤ y) (w : World) : (Instr.sliceBound (.int k i) y code).run P w = .ok i.toNat w := by
  simp [Instr.sliceBound, asIntOf, h0, h1]

theorem fSubS_run {x z : AV} {lo hi : Option AV} {v : Value} {ul uh : Option Value} {t : TypeId} (ht : P.underlying t = some .string) (hx : AVR G w x v) (hl : OptR G w lo ul) (hh : OptR G w hi uh) (h : fSubS x lo hi = some z) :
    ∃ r, (Instr.sliceAt t v ul uh none).run P w = .ok r w ∧ AVR G w z r := by
  unfold fSubS at h; split at h
  · rename_i s
    have hx := hx.dinv; cases hx
    split at h
    · rename_i l h' h1 h2
      split at h
      · rename_i hb
        cases h
        obtain ⟨b0, b1, b2⟩ := hb
        have hsz := size_str s
        refine ⟨.string ⟨(cutI s l h').toArray⟩, ?_, .d _ _ (.str _)⟩
        rw [← extract_cut]
        have e1 : (h'.toNat : Int) = h' := Int.toNat_of_nonneg (by omega)
        rcases loOf_inv hl h1 with ⟨rfl, rfl⟩ | ⟨k1, rfl⟩ <;> rcases hiOf_inv hh h2 with ⟨rfl, rfl⟩ | ⟨k2, rfl⟩
        · have e2 := extract_cut s 0 s.length
          rw [cutI_all] at e2
          simp only [Int.toNat_natCast, Int.toNat_zero] at e2 ⊢
          rw [e2]
          simp [Instr.sliceAt, Instr.slice, run_underlying ht, Instr.sliceBounds]
        · have g := run_sliceBound_str (P := P) k2 h' s.length .sliceAlen (by omega) b2 w
          simp [Instr.sliceAt, Instr.slice, run_underlying ht, Instr.sliceBounds, hsz, g]
        · have g := run_sliceBound_str (P := P) k1 l s.length .sliceB b0 b1 w
          simp [Instr.sliceAt, Instr.slice, run_underlying ht, Instr.sliceBounds, hsz, g]
        · have g := run_sliceBound_str (P := P) k2 h' s.length .sliceAlen (by omega) b2 w
          have g2 := run_sliceBound_str (P := P) k1 l h'.toNat .sliceB b0 (by omega) w
          simp [Instr.sliceAt, Instr.slice, run_underlying ht, Instr.sliceBounds, hsz, g, g2]
      · cases h
    · cases h
  · cases h

def fLen : AV → Option AV
  | .d (.str s) => some (.d (.int .i64 s.length))
  | .d (.list l) => some (.d (.int .i64 l.length))
  | .own _ _ _ l => some (.d (.int .i64 l.length))
  | _ => none

theorem RD.list_slice {f : Nat → Nat} {l : List D} {v : Value} (h : RD f w (.list l) v) : ∃ a c, v = .slice a l.length c := by
  cases h
  · exact ⟨none, 0, rfl⟩
  · exact ⟨_, _, rfl⟩
  · exact ⟨_, _, rfl⟩

def lenFits (P : Program) (t : TypeId) : AV → Prop
  | .d (.str _) => P.underlying t = some .string
  | _ => ∃ e, P.underlying t = some (.slice e)

theorem fLen_run {x z : AV} {v : Value} {t ty : TypeId} (hx : AVR G w x v) (h : fLen x = some z) (hk : lenFits P t x) :
    ∃ r, (Builtin.len_ #[t] ty #[v]).run P w = .ok r w ∧ AVR G w z r := by
  unfold fLen at h; split at h
  · rename_i s
    cases h; have hx := hx.dinv; cases hx
    refine ⟨_, ?_, .d _ _ (.int _ _)⟩
    have h1 := run_len_string (P := P) w t ty ⟨s.toArray⟩ hk
    rw [size_str] at h1
    exact h1
  · rename_i l
    cases h; have hx := hx.dinv
    obtain ⟨a', c, rfl⟩ := hx.list_slice
    obtain ⟨e, hk⟩ := hk
    refine ⟨_, ?_, .d _ _ (.int _ _)⟩
    simp [Builtin.len_, run_underlying hk, goInt]
  · cases h
    cases hx with | own _ _ _ _ _ hq hv hs => ?_
    obtain ⟨a', c, rfl⟩ := hv.list_slice
    obtain ⟨e, hk⟩ := hk
    refine ⟨_, ?_, .d _ _ (.int _ _)⟩
    simp [Builtin.len_, run_underlying hk, goInt]
  · cases h

def fMm (mx : Bool) : AV → AV → Option AV
  | .d (.int k x), .d (.int _ y) => some (.d (.int k (if mx then (if y > x then y else x) else (if y < x then y else x))))
  | _, _ => none

theorem fMm_run {mx : Bool} {x y z : AV} {v u : Value} {at_ : Array TypeId} {ty : TypeId} (hx : AVR G w x v) (hy : AVR G w y u) (h : fMm mx x y = some z) :
    ∃ r, (if mx then Builtin.max_ at_ ty #[v, u] else Builtin.min_ at_ ty #[v, u]).run P w = .ok r w ∧ AVR G w z r := by
  unfold fMm at h; split at h
  · cases h; have hx := hx.dinv; have hy := hy.dinv; cases hx; cases hy
    refine ⟨_, ?_, .d _ _ (.int _ _)⟩
    cases mx <;> simp [Builtin.max_, Builtin.min_, Builtin.max2, Builtin.min2]
  · cases h

end Go.Av
