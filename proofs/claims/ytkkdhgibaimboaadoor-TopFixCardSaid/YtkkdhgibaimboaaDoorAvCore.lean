/- Abstract data that Go values stand for, and when a value in a world stands for a datum: immutable memory is what lies below a ghost frontier. -/
import Derived.WalkKit
namespace Go.Av

/-- Data: what a value stands for, with no memory in sight. -/
inductive D where
  | bool (b : Bool)
  | int (k : IntKind) (n : Int)
  | str (s : List UInt8)
  | nil
  | iface (t : TypeId) (x : D)
  | agg (cs : List D)
  | list (l : List D)
  | nilp
  | nilf
  deriving Inhabited

def D.cells : D → List D
  | .agg cs => cs
  | x => [x]

def D.one : D → Bool
  | .agg _ => false
  | _ => true

def D.flat (x : D) : Prop := ∀ e ∈ x.cells, e.one = true

/-- The cell number i of a block. -/
def at_ (b i : Nat) : Addr := ⟨b, i, none⟩

/-- In the world w, whose blocks are immutable below the frontier f, the value stands for the datum. -/
inductive RD (f : Nat → Nat) (w : World) : D → Value → Prop
  | bool (b) : RD f w (.bool b) (.bool b)
  | int (k n) : RD f w (.int k n) (.int k n)
  | str (s) : RD f w (.str s) (.string ⟨s.toArray⟩)
  | nil : RD f w .nil .nilIface
  | iface (t x v) (h : RD f w x v) : RD f w (.iface t x) (.iface t v)
  | nilp : RD f w .nilp (.pointer none)
  | nilf : RD f w .nilf .nilFunc
  | agg (cs : List D) (vs : Array Value) (hl : vs.size = cs.length) (ho : ∀ e ∈ cs, e.one = true)
      (h : ∀ i e, cs[i]? = some e → RD f w e (vs.getD i undef)) : RD f w (.agg cs) (.agg vs)
  | nils : RD f w (.list []) (.slice none 0 0)
  | emp (a : Addr) (cap : Nat) : RD f w (.list []) (.slice (some a) 0 cap)
  | list (l : List D) (b o cap sz : Nat) (vs : Nat → Value) (hcap : l.length ≤ cap) (hsz : ∀ e ∈ l, e.cells.length = sz ∧ e.flat)
      (hb : o + l.length * sz ≤ f b) (hc : ∀ k, k < l.length * sz → w.cell? (at_ b (o + k)) = some (vs k))
      (hr : ∀ i e j d, l[i]? = some e → e.cells[j]? = some d → RD f w d (vs (i * sz + j))) :
      RD f w (.list l) (.slice (some (at_ b o)) l.length cap)

/-- The world w' has all that is immutable in w, as it was. -/
structure Ext (f : Nat → Nat) (w : World) (f' : Nat → Nat) (w' : World) : Prop where
  size : w.heap.size ≤ w'.heap.size
  mono : ∀ b, f b ≤ f' b
  keep : ∀ b i, i < f b → w'.cell? (at_ b i) = w.cell? (at_ b i)

theorem Ext.refl (f : Nat → Nat) (w : World) : Ext f w f w := ⟨Nat.le_refl _, fun _ => Nat.le_refl _, fun _ _ _ => rfl⟩

theorem Ext.trans {f f' f'' : Nat → Nat} {w w' w'' : World} (h : Ext f w f' w') (k : Ext f' w' f'' w'') : Ext f w f'' w'' :=
  ⟨Nat.le_trans h.size k.size, fun b => Nat.le_trans (h.mono b) (k.mono b),
    fun b i hi => (k.keep b i (Nat.lt_of_lt_of_le hi (h.mono b))).trans (h.keep b i hi)⟩

theorem RD.ext {f f' : Nat → Nat} {w w' : World} (hx : Ext f w f' w') {x : D} {v : Value} (h : RD f w x v) : RD f' w' x v := by
  induction h with
  | bool b => exact .bool b
  | int k n => exact .int k n
  | str s => exact .str s
  | nil => exact .nil
  | iface t x v _ ih => exact .iface t x v ih
  | nilp => exact .nilp
  | nilf => exact .nilf
  | agg cs vs hl ho _ ih => exact .agg cs vs hl ho ih
  | nils => exact .nils
  | emp a c => exact .emp a c
  | list l b o cap sz vs hcap hsz hb hc _ ih =>
    exact .list l b o cap sz vs hcap hsz (Nat.le_trans hb (hx.mono b)) (fun k hk => (hx.keep b (o + k) (by omega)).trans (hc k hk)) ih

theorem getD_of_getElem? {vs : Array Value} {i : Nat} {v : Value} (h : vs[i]? = some v) (u : Value) : vs.getD i u = v := by
  simp [h]

/-- A value that stands for a datum of one cell is a value of one cell. -/
theorem RD.one {f : Nat → Nat} {w : World} {x : D} {v : Value} (h : RD f w x v) (ho : x.one = true) : v.oneCell' = true ∧ v.cells = #[v] := by
  cases h <;> first | exact ⟨rfl, rfl⟩ | (simp [D.one] at ho)

theorem RD.cells_size {f : Nat → Nat} {w : World} {x : D} {v : Value} (h : RD f w x v) : v.cells.size = x.cells.length := by
  cases h <;> first | rfl | (simp [Value.cells, D.cells]; assumption)

theorem RD.flat {f : Nat → Nat} {w : World} {x : D} {v : Value} (h : RD f w x v) : x.flat := by
  intro e he
  cases h with
  | agg cs vs hl ho _ => exact ho e he
  | _ => simp [D.cells] at he; subst he; rfl

theorem RD.cell {f : Nat → Nat} {w : World} {x : D} {v : Value} (h : RD f w x v) {i : Nat} {e : D} (hi : x.cells[i]? = some e) :
    RD f w e (v.cells.getD i undef) := by
  cases h with
  | agg cs vs hl ho h => exact h i e hi
  | bool b => have : i = 0 := by cases i <;> simp_all [D.cells]
              subst this; simp [D.cells] at hi; subst hi; exact .bool b
  | int k n => have : i = 0 := by cases i <;> simp_all [D.cells]
               subst this; simp [D.cells] at hi; subst hi; exact .int k n
  | str s => have : i = 0 := by cases i <;> simp_all [D.cells]
             subst this; simp [D.cells] at hi; subst hi; exact .str s
  | nil => have : i = 0 := by cases i <;> simp_all [D.cells]
           subst this; simp [D.cells] at hi; subst hi; exact .nil
  | iface t y v h => have : i = 0 := by cases i <;> simp_all [D.cells]
                     subst this; simp [D.cells] at hi; subst hi; exact .iface t y v h
  | nilp => have : i = 0 := by cases i <;> simp_all [D.cells]
            subst this; simp [D.cells] at hi; subst hi; exact .nilp
  | nilf => have : i = 0 := by cases i <;> simp_all [D.cells]
            subst this; simp [D.cells] at hi; subst hi; exact .nilf
  | nils => have : i = 0 := by cases i <;> simp_all [D.cells]
            subst this; simp [D.cells] at hi; subst hi; exact .nils
  | emp a c =>
    have : i = 0 := by cases i <;> simp_all [D.cells]
    subst this; simp [D.cells] at hi; subst hi; exact .emp a c
  | list l b o cap sz vs hcap hsz hb hc hr =>
    have : i = 0 := by cases i <;> simp_all [D.cells]
    subst this; simp [D.cells] at hi; subst hi; exact .list l b o cap sz vs hcap hsz hb hc hr

theorem RD.one_of {f : Nat → Nat} {w : World} {x : D} {v : Value} (h : RD f w x v) (ho : v.oneCell' = true) : x.one = true := by
  cases h <;> first | rfl | (simp [Value.oneCell'] at ho)

end Go.Av
