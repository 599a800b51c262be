/- Abstract states: what slots and local objects hold, and when a frame in a world stands for an abstract state. -/
import Derived.Test.YtkkdhgibaimboaaDoorAvCore
namespace Go.Av

/-- A mutable object: a local one (by the slot that made it) or one that came in. -/
inductive Ref where
  | l (s : Nat)
  | x (r : Nat)
  deriving DecidableEq, Inhabited

/-- Who may append to a row in place: a slot, or a cell of an object. -/
inductive Lab where
  | t (s : Nat)
  | c (r : Ref) (off : Nat)
  deriving DecidableEq, Inhabited

/-- What a slot or a cell holds. 'own': a slice that may be appended to (its elements' type, their cells, the elements). 'dptr': the address of immutable cells. -/
inductive AV where
  | d (x : D)
  | own (q : Lab) (e sz : Nat) (l : List D)
  | ptr (r : Ref) (off : Nat)
  | dptr (cs : List D)
  | tuple (vs : List AV)
  | fn (f : Fn) (first cap : List AV)
  | junk
  deriving Inhabited

/-- Parts of a tuple, what a closure holds. -/
def AV.simple : AV → Bool
  | .d _ | .ptr _ _ | .dptr _ | .junk => true
  | _ => false

structure Ghost where
  f : Nat → Nat
  b : Ref → Nat
  lam : Lab → Option (Value × Nat × Nat)

inductive AVR (G : Ghost) (w : World) : AV → Value → Prop
  | d (x v) (h : RD G.f w x v) : AVR G w (.d x) v
  | own (q e sz l v) (hq : G.lam q = some (v, e, sz)) (hv : RD G.f w (.list l) v) (hs : ∀ y ∈ l, y.cells.length = sz) : AVR G w (.own q e sz l) v
  | ptr (r off) : AVR G w (.ptr r off) (.pointer (some (at_ (G.b r) off)))
  | dptr (cs : List D) (b o : Nat) (vs : Nat → Value) (hb : o + cs.length ≤ G.f b) (hc : ∀ k, k < cs.length → w.cell? (at_ b (o + k)) = some (vs k))
      (hr : ∀ j y, cs[j]? = some y → y.one = true ∧ RD G.f w y (vs j)) : AVR G w (.dptr cs) (.pointer (some (at_ b o)))
  | tuple (xs : List AV) (vs : Array Value) (hl : vs.size = xs.length) (hs : ∀ x ∈ xs, x.simple = true) (h : ∀ i x, xs[i]? = some x → AVR G w x (vs.getD i undef)) :
      AVR G w (.tuple xs) (.tuple vs)
  | fn (f : Fn) (xs ys : List AV) (us vs : Array Value) (hl : us.size = xs.length) (hs : ∀ x ∈ xs, x.simple = true) (h : ∀ i x, xs[i]? = some x → AVR G w x (us.getD i undef))
      (hl' : vs.size = ys.length) (hs' : ∀ x ∈ ys, x.simple = true) (h' : ∀ i x, ys[i]? = some x → AVR G w x (vs.getD i undef)) :
      AVR G w (.fn f xs ys) (.func f us vs)
  | junk (v) : AVR G w .junk v

/-- The one label of a slot's content, the objects to which it points. -/
def AV.lab? : AV → Option Lab
  | .own q _ _ _ => some q
  | _ => none

def AV.isPtr (r : Ref) : AV → Bool
  | .ptr r' _ => r' == r
  | _ => false

def AV.has (r : Ref) : AV → Bool
  | .ptr r' _ => r' == r
  | .tuple vs => vs.any (AV.isPtr r)
  | .fn _ a b => a.any (AV.isPtr r) || b.any (AV.isPtr r)
  | _ => false

theorem AV.has_of_simple {r : Ref} {x : AV} (h : x.simple = true) : x.has r = x.isPtr r := by
  cases x <;> simp_all [AV.simple, AV.has, AV.isPtr]

theorem AV.lab_of_simple {x : AV} (h : x.simple = true) : x.lab? = none := by
  cases x <;> simp_all [AV.simple, AV.lab?]

theorem AVR.mono {G G' : Ghost} {w w' : World} (hx : Ext G.f w G'.f w') {x : AV} {v : Value} (h : AVR G w x v)
    (hb : ∀ r, x.has r = true → G'.b r = G.b r) (hl : ∀ q p, x.lab? = some q → G.lam q = some p → G'.lam q = some p) : AVR G' w' x v := by
  induction h with
  | d x v h => exact .d x v (h.ext hx)
  | own q e sz l v hq hv hs => exact .own q e sz l v (hl q _ rfl hq) (hv.ext hx) hs
  | ptr r off => have := hb r (by simp [AV.has]); rw [← this]; exact .ptr r off
  | dptr cs b o vs hbb hc hr =>
    exact .dptr cs b o vs (Nat.le_trans hbb (hx.mono b)) (fun k hk => (hx.keep b (o + k) (by omega)).trans (hc k hk)) (fun j y hj => ⟨(hr j y hj).1, (hr j y hj).2.ext hx⟩)
  | tuple xs vs hlen hs h ih =>
    refine .tuple xs vs hlen hs fun i x hi => ih i x hi (fun r hr => hb r ?_) (fun q p hq _ => ?_)
    · have hm := List.mem_of_getElem? hi
      rw [AV.has_of_simple (hs x hm)] at hr
      exact List.any_eq_true.2 ⟨x, hm, hr⟩
    · rw [AV.lab_of_simple (hs x (List.mem_of_getElem? hi))] at hq; cases hq
  | fn f xs ys us vs hl1 hs1 h1 hl2 hs2 h2 ih1 ih2 =>
    refine .fn f xs ys us vs hl1 hs1 (fun i x hi => ih1 i x hi (fun r hr => hb r ?_) (fun q p hq _ => ?_)) hl2 hs2 (fun i x hi => ih2 i x hi (fun r hr => hb r ?_) (fun q p hq _ => ?_))
    · have hm := List.mem_of_getElem? hi
      rw [AV.has_of_simple (hs1 x hm)] at hr
      simp only [AV.has, Bool.or_eq_true, List.any_eq_true]
      exact .inl ⟨x, hm, hr⟩
    · rw [AV.lab_of_simple (hs1 x (List.mem_of_getElem? hi))] at hq; cases hq
    · have hm := List.mem_of_getElem? hi
      rw [AV.has_of_simple (hs2 x hm)] at hr
      simp only [AV.has, Bool.or_eq_true, List.any_eq_true]
      exact .inr ⟨x, hm, hr⟩
    · rw [AV.lab_of_simple (hs2 x (List.mem_of_getElem? hi))] at hq; cases hq
  | junk v => exact .junk v

/-! ### Keyed lists -/
def aget {α : Type} : List (Nat × α) → Nat → Option α
  | [], _ => none
  | (k, v) :: r, s => if k = s then some v else aget r s

def aset {α : Type} : List (Nat × α) → Nat → α → List (Nat × α)
  | [], s, x => [(s, x)]
  | (k, v) :: r, s, x => if k = s then (k, x) :: r else (k, v) :: aset r s x

def adel {α : Type} : List (Nat × α) → Nat → List (Nat × α)
  | [], _ => []
  | (k, v) :: r, s => if k = s then adel r s else (k, v) :: adel r s

def amap {α : Type} (g : α → α) : List (Nat × α) → List (Nat × α)
  | [] => []
  | (k, v) :: r => (k, g v) :: amap g r

theorem aget_aset {α : Type} (l : List (Nat × α)) (s t : Nat) (x : α) : aget (aset l s x) t = if s = t then some x else aget l t := by
  induction l with
  | nil => simp [aset, aget]
  | cons p r ih =>
    obtain ⟨k, v⟩ := p
    simp only [aset]
    split
    · rename_i h; subst h; simp [aget]; split <;> rfl
    · rename_i h
      simp only [aget, ih]
      split
      · rename_i h'; subst h'; rw [if_neg (fun e => h e.symm)]
      · rfl

theorem aget_adel {α : Type} (l : List (Nat × α)) (s t : Nat) : aget (adel l s) t = if s = t then none else aget l t := by
  induction l with
  | nil => simp [adel, aget]
  | cons p r ih =>
    obtain ⟨k, v⟩ := p
    simp only [adel]
    split
    · rename_i h; subst h; rw [ih]; simp only [aget]; split <;> rfl
    · rename_i h
      simp only [aget, ih]
      split
      · rename_i h'; subst h'; rw [if_neg (fun e => h e.symm)]
      · rfl

theorem aget_amap {α : Type} (g : α → α) (l : List (Nat × α)) (s : Nat) : aget (amap g l) s = (aget l s).map g := by
  induction l with
  | nil => rfl
  | cons p r ih => obtain ⟨k, v⟩ := p; simp only [amap, aget, ih]; split <;> simp

/-! ### States -/
inductive AObj where
  | cells (cs : List AV)
  | siter (s : List UInt8) (pos : Nat)
  deriving Inhabited

structure St where
  ρ : List (Nat × AV)
  L : List (Nat × AObj)
  H : Nat → Option AObj

def St.obj (σ : St) : Ref → Option AObj
  | .l s => aget σ.L s
  | .x r => σ.H r

def St.get (σ : St) (s : Nat) : AV := (aget σ.ρ s).getD .junk

/-- A slot's new content stands ahead of the old one. -/
def acons {α : Type} (l : List (Nat × α)) (s : Nat) (x : α) : List (Nat × α) := (s, x) :: l

theorem aget_acons {α : Type} (l : List (Nat × α)) (s t : Nat) (x : α) : aget (acons l s x) t = if s = t then some x else aget l t := rfl

def St.put (σ : St) (s : Nat) (x : AV) : St := { σ with ρ := acons σ.ρ s x }

/-- The same, in its place. -/
def St.mark (σ : St) (s : Nat) (x : AV) : St := { σ with ρ := aset σ.ρ s x }

def St.setObj (σ : St) (r : Ref) (o : AObj) : St :=
  match r with
  | .l s => { σ with L := aset σ.L s o }
  | .x k => { σ with H := fun j => if j = k then some o else σ.H j }

theorem St.obj_setObj (σ : St) (r r' : Ref) (o : AObj) : (σ.setObj r o).obj r' = if r = r' then some o else σ.obj r' := by
  cases r <;> cases r' <;> simp [St.setObj, St.obj, aget_aset]
  rename_i a b
  by_cases h : a = b
  · subst h; simp
  · rw [if_neg (fun e => h e.symm), if_neg h]

@[simp] theorem St.obj_put (σ : St) (s : Nat) (x : AV) (r : Ref) : (σ.put s x).obj r = σ.obj r := by cases r <;> rfl

def CellR (G : Ghost) (w : World) (r : Ref) (i : Nat) (x : AV) (v : Value) : Prop :=
  AVR G w x v ∧ v.oneCell' = true ∧ ∀ q, x.lab? = some q → q = .c r i

def ObjR (G : Ghost) (w : World) (r : Ref) : AObj → Prop
  | .cells cs => ∃ arr el, w.heap[G.b r]? = some (.cells arr el (0, 0)) ∧ arr.size = cs.length ∧ ∀ i x, cs[i]? = some x → CellR G w r i x (arr.getD i undef)
  | .siter s pos => w.heap[G.b r]? = some (.stringIter ⟨s.toArray⟩ pos)

def OwnOK (f : Nat → Nat) (w : World) (v : Value) (e sz : Nat) : Prop :=
  ∃ n xs, w.ownsRow 0 e sz v n xs ∧ ∀ b, v.ownBlock = some b → f b = n * sz

structure Entry where
  w0 : World
  f0 : Nat → Nat
  M : Nat → Prop
  b0 : Nat → Nat

structure SR (E : Entry) (n : Nat) (G : Ghost) (σ : St) (ts : Array Value) (w : World) : Prop where
  size : ts.size = n
  slot : ∀ s x, aget σ.ρ s = some x → AVR G w x (ts.getD s undef)
  obj : ∀ r o, σ.obj r = some o → ObjR G w r o
  objf : ∀ r o, σ.obj r = some o → G.f (G.b r) = 0
  inj : ∀ r r' o o', σ.obj r = some o → σ.obj r' = some o' → G.b r = G.b r' → r = r'
  lam : ∀ q v e sz, G.lam q = some (v, e, sz) → OwnOK G.f w v e sz
  lamObj : ∀ q v e sz b, G.lam q = some (v, e, sz) → v.ownBlock = some b → ∀ r o, σ.obj r = some o → G.b r ≠ b
  lamInj : ∀ q q' v v' p p' b, G.lam q = some (v, p) → G.lam q' = some (v', p') → v.ownBlock = some b → v'.ownBlock = some b → q = q'
  newObj : ∀ r o, σ.obj r = some o → E.w0.heap.size ≤ G.b r ∨ E.M (G.b r)
  newLam : ∀ q v e sz b, G.lam q = some (v, e, sz) → v.ownBlock = some b → E.w0.heap.size ≤ b ∨ E.M b
  ext : Ext E.f0 E.w0 G.f w
  fr : ∀ b, b < E.w0.heap.size → ¬ E.M b → w.heap[b]? = E.w0.heap[b]? ∧ G.f b = E.f0 b
  top : ∀ b, w.heap.size ≤ b → G.f b = 0
  ext0 : ∀ r, G.b (.x r) = E.b0 r
  own0 : ∀ r cs x s, σ.obj (.x r) = some (.cells cs) → x ∈ cs → x.has (.l s) = false
  os : w.os = E.w0.os
  tape : w.tape = E.w0.tape
  output : w.output = E.w0.output

theorem ObjR.lt {G : Ghost} {w : World} {r : Ref} {o : AObj} (h : ObjR G w r o) : G.b r < w.heap.size := by
  cases o with
  | cells cs => obtain ⟨arr, el, h, _⟩ := h; exact (Array.getElem?_eq_some_iff.1 h).1
  | siter s p => exact (Array.getElem?_eq_some_iff.1 h).1

theorem OwnOK.lt {f : Nat → Nat} {w : World} {v : Value} {e sz b : Nat} (h : OwnOK f w v e sz) (hb : v.ownBlock = some b) : b < w.heap.size := by
  obtain ⟨n, xs, h, _⟩ := h
  exact (h.lt b hb).2

/-- A slot is written. -/
theorem SR.put {E : Entry} {n : Nat} {G : Ghost} {σ : St} {ts : Array Value} {w : World} (h : SR E n G σ ts w) {s : Nat} {x : AV} {v : Value} (hv : AVR G w x v) (hs : s < n) :
    SR E n G (σ.put s x) (ts.setIfInBounds s v) w := by
  refine { h with size := by simp [h.size], slot := ?_, obj := fun r o ho => h.obj r o (by simpa using ho), objf := fun r o ho => h.objf r o (by simpa using ho), inj := fun r r' o o' ho ho' => h.inj r r' o o' (by simpa using ho) (by simpa using ho'), lamObj := fun q v e sz b h1 h2 r o ho => h.lamObj q v e sz b h1 h2 r o (by simpa using ho), newObj := fun r o ho => h.newObj r o (by simpa using ho), own0 := fun r cs x s ho => h.own0 r cs x s (by simpa using ho) }
  intro s' x' hx
  simp only [St.put, aget_acons] at hx
  have hsz := h.size
  by_cases e : s = s'
  · subst e
    simp at hx; subst hx
    simpa [Array.getD_eq_getD_getElem?, Array.getElem?_setIfInBounds_self_of_lt, hsz, hs] using hv
  · rw [if_neg e] at hx
    have := h.slot s' x' hx
    simpa [Array.getD_eq_getD_getElem?, Array.getElem?_setIfInBounds_ne e] using this

/-- An abstract state that knows less. -/
def Sub {α : Type} : List (Nat × α) → List (Nat × α) → Prop
  | [], _ => True
  | (s, x) :: r, l => aget l s = some x ∧ Sub r l

theorem Sub.get {α : Type} {l m : List (Nat × α)} (h : Sub l m) {s : Nat} {x : α} (hx : aget l s = some x) : aget m s = some x := by
  induction l with
  | nil => simp [aget] at hx
  | cons p r ih =>
    obtain ⟨k, v⟩ := p
    simp only [aget] at hx
    split at hx
    · rename_i e; subst e; cases hx; exact h.1
    · exact ih h.2 hx

structure Weak (τ σ : St) : Prop where
  ρ : Sub τ.ρ σ.ρ
  L : Sub τ.L σ.L
  H : ∀ r o, τ.H r = some o → σ.H r = some o

theorem Weak.obj {τ σ : St} (h : Weak τ σ) {r : Ref} {o : AObj} (ho : τ.obj r = some o) : σ.obj r = some o := by
  cases r with
  | l s => exact h.L.get ho
  | x r => exact h.H r o ho

/-- The same, told by what is found. -/
structure Wk (τ σ : St) : Prop where
  ρ : ∀ s x, aget τ.ρ s = some x → aget σ.ρ s = some x
  obj : ∀ r o, τ.obj r = some o → σ.obj r = some o

theorem Weak.wk {τ σ : St} (h : Weak τ σ) : Wk τ σ := ⟨fun _ _ => h.ρ.get, fun _ _ => h.obj⟩
theorem Wk.refl (σ : St) : Wk σ σ := ⟨fun _ _ h => h, fun _ _ h => h⟩

theorem SR.wk {E : Entry} {n : Nat} {G : Ghost} {σ τ : St} {ts : Array Value} {w : World} (h : SR E n G σ ts w) (hw : Wk τ σ) : SR E n G τ ts w :=
  { h with slot := fun s x hx => h.slot s x (hw.ρ s x hx), obj := fun r o ho => h.obj r o (hw.obj r o ho), objf := fun r o ho => h.objf r o (hw.obj r o ho), inj := fun r r' o o' ho ho' => h.inj r r' o o' (hw.obj r o ho) (hw.obj r' o' ho'), lamObj := fun q v e sz b h1 h2 r o ho => h.lamObj q v e sz b h1 h2 r o (hw.obj r o ho), newObj := fun r o ho => h.newObj r o (hw.obj r o ho), own0 := fun r cs x s ho => h.own0 r cs x s (hw.obj _ _ ho) }

theorem SR.weak {E : Entry} {n : Nat} {G : Ghost} {σ τ : St} {ts : Array Value} {w : World} (h : SR E n G σ ts w) (hw : Weak τ σ) : SR E n G τ ts w := h.wk hw.wk

end Go.Av
