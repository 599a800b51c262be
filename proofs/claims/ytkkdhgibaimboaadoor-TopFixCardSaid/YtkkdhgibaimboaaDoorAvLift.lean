/- The program's operations are read off into operations over abstract states: the ones that only reckon. -/
import Derived.Test.YtkkdhgibaimboaaDoorAvBuild
import Derived.Test.YtkkdhgibaimboaaDoorAvEq
namespace Go.Av

/-- Operations that only reckon. -/
inductive LV where
  | cp (x : LX)
  | pick (c a b : LX)
  | bin (op : BinOp) (x y : LX)
  | eqB (neg : Bool) (x y : LX)
  | eqN (kind : Nat) (neg : Bool) (x : LX)
  | eqS (neg : Bool) (ks : List Nat) (x y : LX)
  | not (x : LX)
  | neg (x : LX)
  | cvI (k : IntKind) (x : LX)
  | i2s (x : LX)
  | b2s (x : LX)
  | idxS (x i : LX)
  | subS (x : LX) (lo hi : Option LX)
  | len (str : Bool) (x : LX)
  | mm (mx : Bool) (x y : LX)
  | fa (off : Nat) (x : LX)
  | ia (sz : Nat) (x i : LX)
  | iaA (len sz : Nat) (x i : LX)
  | ld (agg : Bool) (m : Nat) (x : LX)
  | sub (sz : Nat) (x : LX) (lo hi : Option LX)
  | fld (agg : Bool) (m off : Nat) (x : LX)
  | bld (places : List (Nat × Nat)) (zero : List D) (parts : List (Nat × LX))
  | mkI (t : TypeId) (x : LX)
  | asT (t : TypeId) (zero : D) (x : LX)
  | ext (i : Nat) (x : LX)
  | nck (x : LX)
  | mkF (f : Fn) (first cap : List LX)
  deriving Inhabited

def fPick : AV → AV → AV → Option AV
  | .d (.bool t), a, b => some (if t then a else b)
  | _, _, _ => none

def okN : Nat → AV → Bool
  | 0, .d .nil => true
  | 0, .d (.iface _ _) => true
  | 1, .d .nilp => true
  | 1, .ptr _ _ => true
  | 1, .dptr _ => true
  | 2, .d .nilf => true
  | 2, .fn _ _ _ => true
  | _, _ => false

def fEqN (kind : Nat) (neg : Bool) (x : AV) : Option AV := if okN kind x then fNil neg x else none

def fLenK (str : Bool) : AV → Option AV
  | .d (.str s) => if str then fLen (.d (.str s)) else none
  | x => if str then none else fLen x

def evO (σ : St) : Option LX → Option AV
  | none => none
  | some x => some (σ.ev x)

def evL (σ : St) : List LX → List AV
  | [] => []
  | x :: r => σ.ev x :: evL σ r

def evP (σ : St) : List (Nat × LX) → List (Nat × AV)
  | [] => []
  | (i, x) :: r => (i, σ.ev x) :: evP σ r

def allSimple : List AV → Bool
  | [] => true
  | x :: r => x.simple && allSimple r

def fMkF (f : Fn) (a b : List AV) : Option AV := if allSimple a && allSimple b then some (.fn f a b) else none

def fB (o : Option D) : Option AV := o.map .d

/-- The value of an operation that only reckons. -/
def pev (σ : St) : LV → Option AV
  | .cp x => some (σ.ev x)
  | .pick c a b => fPick (σ.ev c) (σ.ev a) (σ.ev b)
  | .bin op x y => fB (binD op (σ.ev x) (σ.ev y))
  | .eqB neg x y => fEqB neg (σ.ev x) (σ.ev y)
  | .eqN kind neg x => fEqN kind neg (σ.ev x)
  | .eqS neg ks x y => fEqS neg ks (σ.ev x) (σ.ev y)
  | .not x => fNot (σ.ev x)
  | .neg x => fNeg (σ.ev x)
  | .cvI k x => fCvI k (σ.ev x)
  | .i2s x => fI2s (σ.ev x)
  | .b2s x => fB2s (σ.ev x)
  | .idxS x i => fIdxS (σ.ev x) (σ.ev i)
  | .subS x lo hi => fSubS (σ.ev x) (evO σ lo) (evO σ hi)
  | .len str x => fLenK str (σ.ev x)
  | .mm mx x y => fMm mx (σ.ev x) (σ.ev y)
  | .fa off x => fFa off (σ.ev x)
  | .ia sz x i => fIa sz (σ.ev x) (σ.ev i)
  | .iaA len sz x i => fIaA len sz (σ.ev x) (σ.ev i)
  | .ld agg m x => fLd σ agg m (σ.ev x)
  | .sub sz x lo hi => fSub sz (σ.ev x) (evO σ lo) (evO σ hi)
  | .fld agg m off x => fFld agg m off (σ.ev x)
  | .bld places zero parts => fB ((fillD places zero (evP σ parts)).map .agg)
  | .mkI t x => fMkI t (σ.ev x)
  | .asT t zero x => fAsT t zero (σ.ev x)
  | .ext i x => fExt i (σ.ev x)
  | .nck x => fNck (σ.ev x)
  | .mkF f a b => fMkF f (evL σ a) (evL σ b)

/-! ### Reading off -/
def liftL : List Operand → Option (List LX)
  | [] => some []
  | o :: r => match liftX o, liftL r with
    | some x, some l => some (x :: l)
    | _, _ => none

def liftP : List (Nat × Operand) → Option (List (Nat × LX))
  | [] => some []
  | (i, o) :: r => match liftX o, liftP r with
    | some x, some l => some ((i, x) :: l)
    | _, _ => none

def liftO : Option Operand → Option (Option LX)
  | none => some none
  | some o => (liftX o).map some

def negOf : BinOp → Option Bool
  | .eql => some false
  | .neq => some true
  | _ => none

def Program.sz (P : Program) (t : TypeId) : Option Nat := (P.info? t).map (·.size)

def isU8 : Option TypeDesc → Bool
  | some (.int .u8) => true
  | _ => false

def lift1 (o : Operand) (g : LX → LV) : Option LV := (liftX o).map g
def lift2 (o p : Operand) (g : LX → LX → LV) : Option LV :=
  match liftX o, liftX p with
  | some x, some y => some (g x y)
  | _, _ => none

def liftBin (P : Program) (op : BinOp) (t : TypeId) (x y : Operand) : Option LV :=
  match P.underlying t with
  | some (.int _) => lift2 x y (.bin op)
  | some .string => lift2 x y (.bin op)
  | some .bool => match negOf op with
    | some neg => lift2 x y (.eqB neg)
    | none => none
  | some (.interface _) => match negOf op, y with
    | some neg, .const .nilIface => lift1 x (.eqN 0 neg)
    | _, _ => none
  | some (.pointer _) => match negOf op, y with
    | some neg, .const (.pointer none) => lift1 x (.eqN 1 neg)
    | _, _ => none
  | some (.func _ _ _) => match negOf op, y with
    | some neg, .const .nilFunc => lift1 x (.eqN 2 neg)
    | _, _ => none
  | some (.struct fs) => match negOf op, kindsOf P 0 fs.toList with
    | some neg, some ks => if !P.stoodInHeld t && !P.eqGuardType P.depth t then lift2 x y (.eqS neg ks) else none
    | _, _ => none
  | _ => none

def liftCv (P : Program) (s t : TypeId) (x : Operand) : Option LV :=
  match P.underlying s, P.underlying t with
  | some (.int _), some (.int k) => lift1 x (.cvI k)
  | some (.int _), some .string => lift1 x .i2s
  | some (.slice e), some .string => if isU8 (P.underlying e) then lift1 x .b2s else none
  | _, _ => none

def liftSlice (P : Program) (t : TypeId) (x : Operand) (lo hi : Option Operand) : Option LV :=
  match P.underlying t, liftX x, liftO lo, liftO hi with
  | some .string, some x, some lo, some hi => some (.subS x lo hi)
  | some (.slice e), some x, some lo, some hi => (Program.sz P e).map fun sz => .sub sz x lo hi
  | _, _, _, _ => none

def liftIa (P : Program) (t : TypeId) (x i : Operand) : Option LV :=
  match P.underlying t with
  | some (.slice e) => match Program.sz P e with
    | some sz => lift2 x i (.ia sz)
    | none => none
  | some (.array len e) => match Program.sz P e with
    | some sz => lift2 x i (.iaA len sz)
    | none => none
  | _ => none

def liftFa (P : Program) (t : TypeId) (x : Operand) (i : Nat) : Option LV :=
  match P.underlying t with
  | some (.struct fs) => match fs[i]? with
    | some f => if P.cellsOf f.type ≠ 0 then lift1 x (.fa f.offset) else none
    | none => none
  | _ => none

def liftFld (P : Program) (t : TypeId) (x : Operand) (i : Nat) : Option LV :=
  match P.underlying t with
  | some (.struct fs) => match fs[i]? with
    | some f => match P.underlying f.type, Program.sz P f.type with
      | some d, some m => lift1 x (.fld (aggT d) m f.offset)
      | _, _ => none
    | none => none
  | _ => none

def liftLd (P : Program) (t : TypeId) (x : Operand) : Option LV :=
  match P.underlying t, Program.sz P t with
  | some d, some m => lift1 x (.ld (aggT d) m)
  | _, _ => none

def allLt (m : Nat) : List (Nat × LX) → Bool
  | [] => true
  | (i, _) :: r => decide (i < m) && allLt m r

def isStruct : Option TypeDesc → Bool
  | some (.struct _) => true
  | _ => false

def liftBld (P : Program) (t : TypeId) (parts : List (Nat × Operand)) : Option LV :=
  match Program.placesOf P t parts.length, Program.zeroOf P t, liftP parts with
  | some places, some (.agg zero), some l => if allLt parts.length l || isStruct (P.underlying t) then some (.bld places zero l) else none
  | _, _, _ => none

def liftAs (P : Program) (x : Operand) (t : TypeId) : Option LV :=
  match P.underlying t, (P.info? t).bind (·.zero) with
  | some (.interface _), _ => none
  | some _, some zv => match cst zv with
    | some zero => lift1 x (.asT t zero)
    | none => none
  | _, _ => none

def liftLen (P : Program) (t : TypeId) (x : Operand) : Option LV :=
  match P.underlying t with
  | some .string => lift1 x (.len true)
  | some (.slice _) => lift1 x (.len false)
  | _ => none

def liftBuiltin (P : Program) (b : Builtin) (args : List Operand) (ts : List TypeId) : Option LV :=
  match b, args, ts with
  | .len, [x], [t] => liftLen P t x
  | .min, [x, y], _ => lift2 x y (.mm false)
  | .max, [x, y], _ => lift2 x y (.mm true)
  | _, _, _ => none

def liftV (P : Program) : Op → Option LV
  | .move x => lift1 x .cp
  | .pick c a b => match liftX c, liftX a, liftX b with
    | some c, some a, some b => some (.pick c a b)
    | _, _, _ => none
  | .binOp op t x y _ => liftBin P op t x y
  | .unOp .not _ x => lift1 x .not
  | .unOp .neg _ x => lift1 x .neg
  | .convert s t x => liftCv P s t x
  | .index t x i => match P.underlying t with
    | some .string => lift2 x i .idxS
    | _ => none
  | .slice t x lo hi none => liftSlice P t x lo hi
  | .fieldAddr t x i => liftFa P t x i
  | .field t x i => liftFld P t x i
  | .indexAddr t x i => liftIa P t x i
  | .load t x => liftLd P t x
  | .build t parts => liftBld P t parts.toList
  | .makeInterface t x => if P.concrete t then lift1 x (.mkI t) else none
  | .typeAssert x _ t true => liftAs P x t
  | .extract x i => lift1 x (.ext i)
  | .nilCheck x => lift1 x .nck
  | .makeFunc f a b => match liftL a.toList, liftL b.toList with
    | some a, some b => some (.mkF f a b)
    | _, _ => none
  | .call { callee := .builtin b, args, argTypes } => liftBuiltin P b args.toList argTypes.toList
  | _ => none

variable {E : Entry} {n : Nat} {G : Ghost} {σ : St} {a : Act} {w : World} {P : Program}

/-! ### It is sound -/
theorem lift1_inv {o : Operand} {g : LX → LV} {v : LV} (h : lift1 o g = some v) : ∃ x, liftX o = some x ∧ v = g x := by
  unfold lift1 at h
  cases hx : liftX o with
  | none => simp [hx] at h
  | some x => simp [hx] at h; exact ⟨x, rfl, h.symm⟩

theorem lift2_inv {o p : Operand} {g : LX → LX → LV} {v : LV} (h : lift2 o p g = some v) : ∃ x y, liftX o = some x ∧ liftX p = some y ∧ v = g x y := by
  unfold lift2 at h
  split at h
  · rename_i x y hx hy; cases h; exact ⟨x, y, hx, hy, rfl⟩
  · cases h

theorem liftO_rel (h : SR E n G σ a.tmps w) {o : Option Operand} {x : Option LX} (hx : liftO o = some x) : OptR G w (evO σ x) (o.map a.eval) := by
  cases o with
  | none => simp [liftO] at hx; subst hx; trivial
  | some o =>
    simp only [liftO] at hx
    cases hy : liftX o with
    | none => simp [hy] at hx
    | some y => simp [hy] at hx; subst hx; exact h.ev hy

theorem liftL_rel (h : SR E n G σ a.tmps w) : ∀ {os : List Operand} {l : List LX}, liftL os = some l → os.length = (evL σ l).length ∧ ∀ (i : Nat) (x : AV), (evL σ l)[i]? = some x → AVR G w x ((os.map a.eval).getD i undef)
  | [], l, hl => by simp [liftL] at hl; subst hl; exact ⟨rfl, fun _ _ h => by simp [evL] at h⟩
  | o :: os, l, hl => by
    simp only [liftL] at hl
    split at hl
    · rename_i x r hx hr
      cases hl
      obtain ⟨h1, h2⟩ := liftL_rel h hr
      refine ⟨by simp [evL, h1], fun i y hy => ?_⟩
      cases i with
      | zero => simp [evL] at hy; subst hy; simpa using h.ev hx
      | succ i => simp [evL] at hy; simpa using h2 i y hy
    · cases hl

theorem liftP_rel (h : SR E n G σ a.tmps w) : ∀ {os : List (Nat × Operand)} {l : List (Nat × LX)}, liftP os = some l → (os.map fun p => (p.1, a.eval p.2)).map (·.1) = (evP σ l).map (·.1) ∧
    ∀ (i : Nat) (p : Nat × AV) (q : Nat × Value), (evP σ l)[i]? = some p → (os.map fun p => (p.1, a.eval p.2))[i]? = some q → AVR G w p.2 q.2
  | [], l, hl => by simp [liftP] at hl; subst hl; exact ⟨rfl, fun _ _ _ h => by simp [evP] at h⟩
  | (k, o) :: os, l, hl => by
    simp only [liftP] at hl
    split at hl
    · rename_i x r hx hr
      cases hl
      obtain ⟨h1, h2⟩ := liftP_rel h hr
      refine ⟨by simp [evP]; simpa using h1, fun i p q hp hq => ?_⟩
      cases i with
      | zero => simp [evP] at hp hq; subst hp; subst hq; exact h.ev hx
      | succ i => simp [evP] at hp hq; exact h2 i p q hp (by simpa using hq)
    · cases hl

theorem fB_inv {o : Option D} {z : AV} (h : fB o = some z) : ∃ x, o = some x ∧ z = .d x := by
  unfold fB at h
  cases o with
  | none => simp at h
  | some x => simp at h; exact ⟨x, rfl, h.symm⟩

theorem allSimple_iff {l : List AV} : allSimple l = true ↔ ∀ x ∈ l, x.simple = true := by
  induction l with
  | nil => simp [allSimple]
  | cons x r ih => simp [allSimple, ih]

theorem eqGuard_run {op : BinOp} {t : TypeId} {x y : Operand} {u v : Value} (h : (∀ cs ds, ¬ (u = .agg cs ∧ v = .agg ds))) (hn : u = .nilIface → v = .nilIface → (∃ k, x = .const k) ∨ ∃ k, y = .const k) : (eqGuard op t x y u v).run P w = .ok () w := by
  unfold eqGuard
  refine iteInduction (motive := fun s => Sem.run P s w = .ok () w) (fun _ => rfl) (fun _ => ?_)
  split
  · rcases hn rfl rfl with ⟨k, rfl⟩ | ⟨k, rfl⟩ <;> simp
  · exact absurd ⟨rfl, rfl⟩ (h _ _)
  · rfl

/-- The value that an operation yields, the world as it is. -/
def Yields (P : Program) (a : Act) (G : Ghost) (w : World) (o : Oper) (z : AV) : Prop := ∃ r, (execOp a.eval o).run P w = .ok (.value r) w ∧ AVR G w z r

theorem Yields.mk {o : Oper} {z : AV} {s : Sem Value} (he : execOp a.eval o = (do pure (.value (← s)))) (h : ∃ r, s.run P w = .ok r w ∧ AVR G w z r) : Yields P a G w o z := by
  obtain ⟨r, h1, h2⟩ := h
  exact ⟨r, by rw [he]; simp [h1], h2⟩

theorem size_of_sz {t : TypeId} {m : Nat} (h : Program.sz P t = some m) : (P.info? t).map (·.size) = some m := h

theorem binD_left {op : BinOp} {x y : AV} {d : D} {v : Value} (h : binD op x y = some d) (hx : AVR G w x v) : (∀ cs, v ≠ .agg cs) ∧ v ≠ .nilIface := by
  unfold binD at h; split at h
  · have := hx.dinv; cases this; exact ⟨fun _ => by simp, by simp⟩
  · have := hx.dinv; cases this; exact ⟨fun _ => by simp, by simp⟩
  · cases h

theorem fEqB_left {neg : Bool} {x y z : AV} {v : Value} (h : fEqB neg x y = some z) (hx : AVR G w x v) : (∀ cs, v ≠ .agg cs) ∧ v ≠ .nilIface := by
  unfold fEqB at h; split at h
  · have := hx.dinv; cases this; exact ⟨fun _ => by simp, by simp⟩
  · cases h

theorem okN_fits {k : Nat} {x : AV} {d : TypeDesc} (h : okN k x = true) (hd : (k = 0 ∧ ∃ ms, d = .interface ms) ∨ (k = 1 ∧ ∃ e, d = .pointer e) ∨ (k = 2 ∧ ∃ p r b, d = .func p r b)) : nilFits d x = true := by
  rcases hd with ⟨rfl, ms, rfl⟩ | ⟨rfl, e, rfl⟩ | ⟨rfl, p, r, b, rfl⟩ <;> unfold okN at h <;> split at h <;> first | (exfalso; omega) | rfl | cases h

theorem liftBin_sound (hσ : SR E n G σ a.tmps w) {o : Oper} {op : BinOp} {t yt : TypeId} {x y : Operand} {v : LV} {z : AV} (ho : o.op = .binOp op t x y yt) (hl : liftBin P op t x y = some v) (h : pev σ v = some z) : Yields P a G w o z := by
  have he : execOp a.eval o = (do pure (.value (← (do eqGuard op t x y (a.eval x) (a.eval y); binOp op t (a.eval x) (a.eval y))))) := by simp only [execOp, ho]
  refine Yields.mk he ?_
  have fin : (∃ r, (binOp op t (a.eval x) (a.eval y)).run P w = .ok r w ∧ AVR G w z r) → (∀ cs ds, ¬ (a.eval x = .agg cs ∧ a.eval y = .agg ds)) → (a.eval x = .nilIface → a.eval y = .nilIface → (∃ k, x = .const k) ∨ ∃ k, y = .const k) →
      ∃ r, (do eqGuard op t x y (a.eval x) (a.eval y); binOp op t (a.eval x) (a.eval y) : Sem Value).run P w = .ok r w ∧ AVR G w z r := fun ⟨r, h1, h2⟩ g1 g2 => ⟨r, by simp [eqGuard_run g1 g2, h1], h2⟩
  unfold liftBin at hl
  split at hl
  · obtain ⟨x', y', hx, hy, rfl⟩ := lift2_inv hl
    have rx := hσ.ev hx; have ry := hσ.ev hy
    obtain ⟨d, hd, rfl⟩ := fB_inv h
    obtain ⟨r, h1, h2⟩ := binD_run (P := P) (t := t) rx ry hd
    exact fin ⟨r, h1, .d _ _ h2⟩ (fun cs ds ⟨e1, _⟩ => (binD_left hd rx).1 cs e1) (fun e1 _ => absurd e1 (binD_left hd rx).2)
  · obtain ⟨x', y', hx, hy, rfl⟩ := lift2_inv hl
    have rx := hσ.ev hx; have ry := hσ.ev hy
    obtain ⟨d, hd, rfl⟩ := fB_inv h
    obtain ⟨r, h1, h2⟩ := binD_run (P := P) (t := t) rx ry hd
    exact fin ⟨r, h1, .d _ _ h2⟩ (fun cs ds ⟨e1, _⟩ => (binD_left hd rx).1 cs e1) (fun e1 _ => absurd e1 (binD_left hd rx).2)
  · rename_i ht
    split at hl
    · rename_i neg hn
      obtain ⟨x', y', hx, hy, rfl⟩ := lift2_inv hl
      have rx := hσ.ev hx; have ry := hσ.ev hy
      have hop : op = eqOp neg := by cases op <;> simp [negOf] at hn <;> subst hn <;> rfl
      subst hop
      have h' : fEqB neg (σ.ev x') (σ.ev y') = some z := h
      exact fin (fEqB_run ht rx ry h') (fun cs ds ⟨e1, _⟩ => (fEqB_left h' rx).1 cs e1) (fun e1 _ => absurd e1 (fEqB_left h' rx).2)
    · cases hl
  · rename_i ms ht
    split at hl
    · rename_i neg hn
      obtain ⟨x', hx, rfl⟩ := lift1_inv hl
      have rx := hσ.ev hx
      have hop : op = eqOp neg := by cases op <;> simp [negOf] at hn <;> subst hn <;> rfl
      subst hop
      simp only [pev, fEqN] at h
      split at h
      · rename_i hk
        exact fin (fNil_run ht rfl rx h (okN_fits hk (.inl ⟨rfl, _, rfl⟩))) (fun cs ds ⟨_, e2⟩ => by cases e2) (fun _ _ => .inr ⟨_, rfl⟩)
      · cases h
    · cases hl
  · rename_i el ht
    split at hl
    · rename_i neg hn
      obtain ⟨x', hx, rfl⟩ := lift1_inv hl
      have rx := hσ.ev hx
      have hop : op = eqOp neg := by cases op <;> simp [negOf] at hn <;> subst hn <;> rfl
      subst hop
      simp only [pev, fEqN] at h
      split at h
      · rename_i hk
        exact fin (fNil_run ht rfl rx h (okN_fits hk (.inr (.inl ⟨rfl, _, rfl⟩)))) (fun cs ds ⟨_, e2⟩ => by cases e2) (fun _ e2 => by cases e2)
      · cases h
    · cases hl
  · rename_i p r b ht
    split at hl
    · rename_i neg hn
      obtain ⟨x', hx, rfl⟩ := lift1_inv hl
      have rx := hσ.ev hx
      have hop : op = eqOp neg := by cases op <;> simp [negOf] at hn <;> subst hn <;> rfl
      subst hop
      simp only [pev, fEqN] at h
      split at h
      · rename_i hk
        exact fin (fNil_run ht rfl rx h (okN_fits hk (.inr (.inr ⟨rfl, _, _, _, rfl⟩)))) (fun cs ds ⟨_, e2⟩ => by cases e2) (fun _ e2 => by cases e2)
      · cases h
    · cases hl
  · rename_i fs ht
    have hfs : P.fieldsOf t = fs := by simp [Program.fieldsOf, ht]
    split at hl
    · rename_i neg ks hn hks
      split at hl
      · rename_i hc
        simp only [Bool.and_eq_true, Bool.not_eq_true'] at hc
        obtain ⟨x', y', hx, hy, rfl⟩ := lift2_inv hl
        have rx := hσ.ev hx; have ry := hσ.ev hy
        have hop : op = eqOp neg := by cases op <;> simp [negOf] at hn <;> subst hn <;> rfl
        subst hop
        have h' : fEqS neg ks (σ.ev x') (σ.ev y') = some z := h
        obtain ⟨r, h1, h2⟩ := fEqS_run (P := P) (t := t) (by rw [hfs]; exact ht) hc.1 (by rw [hfs]; exact hks) rx ry h'
        obtain ⟨xs, ys, e1, e2⟩ : ∃ xs ys, a.eval x = .agg xs ∧ a.eval y = .agg ys := by
          unfold fEqS at h'
          split at h'
          · rename_i xs ys h3 h4
            rw [h3] at rx; rw [h4] at ry
            have rx := rx.dinv; have ry := ry.dinv
            generalize a.eval x = u at rx
            generalize a.eval y = v at ry
            cases rx; cases ry; exact ⟨_, _, rfl, rfl⟩
          · cases h'
        rw [e1, e2] at h1 ⊢
        exact ⟨r, by simp [run_eqGuard_agg w (eqOp neg) t x y xs ys hc.2, h1], h2⟩
      · cases hl
    · cases hl
  · cases hl

end Go.Av
