/- Operations over abstract states: operands, constants, and the operations that only reckon. -/
import Derived.Test.YtkkdhgibaimboaaDoorAvAppend
namespace Go.Av

/-! ### Operands -/
inductive LX where
  | t (s : Nat)
  | k (x : AV)
  deriving Inhabited

def St.ev (σ : St) : LX → AV
  | .t s => σ.get s
  | .k x => x

def cst1 : Value → Option D
  | .bool b => some (.bool b)
  | .int k n => some (.int k n)
  | .string s => some (.str s.data.toList)
  | .nilIface => some .nil
  | .nilFunc => some .nilf
  | .pointer none => some .nilp
  | .slice none 0 0 => some (.list [])
  | _ => none

def cstL : List Value → Option (List D)
  | [] => some []
  | v :: r => match cst1 v, cstL r with
    | some x, some l => some (x :: l)
    | _, _ => none

def cst : Value → Option D
  | .iface t v => (cst1 v).map (.iface t)
  | .agg cs => (cstL cs.toList).map .agg
  | v => cst1 v

theorem cst1_rd {f : Nat → Nat} {w : World} {v : Value} {x : D} (h : cst1 v = some x) : RD f w x v ∧ x.one = true := by
  unfold cst1 at h
  split at h <;> first | (cases h; exact ⟨by constructor, rfl⟩) | (cases h)

theorem cstL_rd {f : Nat → Nat} {w : World} : ∀ {vs : List Value} {l : List D}, cstL vs = some l → vs.length = l.length ∧ (∀ e ∈ l, e.one = true) ∧ ∀ (i : Nat) (e : D), l[i]? = some e → RD f w e (vs.getD i undef)
  | [], l, h => by simp [cstL] at h; subst h; exact ⟨rfl, fun _ h => by simp at h, fun _ _ h => by simp at h⟩
  | v :: vs, l, h => by
    simp only [cstL] at h
    split at h
    · rename_i x r hx hr
      cases h
      obtain ⟨h1, h2, h3⟩ := cstL_rd (f := f) (w := w) hr
      obtain ⟨h4, h5⟩ := cst1_rd (f := f) (w := w) hx
      refine ⟨by simp [h1], fun e he => ?_, fun i e he => ?_⟩
      · rcases List.mem_cons.1 he with rfl | he
        · exact h5
        · exact h2 e he
      · cases i with
        | zero => simp at he; subst he; simpa using h4
        | succ i => simp at he; simpa using h3 i e he
    · cases h

theorem cst_rd {f : Nat → Nat} {w : World} {v : Value} {x : D} (h : cst v = some x) : RD f w x v := by
  unfold cst at h
  split at h
  · rename_i t u
    cases hu : cst1 u with
    | none => simp [hu] at h
    | some y => simp [hu] at h; subst h; exact .iface t y u (cst1_rd hu).1
  · rename_i cs
    cases hl : cstL cs.toList with
    | none => simp [hl] at h
    | some l =>
      simp [hl] at h; subst h
      obtain ⟨h1, h2, h3⟩ := cstL_rd (f := f) (w := w) hl
      exact .agg l cs (by simpa using h1) h2 (fun i e he => by have := h3 i e he; simpa [List.getD_eq_getElem?_getD] using this)
  · exact (cst1_rd h).1

def liftX : Operand → Option LX
  | .tmp t => some (.t t)
  | .const v => (cst v).map fun x => .k (.d x)
  | .func f => some (.k (.fn (.func f) [] []))
  | .global _ => none

variable {E : Entry} {n : Nat} {G : Ghost} {σ : St} {a : Act} {w : World} {P : Program}

theorem SR.get (h : SR E n G σ a.tmps w) (s : Nat) : AVR G w (σ.get s) (a.eval (.tmp s)) := by
  unfold St.get
  cases hx : aget σ.ρ s with
  | none => exact .junk _
  | some x => exact h.slot s x hx

theorem SR.ev (h : SR E n G σ a.tmps w) {o : Operand} {x : LX} (hx : liftX o = some x) : AVR G w (σ.ev x) (a.eval o) := by
  cases o with
  | tmp t => simp [liftX] at hx; subst hx; exact h.get t
  | const v =>
    simp only [liftX] at hx
    cases hc : cst v with
    | none => simp [hc] at hx
    | some d => simp [hc] at hx; subst hx; exact .d d v (cst_rd hc)
  | func f => simp [liftX] at hx; subst hx; exact .fn (.func f) [] [] #[] #[] rfl (fun _ h => by simp at h) (fun _ _ h => by simp at h) rfl (fun _ h => by simp at h) (fun _ _ h => by simp at h)
  | global g => simp [liftX] at hx

/-- What a slot's content reads as. -/
def AV.rd : AV → Option D
  | .d x => some x
  | .own _ _ _ l => some (.list l)
  | _ => none

theorem AVR.rd {x : AV} {v : Value} {y : D} (h : AVR G w x v) (hy : x.rd = some y) : RD G.f w y v := by
  cases h <;> simp [AV.rd] at hy
  · subst hy; assumption
  · subst hy; assumption

/-! ### Numbers, bools, strings -/
def binI (op : BinOp) (k : IntKind) (a b : Int) : Option D :=
  match op with
  | .add => some (.int k (k.wrap (a + b)))
  | .sub => some (.int k (k.wrap (a - b)))
  | .mul => some (.int k (k.wrap (a * b)))
  | .quo => if b = 0 then none else some (.int k (k.wrap (a.tdiv b)))
  | .rem => if b = 0 then none else some (.int k (a.tmod b))
  | .and => some (.int k (k.wrap ((BitVec.ofInt k.bits a &&& BitVec.ofInt k.bits b).toNat)))
  | .or => some (.int k (k.wrap ((BitVec.ofInt k.bits a ||| BitVec.ofInt k.bits b).toNat)))
  | .xor => some (.int k (k.wrap ((BitVec.ofInt k.bits a ^^^ BitVec.ofInt k.bits b).toNat)))
  | .andNot => some (.int k (k.wrap ((BitVec.ofInt k.bits a &&& ~~~(BitVec.ofInt k.bits b)).toNat)))
  | .eql => some (.bool (decide (a = b)))
  | .neq => some (.bool (!decide (a = b)))
  | .lss => some (.bool (decide (a < b)))
  | .leq => some (.bool (decide (a ≤ b)))
  | .gtr => some (.bool (decide (b < a)))
  | .geq => some (.bool (decide (b ≤ a)))
  | _ => none

def binS (op : BinOp) (a b : List UInt8) : Option D :=
  match op with
  | .add => if ((a.length + b.length : Nat) : Int) ≤ 9223372036854775807 then some (.str (a ++ b)) else none
  | .eql => some (.bool (decide (a = b)))
  | .neq => some (.bool (!decide (a = b)))
  | .lss => some (.bool (Op.bytesLess a b))
  | .leq => some (.bool (Op.bytesLess a b || decide (a = b)))
  | .gtr => some (.bool (!(Op.bytesLess a b || decide (a = b))))
  | .geq => some (.bool (!Op.bytesLess a b))
  | _ => none

def binD (op : BinOp) : AV → AV → Option D
  | .d (.int k a), .d (.int k' b) => match op with
    | .shl => if b < 0 then none else some (.int k (k.wrap (a * 2 ^ (min b.toNat k.bits))))
    | .shr => if b < 0 then none else some (.int k (a.fdiv (2 ^ (min b.toNat k.bits))))
    | op => if k = k' then binI op k a b else none
  | .d (.str a), .d (.str b) => binS op a b
  | _, _ => none

theorem bytes_toList (s : List UInt8) : (⟨s.toArray⟩ : ByteArray).toList = s := by
  rw [ByteArray.toList_eq]

theorem binD_run {op : BinOp} {x y : AV} {v u : Value} {z : D} {t : TypeId} (hx : AVR G w x v) (hy : AVR G w y u) (h : binD op x y = some z) :
    ∃ r, (binOp op t v u).run P w = .ok r w ∧ RD G.f w z r := by
  unfold binD at h
  split at h
  · rename_i k a k' b
    cases hx with | d _ _ hx => ?_
    cases hy with | d _ _ hy => ?_
    cases hx; cases hy
    split at h
    · split at h
      · cases h
      · rename_i hb; cases h
        exact ⟨.int k (k.wrap (a * 2 ^ (min b.toNat k.bits))), by simp [binOp, Op.shift, hb], .int _ _⟩
    · split at h
      · cases h
      · rename_i hb; cases h
        exact ⟨.int k (a.fdiv (2 ^ (min b.toNat k.bits))), by simp [binOp, Op.shift, hb], .int _ _⟩
    · rename_i h1 h2
      split at h
      · rename_i hk; subst hk
        unfold binI at h
        split at h <;> first
          | (cases h; refine ⟨.int k _, ?_, .int _ _⟩; simp [binOp, Op.intArith, Op.intBits]; done)
          | (cases h; refine ⟨.bool _, ?_, .bool _⟩; simp [binOp, Op.intCmp]; done)
          | (cases h; refine ⟨.bool _, ?_, .bool _⟩; simp [binOp, Op.intCmp]; rfl)
          | (split at h; · cases h
             · rename_i hb; cases h; exact ⟨_, by simp [binOp, Op.intDiv, hb]; rfl, by constructor⟩)
          | cases h
      · cases h
  · rename_i a b
    cases hx with | d _ _ hx => ?_
    cases hy with | d _ _ hy => ?_
    cases hx; cases hy
    unfold binS at h
    split at h
    · split at h
      · rename_i hl; cases h
        refine ⟨.string ⟨(a ++ b).toArray⟩, ?_, .str _⟩
        have h1 : ¬ ((((⟨a.toArray⟩ : ByteArray).size + (⟨b.toArray⟩ : ByteArray).size : Nat) : Int) > IntKind.i64.max) := by
          have : IntKind.i64.max = 9223372036854775807 := by decide
          rw [this]; simp [ByteArray.size] at hl ⊢; omega
        have h2 : (⟨a.toArray⟩ : ByteArray) ++ ⟨b.toArray⟩ = ⟨(a ++ b).toArray⟩ := by
          apply ByteArray.ext; simp
        simp only [binOp, Op.stringOp, if_neg h1, h2, Sem.run_pure]
      · cases h
    all_goals first
      | (cases h; refine ⟨.bool _, ?_, .bool _⟩; simp only [binOp, Op.stringOp, bytes_toList, Sem.run_pure, Result.ok.injEq, Value.bool.injEq, and_true]; done)
      | (cases h; refine ⟨.bool _, ?_, .bool _⟩; simp only [binOp, Op.stringOp, bytes_toList, Sem.run_pure, Result.ok.injEq, Value.bool.injEq, and_true]; first | rfl | (rw [Bool.eq_iff_iff]; simp; done))
      | cases h
  · cases h

end Go.Av
