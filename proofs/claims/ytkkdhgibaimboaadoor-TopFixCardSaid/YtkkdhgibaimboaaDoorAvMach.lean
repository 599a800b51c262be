/- Programs over abstract states: regions, statements, loops, calls. What is proved of the abstract run holds of the call. -/
import Derived.Test.YtkkdhgibaimboaaDoorAvEff2
namespace Go.Av

/-! ### Calls of functions that write nothing that was there -/
inductive Res where
  | one (x : D)
  | tup (xs : List D)
  deriving Inhabited

def Res.av : Res → AV
  | .one x => .d x
  | .tup xs => .tuple (xs.map .d)

def RRes (f : Nat → Nat) (w : World) : Res → Value → Prop
  | .one x, v => RD f w x v
  | .tup xs, v => ∃ vs : Array Value, v = .tuple vs ∧ vs.size = xs.length ∧ ∀ (i : Nat) (y : D), xs[i]? = some y → RD f w y (vs.getD i undef)

structure Fr (f : Nat → Nat) (w : World) (f' : Nat → Nat) (w' : World) : Prop where
  size : w.heap.size ≤ w'.heap.size
  block : ∀ b, b < w.heap.size → w'.heap[b]? = w.heap[b]? ∧ f' b = f b
  top : ∀ b, w'.heap.size ≤ b → f' b = 0
  os : w'.os = w.os
  tape : w'.tape = w.tape
  output : w'.output = w.output

/-- What holds of the world whenever a function of the program is called (of the tables that start-up lays, say): it is about what is immutable. -/
class Inv (P : Program) where
  inv : (Nat → Nat) → World → Prop
  ext : ∀ {f : Nat → Nat} {w : World} {f' : Nat → Nat} {w' : World}, (∀ b, b < w.heap.size → w'.heap[b]? = w.heap[b]? ∧ f' b = f b) → inv f w → inv f' w'

/-- Called with values that stand for these data, the function returns, and what it returns stands for a result of which Post holds; nothing that was there has turned. -/
def PCall (P : Program) [Inv P] (fn : FuncId) (args : List D) (Post : Res → Prop) : Prop :=
  ∀ (f : Nat → Nat) (w : World) (vs : Array Value), Inv.inv P f w → (∀ b, w.heap.size ≤ b → f b = 0) → vs.size = args.length → (∀ (i : Nat) (y : D), args[i]? = some y → RD f w y (vs.getD i undef)) →
    Calls P fn vs w (fun e w' => ∃ r v f', Post r ∧ e = .returned v ∧ RRes f' w' r v ∧ Fr f w f' w')

theorem PCall.mono {P : Program} [Inv P] {fn : FuncId} {args : List D} {Post Post' : Res → Prop} (h : PCall P fn args Post) (hp : ∀ r, Post r → Post' r) : PCall P fn args Post' :=
  fun f w vs h0 h1 h2 h3 => (h f w vs h0 h1 h2 h3).mono fun _ _ ⟨r, v, f', a, b⟩ => ⟨r, v, f', hp r a, b⟩

/-! ### Statements -/
inductive LCode where
  | skip
  | reg (l : List LOper)
  | dreg (l : List LOper)
  | dead (ds : List Nat) (c : LCode)
  | seq (a b : LCode)
  | cond (c : LX) (a b : LCode)
  | block (id : Nat) (c : LCode)
  | loop (c : LCode)
  | exit (id : Nat)
  | ret
  deriving Inhabited

def putO (σ : St) : Option Nat → AV → St
  | some d, x => σ.put d x
  | none, _ => σ

def LStep (P : Program) [Inv P] (o : LOper) (K : St → Prop) (σ : St) : Prop :=
  match o.op with
  | .call f args => ∃ ds Post, rdAll (evL σ args) = some ds ∧ PCall P f ds Post ∧ ∀ r, Post r → K (putO σ o.dst r.av)
  | op => ∃ σ', step1 σ o.dst op = some σ' ∧ K σ'

def LOps (P : Program) [Inv P] : List LOper → (St → Prop) → St → Prop
  | [], K, σ => K σ
  | o :: os, K, σ =>
    match o.guard with
    | none => LStep P o (LOps P os K) σ
    | some (s, b) => ∃ t, σ.get s = .d (.bool t) ∧ (t = b → LStep P o (LOps P os K) σ) ∧ (t ≠ b → LOps P os K (putO σ o.dst .junk))

/-- What an operation that was passed over leaves. -/
def und : AV := .tuple []

/-- Operations one behind the other, as they stand. What is passed over leaves nothing that could guard another one. -/
def LOpsR (P : Program) [Inv P] : List LOper → (St → Prop) → St → Prop
  | [], K, σ => K σ
  | o :: os, K, σ =>
    match o.guard with
    | none => LStep P o (LOpsR P os K) σ
    | some (s, b) => (∃ t, σ.get s = .d (.bool t) ∧ (t = b → LStep P o (LOpsR P os K) σ) ∧ (t ≠ b → LOpsR P os K (putO σ o.dst und))) ∨ (σ.get s = und ∧ LOpsR P os K (putO σ o.dst und))

/-! ### Regions that draw their order -/
def readsX : LX → List Nat
  | .t s => [s]
  | .k _ => []
def readsXO : Option LX → List Nat
  | some x => readsX x
  | none => []
def readsXL : List LX → List Nat
  | [] => []
  | x :: r => readsX x ++ readsXL r
def readsXP : List (Nat × LX) → List Nat
  | [] => []
  | (_, x) :: r => readsX x ++ readsXP r
def readsV : LV → List Nat
  | .cp x | .eqN _ _ x | .not x | .neg x | .cvI _ x | .i2s x | .b2s x | .len _ x | .fa _ x | .ld _ _ x | .fld _ _ _ x | .mkI _ x | .asT _ _ x | .ext _ x | .nck x => readsX x
  | .bin _ x y | .eqB _ x y | .eqS _ _ x y | .idxS x y | .mm _ x y | .ia _ x y | .iaA _ _ x y => readsX x ++ readsX y
  | .pick c x y => readsX c ++ (readsX x ++ readsX y)
  | .subS x lo hi | .sub _ x lo hi => readsX x ++ (readsXO lo ++ readsXO hi)
  | .bld _ _ l => readsXP l
  | .mkF _ a b => readsXL a ++ readsXL b
def readsO : LO → List Nat
  | .val v => readsV v
  | .asg x | .box x => readsX x
  | .nils _ _ | .allo _ => []
  | .st _ x y => readsX x ++ readsX y
  | .app _ _ _ _ x y => readsX x ++ readsX y
  | .bsl _ _ l => readsXL l
  | .sla _ x lo hi => readsX x ++ (readsXO lo ++ readsXO hi)
  | .call _ l => readsXL l
def LOper.reads (o : LOper) : List Nat := readsO o.op ++ (match o.guard with | some (s, _) => [s] | none => [])

def homX : LX → Bool
  | .t _ => true
  | .k (.d _) => true
  | _ => false
def homXO : Option LX → Bool
  | some x => homX x
  | none => true
def homV : LV → Bool
  | .cp x | .not x | .neg x | .cvI _ x | .i2s x | .b2s x | .len _ x | .fa _ x => homX x
  | .bin _ x y | .eqB _ x y | .eqS _ _ x y | .idxS x y | .mm _ x y | .ia _ x y | .iaA _ _ x y => homX x && homX y
  | .pick c x y => homX c && (homX x && homX y)
  | .subS x lo hi | .sub _ x lo hi => homX x && (homXO lo && homXO hi)
  | _ => false

/-- What an operation does: labels are given up, a slot is written. -/
structure Eff where
  er : List Lab
  x : AV

def eraseL : St → List Lab → St
  | σ, [] => σ
  | σ, q :: r => eraseL (σ.erase q) r
def AV.eraseL : AV → List Lab → AV
  | x, [] => x
  | x, q :: r => AV.eraseL (x.erase q) r

def Eff.app (e : Eff) (d : Option Nat) (σ : St) : St := putO (eraseL σ e.er) d e.x

/-- The operation, unguarded: its effect. -/
def DEff (P : Program) [Inv P] (d : Option Nat) (op : LO) (σ : St) (eff : Eff) : Prop :=
  match op with
  | .val v => d.isSome = true ∧ ∃ z, pev σ v = some z ∧ eff = ⟨[], z⟩
  | .call f args => ∃ ds r, rdAll (evL σ args) = some ds ∧ PCall P f ds (fun x => x = r) ∧ eff = ⟨[], r.av⟩
  | .bsl _ sz parts => ∃ k l, d = some k ∧ rdAll (evL σ parts) = some l ∧ (allSz sz l = true ∧ (evL σ parts).length * sz ≤ 16777216 ∧ sz ≠ 0) ∧ eff = ⟨[], .d (.list l)⟩
  | .app e sz by_ str s x => ∃ k q l ys, d = some k ∧ σ.ev s = .own q e sz l ∧ srcL str sz (σ.ev x) = some ys ∧ (l.length + ys.length ≤ 140737488355327 ∧ (l.length + ys.length) * by_ ≤ 140737488355328) ∧ eff = ⟨[q, .t k], .own (.t k) e sz (l ++ ys)⟩
  | _ => False

def DEffG (P : Program) [Inv P] (o : LOper) (σ : St) (eff : Eff) : Prop :=
  match o.guard with
  | none => DEff P o.dst o.op σ eff
  | some (s, b) => ∃ t, σ.get s = .d (.bool t) ∧ (t = b → DEff P o.dst o.op σ eff) ∧ (t ≠ b → eff = ⟨[], .junk⟩)

/-- Operations that only reckon, from what labels don't matter to. -/
def LOper.pure (o : LOper) : Bool :=
  match o.op with
  | .val v => homV v
  | _ => false
/-- Operations that give up no label. -/
def LOper.keeps (o : LOper) : Bool :=
  match o.op with
  | .val _ | .call _ _ | .bsl _ _ _ => true
  | _ => false
def LOper.moves (o : LOper) : Bool :=
  match o.op with
  | .val _ | .call _ _ | .bsl _ _ _ | .app _ _ _ _ _ _ => true
  | _ => false

def notIn (d : Option Nat) (l : List Nat) : Bool :=
  match d with
  | some k => !l.contains k
  | none => true
def apartD (p q : LOper) : Bool := (match p.dst, q.dst with | some a, some b => a != b | _, _ => true) && notIn p.dst q.reads && notIn q.dst p.reads
def isExt : LO → Bool
  | .val (.ext _ (.t _)) => true
  | _ => false
def isAllo : LO → Bool
  | .allo _ => true
  | _ => false
def isSt : LO → Bool
  | .st _ _ _ => true
  | _ => false
def constD : LX → Bool
  | .t _ => true
  | .k (.d _) => true
  | _ => false
def constDO : Option LX → Bool
  | some x => constD x
  | none => true
/-- What may be done ahead of the making of a variable. -/
def okNewV : LV → Bool
  | .cp x | .not x | .neg x | .cvI _ x | .i2s x | .b2s x | .len _ x | .fa _ x | .ld _ _ x | .fld _ _ _ x | .mkI _ x | .asT _ _ x | .ext _ x | .nck x | .eqN _ _ x => constD x
  | .bin _ x y | .eqB _ x y | .eqS _ _ x y | .idxS x y | .mm _ x y | .ia _ x y | .iaA _ _ x y => constD x && constD y
  | .pick c x y => constD c && (constD x && constD y)
  | .subS x lo hi | .sub _ x lo hi => constD x && (constDO lo && constDO hi)
  | .bld _ _ l => l.all fun p => constD p.2
  | .mkF _ _ _ => false
def okNew : LO → Bool
  | .val v => okNewV v
  | .call _ l | .bsl _ _ l => l.all constD
  | _ => false
def swapM (p q : LOper) : Bool := apartD p q && ((p.keeps && q.keeps) || (p.pure && q.moves) || (q.pure && p.moves))
def swapOK (p q : LOper) : Bool := swapM p q || (apartD p q && isAllo p.op && p.guard.isNone && p.dst.isSome && q.keeps && okNew q.op) || (apartD p q && isSt p.op && p.dst.isNone && p.guard.isNone && isExt q.op)


/-- A region that draws its order: the order of the text serves. -/
def DStep (P : Program) [Inv P] (o : LOper) (K : St → Prop) (σ : St) : Prop :=
  if o.moves then ∃ e, DEffG P o σ e ∧ K (e.app o.dst σ) else LOps P [o] K σ

def DOps (P : Program) [Inv P] : List LOper → (St → Prop) → St → Prop
  | [], K => K
  | o :: os, K => DStep P o (DOps P os K)

def waits (ops : Array Oper) (i k : Nat) : Bool :=
  match ops[i]? with
  | some o => o.after.any fun e => Region.binds .any e && e.on == k
  | none => false

/-- By way of others, too. -/
def waitsN (ops : Array Oper) : Nat → Nat → Nat → Bool
  | 0, i, k => waits ops i k
  | f + 1, i, k => waits ops i k || (List.range i).any fun j => waits ops i j && waitsN ops f j k

/-- What may come next in the order in which the region is walked: what makes a variable first, what writes one soon. -/
def pickNext (ops : Array Oper) (lo : List LOper) (done : List Nat) : Option Nat :=
  let c := (List.range ops.size).filter fun i => !done.contains i && (match ops[i]? with | some o => o.after.all fun e => !Region.binds .any e || done.contains e.on | none => false)
  match c.find? (fun i => isAllo (lo.getD i default).op), c.find? (fun i => isSt (lo.getD i default).op) with
  | some i, _ => some i
  | none, some i => some i
  | none, none => c.head?
def order (ops : Array Oper) (lo : List LOper) : Nat → List Nat → List Nat
  | 0, acc => acc.reverse
  | f + 1, acc => match pickNext ops lo acc with
    | some i => order ops lo f (i :: acc)
    | none => acc.reverse

def sortedB (f : Nat → Nat) : List Nat → Bool
  | [] => true
  | a :: l => l.all (fun b => decide (f a < f b)) && sortedB f l

def posOf (ord : List Nat) (i : Nat) : Nat := ord.idxOf i

def drawOK (ops : Array Oper) (lo : List LOper) (ord : List Nat) : Bool :=
  sortedB (posOf ord) ord && ord.all (fun i => decide (i < ops.size)) && (List.range ops.size).all (fun i => ord.contains i) && decide (ord.length = ops.size) &&
  (List.range ops.size).all fun i =>
    (match ops[i]? with | some o => o.after.all fun e => !Region.binds .any e || (decide (e.on < ops.size) && decide (posOf ord e.on < posOf ord i)) | none => true) &&
    (List.range ops.size).all fun k => !decide (posOf ord k < posOf ord i) || waitsN ops 3 i k || (match lo[k]?, lo[i]? with | some p, some q => swapOK p q | _, _ => false)

/-- A plain copy in the place of an assignment. -/
def LOper.copy (o : LOper) : LOper :=
  match o.op with
  | .asg x => { o with op := .val (.cp x) }
  | _ => o

/-- Slots that nobody reads any more. -/
def adelL {α : Type} : List (Nat × α) → List Nat → List (Nat × α)
  | l, [] => l
  | l, d :: ds => adelL (adel l d) ds

def St.dead (σ : St) (ds : List Nat) : St := { σ with ρ := adelL σ.ρ ds }

def deadK (ds : List Nat) (K : Exit → St → Prop) : Exit → St → Prop
  | .normal, σ => K .normal (σ.dead ds)
  | e, σ => K e σ

/-- The code that was read off, without marks of dead slots. -/
def LCode.strip : LCode → LCode
  | .dead _ c => c.strip
  | .seq a b => .seq a.strip b.strip
  | .cond c a b => .cond c a.strip b.strip
  | .block id c => .block id c.strip
  | .loop c => .loop c.strip
  | c => c

def thenK (next : St → Prop) (K : Exit → St → Prop) : Exit → St → Prop
  | .normal, σ => next σ
  | e, σ => K e σ

def blockK (id : Nat) (K : Exit → St → Prop) : Exit → St → Prop
  | .exit id', σ => if id' = id then K .normal σ else K (.exit id') σ
  | e, σ => K e σ

def LW (P : Program) [Inv P] : LCode → (Exit → St → Prop) → St → Prop
  | .skip, K, σ => K .normal σ
  | .reg l, K, σ => LOpsR P l (K .normal) σ
  | .dreg l, K, σ => DOps P l (K .normal) σ
  | .dead ds c, K, σ => LW P c (deadK ds K) σ
  | .seq a b, K, σ => LW P a (thenK (LW P b K) K) σ
  | .cond c a b, K, σ => ∃ t, σ.ev c = .d (.bool t) ∧ (t = true → LW P a K σ) ∧ (t = false → LW P b K σ)
  | .block id c, K, σ => LW P c (blockK id K) σ
  | .loop c, K, σ => ∃ (α : Type) (r : α → α → Prop) (I : α → St → Prop), WellFounded r ∧ (∃ m τ, Wk τ σ ∧ I m τ) ∧ ∀ m τ, I m τ → LW P c (thenK (fun τ' => ∃ m' τ'', Wk τ'' τ' ∧ I m' τ'' ∧ r m' m) K) τ
  | .exit id, K, σ => K (.exit id) σ
  | .ret, K, σ => K .ret σ

/-! ### Reading off -/
def dstOk (n : Nat) : Option Nat → Bool
  | some d => decide (d < n)
  | none => true

def guardOf (ops : Array Oper) : Option (Nat × Bool) → Option (Option (Nat × Bool))
  | none => some none
  | some (j, b) => match (ops[j]?).bind (·.dst) with
    | some s => some (some (s, b))
    | none => none

def liftOper (P : Program) (n : Nat) (ops : Array Oper) (o : Oper) : Option LOper :=
  if dstOk n o.dst then
    match liftE P o, guardOf ops o.guard with
    | some op, some g => some { dst := o.dst, op := op, guard := g }
    | _, _ => none
  else none

def liftOps (P : Program) (n : Nat) (ops : Array Oper) : List Oper → Option (List LOper)
  | [] => some []
  | o :: r => match liftOper P n ops o, liftOps P n ops r with
    | some x, some l => some (x :: l)
    | _, _ => none

def inOrd (lo : List LOper) (ord : List Nat) : List LOper := ord.map fun i => lo.getD i default

def liftDraw (P : Program) (n : Nat) (ops : Array Oper) : Option (List LOper) :=
  if P.follows .mixedOrders then
    match liftOps P n ops ops.toList with
    | some lo =>
      if drawOK ops lo (order ops lo ops.size []) then some (inOrd lo (order ops lo ops.size []))
      else if drawOK ops (lo.map LOper.copy) (order ops lo ops.size []) then some (inOrd (lo.map LOper.copy) (order ops lo ops.size [])) else none
    | none => none
  else none

def liftC (P : Program) (n : Nat) : Code → Option LCode
  | .skip => some .skip
  | .region _ ops draw => if draw then (liftDraw P n ops).map .dreg else (liftOps P n ops ops.toList).map .reg
  | .seq a b => match liftC P n a, liftC P n b with
    | some a, some b => some (.seq a b)
    | _, _ => none
  | .cond c a b => match liftX c, liftC P n a, liftC P n b with
    | some c, some a, some b => some (.cond c a b)
    | _, _, _ => none
  | .block id c => (liftC P n c).map (.block id)
  | .loop c => (liftC P n c).map .loop
  | .exit id => some (.exit id)
  | .ret => some .ret
  | _ => none

class HasInv (P : Program) [Inv P] (E : Entry) : Prop where
  holds : Inv.inv P E.f0 E.w0
  none : ∀ b, ¬ E.M b

variable {E : Entry} {n : Nat} {G : Ghost} {σ σ' : St} {a : Act} {w : World} {P : Program}

/-! ### It is sound -/
theorem map_none {α β : Type} {o : Option α} {g : α → β} {b : β} (h : o.map g = some b) : ∃ x, o = some x ∧ g x = b := by
  cases o with
  | none => simp at h
  | some x => simp at h; exact ⟨x, rfl, h⟩

theorem liftApp_app {t tx : TypeId} {s x : Operand} {op : LO} (h : liftApp P t tx s x = some op) : ∃ e sz by_ str u v, op = .app e sz by_ str u v := by
  unfold liftApp at h
  split at h
  · split at h
    · split at h <;> first | (cases h; exact ⟨_, _, _, _, _, _, rfl⟩) | cases h
    · cases h
  · cases h

theorem liftE_st {o : Oper} {m : Nat} {la lx : LX} (h : liftE P o = some (.st m la lx)) : ∃ t addr x, o.op = .store t addr x ∧ Program.sz P t = some m ∧ liftX addr = some la ∧ liftX x = some lx := by
  unfold liftE at h
  split at h
  · split at h
    · split at h <;> cases h
    · obtain ⟨_, _, h⟩ := map_none h; cases h
  · rename_i t addr x ho
    split at h
    · cases h; exact ⟨t, addr, x, ho, by assumption, by assumption, by assumption⟩
    · cases h
  · obtain ⟨_, _, h⟩ := map_none h; cases h
  · split at h <;> cases h
  · unfold liftAppL at h
    split at h
    · obtain ⟨_, _, _, _, _, _, h⟩ := liftApp_app h; cases h
    · cases h
  · split at h
    · obtain ⟨_, _, h⟩ := map_none h; cases h
    · cases h
  · split at h
    · split at h <;> cases h
    · cases h
  · split at h
    · split at h <;> cases h
    · obtain ⟨_, _, h⟩ := map_none h; cases h
  · obtain ⟨_, _, h⟩ := map_none h; cases h

theorem liftE_call {o : Oper} {f : Nat} {args : List LX} (h : liftE P o = some (.call f args)) : ∃ (os : Array Operand) (ts : Array TypeId), o.op = .call { callee := .value (.func f), args := os, argTypes := ts } ∧ liftL os.toList = some args ∧ callOk P f = true := by
  unfold liftE at h
  split at h
  · split at h
    · split at h <;> cases h
    · obtain ⟨_, _, h⟩ := map_none h; cases h
  · split at h <;> cases h
  · obtain ⟨_, _, h⟩ := map_none h; cases h
  · split at h <;> cases h
  · unfold liftAppL at h
    split at h
    · obtain ⟨_, _, _, _, _, _, h⟩ := liftApp_app h; cases h
    · cases h
  · rename_i f' os ts ho
    split at h
    · rename_i hok
      obtain ⟨l, h1, h2⟩ := map_none h
      cases h2
      exact ⟨os, ts, ho, h1, hok⟩
    · cases h
  · split at h
    · split at h <;> cases h
    · cases h
  · split at h
    · split at h <;> cases h
    · obtain ⟨_, _, h⟩ := map_none h; cases h
  · obtain ⟨_, _, h⟩ := map_none h; cases h

theorem step1_sound (h : SR E n G σ a.tmps w) {o : Oper} {op : LO} (hd : dstOk n o.dst = true) (hl : liftE P o = some op) (hs : step1 σ o.dst op = some σ') : Does P E n a w o σ' := by
  cases hdst : o.dst with
  | none =>
    rw [hdst] at hs
    simp only [step1] at hs
    cases op <;> simp only [stepN] at hs <;> try (cases hs; done)
    obtain ⟨t, addr, x, ho, hm, ha, hx⟩ := liftE_st hl
    exact st_sound h hdst ho hm ha hx hs
  | some d =>
    rw [hdst] at hs hd
    have hn : d < n := by simpa [dstOk] using hd
    simp only [step1] at hs
    unfold liftE at hl
    split at hl
    · rename_i x ho
      split at hl
      · split at hl
        · rename_i e sz by_ hsl; cases hl
          simp only [stepD] at hs; cases hs
          exact nil_sound h hdst hn ho
        · cases hl
      · rename_i hne
        cases hx : liftX x with
        | none => simp [hx] at hl
        | some x' => simp [hx] at hl; subst hl; simp only [stepD] at hs; cases hs; exact asg_sound h hdst hn ho hx
    · rename_i t addr x ho
      split at hl
      · cases hl; simp [stepD] at hs
      · cases hl
    · rename_i e x ho
      cases hx : liftX x with
      | none => simp [hx] at hl
      | some x' => simp [hx] at hl; subst hl; exact box_sound h hdst hn ho hx hs
    · rename_i e ho
      split at hl
      · rename_i z hz; cases hl
        simp only [stepD] at hs; cases hs
        exact allo_sound h hdst hn ho hz
      · cases hl
    · rename_i as ts ho
      exact app_sound h hdst hn ho hl hs
    · split at hl
      · cases hx : liftL (‹Array Operand›).toList with
        | none => simp [hx] at hl
        | some l => simp [hx] at hl; subst hl; simp [stepD] at hs
      · cases hl
    · rename_i t len parts ho
      split at hl
      · rename_i e sz by_ l hsl hpl
        split at hl
        · rename_i hc; cases hl
          simp only [Bool.and_eq_true, beq_iff_eq] at hc
          exact bsl_sound h hdst hn ho hsl hpl hc.1.1 hc.1.2 hc.2 hs
        · cases hl
      · cases hl
    · rename_i t x lo hi ho
      split at hl
      · rename_i len e ht
        split at hl
        · rename_i x' lo' hi' hsz hx hlo hhi
          cases hl
          simp only [stepD] at hs
          exact sla_sound h hdst hn ho ht hsz hx hlo hhi hs
        · cases hl
      · cases hx : liftSlice P t x lo hi with
        | none => simp [hx] at hl
        | some v =>
          simp [hx] at hl; subst hl
          simp only [stepD] at hs
          unfold putV at hs
          split at hs
          · rename_i z hz; cases hs
            obtain ⟨r, h1, h2⟩ := liftSlice_sound h ho hx hz
            exact ⟨.value r, r, w, G, h1, .inl rfl, by simpa [Act.put, hdst] using h.put h2 hn⟩
          · cases hs
    · cases hx : liftV P o.op with
      | none => simp [hx] at hl
      | some v =>
        simp [hx] at hl; subst hl
        simp only [stepD] at hs
        unfold putV at hs
        split at hs
        · rename_i z hz; cases hs
          obtain ⟨r, h1, h2⟩ := liftV_sound h hx hz
          exact ⟨.value r, r, w, G, h1, .inl rfl, by simpa [Act.put, hdst] using h.put h2 hn⟩
        · cases hs

theorem SR.putO (h : SR E n G σ a.tmps w) {d : Option Nat} (hd : dstOk n d = true) {x : AV} {v : Value} (hx : AVR G w x v) : SR E n G (putO σ d x) (a.put d v).tmps w := by
  cases d with
  | none => exact h
  | some d => exact h.put hx (by simpa [dstOk] using hd)

theorem put_defers (a : Act) (d : Option Nat) (v : Value) : (a.put d v).defers = a.defers := by cases d <;> rfl

theorem rdAll_rel {xs : List AV} {ds : List D} {vs : List Value} (hrd : rdAll xs = some ds) (hl : xs.length = vs.length) (hr : ∀ (i : Nat) (x : AV), xs[i]? = some x → AVR G w x (vs.getD i undef)) :
    vs.length = ds.length ∧ ∀ (i : Nat) (y : D), ds[i]? = some y → RD G.f w y (vs.getD i undef) := by
  obtain ⟨h1, h2⟩ := rdAll_get hrd
  refine ⟨by rw [← hl, h1], fun i y hy => ?_⟩
  have hi : i < xs.length := by rw [h1]; exact (List.getElem?_eq_some_iff.1 hy).1
  obtain ⟨y', e1, e2⟩ := h2 i _ (List.getElem?_eq_getElem hi)
  rw [hy] at e1; cases e1
  exact (hr i _ (List.getElem?_eq_getElem hi)).rd e2

theorem RRes.av {f : Nat → Nat} {b : Ref → Nat} {lam : Lab → Option (Value × Nat × Nat)} {r : Res} {v : Value} (h : RRes f w r v) : AVR { f := f, b := b, lam := lam } w r.av v := by
  cases r with
  | one x => exact .d _ _ h
  | tup xs =>
    obtain ⟨vs, rfl, h1, h2⟩ := h
    refine .tuple _ vs (by simpa using h1) (fun x hx => by obtain ⟨y, _, rfl⟩ := List.mem_map.1 hx; rfl) (fun i x hi => ?_)
    simp only [List.getElem?_map] at hi
    cases hy : xs[i]? with
    | none => simp [hy] at hi
    | some y => simp [hy] at hi; subst hi; exact .d _ _ (h2 i y hy)

theorem Fr.ext {f f' : Nat → Nat} {w w' : World} (h : Fr f w f' w') (ht : ∀ b, w.heap.size ≤ b → f b = 0) : Ext f w f' w' := by
  refine ⟨h.size, fun b => ?_, fun b i hi => ?_⟩
  · rcases Nat.lt_or_ge b w.heap.size with hb | hb
    · rw [(h.block b hb).2]; exact Nat.le_refl _
    · rw [ht b hb]; exact Nat.zero_le _
  · have hb : b < w.heap.size := by
      rcases Nat.lt_or_ge b w.heap.size with hb | hb
      · exact hb
      · rw [ht b hb] at hi; omega
    simp only [World.cell?, at_]
    rw [(h.block b hb).1]

/-- What follows is asked of some abstract state. -/
def After (E : Entry) (n : Nat) (K : St → Prop) (d : List Deferred) (a : Act) (w : World) : Prop := ∃ G σ, K σ ∧ SR E n G σ a.tmps w ∧ a.defers = d

variable [Inv P] [HasInv P E] in
theorem lstep_sound (h : SR E n G σ a.tmps w) {ops : Array Oper} {o : Oper} {lo : LOper} (hl : liftOper P n ops o = some lo) {K : St → Prop} (hs : LStep P lo K σ) {next : Act → World → Prop} {Q : Exit → Act → World → Prop}
    (hK : ∀ a' w', After E n K a.defers a' w' → next a' w') : o.wp P a w next Q := by
  unfold liftOper at hl
  split at hl
  · rename_i hd
    split at hl
    · rename_i op g hE hg
      cases hl
      unfold LStep at hs
      split at hs
      · rename_i f args heq
        simp only at heq; subst heq
        obtain ⟨ds, Post, h1, h2, h3⟩ := hs
        obtain ⟨os, ts, ho, hos, hok⟩ := liftE_call hE
        obtain ⟨k1, k2⟩ := liftL_rel h hos
        obtain ⟨k3, k4⟩ := rdAll_rel (vs := os.toList.map a.eval) h1 (by simpa using k1.symm) k2
        have hc := h2 G.f w (os.map a.eval) (Inv.ext (fun b hb => h.fr b hb (HasInv.none P b)) HasInv.holds) h.top (by simpa using k3) (fun i y hy => by have := k4 i y hy; simpa [List.getD_eq_getElem?_getD] using this)
        have hrun : (execOp a.eval o).run P w = .ok (.enter f (os.map a.eval)) w := by
          unfold callOk at hok
          cases hf : P.funcs[f]? with
          | none => simp [hf] at hok
          | some fn =>
            rw [hf] at hok
            simp only [Bool.and_eq_true, Bool.not_eq_true'] at hok
            have hb : fn.body.isNone = false := by cases hb : fn.body <;> simp_all
            have hcf : ∀ as, (callFunc f as).run P w = .ok (.enter f as) w := fun as => by
              simp only [callFunc, Sem.run_bind, run_program, Result.andThen_ok, hf, hok.1, hb, Bool.false_eq_true, if_false, Sem.run_pure]
            simp only [execOp, ho, resolve, Deferred.ofValue, Act.eval, invoke, Sem.run_bind, Sem.run_pure, Result.andThen_ok, hcf]
            simp
        unfold Oper.wp
        rw [hrun]
        simp only [Oper.upon_enter]
        refine hc.mono fun e w' ⟨r, v, f', p1, p2, p3, p4⟩ => ?_
        subst p2
        have h5 : SR E n { G with f := f' } σ a.tmps w' := h.world (p4.ext h.top) (fun b hb => p4.block b hb) p4.top p4.os p4.tape p4.output
        exact hK _ _ ⟨_, _, h3 r p1, h5.putO hd p3.av, put_defers a _ _⟩
      · rename_i op' hne
        obtain ⟨σ', h1, h2⟩ := hs
        obtain ⟨nx, v, w', G', r1, r2, r3⟩ := step1_sound h hd hE h1
        unfold Oper.wp
        rw [r1]
        rcases r2 with rfl | ⟨rfl, rfl⟩
        · exact hK _ _ ⟨G', σ', h2, r3, put_defers a _ _⟩
        · exact hK _ _ ⟨G', σ', h2, r3, put_defers a _ _⟩
    · cases hl
  · cases hl

end Go.Av
