/- Operations over abstract states that write or make memory. -/
import Derived.Test.YtkkdhgibaimboaaDoorAvLift2
namespace Go.Av

/-- Operations; 'val': one that only reckons. -/
inductive LO where
  | val (v : LV)
  | asg (x : LX)
  | nils (e sz : Nat)
  | st (m : Nat) (addr x : LX)
  | box (x : LX)
  | allo (zero : List D)
  | app (e sz bytes : Nat) (str : Bool) (s x : LX)
  | bsl (e sz : Nat) (parts : List LX)
  | sla (len : Nat) (x : LX) (lo hi : Option LX)
  | call (f : Nat) (args : List LX)
  deriving Inhabited

structure LOper where
  dst : Option Nat
  op : LO
  guard : Option (Nat × Bool)
  deriving Inhabited

/-! ### What they do -/
def asgS (σ : St) (d : Nat) (y : AV) : St :=
  match y with
  | .own (.t s) e sz l => if s = d then σ.put d y else
      St.put { σ.erase (.t d) with ρ := amap (AV.rename (.t s) (.t d)) (σ.erase (.t d)).ρ } d (.own (.t d) e sz l)
  | y => σ.put d y

def nilS (σ : St) (d e sz : Nat) : St := (σ.erase (.t d)).put d (.own (.t d) e sz [])

def setA (cs : List AV) (o : Nat) : List AV → List AV
  | [] => cs
  | x :: r => setA (cs.set o x) (o + 1) r

def stD (cs : List AV) (o : Nat) (xs : List D) : List AV := setA cs o (xs.map .d)

def hasLocal : AV → Bool
  | .ptr (.l _) _ => true
  | _ => false

def isLocal : Ref → Bool
  | .l _ => true
  | .x _ => false

def stS (σ : St) (m : Nat) (addr x : AV) : Option St :=
  match addr with
  | .ptr r o => match σ.obj r with
    | some (.cells cs) => match x with
      | .d y => if y.cells.length = m ∧ o + m ≤ cs.length then some (σ.setObj r (.cells (stD cs o y.cells))) else none
      | .own (.t s) e sz l => if m = 1 ∧ o < cs.length then
          let σ1 := σ.erase (.c r o)
          let σ2 : St := { σ1 with ρ := amap (AV.rename (.t s) (.c r o)) σ1.ρ }
          match σ2.obj r with
          | some (.cells cs2) => some (σ2.setObj r (.cells (cs2.set o (.own (.c r o) e sz l))))
          | _ => none
        else none
      | .own (.c _ _) _ _ l => if m = 1 ∧ o < cs.length then some (σ.setObj r (.cells (cs.set o (.d (.list l))))) else none
      | .ptr r' o' => if m = 1 ∧ o < cs.length ∧ (isLocal r = true ∨ isLocal r' = false) then some (σ.setObj r (.cells (cs.set o (.ptr r' o')))) else none
      | _ => none
    | _ => none
  | _ => none

def newO (σ : St) (d : Nat) (cs : List D) : St := ((σ.drop d).setObj (.l d) (.cells (cs.map .d))).put d (.ptr (.l d) 0)

def srcL (str : Bool) (sz : Nat) : AV → Option (List D)
  | .d (.str s) => if str && sz == 1 then some (bytesD s) else none
  | x => if str then none else match x.rd with
    | some (.list ys) => if allSz sz ys then some ys else none
    | _ => none

def appS (σ : St) (d e sz bytes : Nat) (str : Bool) (s x : AV) : Option St :=
  match s, srcL str sz x with
  | .own q e' sz' l, some ys => if e' = e ∧ sz' = sz ∧ l.length + ys.length ≤ 140737488355327 ∧ (l.length + ys.length) * bytes ≤ 140737488355328 then
      some (((σ.erase q).erase (.t d)).put d (.own (.t d) e sz (l ++ ys))) else none
  | _, _ => none

def bslS (σ : St) (d e sz : Nat) (xs : List AV) : Option St :=
  match rdAll xs with
  | some l => if allSz sz l ∧ xs.length * sz ≤ 16777216 ∧ sz ≠ 0 then some ((σ.erase (.t d)).put d (.own (.t d) e sz l)) else none
  | none => none

/-- A part of an array variable of one-celled elements: the variable is given up. -/
def slaS (σ : St) (d len : Nat) (A : AV) (lo hi : Option AV) : Option St :=
  match A with
  | .ptr (.l s) 0 => match aget σ.L s with
    | some (.cells cs) => match rdL cs, loOf lo, hiOf len hi with
      | some ds, some i, some j => if ds.length = len ∧ ds.all D.one = true ∧ 0 ≤ i ∧ i ≤ j ∧ j ≤ len then some (St.put { σ with L := adel σ.L s } d (.d (.list (cutI ds i j)))) else none
      | _, _, _ => none
    | _ => none
  | _ => none

def putV (σ : St) (d : Nat) (x : Option AV) : Option St :=
  match x with
  | some x => some (σ.put d x)
  | none => none

def boxS (σ : St) (d : Nat) (x : AV) : Option St :=
  match x.rd with
  | some y => some (newO σ d y.cells)
  | none => none

def stepD (σ : St) (d : Nat) : LO → Option St
  | .val v => putV σ d (pev σ v)
  | .asg x => some (asgS σ d (σ.ev x))
  | .nils e sz => some (nilS σ d e sz)
  | .box x => boxS σ d (σ.ev x)
  | .allo z => some (newO σ d z)
  | .app e sz bytes str s x => appS σ d e sz bytes str (σ.ev s) (σ.ev x)
  | .bsl e sz parts => bslS σ d e sz (evL σ parts)
  | .sla len x lo hi => slaS σ d len (σ.ev x) (evO σ lo) (evO σ hi)
  | _ => none

def stepN (σ : St) : LO → Option St
  | .st m addr x => stS σ m (σ.ev addr) (σ.ev x)
  | _ => none

def step1 (σ : St) (dst : Option Nat) (op : LO) : Option St :=
  match dst with
  | some d => stepD σ d op
  | none => stepN σ op

/-! ### Reading off -/
def liftSl (P : Program) (t : TypeId) : Option (TypeId × Nat × Nat) :=
  match P.underlying t with
  | some (.slice e) => match P.info? e with
    | some ti => some (e, ti.size, ti.bytes)
    | none => none
  | _ => none

def zeroFits (P : Program) (e : TypeId) : Bool :=
  match P.info? e with
  | some ti => match ti.zero with
    | some z => z.cells.size == ti.size
    | none => false
  | none => false

def liftApp (P : Program) (t tx : TypeId) (s x : Operand) : Option LO :=
  match liftSl P t, liftX s, liftX x with
  | some (e, sz, bytes), some s, some x => if zeroFits P e then (match P.underlying tx with
      | some (.slice _) => some (.app e sz bytes false s x)
      | some .string => some (.app e sz bytes true s x)
      | _ => none) else none
  | _, _, _ => none

def liftAppL (P : Program) : List Operand → List TypeId → Option LO
  | [s, x], [t, tx] => liftApp P t tx s x
  | _, _ => none

/-- A function with a body, which is entered as it stands. -/
def callOk (P : Program) (f : FuncId) : Bool :=
  match P.funcs[f]? with
  | some fn => !(fn.name == "runtime.NumGoroutine") && fn.body.isSome
  | none => false

def inOrder : Nat → List (Nat × Operand) → Bool
  | _, [] => true
  | k, (i, _) :: r => i == k && inOrder (k + 1) r

def liftE (P : Program) (o : Oper) : Option LO :=
  match o.op with
  | .assign x => match x with
    | .const (.slice none 0 0) => match liftSl P o.type with
      | some (e, sz, _) => some (.nils e sz)
      | none => none
    | x => (liftX x).map .asg
  | .store t addr x => match Program.sz P t, liftX addr, liftX x with
    | some m, some addr, some x => some (.st m addr x)
    | _, _, _ => none
  | .box _ x => (liftX x).map .box
  | .alloc e => match Program.zeroOf P e with
    | some z => some (.allo z.cells)
    | none => none
  | .call { callee := .builtin .append, args, argTypes } => liftAppL P args.toList argTypes.toList
  | .call { callee := .value (.func f), args, .. } => if callOk P f then (liftL args.toList).map (.call f) else none
  | .buildSlice t len parts => match liftSl P t, liftL (parts.toList.map (·.2)) with
    | some (e, sz, _), some l => if inOrder 0 parts.toList && parts.size == len && zeroFits P e then some (.bsl e sz l) else none
    | _, _ => none
  | .slice t x lo hi none => match P.underlying t with
    | some (.array len e) => match Program.sz P e, liftX x, liftO lo, liftO hi with
      | some 1, some x, some lo, some hi => some (.sla len x lo hi)
      | _, _, _, _ => none
    | _ => (liftSlice P t x lo hi).map .val
  | op => (liftV P op).map .val

variable {E : Entry} {n : Nat} {G : Ghost} {σ σ' : St} {a : Act} {w : World} {P : Program}

/-- An operation is carried out: the abstract state goes on. -/
def Does (P : Program) (E : Entry) (n : Nat) (a : Act) (w : World) (o : Oper) (σ' : St) : Prop :=
  ∃ nx v w' G', (execOp a.eval o).run P w = .ok nx w' ∧ (nx = .value v ∨ nx = .skip ∧ v = undef) ∧ SR E n G' σ' (a.put o.dst v).tmps w'

theorem Does.mk {o : Oper} {d : Nat} {s : Sem Value} (hd : o.dst = some d) (he : execOp a.eval o = (do pure (.value (← s)))) {v : Value} {w' : World} {G' : Ghost} (hs : s.run P w = .ok v w') (h : SR E n G' σ' (a.tmps.setIfInBounds d v) w') : Does P E n a w o σ' :=
  ⟨.value v, v, w', G', by rw [he]; simp [hs], .inl rfl, by simpa [Act.put, hd] using h⟩

theorem asg_sound (h : SR E n G σ a.tmps w) {o : Oper} {d : Nat} (hd : o.dst = some d) (hn : d < n) {x : Operand} {x' : LX} (ho : o.op = .assign x) (hx : liftX x = some x') : Does P E n a w o (asgS σ d (σ.ev x')) := by
  have he : execOp a.eval o = pure (.value (a.eval x)) := by simp only [execOp, ho]
  have rx := h.ev hx
  have fin : ∀ {σ' G'}, SR E n G' σ' (a.tmps.setIfInBounds d (a.eval x)) w → Does P E n a w o σ' := fun hs => ⟨_, _, w, _, by rw [he]; rfl, .inl rfl, by simpa [Act.put, hd] using hs⟩
  unfold asgS
  split
  · rename_i y s e sz l hy
    have rx0 := rx
    rw [hy] at rx
    split
    · exact fin (h.put rx0 hn)
    · rename_i hne
      have h1 := h.erase (.t d)
      have rx1 : AVR _ w (.own (.t s) e sz l) (a.eval x) := rx.erase_other (q := .t d) (fun q' hq => by simp [AV.lab?] at hq; rw [← hq]; simpa using hne)
      have h2 := h1.rename s (.t d) (by simp)
      have rx2 := rx1.rename s (.t d) (by simp)
      simp only [AV.rename, if_true] at rx2
      exact fin (h2.put rx2 hn)
  · exact fin (h.put rx hn)

theorem nil_sound (h : SR E n G σ a.tmps w) {o : Oper} {d e sz : Nat} (hd : o.dst = some d) (hn : d < n) (ho : o.op = .assign (.const (.slice none 0 0))) : Does P E n a w o (nilS σ d e sz) := by
  have he : execOp a.eval o = pure (.value (.slice none 0 0)) := by simp only [execOp, ho]; rfl
  have h1 := h.erase (.t d)
  have hOK : OwnOK G.f w (.slice none 0 0) e sz := ⟨0, [], World.ownsRow_nil w 0 e sz, fun b hb => by simp [Value.ownBlock] at hb⟩
  have h2 := h1.addLam (.t d) (by simp) (v := .slice none 0 0) (e := e) (sz := sz) hOK (fun b hb => by simp [Value.ownBlock] at hb)
  have h3 := h2.put (s := d) (x := .own (.t d) e sz []) (v := .slice none 0 0) (.own _ _ _ _ _ (by simp) .nils (fun _ h => by simp at h)) hn
  exact ⟨_, _, w, _, by rw [he]; rfl, .inl rfl, by simpa [Act.put, hd, nilS] using h3⟩

theorem newO_sound (h : SR E n G σ a.tmps w) {d e : Nat} (hn : d < n) {cs : List D} {arr : Array Value} (hc : CellsR G.f w cs arr) :
    ∃ G', SR E n G' (newO σ d cs) (a.tmps.setIfInBounds d (.pointer (some (at_ w.heap.size 0)))) (w.alloc (.cells arr e)) := by
  have h1 := (h.drop d).alloc (.cells arr e) 0
  have hf0 : ∀ b, updf G.f w.heap.size 0 b = G.f b := fun b => by
    by_cases e : b = w.heap.size
    · rw [e, updf_same, h.top _ (Nat.le_refl _)]
    · exact updf_ne _ _ e
  have hlt : ∀ r o, (σ.drop d).obj r = some o → G.b r < w.heap.size := fun r o ho => ((h.drop d).obj r o ho).lt
  have hρ : ∀ t x, aget (σ.drop d).ρ t = some x → x.has (.l d) = false := fun t x hx => by
    simp only [St.drop, aget_amap] at hx
    cases hy : aget σ.ρ t with
    | none => simp [hy] at hx
    | some y => simp [hy] at hx; subst hx; exact AV.drop_has _ _
  have hL : ∀ t cs x, aget (σ.drop d).L t = some (.cells cs) → x ∈ cs → x.has (.l d) = false := fun t cs x hx hm => by
    simp only [St.drop, aget_amap] at hx
    cases hy : aget σ.L t with
    | none => simp [hy] at hx
    | some y =>
      simp [hy] at hx
      cases y with
      | siter s p => simp [dropObj] at hx
      | cells cs' => simp [dropObj] at hx; subst hx; obtain ⟨y, _, rfl⟩ := List.mem_map.1 hm; exact AV.drop_has _ _
  have hext : Ext G.f w (updf G.f w.heap.size 0) (w.alloc (.cells arr e)) := Ext.alloc w h.top _ 0
  have h2 := h1.addObj d w.heap.size (.cells (cs.map .d)) hρ hL (by show updf G.f w.heap.size 0 w.heap.size = 0; simp) (fun r o ho => by have := hlt r o ho; exact fun e' => by have e'' : G.b r = w.heap.size := e'; omega)
    (fun q v p hq hb => by obtain ⟨e1, s1⟩ := p; have := (h.lam q v e1 s1 hq).lt hb; omega) h.ext.size
    ⟨arr, e, by show (w.alloc _).heap[updf G.b (.l d) w.heap.size (.l d)]? = _; rw [updf_same]; exact heap_alloc_at w _, by simp [hc.1], fun i x hi => by
      simp only [List.getElem?_map] at hi
      cases hy : cs[i]? with
      | none => simp [hy] at hi
      | some y =>
        simp [hy] at hi; subst hi
        obtain ⟨o1, r1⟩ := hc.2 i y hy
        exact ⟨.d _ _ (r1.ext hext), (r1.one o1).1, fun q hq => by simp [AV.lab?] at hq⟩⟩
  have h3 := h2.put (s := d) (x := .ptr (.l d) 0) (v := .pointer (some (at_ w.heap.size 0))) (by
    have := AVR.ptr (G := { f := updf G.f w.heap.size 0, b := updf G.b (.l d) w.heap.size, lam := G.lam }) (w := w.alloc (.cells arr e)) (.l d) 0
    simpa using this) hn
  exact ⟨_, h3⟩

theorem box_sound (h : SR E n G σ a.tmps w) {o : Oper} {d e : Nat} (hd : o.dst = some d) (hn : d < n) {x : Operand} {x' : LX} (ho : o.op = .box e x) (hx : liftX x = some x') (hs : boxS σ d (σ.ev x') = some σ') : Does P E n a w o σ' := by
  unfold boxS at hs
  split at hs
  · rename_i y hy; cases hs
    have rx := (h.ev hx).rd hy
    obtain ⟨G', h1⟩ := newO_sound (e := e) h hn (cs := y.cells) (arr := (a.eval x).cells) ⟨rx.cells_size, fun i z hz => ⟨rx.flat z (List.mem_of_getElem? hz), rx.cell hz⟩⟩
    refine Does.mk (s := Instr.box e (a.eval x)) hd (by simp only [execOp, ho]) ?_ h1
    simp [Instr.box, newVar, newRow, at_]
  · cases hs

theorem allo_sound (h : SR E n G σ a.tmps w) {o : Oper} {d e : Nat} (hd : o.dst = some d) (hn : d < n) {z : D} (ho : o.op = .alloc e) (hz : Program.zeroOf P e = some z) : Does P E n a w o (newO σ d z.cells) := by
  unfold Program.zeroOf at hz
  cases hi : P.info? e with
  | none => simp [hi] at hz
  | some ti =>
    cases hzv : ti.zero with
    | none => simp [hi, hzv] at hz
    | some zv =>
      simp [hi, hzv] at hz
      have rx : RD G.f w z zv := cst_rd hz
      obtain ⟨G', h1⟩ := newO_sound (e := e) h hn (cs := z.cells) (arr := zv.cells) ⟨rx.cells_size, fun i y hy => ⟨rx.flat y (List.mem_of_getElem? hy), rx.cell hy⟩⟩
      refine Does.mk (s := Instr.alloc e true (.tuple #[])) hd (by simp only [execOp, ho]) ?_ h1
      simp [Instr.alloc, zeroValue, typeInfo, hi, hzv, newVar, newRow, at_]

theorem app_sound (h : SR E n G σ a.tmps w) {o : Oper} {d : Nat} (hd : o.dst = some d) (hn : d < n) {as : Array Operand} {ts : Array TypeId} {op : LO} (ho : o.op = .call { callee := .builtin .append, args := as, argTypes := ts }) (hl : liftAppL P as.toList ts.toList = some op)
    (hs : stepD σ d op = some σ') : Does P E n a w o σ' := by
  unfold liftAppL at hl
  split at hl
  case h_2 => cases hl
  rename_i s x t tx ea et
  have ea' : as = #[s, x] := by apply Array.ext'; exact ea
  have et' : ts = #[t, tx] := by apply Array.ext'; exact et
  subst ea'; subst et'
  unfold liftApp at hl
  split at hl
  · rename_i e sz bytes s' x' hsl hs' hx'
    split at hl
    · rename_i hz
      -- the element's type
      unfold liftSl at hsl
      split at hsl
      · rename_i e0 ht
        split at hsl
        · rename_i ti hi
          simp at hsl; obtain ⟨he0, hs0, hb0⟩ := hsl; subst hs0; subst hb0; subst he0
          unfold zeroFits at hz
          rw [hi] at hz
          simp only at hz
          cases hzv : ti.zero with
          | none => simp [hzv] at hz
          | some z =>
            simp [hzv] at hz
            have rs := h.ev hs'
            have rx := h.ev hx'
            have key : ∀ str, appS σ d e0 ti.size ti.bytes str (σ.ev s') (σ.ev x') = some σ' → (if str then P.underlying tx = some .string else ∃ e', P.underlying tx = some (.slice e')) → Does P E n a w o σ' := fun str hap hk => by
              unfold appS at hap
              split at hap
              · rename_i q e' sz' l ys hs1 hsrc
                split at hap
                · rename_i hb
                  obtain ⟨rfl, rfl, hb1, hb2⟩ := hb
                  cases hap
                  rw [hs1] at rs
                  cases rs with | own _ _ _ _ v hq hv hsz => ?_
                  obtain ⟨k, xs, hown, hfb⟩ := h.lam q _ _ _ hq
                  have hkl := own_len hv hown
                  -- what is appended
                  have hsd : ∃ news, SrcD P G.f w ti.size tx (a.eval x) ys news := by
                    unfold srcL at hsrc
                    split at hsrc
                    · rename_i bs hxs
                      split at hsrc
                      · rename_i hst; cases hsrc
                        simp at hst; obtain ⟨rfl, hs1⟩ := hst
                        rw [hxs] at rx
                        simp at hk
                        rw [hs1]
                        exact SrcD.ofStr hk rx.dinv
                      · cases hsrc
                    · split at hsrc
                      · cases hsrc
                      · rename_i hst
                        split at hsrc
                        · rename_i ys' hys
                          split at hsrc
                          · rename_i hsz'; cases hsrc
                            simp [hst] at hk
                            obtain ⟨e'', hk⟩ := hk
                            exact SrcD.ofList hk (rx.rd hys) (allSz_iff.1 hsz')
                          · cases hsrc
                        · cases hsrc
                  obtain ⟨news, hsd⟩ := hsd
                  obtain ⟨v', w', hr, ho', hg⟩ := run_append_av w t tx o.type e' ti z ht hi hzv hz (a.eval s) k xs hown (a.eval x) ys.length news hsd.src (by rw [hkl]; simp [maxLen]; omega) (by rw [hkl]; exact hb2)
                  obtain ⟨G', h1, h2⟩ := h.append (q' := .t d) hq hv hsz hown hfb ho' hg hsd.cells hsd.rd hsd.src.newsLen
                  exact Does.mk (s := Builtin.append_ #[t, tx] o.type #[a.eval s, a.eval x]) hd (by simp [execOp, ho, resolve, invoke, builtin]) hr (h1.put h2 hn)
                · cases hap
              · cases hap
            split at hl
            · rename_i e' hk; cases hl; exact key false hs ⟨e', hk⟩
            · rename_i hk; cases hl; exact key true hs hk
            · cases hl
        · cases hsl
      · cases hsl
    · cases hl
  · cases hl

/-! ### A part of an array variable -/
theorem SR.freeze (h : SR E n G σ a.tmps w) {s : Nat} {cs : List AV} (ho : aget σ.L s = some (.cells cs)) : SR E n { G with f := updf G.f (G.b (.l s)) cs.length } { σ with L := adel σ.L s } a.tmps w := by
  have ho' : σ.obj (.l s) = some (.cells cs) := ho
  have hwk : Wk { σ with L := adel σ.L s } σ := ⟨fun _ _ h => h, fun r o hr => by
    cases r with
    | l t =>
      simp only [St.obj, aget_adel] at hr
      split at hr
      · cases hr
      · exact hr
    | x k => exact hr⟩
  have h1 := h.wk hwk
  have hf0 : G.f (G.b (.l s)) = 0 := h.objf _ _ ho'
  have hlt := (h.obj _ _ ho').lt
  refine h1.world' (fun b => b = G.b (.l s)) (fun b hb => ?_) ⟨Nat.le_refl _, fun b => ?_, fun b i hi => rfl⟩ (fun b hb hx => ⟨rfl, updf_ne _ _ hx⟩) (fun b hb => ?_) rfl rfl rfl
  · subst hb
    refine ⟨fun r o hr e => ?_, fun q v p hq hv => ?_, h.newObj _ _ ho'⟩
    · have := h.inj r (.l s) o _ (hwk.obj r o hr) ho' e
      subst this
      simp [St.obj, aget_adel] at hr
    · obtain ⟨e, sz⟩ := p
      exact h.lamObj q v e sz _ hq hv _ _ ho' rfl
  · by_cases e : b = G.b (.l s)
    · rw [e, hf0]; exact Nat.zero_le _
    · rw [updf_ne _ _ e]; exact Nat.le_refl _
  · have : b ≠ G.b (.l s) := fun e => by rw [e] at hb; omega
    rw [updf_ne _ _ this]; exact h.top b hb

theorem sla_sound (h : SR E n G σ a.tmps w) {o : Oper} {d : Nat} (hd : o.dst = some d) (hn : d < n) {t : TypeId} {x : Operand} {lo hi : Option Operand} (ho : o.op = .slice t x lo hi none) {len e : Nat} (ht : P.underlying t = some (.array len e)) (hsz : Program.sz P e = some 1)
    {x' : LX} {lo' hi' : Option LX} (hx : liftX x = some x') (hlo : liftO lo = some lo') (hhi : liftO hi = some hi') (hs : slaS σ d len (σ.ev x') (evO σ lo') (evO σ hi') = some σ') : Does P E n a w o σ' := by
  unfold slaS at hs
  have rx := h.ev hx
  have rl := liftO_rel h hlo
  have rh := liftO_rel h hhi
  split at hs
  · rename_i s hxs
    split at hs
    · rename_i cs hcs
      split at hs
      · rename_i ds i j hr hi' hj
        split at hs
        · rename_i hb
          obtain ⟨b0, b1, b2, b3, b4⟩ := hb
          cases hs
          rw [hxs] at rx
          have hax : a.eval x = .pointer (some (at_ (G.b (.l s)) 0)) := by
            generalize a.eval x = u at rx
            cases rx; rfl
          have h1 := h.freeze hcs
          obtain ⟨arr, el, g1, g2, g3⟩ := h.obj (.l s) _ (show σ.obj (.l s) = some (.cells cs) from hcs)
          obtain ⟨k1, k2⟩ := rdL_get hr
          have hext : Ext G.f w (updf G.f (G.b (.l s)) cs.length) w := ⟨Nat.le_refl _, fun b => by
            by_cases e : b = G.b (.l s)
            · rw [e, h.objf _ _ (show σ.obj (.l s) = some (.cells cs) from hcs)]; exact Nat.zero_le _
            · rw [updf_ne _ _ e]; exact Nat.le_refl _, fun b i hi => rfl⟩
          have hone : ∀ y ∈ ds, y.cells = [y] ∧ y.one = true := fun y hy => by
            have := List.all_eq_true.1 b1 y hy
            cases y <;> first | exact ⟨rfl, rfl⟩ | (simp [D.one] at this)
          have hrd : RD (updf G.f (G.b (.l s)) cs.length) w (.list ds) (.slice (some (at_ (G.b (.l s)) 0)) ds.length len) := by
            refine .list ds (G.b (.l s)) 0 len 1 (fun k => arr.getD k undef) (by omega) (fun y hy => ?_) ?_ (fun k hk => ?_) (fun i' y j' z hy hz => ?_)
            · obtain ⟨c1, c2⟩ := hone y hy
              refine ⟨by rw [c1]; rfl, fun z hz => ?_⟩
              rw [c1] at hz; simp at hz; subst hz; exact c2
            · simp [k1]
            · rw [Nat.zero_add, cell_of_heap g1]
              have : k < arr.size := by rw [g2, k1]; omega
              simp [this]
            · obtain ⟨c1, _⟩ := hone y (List.mem_of_getElem? hy)
              rw [c1] at hz
              have hj0 : j' = 0 := by cases j' <;> simp_all
              subst hj0
              simp at hz; subst hz
              obtain ⟨xa, hxa, hrd⟩ := k2 i' y hy
              obtain ⟨c1, _, _⟩ := g3 i' xa hxa
              simpa using (c1.rd hrd).ext hext
          have hszall : ∀ y ∈ ds, y.cells.length = 1 := fun y hy => by rw [(hone y hy).1]; rfl
          have hsz' : ∃ ti, P.info? e = some ti ∧ ti.size = 1 := by
            unfold Program.sz at hsz
            cases hti : P.info? e with
            | none => simp [hti] at hsz
            | some ti => simp [hti] at hsz; exact ⟨ti, rfl, hsz⟩
          obtain ⟨ti, hti, hti1⟩ := hsz'
          have hcut : RD (updf G.f (G.b (.l s)) cs.length) w (.list (cutI ds i j)) (.slice (some (if len = i.toNat then at_ (G.b (.l s)) 0 else (at_ (G.b (.l s)) 0).add (i.toNat * 1))) (j.toNat - i.toNat) (len - i.toNat)) := by
            by_cases hc0 : len = i.toNat
            · have e1 : j.toNat - i.toNat = 0 := by omega
              have e2 : cutI ds i j = [] := List.eq_nil_of_length_eq_zero (by rw [cutI_len (l := ds) (i := i) (j := j) (by omega)]; exact e1)
              rw [if_pos hc0, e1, e2]
              exact .list [] _ _ _ 0 (fun _ => undef) (Nat.zero_le _) (fun _ h => by simp at h) (by simp) (fun k hk => by simp at hk) (fun _ _ _ _ h => by simp at h)
            · rw [if_neg hc0]
              rw [at_add]; exact RD.cut hrd hszall b2 b3 (by omega) (len - i.toNat) (by omega)
          have run : (Instr.sliceAt t (a.eval x) (lo.map a.eval) (hi.map a.eval) none).run P w = .ok (.slice (some (if len = i.toNat then at_ (G.b (.l s)) 0 else (at_ (G.b (.l s)) 0).add (i.toNat * 1))) (j.toNat - i.toNat) (len - i.toNat)) w := by
            rw [hax]
            rcases loOf_inv rl hi' with ⟨e1, rfl⟩ | ⟨k1, e1⟩ <;> rcases hiOf_inv rh hj with ⟨e2, rfl⟩ | ⟨k2, e2⟩ <;> rw [e1, e2]
            · simp [Instr.sliceAt, Instr.sureAddr, run_underlying ht, Instr.sliceBounds, sizeOf, typeInfo, hti]
            · have g := run_sliceBound_str (P := P) k2 j len .sliceAlen (by omega) (by omega) w
              simp [Instr.sliceAt, Instr.sureAddr, run_underlying ht, Instr.sliceBounds, g, sizeOf, typeInfo, hti]
            · have g := run_sliceBound_str (P := P) k1 i len .sliceB b2 b3 w
              simp [Instr.sliceAt, Instr.sureAddr, run_underlying ht, Instr.sliceBounds, g, sizeOf, typeInfo, hti, hti1]
            · have g := run_sliceBound_str (P := P) k2 j len .sliceAlen (by omega) (by omega) w
              have g2 := run_sliceBound_str (P := P) k1 i j.toNat .sliceB b2 (by omega) w
              simp [Instr.sliceAt, Instr.sureAddr, run_underlying ht, Instr.sliceBounds, g, g2, sizeOf, typeInfo, hti, hti1]
          exact Does.mk (s := Instr.sliceAt t (a.eval x) (lo.map a.eval) (hi.map a.eval) none) hd (by simp [execOp, ho]) run (h1.put (.d _ _ hcut) hn)
        · cases hs
      · cases hs
    · cases hs
  · cases hs

end Go.Av
