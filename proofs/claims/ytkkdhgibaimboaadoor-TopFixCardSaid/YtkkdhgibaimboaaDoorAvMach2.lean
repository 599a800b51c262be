/- Programs over abstract states, continued: regions, statements, loops, functions. -/
import Derived.Test.YtkkdhgibaimboaaDoorAvDraw3
set_option linter.unusedSectionVars false
namespace Go.Av

variable {E : Entry} {n : Nat} {G : Ghost} {σ σ' : St} {a : Act} {w : World} {P : Program} [Inv P] [HasInv P E]

theorem undef_eq : undef = .tuple #[] := rfl
theorem undR {G : Ghost} {w : World} {v : Value} (h : v = .tuple #[]) : AVR G w und v := by
  subst h
  exact .tuple [] #[] rfl (fun _ h => by simp at h) (fun _ _ h => by simp at h)
theorem not_yielded (h : SR E n G σ a.tmps w) {ops : Array Oper} {j s : Nat} (hj : (ops[j]?).bind (·.dst) = some s) {b : Bool} (hs : σ.get s = und) : yielded ops a.tmps j ≠ some b := by
  have := h.get s
  rw [hs] at this
  have hv : a.tmps.getD s undef = .tuple #[] := by
    have h2 : AVR G w und (a.tmps.getD s undef) := this
    generalize a.tmps.getD s undef = v at h2
    cases h2 with
    | tuple _ vs hl _ _ =>
      have : vs = #[] := by cases vs; simp_all
      rw [this]
  intro hy
  unfold yielded at hy
  rw [hj] at hy
  simp only [Option.bind_some] at hy
  cases hg : a.tmps[s]? with
  | none => rw [hg] at hy; cases hy
  | some v =>
    rw [hg] at hy
    have hgd : a.tmps.getD s undef = v := by simp [hg]
    rw [hv] at hgd
    subst hgd
    cases hy

theorem lops_sound {K : St → Prop} {ops : Array Oper} {Q : Exit → Act → World → Prop} {d : List Deferred} (hK : ∀ a' w', After E n K d a' w' → Q .normal a' w') : ∀ {l : List Oper} {lo : List LOper} {σ : St} {a : Act} {w : World} {G : Ghost}, liftOps P n ops l = some lo → LOpsR P lo K σ → SR E n G σ a.tmps w → a.defers = d →
    wpList P ops Q l a w
  | [], lo, σ, a, w, G, hl, h, hσ, hd => by
    simp [liftOps] at hl; subst hl
    exact hK a w ⟨G, σ, h, hσ, hd⟩
  | o :: l, lo, σ, a, w, G, hl, h, hσ, hd => by
    simp only [liftOps] at hl
    split at hl
    · rename_i x r hx hr
      cases hl
      have hx' := hx
      unfold liftOper at hx'
      split at hx'
      · rename_i hdst
        split at hx'
        · rename_i op g hE hg
          cases hx'
          have go : LStep P { dst := o.dst, op := op, guard := g } (LOpsR P r K) σ → o.wp P a w (wpList P ops Q l) Q := fun hs =>
            lstep_sound hσ hx hs fun a' w' ⟨G', σ', h1, h2, h3⟩ => lops_sound hK hr h1 h2 (h3.trans hd)
          unfold wpList
          simp only [LOpsR] at h
          cases hgd : o.guard with
          | none =>
            rw [hgd] at hg
            simp [guardOf] at hg; subst hg
            rw [if_pos (by simp [Region.wanted, hgd])]
            exact .inl (go h)
          | some jb =>
            obtain ⟨j, b⟩ := jb
            rw [hgd] at hg
            simp only [guardOf] at hg
            split at hg
            · rename_i s hs
              cases hg
              rcases h with ⟨t, ht, h1, h2⟩ | ⟨hu, h2⟩
              rotate_left
              · have hy : yielded ops a.tmps j ≠ some b := not_yielded hσ hs hu
                rw [if_neg (by simp [Region.wanted, hgd, hy])]
                exact lops_sound hK hr h2 (hσ.putO hdst (undR undef_eq)) ((put_defers a _ _).trans hd)
              have hy := yielded_of hσ hs ht (hσ.slot_lt ht)
              by_cases htb : t = b
              · rw [if_pos (by simp [Region.wanted, hgd, hy, htb])]
                exact .inl (go (h1 htb))
              · rw [if_neg (by simp [Region.wanted, hgd, hy, htb])]
                exact lops_sound hK hr (h2 htb) (hσ.putO hdst (undR undef_eq)) ((put_defers a _ _).trans hd)
            · cases hg
        · cases hx'
      · cases hx'
    · cases hl

def QK (E : Entry) (n : Nat) (d : List Deferred) (K : Exit → St → Prop) : Exit → Act → World → Prop := fun e a w => After E n (K e) d a w

def LInv (P : Program) (n : Nat) (c : Code) : LCode → Prop
  | .skip => c = .skip
  | .reg l => ∃ id ops, c = .region id ops false ∧ liftOps P n ops ops.toList = some l
  | .dreg l => ∃ id ops, c = .region id ops true ∧ liftDraw P n ops = some l
  | .seq x y => ∃ cx cy, c = .seq cx cy ∧ liftC P n cx = some x ∧ liftC P n cy = some y
  | .cond x y z => ∃ cc cy cz, c = .cond cc cy cz ∧ liftX cc = some x ∧ liftC P n cy = some y ∧ liftC P n cz = some z
  | .block id x => ∃ cx, c = .block id cx ∧ liftC P n cx = some x
  | .loop x => ∃ cx, c = .loop cx ∧ liftC P n cx = some x
  | .exit id => c = .exit id
  | .ret => c = .ret
  | .dead _ _ => False

theorem liftC_inv {c : Code} {L : LCode} (h : liftC P n c = some L) : LInv P n c L := by
  cases c <;> simp only [liftC] at h <;> try (cases h; done)
  · cases h; rfl
  · rename_i id ops draw
    split at h
    · rename_i hd
      obtain ⟨l, h1, rfl⟩ := map_none h
      subst hd
      exact ⟨id, ops, rfl, h1⟩
    · rename_i hd
      obtain ⟨l, h1, rfl⟩ := map_none h
      have : draw = false := by simpa using hd
      subst this
      exact ⟨id, ops, rfl, h1⟩
  · split at h
    · cases h; exact ⟨_, _, rfl, by assumption, by assumption⟩
    · cases h
  · split at h
    · cases h; exact ⟨_, _, _, rfl, by assumption, by assumption, by assumption⟩
    · cases h
  · obtain ⟨l, h1, rfl⟩ := map_none h; exact ⟨_, rfl, h1⟩
  · obtain ⟨l, h1, rfl⟩ := map_none h; exact ⟨_, rfl, h1⟩
  · cases h; rfl
  · cases h; rfl

theorem adelL_get {α : Type} : ∀ {ds : List Nat} {l : List (Nat × α)} {s : Nat} {x : α}, aget (adelL l ds) s = some x → aget l s = some x
  | [], _, _, _, h => h
  | d :: ds, l, s, x, h => by
    have := adelL_get (ds := ds) h
    rw [aget_adel] at this
    split at this
    · cases this
    · exact this

theorem dead_wk (σ : St) (ds : List Nat) : Wk (σ.dead ds) σ := ⟨fun s x h => adelL_get h, fun r o h => by cases r <;> exact h⟩

theorem lw_sound {d : List Deferred} : ∀ (L : LCode) {c : Code} {K : Exit → St → Prop} {σ : St} {G : Ghost} {a : Act} {w : World}, liftC P n c = some L.strip → LW P L K σ → SR E n G σ a.tmps w → a.defers = d → c.wp P (QK E n d K) a w := by
  intro L
  induction L with
  | skip =>
    intro c K σ G a w hl h hσ hd
    have hi : c = .skip := liftC_inv hl
    subst hi
    exact wp_skip ⟨G, σ, h, hσ, hd⟩
  | reg l =>
    intro c K σ G a w hl h hσ hd
    obtain ⟨id, ops, rfl, hl'⟩ : ∃ id ops, c = .region id ops false ∧ liftOps P n ops ops.toList = some l := liftC_inv hl
    refine wp_region_list ?_
    exact lops_sound (K := K .normal) (fun a' w' h => h) hl' h hσ hd
  | dreg l =>
    intro c K σ G a w hl h hσ hd
    obtain ⟨id, ops, rfl, hl'⟩ : ∃ id ops, c = .region id ops true ∧ liftDraw P n ops = some l := liftC_inv hl
    exact dreg_sound (K := K .normal) hσ hl' hd h (fun a' w' h => h)
  | dead ds x ih =>
    intro c K σ G a w hl h hσ hd
    refine wp_mono (ih (K := deadK ds K) hl h hσ hd) fun e a' w' ⟨G', σ', h1, h2, h3⟩ => ?_
    cases e with
    | normal => exact ⟨G', σ'.dead ds, h1, h2.wk (dead_wk σ' ds), h3⟩
    | _ => exact ⟨G', σ', h1, h2, h3⟩
  | seq x y ihx ihy =>
    intro c K σ G a w hl h hσ hd
    obtain ⟨cx, cy, rfl, hx, hy⟩ : ∃ cx cy, c = .seq cx cy ∧ liftC P n cx = some x.strip ∧ liftC P n cy = some y.strip := liftC_inv hl
    refine wp_seq (wp_mono (ihx hx h hσ hd) fun e a' w' ⟨G', σ', h1, h2, h3⟩ => ?_)
    cases e with
    | normal => exact ihy hy h1 h2 h3
    | _ => exact ⟨G', σ', h1, h2, h3⟩
  | cond x y z ihy ihz =>
    intro c K σ G a w hl h hσ hd
    obtain ⟨cc, cy, cz, rfl, hx, hy, hz⟩ : ∃ cc cy cz, c = .cond cc cy cz ∧ liftX cc = some x ∧ liftC P n cy = some y.strip ∧ liftC P n cz = some z.strip := liftC_inv hl
    obtain ⟨t, ht, h1, h2⟩ := h
    have hc := hσ.ev hx
    rw [ht] at hc
    have hc := hc.dinv
    have hv : a.eval cc = .bool t := by
      generalize a.eval cc = v at hc
      cases hc; rfl
    refine wp_cond hv ?_
    cases t
    · exact ihz hz (h2 rfl) hσ hd
    · exact ihy hy (h1 rfl) hσ hd
  | block id x ih =>
    intro c K σ G a w hl h hσ hd
    obtain ⟨cx, rfl, hx⟩ : ∃ cx, c = .block id cx ∧ liftC P n cx = some x.strip := liftC_inv hl
    refine wp_block (wp_mono (ih hx h hσ hd) fun e a' w' ⟨G', σ', h1, h2, h3⟩ => ?_)
    cases e with
    | exit id' =>
      simp only [blockK] at h1
      simp only [Exit.inBlock]
      split at h1
      · rename_i e; rw [if_pos e]; exact ⟨G', σ', h1, h2, h3⟩
      · rename_i e; rw [if_neg e]; exact ⟨G', σ', h1, h2, h3⟩
    | _ => exact ⟨G', σ', h1, h2, h3⟩
  | loop x ih =>
    intro c K σ G a w hl h hσ hd
    obtain ⟨cx, rfl, hx⟩ : ∃ cx, c = .loop cx ∧ liftC P n cx = some x.strip := liftC_inv hl
    obtain ⟨α, r, I, hwf, ⟨m0, τ0, hw0, hI0⟩, hround⟩ := h
    intro b k cs
    have key : ∀ m (τ : St) (G : Ghost) (a : Act) (w : World), I m τ → SR E n G τ a.tmps w → a.defers = d →
        ∃ e a' w', QK E n d K e a' w' ∧ Arrives P (lone (b.at a (.code cx :: .inLoop cx :: k)) cs w) b k cs e a' w' := by
      intro m
      induction m using hwf.induction with
      | _ m ihm =>
        intro τ G a w hI hσ hd
        obtain ⟨e, a₁, w₁, hq, harr⟩ := ih hx (hround m τ hI) hσ hd b (.inLoop cx :: k) cs
        obtain ⟨G', σ', h1, h2, h3⟩ := hq
        cases e with
        | normal =>
          obtain ⟨m', τ'', hw, hI', hlt⟩ := h1
          obtain ⟨e₂, a₂, w₂, hq₂, harr₂⟩ := ihm m' hlt τ'' G' a₁ w₁ hI' (h2.wk hw) h3
          exact ⟨e₂, a₂, w₂, hq₂, .of_steps (Steps.trans harr (.one step_inLoop)) harr₂⟩
        | exit id => exact ⟨_, a₁, w₁, ⟨G', σ', h1, h2, h3⟩, .pass (x := .inLoop cx) rfl (fun _ _ => .inl (by simp)) harr⟩
        | goto l => exact ⟨_, a₁, w₁, ⟨G', σ', h1, h2, h3⟩, .pass (x := .inLoop cx) rfl (fun _ _ => .inl (by simp)) harr⟩
        | ret => exact ⟨_, a₁, w₁, ⟨G', σ', h1, h2, h3⟩, .pass (x := .inLoop cx) rfl (fun _ _ => .inl (by simp)) harr⟩
        | panic ch => exact ⟨_, a₁, w₁, ⟨G', σ', h1, h2, h3⟩, .pass (x := .inLoop cx) rfl (fun _ _ => .inl (by simp)) harr⟩
        | outgrown => exact ⟨_, a₁, w₁, ⟨G', σ', h1, h2, h3⟩, .pass (x := .inLoop cx) rfl (fun _ _ => .inl (by simp)) harr⟩
    obtain ⟨e, a', w', hq, harr⟩ := key m0 τ0 G a w hI0 (hσ.wk hw0) hd
    exact ⟨e, a', w', hq, .of_steps (.one step_loop) harr⟩
  | exit id =>
    intro c K σ G a w hl h hσ hd
    have hi : c = .exit id := liftC_inv hl
    subst hi
    exact wp_exit ⟨G, σ, h, hσ, hd⟩
  | ret =>
    intro c K σ G a w hl h hσ hd
    have hi : c = .ret := liftC_inv hl
    subst hi
    exact wp_ret ⟨G, σ, h, hσ, hd⟩

/-! ### Functions -/
inductive LRes where
  | tmp (t : Nat)
  | cell (a : Nat) (agg : Bool) (m : Nat)
  deriving Inhabited

def liftRes (P : Program) : List ResultVar → Option (List LRes)
  | [] => some []
  | .tmp t :: r => (liftRes P r).map (.tmp t :: ·)
  | .cell a t :: r => match P.underlying t, Program.sz P t, liftRes P r with
    | some d, some m, some l => some (.cell a (aggT d) m :: l)
    | _, _, _ => none

def resV (σ : St) : LRes → Option D
  | .tmp t => (σ.get t).rd
  | .cell a agg m => match fLd σ agg m (σ.get a) with
    | some z => z.rd
    | none => none

def resL (σ : St) : List LRes → Option (List D)
  | [] => some []
  | x :: r => match resV σ x, resL σ r with
    | some y, some l => some (y :: l)
    | _, _ => none

def mkRes : List D → Res
  | [x] => .one x
  | l => .tup l

def resS (σ : St) (l : List LRes) : Option Res := (resL σ l).map mkRes

def retK (l : List LRes) (Post : Res → Prop) : Exit → St → Prop
  | .normal, σ => ∃ r, resS σ l = some r ∧ Post r
  | .ret, σ => ∃ r, resS σ l = some r ∧ Post r
  | _, _ => False

/-- What a result's variable holds. -/
def readRes (a : Act) : ResultVar → Sem Value
  | .tmp t => pure (a.tmps.getD t undef)
  | .cell x t => do loadVar t (← asAddr (a.tmps.getD x undef))

theorem resL_run (h : SR E n G σ a.tmps w) : ∀ {rs : List ResultVar} {l : List LRes} {ds : List D}, liftRes P rs = some l → resL σ l = some ds →
    ∃ vs : List Value, (rs.mapM (readRes a)).run P w = .ok vs w ∧ vs.length = ds.length ∧ ∀ (i : Nat) (y : D), ds[i]? = some y → RD G.f w y (vs.getD i undef)
  | [], l, ds, hl, hd => by
    simp [liftRes] at hl; subst hl
    simp [resL] at hd; subst hd
    exact ⟨[], by simp, rfl, fun _ _ h => by simp at h⟩
  | r :: rs, l, ds, hl, hd => by
    have tail : ∀ {l' : List LRes} {x : LRes}, liftRes P rs = some l' → l = x :: l' → (∀ y, resV σ x = some y → ∃ v, (readRes a r).run P w = .ok v w ∧ RD G.f w y v) →
        ∃ vs : List Value, ((r :: rs).mapM (readRes a)).run P w = .ok vs w ∧ vs.length = ds.length ∧ ∀ (i : Nat) (y : D), ds[i]? = some y → RD G.f w y (vs.getD i undef) := by
      intro l' x hl' he hx
      subst he
      simp only [resL] at hd
      split at hd
      · rename_i y ds' hy hds
        cases hd
        obtain ⟨v, h1, h2⟩ := hx y hy
        obtain ⟨vs, h3, h4, h5⟩ := resL_run h hl' hds
        refine ⟨v :: vs, ?_, by simp [h4], fun i z hz => ?_⟩
        · simp only [List.mapM_cons, Sem.run_bind, h1, Result.andThen_ok, h3, Sem.run_pure]
        · cases i with
          | zero => simp at hz; subst hz; simpa using h2
          | succ i => simp at hz; simpa using h5 i z hz
      · cases hd
    cases r with
    | tmp t =>
      simp only [liftRes] at hl
      obtain ⟨l', h1, h2⟩ := map_none hl
      exact tail h1 h2.symm (fun y hy => ⟨_, rfl, (h.get t).rd hy⟩)
    | cell x t =>
      simp only [liftRes] at hl
      split at hl
      · rename_i d m l' hd' hm hl'
        cases hl
        refine tail hl' rfl (fun y hy => ?_)
        simp only [resV] at hy
        split at hy
        · rename_i z hz
          have hx := h.get x
          obtain ⟨v, h1, h2⟩ := fLd_run h hd' hm hx hz
          refine ⟨v, ?_, h2.rd hy⟩
          simp only [Act.eval] at h1 hx
          generalize hu0 : a.tmps.getD x undef = u at h1 hx
          -- the slot holds an address
          have hu : ∃ ad, u = .pointer (some ad) := by
            unfold fLd at hz
            split at hz
            · rename_i r o he; rw [he] at hx; cases hx; exact ⟨_, rfl⟩
            · rename_i cs he; rw [he] at hx; obtain ⟨b, o, rfl⟩ := hx.dptr_inv; exact ⟨_, rfl⟩
            · cases hz
          obtain ⟨ad, rfl⟩ := hu
          simp [Instr.loadAt, Instr.sureAddr] at h1
          simp only [readRes, hu0, asAddr, Sem.run_bind, Sem.run_pure, Result.andThen_ok]
          exact h1
        · cases hy
      · cases hl

theorem results_run (h : SR E n G σ a.tmps w) {fn : Func} {l : List LRes} {r : Res} (hl : liftRes P fn.results.toList = some l) (hr : resS σ l = some r) : ∃ v, (results fn a.tmps).run P w = .ok v w ∧ RRes G.f w r v := by
  unfold resS at hr
  obtain ⟨ds, h1, rfl⟩ := map_none hr
  obtain ⟨vs, h2, h3, h4⟩ := resL_run h hl h1
  have h5 : (fn.results.mapM (readRes a)).run P w = .ok vs.toArray w := by
    rw [Array.mapM_eq_mapM_toList]
    simp only [Sem.run_map, h2, Result.andThen_ok]
  have h6 : (results fn a.tmps).run P w = .ok (if h : vs.toArray.size = 1 then vs.toArray[0] else .tuple vs.toArray) w := by
    unfold results
    simp only [Sem.run_bind]
    erw [h5]
    rfl
  refine ⟨_, h6, ?_⟩
  match ds, vs, h3, h4 with
  | [x], [v], _, h4 =>
    show RD G.f w x v
    simpa using h4 0 x rfl
  | [], [], _, _ => exact ⟨#[], rfl, rfl, fun i y hy => by simp at hy⟩
  | x :: y :: ds, u :: v :: vs, h3, h4 =>
    refine ⟨(u :: v :: vs).toArray, by simp, by simpa using h3, fun i z hz => ?_⟩
    have := h4 i z hz
    simpa [List.getD_eq_getElem?_getD] using this

def initρ : Nat → List D → List (Nat × AV)
  | _, [] => []
  | k, x :: r => (k, .d x) :: initρ (k + 1) r

theorem initρ_get : ∀ (k : Nat) (l : List D) (s : Nat) (x : AV), aget (initρ k l) s = some x → ∃ y, l[s - k]? = some y ∧ x = .d y ∧ k ≤ s
  | _, [], _, _, h => by simp [initρ, aget] at h
  | k, y :: l, s, x, h => by
    simp only [initρ, aget] at h
    split at h
    · rename_i e; subst e; cases h; exact ⟨y, by simp, rfl, Nat.le_refl _⟩
    · rename_i e
      obtain ⟨z, h1, h2, h3⟩ := initρ_get (k + 1) l s x h
      refine ⟨z, ?_, h2, by omega⟩
      have : s - k = (s - (k + 1)) + 1 := by omega
      rw [this]; simpa using h1

theorem pcall_of {f : FuncId} {fn : Func} {c : Code} {L : LCode} {l : List LRes} {args : List D} {Post : Res → Prop} (hf : P.funcs[f]? = some fn) (hb : fn.body = some c) (hL : liftC P fn.ntmps c = some L.strip) (hl : liftRes P fn.results.toList = some l) (hn : args.length ≤ fn.ntmps)
    (h : LW P L (retK l Post) ⟨initρ 0 args, [], fun _ => none⟩) : PCall P f args Post := by
  intro f0 w vs hI ht hsz hrd
  refine calls_of_wp hf hb ?_
  let E : Entry := { w0 := w, f0 := f0, M := fun _ => False, b0 := fun _ => 0 }
  haveI : HasInv P E := ⟨hI, fun _ h => h⟩
  let G0 : Ghost := { f := f0, b := fun _ => 0, lam := fun _ => none }
  have h0 : SR E fn.ntmps G0 ⟨initρ 0 args, [], fun _ => none⟩ (vs ++ Array.replicate (fn.ntmps - vs.size) undef) w := by
    have hno : ∀ r o, St.obj ⟨initρ 0 args, [], fun _ => none⟩ r = some o → False := fun r o ho => by cases r <;> simp [St.obj, aget] at ho
    refine { size := by simp; omega, slot := fun s x hx => ?_, obj := fun r o ho => (hno r o ho).elim, objf := fun r o ho => (hno r o ho).elim, inj := fun r _ o _ ho => (hno r o ho).elim,
             lam := fun _ _ _ _ h => (by cases h), lamObj := fun _ _ _ _ _ h => (by cases h), lamInj := fun _ _ _ _ _ _ _ h => (by cases h),
             newObj := fun r o ho => (hno r o ho).elim, newLam := fun _ _ _ _ _ h => (by cases h), ext := Ext.refl _ _, fr := fun _ _ _ => ⟨rfl, rfl⟩, top := ht,
             ext0 := fun _ => rfl, own0 := fun r cs x s ho => (hno _ _ ho).elim, os := rfl, tape := rfl, output := rfl }
    obtain ⟨y, h1, rfl, _⟩ := initρ_get 0 args s x hx
    simp at h1
    have hs : s < vs.size := by rw [hsz]; exact (List.getElem?_eq_some_iff.1 h1).1
    have h2 := hrd s y h1
    have : (vs ++ Array.replicate (fn.ntmps - vs.size) undef).getD s undef = vs.getD s undef := by
      simp only [Array.getD_eq_getD_getElem?]
      rw [Array.getElem?_append_left hs]
    rw [this]
    exact .d _ _ h2
  refine wp_mono (lw_sound (E := E) (d := []) L hL h h0 rfl) fun e a' w' ⟨G', σ', h1, h2, h3⟩ => ?_
  have fin : (∃ r, resS σ' l = some r ∧ Post r) → ∃ v, (results fn a'.tmps).run P w' = .ok v w' ∧ ∃ r v' f', Post r ∧ Ending.returned v = .returned v' ∧ RRes f' w' r v' ∧ Fr f0 w f' w' := fun ⟨r, hr, hp⟩ => by
    obtain ⟨v, g1, g2⟩ := results_run (a := a') h2 hl hr
    exact ⟨v, g1, r, v, G'.f, hp, rfl, g2, ⟨h2.ext.size, fun b hb => h2.fr b hb (fun h => h), h2.top, h2.os, h2.tape, h2.output⟩⟩
  cases e with
  | normal => obtain ⟨v, g1, g2⟩ := fin h1; exact ⟨h3, v, g1, g2⟩
  | ret => obtain ⟨v, g1, g2⟩ := fin h1; exact ⟨h3, v, g1, g2⟩
  | exit id => exact h1.elim
  | goto l => exact h1.elim
  | panic ch => exact h1.elim
  | outgrown => exact h1.elim

end Go.Av
