/- Regions that draw their order: whichever is drawn, what is shown of the order of the text holds. -/
import Derived.Test.YtkkdhgibaimboaaDoorAvNew2
set_option linter.unusedSectionVars false
namespace Go.Av

variable {E : Entry} {n : Nat} {G : Ghost} {σ σ' : St} {a : Act} {w : World} {P : Program} [Inv P] [HasInv P E]

theorem yielded_of (h : SR E n G σ a.tmps w) {ops : Array Oper} {j s : Nat} (hj : (ops[j]?).bind (·.dst) = some s) {t : Bool} (hs : σ.get s = .d (.bool t)) (hn : s < n) : yielded ops a.tmps j = some t := by
  have := h.get s
  rw [hs] at this
  have := this.dinv
  simp only [Act.eval] at this
  have hv : a.tmps.getD s undef = .bool t := by
    generalize a.tmps.getD s undef = v at this
    cases this; rfl
  have hlt : s < a.tmps.size := by rw [h.size]; exact hn
  have hg : a.tmps[s]? = some (.bool t) := by
    rw [← hv]; simp [hlt]
  unfold yielded
  rw [hj]
  simp only [Option.bind_some, hg]

theorem get_lt {s : Nat} {x : AV} (hx : σ.get s = x) (hj : x ≠ .junk) : ∃ y, aget σ.ρ s = some y := by
  unfold St.get at hx
  cases hy : aget σ.ρ s with
  | none => rw [hy] at hx; exact absurd hx.symm hj
  | some y => exact ⟨y, rfl⟩

/-- A frame's slot that holds something known is one of its slots. -/
theorem SR.slot_lt (h : SR E n G σ a.tmps w) {s : Nat} {t : Bool} (hs : σ.get s = .d (.bool t)) : s < n := by
  have h1 := h.get s
  rw [hs] at h1
  have h1 := h1.dinv
  simp only [Act.eval] at h1
  refine Classical.byContradiction fun hl => ?_
  have hu : a.tmps.getD s undef = undef := by
    have : a.tmps.size ≤ s := by rw [h.size]; omega
    simp [this]
  rw [hu] at h1
  revert h1
  unfold undef
  intro h1
  cases h1


/-- What is read off of an operation in a region that draws. -/
def Lifted (P : Program) [Inv P] (n : Nat) (ops : Array Oper) (o : Oper) (x : LOper) : Prop := ∃ y, liftOper P n ops o = some y ∧ (x = y ∨ x = y.copy)

theorem liftOper_inv {ops : Array Oper} {o : Oper} {y : LOper} (h : liftOper P n ops o = some y) : dstOk n o.dst = true ∧ y.dst = o.dst ∧ liftE P o = some y.op ∧ guardOf ops o.guard = some y.guard := by
  unfold liftOper at h
  split at h
  · rename_i hd
    split at h
    · rename_i op g hE hg
      cases h
      exact ⟨hd, rfl, hE, hg⟩
    · cases h
  · cases h

theorem copy_inv {y : LOper} : y.copy = y ∨ ∃ x, y.op = .asg x ∧ y.copy = { y with op := .val (.cp x) } := by
  unfold LOper.copy
  split
  · exact .inr ⟨_, by assumption, rfl⟩
  · exact .inl rfl

theorem liftE_asg {o : Oper} {x : LX} (h : liftE P o = some (.asg x)) : ∃ X, o.op = .assign X ∧ liftX X = some x := by
  unfold liftE at h
  split at h
  · rename_i X ho
    split at h
    · split at h <;> cases h
    · obtain ⟨z, h1, h2⟩ := map_none h; cases h2; exact ⟨X, ho, h1⟩
  · split at h <;> cases h
  · obtain ⟨_, _, h⟩ := map_none h; cases h
  · split at h <;> cases h
  · unfold liftAppL at h
    split at h
    · obtain ⟨_, _, _, _, _, _, h⟩ := liftApp_app h; cases h
    · cases h
  · split at h
    · obtain ⟨_, _, h⟩ := map_none h; cases h
    · cases h
  · split at h
    · split at h <;> cases h
    · cases h
  · split at h
    · split at h <;> cases h
    · obtain ⟨_, _, h⟩ := map_none h; cases h
  · obtain ⟨_, _, h⟩ := map_none h; cases h

theorem liftE_bsl {o : Oper} {e sz : Nat} {l : List LX} (h : liftE P o = some (.bsl e sz l)) : ∃ t len parts by_, o.op = .buildSlice t len parts ∧ liftSl P t = some (e, sz, by_) ∧ liftL (parts.toList.map (·.2)) = some l ∧ inOrder 0 parts.toList = true ∧ parts.size = len ∧ zeroFits P e = true := by
  unfold liftE at h
  split at h
  · split at h
    · split at h <;> cases h
    · obtain ⟨_, _, h⟩ := map_none h; cases h
  · split at h <;> cases h
  · obtain ⟨_, _, h⟩ := map_none h; cases h
  · split at h <;> cases h
  · unfold liftAppL at h
    split at h
    · obtain ⟨_, _, _, _, _, _, h⟩ := liftApp_app h; cases h
    · cases h
  · split at h
    · obtain ⟨_, _, h⟩ := map_none h; cases h
    · cases h
  · rename_i t len parts ho
    split at h
    · rename_i e' sz' by_ l' h1 h2
      split at h
      · rename_i hc
        cases h
        simp only [Bool.and_eq_true, beq_iff_eq] at hc
        exact ⟨t, len, parts, by_, ho, h1, h2, hc.1.1, hc.1.2, hc.2⟩
      · cases h
    · cases h
  · split at h
    · split at h <;> cases h
    · obtain ⟨_, _, h⟩ := map_none h; cases h
  · obtain ⟨_, _, h⟩ := map_none h; cases h

/-- One operation, unguarded. -/
theorem lone_sound (h : SR E n G σ a.tmps w) {ops : Array Oper} {o : Oper} {x : LOper} (hl : Lifted P n ops o x) {K : St → Prop} (hs : LStep P x K σ) {next : Act → World → Prop} {Q : Exit → Act → World → Prop}
    (hK : ∀ a' w', After E n K a.defers a' w' → next a' w') : o.wp P a w next Q := by
  obtain ⟨y, hy, he⟩ := hl
  have hxy : x = y ∨ ∃ z, y.op = .asg z ∧ x = { y with op := .val (.cp z) } := by
    rcases he with rfl | rfl
    · exact .inl rfl
    · exact copy_inv
  rcases hxy with rfl | ⟨z, hz, rfl⟩
  · exact lstep_sound h hy hs hK
  · obtain ⟨hd, hdst, hE, _⟩ := liftOper_inv hy
    rw [hz] at hE
    obtain ⟨X, ho, hX⟩ := liftE_asg hE
    have hrun : (execOp a.eval o).run P w = .ok (.value (a.eval X)) w := by simp only [execOp, ho]; rfl
    unfold LStep at hs
    obtain ⟨σ', h1, h2⟩ := hs
    unfold Oper.wp
    rw [hrun]
    refine hK _ _ ⟨G, σ', h2, ?_, put_defers a _ _⟩
    have rx := h.ev hX
    simp only [step1, hdst] at h1
    cases hdd : o.dst with
    | none => rw [hdd] at h1; simp [stepN] at h1
    | some d =>
      rw [hdd] at h1 hd
      simp only [stepD, putV, pev] at h1
      cases h1
      simpa [Act.put, hdd] using h.put rx (by simpa [dstOk] using hd)

theorem moves_inv {x : LOper} (h : x.moves = true) : (∃ v, x.op = .val v) ∨ (∃ f l, x.op = .call f l) ∨ (∃ e sz l, x.op = .bsl e sz l) ∨ ∃ e sz b s u v, x.op = .app e sz b s u v := by
  unfold LOper.moves at h
  split at h
  · exact .inl ⟨_, by assumption⟩
  · exact .inr (.inl ⟨_, _, by assumption⟩)
  · exact .inr (.inr (.inl ⟨_, _, _, by assumption⟩))
  · exact .inr (.inr (.inr ⟨_, _, _, _, _, _, by assumption⟩))
  · cases h

/-- A label that is given up twice. -/
theorem erase_twice (q : Lab) (x : AV) : (x.erase q).erase q = x.erase q := by
  cases x <;> try rfl
  rename_i q' e sz l
  by_cases h : q' = q <;> simp [AV.erase, h]

/-- One operation, unguarded, told by its effect. -/
theorem deff_sound (h : SR E n G σ a.tmps w) {ops : Array Oper} {o : Oper} {x : LOper} (hl : Lifted P n ops o x) (hm : x.moves = true) {e : Eff} (hs : DEff P x.dst x.op σ e) {K : St → Prop} (hKe : K (e.app x.dst σ)) {next : Act → World → Prop} {Q : Exit → Act → World → Prop}
    (hK : ∀ a' w', After E n K a.defers a' w' → next a' w') : o.wp P a w next Q := by
  obtain ⟨d, op, g⟩ := x
  rcases moves_inv hm with ⟨v, ho⟩ | ⟨f, l, ho⟩ | ⟨e1, sz, l, ho⟩ | ⟨e1, sz, b, s, u, v, ho⟩ <;> simp only at ho <;> subst ho <;> simp only [DEff] at hs
  · obtain ⟨h0, z, h1, rfl⟩ := hs
    cases d with
    | none => cases h0
    | some d => exact lone_sound h hl (K := K) ⟨σ.put d z, by simp [step1, stepD, putV, h1], hKe⟩ hK
  · obtain ⟨ds, r, h1, h2, rfl⟩ := hs
    exact lone_sound h hl (K := K) ⟨ds, _, h1, h2, fun r' e => by subst e; exact hKe⟩ hK
  · obtain ⟨k, l', rfl, h2, h3, rfl⟩ := hs
    obtain ⟨y, hy, hxy⟩ := hl
    have hyb : y.dst = some k ∧ y.op = .bsl e1 sz l := by
      rcases hxy with e | e
      · rw [← e]; exact ⟨rfl, rfl⟩
      · rcases copy_inv (y := y) with e' | ⟨z, _, e'⟩
        · rw [e'] at e; rw [← e]; exact ⟨rfl, rfl⟩
        · rw [e'] at e; have := congrArg LOper.op e; simp at this
    obtain ⟨hd, hdst, hE, _⟩ := liftOper_inv hy
    rw [hyb.1] at hdst
    rw [hyb.2] at hE
    have hn : k < n := by rw [← hdst] at hd; simpa [dstOk] using hd
    obtain ⟨t, len, parts, bb, ho, g1, g2, g3, g4, g5⟩ := liftE_bsl hE
    obtain ⟨nx, v, w', G', r1, r2, r3⟩ := bsp_sound h hdst.symm hn ho g1 g2 g3 g4 g5 h2 h3
    unfold Oper.wp
    rw [r1]
    rcases r2 with rfl | ⟨rfl, rfl⟩
    · exact hK _ _ ⟨G', _, hKe, r3, put_defers a _ _⟩
    · exact hK _ _ ⟨G', _, hKe, r3, put_defers a _ _⟩
  · obtain ⟨k, q, l', ys, rfl, h2, h3, h4, rfl⟩ := hs
    exact lone_sound h hl (K := K) ⟨_, by simp only [step1, stepD, appS, h2, h3]; rw [if_pos ⟨trivial, trivial, h4.1, h4.2⟩]; rfl, hKe⟩ hK

def DStepC (P : Program) [Inv P] (o : LOper) (K : St → Prop) (σ : St) : Prop := if o.moves then DStepM P o K σ else LOps P [o] (Cl K) σ
def DOpsC (P : Program) [Inv P] : List LOper → (St → Prop) → St → Prop
  | [], K, σ => ∃ τ, Eqv σ τ ∧ K τ
  | o :: os, K, σ => DStepC P o (DOpsC P os K) σ

/-- One operation of a region. -/
theorem dop_sound (h : SR E n G σ a.tmps w) {ops : Array Oper} {i : Nat} {o : Oper} (hi : ops[i]? = some o) {x : LOper} (hl : Lifted P n ops o x) {K : St → Prop} (hs : DStepC P x K σ) {next : Act → World → Prop} {Q : Exit → Act → World → Prop}
    (hK : ∀ a' w', After E n K a.defers a' w' → next a' w') : wpOp P ops Q i next a w := by
  have hinv : dstOk n o.dst = true ∧ x.dst = o.dst ∧ guardOf ops o.guard = some x.guard := by
    obtain ⟨y, hy, he⟩ := hl
    obtain ⟨h1, h2, _, h4⟩ := liftOper_inv hy
    rcases he with rfl | rfl
    · exact ⟨h1, h2, h4⟩
    · rcases copy_inv (y := y) with e | ⟨z, _, e⟩ <;> rw [e] <;> exact ⟨h1, h2, h4⟩
  obtain ⟨hdst, hxd, hgd⟩ := hinv
  unfold wpOp
  simp only [hi]
  -- by guard: done, or skipped
  have key : (x.guard = none → o.wp P a w next Q) → (∀ s b t, x.guard = some (s, b) → σ.get s = .d (.bool t) → (t = b → o.wp P a w next Q) ∧ (t ≠ b → next (a.put o.dst undef) w)) → (∀ s b, x.guard = some (s, b) → ∃ t, σ.get s = .d (.bool t)) →
      if Region.wanted o (yielded ops a.tmps) then o.wp P a w next Q ∨ (o.asks P a w ∧ LetsOut Q) else next (a.put o.dst undef) w := fun k1 k2 k3 => by
    cases hg : o.guard with
    | none =>
      rw [hg] at hgd
      simp [guardOf] at hgd
      rw [if_pos (by simp [Region.wanted, hg])]
      exact .inl (k1 hgd.symm)
    | some jb =>
      obtain ⟨j, b⟩ := jb
      rw [hg] at hgd
      simp only [guardOf] at hgd
      split at hgd
      · rename_i s hs'
        simp only [Option.some.injEq] at hgd
        obtain ⟨t, ht⟩ := k3 s b hgd.symm
        have hy := yielded_of h hs' ht (h.slot_lt ht)
        obtain ⟨m1, m2⟩ := k2 s b t hgd.symm ht
        by_cases htb : t = b
        · rw [if_pos (by simp [Region.wanted, hg, hy, htb])]; exact .inl (m1 htb)
        · rw [if_neg (by simp [Region.wanted, hg, hy, htb])]; exact m2 htb
      · cases hgd
  have skipped : ∀ {τ : St}, Eqv (putO σ x.dst .junk) τ → K τ → next (a.put o.dst undef) w := fun he hk =>
    hK _ _ ⟨G, _, hk, (h.putO hdst (.junk undef)).eqv (hxd ▸ he), put_defers a _ _⟩
  unfold DStepC at hs
  split at hs
  · rename_i hm
    obtain ⟨e, he, τ, hτ, hk⟩ := hs
    have go : DEff P x.dst x.op σ e → o.wp P a w next Q := fun hd =>
      deff_sound (K := fun υ => Eqv υ τ) h hl hm hd hτ fun a' w' ⟨G', υ, h1, h2, h3⟩ => hK _ _ ⟨G', τ, hk, h2.eqv h1, h3⟩
    unfold DEffG at he
    refine key (fun hg => ?_) (fun s b t hg ht => ?_) (fun s b hg => ?_) <;> rw [hg] at he
    · exact go he
    · obtain ⟨t', h1, h2, h3⟩ := he
      rw [ht] at h1; cases h1
      refine ⟨fun e => go (h2 e), fun e' => ?_⟩
      have := h3 e'; subst this
      exact skipped hτ hk
    · obtain ⟨t', h1, _⟩ := he; exact ⟨t', h1⟩
  · simp only [LOps] at hs
    refine key (fun hg => ?_) (fun s b t hg ht => ?_) (fun s b hg => ?_) <;> rw [hg] at hs
    · exact lone_sound h hl hs fun a' w' ⟨G', υ, ⟨τ, h1, hk⟩, h2, h3⟩ => hK _ _ ⟨G', τ, hk, h2.eqv h1, h3⟩
    · obtain ⟨t', h1, h2, h3⟩ := hs
      rw [ht] at h1; cases h1
      refine ⟨fun e => lone_sound h hl (h2 e) fun a' w' ⟨G', υ, ⟨τ, h1, hk⟩, h2, h3⟩ => hK _ _ ⟨G', τ, hk, h2.eqv h1, h3⟩, fun e => ?_⟩
      obtain ⟨τ, h1, hk⟩ := h3 e
      exact skipped h1 hk
    · obtain ⟨t', h1, _⟩ := hs; exact ⟨t', h1⟩

theorem keeps_moves {o : LOper} (h : o.keeps = true) : o.moves = true := by
  unfold LOper.keeps at h; unfold LOper.moves; split at h <;> first | (cases h; done) | simp [*]

theorem swapM_moves {p q : LOper} (h : swapM p q = true) : p.moves = true ∧ q.moves = true := by
  unfold swapM at h
  simp only [Bool.and_eq_true, Bool.or_eq_true] at h
  rcases h.2 with (⟨a, b⟩ | ⟨a, b⟩) | ⟨a, b⟩
  · exact ⟨keeps_moves a, keeps_moves b⟩
  · exact ⟨keeps_moves (pure_moves a), b⟩
  · exact ⟨b, keeps_moves (pure_moves a)⟩

theorem DStepM.mono {o : LOper} {K K' : St → Prop} (hK : ∀ σ, K σ → K' σ) (h : DStepM P o K σ) : DStepM P o K' σ :=
  let ⟨e, h1, τ, h2, h3⟩ := h
  ⟨e, h1, τ, h2, hK _ h3⟩

theorem lstep_mono {o : LOper} {K K' : St → Prop} {σ : St} (hK : ∀ σ, K σ → K' σ) (h : LStep P o K σ) : LStep P o K' σ := by
  unfold LStep at *
  split at h
  · rename_i f args heq
    obtain ⟨ds, Post, h1, h2, h3⟩ := h
    exact ⟨ds, Post, h1, h2, fun r hr => hK _ (h3 r hr)⟩
  · rename_i op hne
    obtain ⟨σ', h1, h2⟩ := h
    exact ⟨σ', h1, hK _ h2⟩

theorem lops_mono {K K' : St → Prop} (hK : ∀ σ, K σ → K' σ) : ∀ {l : List LOper} {σ : St}, LOps P l K σ → LOps P l K' σ
  | [], σ, h => hK σ h
  | o :: l, σ, h => by
    simp only [LOps] at *
    cases hg : o.guard with
    | none => rw [hg] at h; exact lstep_mono (fun _ => lops_mono hK) h
    | some sb =>
      obtain ⟨s, b⟩ := sb
      rw [hg] at h
      obtain ⟨t, h1, h2, h3⟩ := h
      exact ⟨t, h1, fun e => lstep_mono (fun _ => lops_mono hK) (h2 e), fun e => lops_mono hK (h3 e)⟩

theorem Cl.mono {K K' : St → Prop} (hK : ∀ σ, K σ → K' σ) (h : Cl K σ) : Cl K' σ := let ⟨τ, a, b⟩ := h; ⟨τ, a, hK _ b⟩

theorem DStepC.mono {o : LOper} {K K' : St → Prop} (hK : ∀ σ, K σ → K' σ) (h : DStepC P o K σ) : DStepC P o K' σ := by
  unfold DStepC at *
  split at h
  · rename_i hm; rw [if_pos hm]; exact h.mono hK
  · rename_i hm; rw [if_neg hm]; exact lops_mono (fun _ => Cl.mono hK) h

theorem swapC {p q : LOper} (h : swapOK p q = true) {K : St → Prop} {σ : St} (hd : DStepC P p (DStepC P q K) σ) : DStepC P q (DStepC P p K) σ := by
  unfold swapOK at h
  simp only [Bool.or_eq_true, Bool.and_eq_true] at h
  rcases h with (h | ⟨⟨⟨⟨⟨h1, h2⟩, h3⟩, h4⟩, h5⟩, h6⟩) | ⟨⟨⟨⟨h1, h2⟩, h3⟩, h4⟩, h5⟩
  · obtain ⟨m1, m2⟩ := swapM_moves h
    have e1 : DStepC P p = DStepM P p := by funext K σ; simp [DStepC, m1]
    have e2 : DStepC P q = DStepM P q := by funext K σ; simp [DStepC, m2]
    rw [e1, e2] at hd ⊢
    exact swap h hd
  · obtain ⟨cs, hcs⟩ : ∃ cs, p.op = .allo cs := by
      unfold isAllo at h2
      split at h2
      · exact ⟨_, by assumption⟩
      · cases h2
    have m1 : p.moves = false := by simp [LOper.moves, hcs]
    have m2 := keeps_moves h5
    obtain ⟨d, hdd⟩ := Option.isSome_iff_exists.1 h4
    have e1 : DStepC P p = fun K => LOps P [p] (Cl K) := by funext K σ; simp [DStepC, m1]
    have e2 : DStepC P q = DStepM P q := by funext K σ; simp [DStepC, m2]
    rw [e1, e2] at hd ⊢
    exact swapA h1 hcs (by simpa using h3) hdd h5 h6 hd
  · have m1 : p.moves = false := by
      unfold isSt at h2
      split at h2
      · simp [LOper.moves, *]
      · cases h2
    have m2 : q.moves = true := by
      unfold isExt at h5
      split at h5
      · simp [LOper.moves, *]
      · cases h5
    have e1 : DStepC P p = fun K => LOps P [p] (Cl K) := by funext K σ; simp [DStepC, m1]
    have e2 : DStepC P q = DStepM P q := by funext K σ; simp [DStepC, m2]
    rw [e1, e2] at hd ⊢
    exact swapB h1 h2 (by simpa using h3) (by simpa using h4) h5 hd

/-- An operation that stands apart from all ahead of it comes first. -/
theorem pull {q : LOper} {post : List LOper} {K : St → Prop} : ∀ {pre : List LOper} {σ : St}, (∀ p ∈ pre, swapOK p q = true) → DOpsC P (pre ++ q :: post) K σ → DStepC P q (DOpsC P (pre ++ post) K) σ
  | [], _, _, h => h
  | p :: pre, σ, hs, h => by
    have h1 : DStepC P p (DOpsC P (pre ++ q :: post) K) σ := h
    exact swapC (hs p (by simp)) (h1.mono fun τ ht => pull (fun p hp => hs p (by simp [hp])) ht)

theorem dops_close : ∀ {l : List LOper} {K : St → Prop} {σ : St}, DOps P l K σ → DOpsC P l K σ
  | [], K, σ, h => ⟨σ, .refl _, h⟩
  | o :: l, K, σ, h => by
    simp only [DOps, DStep] at h
    simp only [DOpsC, DStepC]
    split at h
    · rename_i hm
      obtain ⟨e, h1, h2⟩ := h
      rw [if_pos hm]
      exact ⟨e, h1, _, .refl _, dops_close h2⟩
    · rename_i hm
      rw [if_neg hm]
      exact lops_mono (fun σ h => ⟨σ, .refl _, dops_close h⟩) h

theorem pw_split {f : Nat → Nat} {R pre post : List Nat} {i : Nat} (hR : R.Pairwise (fun a b => f a < f b)) (he : R = pre ++ i :: post) : (∀ k ∈ pre, f k < f i) ∧ (pre ++ post).Pairwise (fun a b => f a < f b) ∧ ∀ k, k ∈ pre ++ post ↔ k ∈ R ∧ k ≠ i := by
  subst he
  rw [List.pairwise_append, List.pairwise_cons] at hR
  obtain ⟨h1, ⟨h2, h3⟩, h4⟩ := hR
  refine ⟨fun k hk => h4 k hk i (by simp), ?_, fun k => ?_⟩
  · rw [List.pairwise_append]
    exact ⟨h1, h3, fun a ha b hb => h4 a ha b (by simp [hb])⟩
  · simp only [List.mem_append, List.mem_cons]
    constructor
    · rintro (h | h)
      · exact ⟨.inl h, fun e => by have := h4 k h i (by simp); rw [e] at this; omega⟩
      · exact ⟨.inr (.inr h), fun e => by have := h2 k h; rw [e] at this; omega⟩
    · rintro ⟨h | h | h, hne⟩
      · exact .inl h
      · exact absurd h hne
      · exact .inr h

theorem sortedB_pw {f : Nat → Nat} : ∀ {l : List Nat}, sortedB f l = true → l.Pairwise (fun a b => f a < f b)
  | [], _ => .nil
  | a :: l, h => by
    simp only [sortedB, Bool.and_eq_true, List.all_eq_true, decide_eq_true_eq] at h
    exact .cons (fun b hb => h.1 b hb) (sortedB_pw h.2)

theorem drawOK_ord {ops : Array Oper} {lo : List LOper} {ord : List Nat} (h : drawOK ops lo ord = true) : ord.Pairwise (fun a b => posOf ord a < posOf ord b) ∧ (∀ k, k ∈ ord ↔ k < ops.size) ∧ ord.length = ops.size := by
  unfold drawOK at h
  simp only [Bool.and_eq_true, decide_eq_true_eq, List.all_eq_true] at h
  obtain ⟨⟨⟨⟨h1, h2⟩, h3⟩, h4⟩, _⟩ := h
  exact ⟨sortedB_pw h1, fun k => ⟨fun hk => h2 k hk, fun hk => by simpa using h3 k (List.mem_range.2 hk)⟩, h4⟩

theorem drawOK_row {ops : Array Oper} {lo : List LOper} {ord : List Nat} (h : drawOK ops lo ord = true) {i : Nat} {o : Oper} (hi : ops[i]? = some o) :
    (∀ e ∈ o.after, Region.binds .any e = true → e.on < ops.size ∧ posOf ord e.on < posOf ord i) ∧
    ∀ k, k < ops.size → posOf ord k < posOf ord i → waitsN ops 3 i k = true ∨ (match lo[k]?, lo[i]? with | some p, some q => swapOK p q | _, _ => false) = true := by
  unfold drawOK at h
  rw [Bool.and_eq_true] at h
  have h1 := List.all_eq_true.1 h.2 i (List.mem_range.2 (Array.getElem?_eq_some_iff.1 hi).1)
  simp only [Bool.and_eq_true, hi] at h1
  refine ⟨fun e he hb => ?_, fun k hk hp => ?_⟩
  · have := Array.all_eq_true'.1 h1.1 e he
    simpa [hb] using this
  · have h2 := List.all_eq_true.1 h1.2 k (List.mem_range.2 hk)
    rw [Bool.or_eq_true, Bool.or_eq_true] at h2
    rcases h2 with (h2 | h2) | h2
    · simp [hp] at h2
    · exact .inl h2
    · exact .inr h2

theorem drawOK_back {ops : Array Oper} {lo : List LOper} {ord : List Nat} (h : drawOK ops lo ord = true) {i : Nat} {o : Oper} (hi : ops[i]? = some o) : ∀ e ∈ o.after, Region.binds .any e = true → e.on < ops.size ∧ posOf ord e.on < posOf ord i := (drawOK_row h hi).1

/-- What is waited for is listed. -/
def Closed (ops : Array Oper) (listed : Array Bool) : Prop := ∀ (i : Nat) (o : Oper), ops[i]? = some o → listed.getD i false = true → ∀ e ∈ o.after, Region.binds .any e = true → listed.getD e.on false = true

theorem waits_spec {ops : Array Oper} {i k : Nat} (h : waits ops i k = true) : ∃ o, ops[i]? = some o ∧ ∃ e ∈ o.after, Region.binds .any e = true ∧ e.on = k := by
  unfold waits at h
  split at h
  · rename_i o ho
    obtain ⟨e, he, hb⟩ := Array.any_eq_true'.1 h
    simp only [Bool.and_eq_true, beq_iff_eq] at hb
    exact ⟨o, ho, e, he, hb.1, hb.2⟩
  · cases h

theorem waitsN_listed {ops : Array Oper} {listed : Array Bool} (hc : Closed ops listed) : ∀ {f i k : Nat}, waitsN ops f i k = true → listed.getD i false = true → listed.getD k false = true
  | 0, i, k, h, hl => by
    obtain ⟨o, ho, e, he, hb, rfl⟩ := waits_spec h
    exact hc i o ho hl e he hb
  | f + 1, i, k, h, hl => by
    simp only [waitsN, Bool.or_eq_true, List.any_eq_true, Bool.and_eq_true] at h
    rcases h with h | ⟨j, _, h1, h2⟩
    · obtain ⟨o, ho, e, he, hb, rfl⟩ := waits_spec h
      exact hc i o ho hl e he hb
    · obtain ⟨o, ho, e, he, hb, rfl⟩ := waits_spec h1
      exact waitsN_listed hc h2 (hc i o ho hl e he hb)

theorem waitsN_ready {ops : Array Oper} {listed : Array Bool} (hc : Closed ops listed) {f i k : Nat} {o : Oper} (ho : ops[i]? = some o) (hr : ∀ e ∈ o.after, Region.binds .any e = true → listed.getD e.on false = true) (h : waitsN ops f i k = true) : listed.getD k false = true := by
  have h0 : ∀ {j}, waits ops i j = true → listed.getD j false = true := fun hw => by
    obtain ⟨o', ho', e, he, hb, rfl⟩ := waits_spec hw
    rw [ho] at ho'; cases ho'
    exact hr e he hb
  cases f with
  | zero => exact h0 h
  | succ f =>
    simp only [waitsN, Bool.or_eq_true, List.any_eq_true, Bool.and_eq_true] at h
    rcases h with h | ⟨j, _, h1, h2⟩
    · exact h0 h
    · exact waitsN_listed hc h2 (h0 h1)

theorem drawOK_swap {ops : Array Oper} {lo : List LOper} {ord : List Nat} (h : drawOK ops lo ord = true) {i k : Nat} {o : Oper} {x y : LOper} (hi : ops[i]? = some o) (hks : k < ops.size) (hk : posOf ord k < posOf ord i) (hx : lo[k]? = some x) (hy : lo[i]? = some y) (hw : waitsN ops 3 i k = true → False) : swapOK x y = true := by
  rcases (drawOK_row h hi).2 k hks hk with h2 | h2
  · exact (hw h2).elim
  · simpa only [hx, hy] using h2

/-- Whatever is drawn. -/
theorem dany {ops : Array Oper} {lo : List LOper} (hlo : ∀ (i : Nat) (o : Oper), ops[i]? = some o → ∃ x, lo[i]? = some x ∧ Lifted P n ops o x) {ord : List Nat} (hok : drawOK ops lo ord = true) {K : St → Prop} {Q : Exit → Act → World → Prop} {d : List Deferred} (hK : ∀ a' w', After E n K d a' w' → Q .normal a' w') :
    ∀ (f : Nat) (listed : Array Bool) (R : List Nat) (σ : St) (G : Ghost) (a : Act) (w : World), listed.size = ops.size → Closed ops listed → R.Pairwise (fun a b => posOf ord a < posOf ord b) → (∀ k, k ∈ R ↔ k < ops.size ∧ listed.getD k true = false) → R.length ≤ f →
      DOpsC P (R.map fun i => lo.getD i default) K σ → SR E n G σ a.tmps w → a.defers = d → wpAny P .any ops Q f listed a w := by
  have ready_mem : ∀ {listed : Array Bool} {R : List Nat}, (∀ k, k ∈ R ↔ k < ops.size ∧ listed.getD k true = false) → ∀ i ∈ Region.ready .any ops listed, i ∈ R := fun hR i hi => by
    obtain ⟨h1, o, h2, _⟩ := mem_ready.1 hi
    exact (hR i).2 ⟨(Array.getElem?_eq_some_iff.1 h2).1, h1⟩
  have fin : ∀ {σ : St} {G : Ghost} {a : Act} {w : World}, DOpsC P [] K σ → SR E n G σ a.tmps w → a.defers = d → Q .normal a w := fun ⟨τ, h1, h2⟩ h3 h4 => hK _ _ ⟨_, τ, h2, h3.eqv h1, h4⟩
  intro f
  induction f with
  | zero =>
    intro listed R σ G a w hsz hcl hpw hR hf hd hσ hdef
    have hnil : R = [] := List.length_eq_zero_iff.1 (by omega)
    subst hnil
    refine ⟨?_, fin hd hσ hdef⟩
    apply List.eq_nil_iff_forall_not_mem.2
    intro i hi
    exact absurd (ready_mem hR i hi) (by simp)
  | succ f ih =>
    intro listed R σ G a w hsz hcl hpw hR hf hd hσ hdef
    refine ⟨fun h0 => ?_, fun i hi => ?_⟩
    · cases hRc : R with
      | nil => rw [hRc] at hd; exact fin hd hσ hdef
      | cons r R' =>
        exfalso
        have hr := (hR r).1 (by rw [hRc]; simp)
        obtain ⟨o, ho⟩ : ∃ o, ops[r]? = some o := ⟨ops[r], by simp [hr.1]⟩
        have : r ∈ Region.ready .any ops listed := mem_ready.2 ⟨hr.2, o, ho, fun e he hb => by
          have hlt := drawOK_back hok ho e he hb
          have hns : e.on ∉ R := fun hm => by
            rw [hRc] at hm hpw
            rcases List.mem_cons.1 hm with h | h
            · rw [h] at hlt; omega
            · have := (List.pairwise_cons.1 hpw).1 _ h; omega
          have hes : e.on < listed.size := by rw [hsz]; exact hlt.1
          have : ¬ (listed.getD e.on true = false) := fun hc => hns ((hR _).2 ⟨hlt.1, hc⟩)
          simp [hes] at this ⊢
          exact this⟩
        rw [h0] at this
        cases this
    · obtain ⟨hun, o, ho, hall⟩ := mem_ready.1 hi
      have hiR := ready_mem hR i hi
      obtain ⟨pre, post, he⟩ := List.append_of_mem hiR
      obtain ⟨hlt, hpw', hmem⟩ := pw_split hpw he
      obtain ⟨x, hx, hl⟩ := hlo i o ho
      rw [he, List.map_append, List.map_cons] at hd
      have hgx : lo.getD i default = x := by simp [hx]
      rw [hgx] at hd
      have hp := pull (fun p hp => by
        obtain ⟨k, hk, rfl⟩ := List.mem_map.1 hp
        have hkR := (hR k).1 (by rw [he]; simp [hk])
        obtain ⟨ok, hok'⟩ : ∃ o, ops[k]? = some o := ⟨ops[k], by simp [hkR.1]⟩
        obtain ⟨y, hy, _⟩ := hlo k ok hok'
        have hgy : lo.getD k default = y := by simp [hy]
        rw [hgy]
        exact drawOK_swap hok ho hkR.1 (hlt k hk) hy hx fun hw => by
          have h1 := waitsN_ready hcl ho hall hw
          have hks : k < listed.size := by rw [hsz]; exact hkR.1
          have h2 := hkR.2
          simp [hks] at h1 h2
          rw [h1] at h2; cases h2) hd
      rw [← List.map_append] at hp
      refine dop_sound hσ ho hl hp fun a' w' ⟨G', σ', h1, h2, h3⟩ => ?_
      refine ih (listed.setIfInBounds i true) (pre ++ post) σ' G' a' w' (by simp [hsz]) (fun j oj hj hl e he hb => ?_) hpw' (fun k => ?_) ?_ h1 h2 (h3.trans hdef)
      · by_cases hij : i = j
        · subst hij
          rw [ho] at hj; cases hj
          exact getD_set_true (hall e he hb)
        · rw [getD_set_ne false hij] at hl
          exact getD_set_true (hcl j oj hj hl e he hb)
      · rw [hmem k, hR k]
        by_cases hki : i = k
        · subst hki
          have : i < listed.size := by rw [hsz]; exact (Array.getElem?_eq_some_iff.1 ho).1
          simp [this]
        · rw [getD_set_ne true hki]
          constructor
          · exact fun h => h.1
          · exact fun h => ⟨h, fun e => hki e.symm⟩
      · have : R.length = (pre ++ post).length + 1 := by rw [he]; simp; omega
        omega

theorem liftOps_get {ops : Array Oper} : ∀ {l : List Oper} {lo : List LOper}, liftOps P n ops l = some lo → ∀ (i : Nat) (o : Oper), l[i]? = some o → ∃ x, lo[i]? = some x ∧ liftOper P n ops o = some x
  | [], _, _, i, o, h => by simp at h
  | o :: l, lo, hl, i, o', h => by
    simp only [liftOps] at hl
    split at hl
    · rename_i x r hx hr
      cases hl
      cases i with
      | zero => simp at h; subst h; exact ⟨x, rfl, hx⟩
      | succ i => simp at h; simpa using liftOps_get hr i o' h
    · cases hl

theorem liftDraw_inv {ops : Array Oper} {lo : List LOper} (h : liftDraw P n ops = some lo) : P.follows .mixedOrders = true ∧ ∃ l ord, lo = inOrd l ord ∧ drawOK ops l ord = true ∧ ∀ (i : Nat) (o : Oper), ops[i]? = some o → ∃ x, l[i]? = some x ∧ Lifted P n ops o x := by
  unfold liftDraw at h
  split at h
  · rename_i hf
    split at h
    · rename_i l0 hl0
      have h0 : ∀ (i : Nat) (o : Oper), ops[i]? = some o → ∃ x, l0[i]? = some x ∧ liftOper P n ops o = some x := fun i o hi => liftOps_get hl0 i o (by simpa using hi)
      split at h
      · rename_i hok; cases h
        exact ⟨hf, l0, _, rfl, hok, fun i o hi => let ⟨x, h1, h2⟩ := h0 i o hi; ⟨x, h1, x, h2, .inl rfl⟩⟩
      · split at h
        · rename_i hok; cases h
          exact ⟨hf, l0.map LOper.copy, _, rfl, hok, fun i o hi => let ⟨x, h1, h2⟩ := h0 i o hi; ⟨x.copy, by simp [h1], x, h2, .inr rfl⟩⟩
        · cases h
    · cases h
  · cases h

/-- A region that draws its order. -/
theorem dreg_sound (h : SR E n G σ a.tmps w) {id : Nat} {ops : Array Oper} {lo : List LOper} (hl : liftDraw P n ops = some lo) {K : St → Prop} {Q : Exit → Act → World → Prop} {d : List Deferred} (hd : a.defers = d) (hs : DOps P lo K σ) (hK : ∀ a' w', After E n K d a' w' → Q .normal a' w') : (Code.region id ops true).wp P Q a w := by
  obtain ⟨hf, l, ord, rfl, hok, hlo⟩ := liftDraw_inv hl
  obtain ⟨o1, o2, o3⟩ := drawOK_ord hok
  refine wp_region_any hf ?_
  refine dany hlo hok hK ops.size (Array.replicate ops.size false) ord σ G a _ (by simp) (fun j oj _ hl => absurd hl (by rcases Nat.lt_or_ge j ops.size with h | h <;> simp [h])) o1 (fun k => ?_) (by omega) (dops_close hs) (h.drew) hd
  rw [o2 k]
  constructor
  · intro hk; simp [hk]
  · exact fun h => h.1

end Go.Av
