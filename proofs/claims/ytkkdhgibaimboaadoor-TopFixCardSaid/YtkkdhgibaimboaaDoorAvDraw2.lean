/- Regions that draw their order: operations that stand apart may be swapped. -/
import Derived.Test.YtkkdhgibaimboaaDoorAvDraw
namespace Go.Av

variable {P : Program} [Inv P]

theorem Eqv.eraseL {σ τ : St} (h : Eqv σ τ) : ∀ er, Eqv (eraseL σ er) (eraseL τ er) := by
  intro er
  induction er generalizing σ τ with
  | nil => exact h
  | cons q r ih => exact ih (h.erase q)

theorem Eqv.app {σ τ : St} (h : Eqv σ τ) (e : Eff) (d : Option Nat) : Eqv (e.app d σ) (e.app d τ) := (h.eraseL e.er).putO d e.x

theorem eraseL_put (er : List Lab) (σ : St) (d : Option Nat) (x : AV) : Eqv (eraseL (putO σ d x) er) (putO (eraseL σ er) d (x.eraseL er)) := by
  induction er generalizing σ x with
  | nil => exact .refl _
  | cons q r ih =>
    cases d with
    | none => exact .refl _
    | some d => exact ((erase_put σ q d x).eraseL r).trans (ih (σ := σ.erase q) (x := x.erase q))

theorem DEff.agree {d : Option Nat} {op : LO} {σ τ : St} {eff : Eff} (h : Agree (readsO op) σ τ) (hd : DEff P d op σ eff) : DEff P d op τ eff := by
  unfold DEff at *
  cases op with
  | val v => obtain ⟨h0, z, h1, h2⟩ := hd; exact ⟨h0, z, (Agree.pev h) ▸ h1, h2⟩
  | call f args => obtain ⟨ds, r, h1, h2, h3⟩ := hd; exact ⟨ds, r, (Agree.evL h) ▸ h1, h2, h3⟩
  | bsl e sz parts => obtain ⟨k, l, h1, h2, h3, h4⟩ := hd; exact ⟨k, l, h1, (Agree.evL h) ▸ h2, (Agree.evL h) ▸ h3, h4⟩
  | app e sz by_ str s x =>
    obtain ⟨k, q, l, ys, h1, h2, h3, h4, h5⟩ := hd
    exact ⟨k, q, l, ys, h1, (Agree.ev (x := s) (Agree.left h)) ▸ h2, (Agree.ev (x := x) (Agree.right h)) ▸ h3, h4, h5⟩
  | _ => exact hd

theorem DEffG.agree {o : LOper} {σ τ : St} {eff : Eff} (h : Agree o.reads σ τ) (hd : DEffG P o σ eff) : DEffG P o τ eff := by
  unfold DEffG at *
  unfold LOper.reads at h
  cases hg : o.guard with
  | none => rw [hg] at hd h; exact hd.agree h.left
  | some sb =>
    obtain ⟨s, b⟩ := sb
    rw [hg] at hd h
    obtain ⟨t, h1, h2, h3⟩ := hd
    exact ⟨t, (h.right.get s (by simp)) ▸ h1, fun e => (h2 e).agree h.left, h3⟩

theorem keeps_er {o : LOper} {σ : St} {e : Eff} (h : o.keeps = true) (hd : DEffG P o σ e) : e.er = [] := by
  obtain ⟨d, op, g⟩ := o
  have h0 : ∀ {e}, DEff P d op σ e → e.er = [] := fun {e} hd => by
    unfold LOper.keeps at h
    unfold DEff at hd
    cases op <;> simp only at h hd <;> try (cases h; done)
    · obtain ⟨_, _, _, rfl⟩ := hd; rfl
    · obtain ⟨_, _, _, _, _, rfl⟩ := hd; rfl
    · obtain ⟨_, _, _, _, rfl⟩ := hd; rfl
  unfold DEffG at hd
  cases g with
  | none => exact h0 hd
  | some sb =>
    obtain ⟨s, b⟩ := sb
    obtain ⟨t, _, h2, h3⟩ := hd
    by_cases ht : t = b
    · exact h0 (h2 ht)
    · rw [h3 ht]

theorem pev_eraseL {v : LV} (h : homV v = true) : ∀ (er : List Lab) (σ : St), pev (eraseL σ er) v = (pev σ v).map (fun z => z.eraseL er)
  | [], σ => by simp [eraseL, AV.eraseL]
  | q :: r, σ => by
    simp only [eraseL, pev_eraseL h r, pev_erase h]
    cases pev σ v <;> rfl

theorem get_erase (σ : St) (q : Lab) (s : Nat) : (σ.erase q).get s = (σ.get s).erase q := by
  simp only [St.get, erase_ρ, aget_amap']
  cases aget σ.ρ s <;> rfl

theorem get_eraseL : ∀ (er : List Lab) (σ : St) (s : Nat), (eraseL σ er).get s = (σ.get s).eraseL er
  | [], _, _ => rfl
  | q :: r, σ, s => by simp only [eraseL, get_eraseL r, get_erase, AV.eraseL]

theorem erase_bool {x : AV} {q : Lab} {t : Bool} : x.erase q = .d (.bool t) ↔ x = .d (.bool t) := by
  cases x <;> try exact Iff.rfl
  rename_i q' e sz l
  by_cases h : q' = q <;> simp [AV.erase, h]

theorem eraseL_bool {t : Bool} : ∀ {er : List Lab} {x : AV}, x.eraseL er = .d (.bool t) ↔ x = .d (.bool t)
  | [], _ => Iff.rfl
  | q :: r, x => by simp only [AV.eraseL]; rw [eraseL_bool, erase_bool]

theorem junk_eraseL (er : List Lab) : AV.eraseL .junk er = .junk := by
  induction er with
  | nil => rfl
  | cons q r ih => exact ih

theorem isT_pure {o : LOper} (h : o.pure = true) : ∃ v, o.op = .val v ∧ homV v = true := by
  unfold LOper.pure at h
  split at h
  · exact ⟨_, by assumption, h⟩
  · cases h

/-- A pure operation, ahead of labels that are given up and behind them. -/
theorem pure_fwd {o : LOper} {σ : St} {e : Eff} (h : o.pure = true) (er : List Lab) (hd : DEffG P o σ e) : DEffG P o (eraseL σ er) ⟨[], e.x.eraseL er⟩ := by
  obtain ⟨v, hop, hv⟩ := isT_pure h
  obtain ⟨d, op, g⟩ := o
  simp only at hop; subst hop
  simp only [DEffG, DEff] at *
  cases g with
  | none =>
    obtain ⟨h0, z, h1, rfl⟩ := hd
    exact ⟨h0, z.eraseL er, by rw [pev_eraseL hv, h1]; rfl, rfl⟩
  | some sb =>
    obtain ⟨t, h1, h2, h3⟩ := hd
    refine ⟨t, by rw [get_eraseL, h1]; exact eraseL_bool.2 rfl, fun ht => ?_, fun ht => ?_⟩
    · obtain ⟨h0, z, h1, rfl⟩ := h2 ht
      exact ⟨h0, z.eraseL er, by rw [pev_eraseL hv, h1]; rfl, rfl⟩
    · rw [h3 ht]; simp only [junk_eraseL]

theorem pure_bwd {o : LOper} {σ : St} {e : Eff} (h : o.pure = true) (er : List Lab) (hd : DEffG P o (eraseL σ er) e) : ∃ z, DEffG P o σ ⟨[], z⟩ ∧ e = ⟨[], z.eraseL er⟩ := by
  obtain ⟨v, hop, hv⟩ := isT_pure h
  obtain ⟨d, op, g⟩ := o
  simp only at hop; subst hop
  simp only [DEffG, DEff] at *
  have key : ∀ {e : Eff}, (d.isSome = true ∧ ∃ z, pev (eraseL σ er) v = some z ∧ e = ⟨[], z⟩) → ∃ z, (d.isSome = true ∧ ∃ z', pev σ v = some z' ∧ (⟨[], z⟩ : Eff) = ⟨[], z'⟩) ∧ e = ⟨[], z.eraseL er⟩ := fun {e} ⟨h0, z, h1, h2⟩ => by
    rw [pev_eraseL hv] at h1
    cases hz : pev σ v with
    | none => simp [hz] at h1
    | some z0 =>
      simp [hz] at h1
      exact ⟨z0, ⟨h0, z0, rfl, rfl⟩, by rw [h2, ← h1]⟩
  cases g with
  | none => exact key hd
  | some sb =>
    obtain ⟨s, b⟩ := sb
    obtain ⟨t, h1, h2, h3⟩ := hd
    rw [get_eraseL, eraseL_bool] at h1
    by_cases ht : t = b
    · obtain ⟨z, hz, he⟩ := key (h2 ht)
      exact ⟨z, ⟨t, h1, fun _ => hz, fun hn => absurd ht hn⟩, he⟩
    · exact ⟨.junk, ⟨t, h1, fun hn => absurd hn ht, fun _ => rfl⟩, by rw [h3 ht, junk_eraseL]⟩

def DStepM (P : Program) [Inv P] (o : LOper) (K : St → Prop) (σ : St) : Prop := ∃ e, DEffG P o σ e ∧ ∃ τ, Eqv (e.app o.dst σ) τ ∧ K τ

theorem agree_putO {rs : List Nat} (σ : St) {d : Option Nat} (x : AV) (h : notIn d rs = true) : Agree rs (putO σ d x) σ := by
  cases d with
  | none => exact ⟨fun _ _ => rfl, rfl, rfl⟩
  | some d => exact .of_put σ x (by simpa [notIn] using h)

theorem Agree.symm {rs : List Nat} {σ τ : St} (h : Agree rs σ τ) : Agree rs τ σ := ⟨fun s k => (h.get s k).symm, h.L.symm, h.H.symm⟩

theorem put_comm {σ : St} {a b : Option Nat} {x y : AV} (h : (match a, b with | some a, some b => a != b | _, _ => true) = true) : Eqv (putO (putO σ a x) b y) (putO (putO σ b y) a x) := by
  cases a with
  | none => exact .refl _
  | some a =>
    cases b with
    | none => exact .refl _
    | some b =>
      have hab : a ≠ b := by simpa using h
      refine ⟨fun s => ?_, rfl, rfl⟩
      simp only [putO, St.put, aget_acons]
      by_cases h1 : a = s
      · subst h1; simp [Ne.symm hab]
      · simp [h1]

theorem pure_moves {o : LOper} (h : o.pure = true) : o.keeps = true := by
  obtain ⟨v, hop, _⟩ := isT_pure h
  simp [LOper.keeps, hop]

/-- Two operations that stand apart, the one behind the other: they may be swapped. -/
theorem swap {p q : LOper} (h : swapM p q = true) {K : St → Prop} {σ : St} (hd : DStepM P p (DStepM P q K) σ) : DStepM P q (DStepM P p K) σ := by
  obtain ⟨ep, hp, τ, hτ, eq, hq, υ, hυ, hK⟩ := hd
  unfold swapM apartD at h
  simp only [Bool.and_eq_true, Bool.or_eq_true] at h
  obtain ⟨⟨⟨hne, hpq⟩, hqp⟩, hk⟩ := h
  have hq' : DEffG P q (ep.app p.dst σ) eq := hq.agree (.of_eqv hτ.symm)
  -- q ahead of p
  have hq1 : DEffG P q (eraseL σ ep.er) eq := hq'.agree (agree_putO _ _ hpq)
  rcases hk with (⟨k1, k2⟩ | ⟨k1, k2⟩) | ⟨k1, k2⟩
  · have e1 := keeps_er k1 hp
    have e2 := keeps_er k2 hq
    obtain ⟨er1, zp⟩ := ep
    obtain ⟨er2, zq⟩ := eq
    simp only at e1 e2; subst e1 e2
    refine ⟨⟨[], zq⟩, hq1, _, .refl _, ⟨[], zp⟩, hp.agree (agree_putO _ _ hqp).symm, υ, ?_, hK⟩
    refine .trans ?_ hυ
    refine .trans ?_ (hτ.app ⟨[], zq⟩ q.dst)
    exact (put_comm hne).symm
  · have e1 := keeps_er (pure_moves k1) hp
    obtain ⟨er1, zp⟩ := ep
    simp only at e1; subst e1
    refine ⟨eq, hq1, _, .refl _, ⟨[], zp.eraseL eq.er⟩, (pure_fwd k1 eq.er hp).agree (agree_putO _ _ hqp).symm, υ, ?_, hK⟩
    refine .trans ?_ hυ
    refine .trans ?_ (hτ.app eq q.dst)
    refine .trans (put_comm hne).symm ?_
    exact ((eraseL_put eq.er σ p.dst zp).symm).putO q.dst eq.x
  · obtain ⟨z, hz, he⟩ := pure_bwd k1 ep.er hq1
    subst he
    refine ⟨⟨[], z⟩, hz, _, .refl _, ep, hp.agree (agree_putO _ _ hqp).symm, υ, ?_, hK⟩
    refine .trans ?_ hυ
    refine .trans ?_ (hτ.app ⟨[], z.eraseL ep.er⟩ q.dst)
    refine .trans ((eraseL_put ep.er σ q.dst z).putO p.dst ep.x) ?_
    exact (put_comm hne).symm

end Go.Av
