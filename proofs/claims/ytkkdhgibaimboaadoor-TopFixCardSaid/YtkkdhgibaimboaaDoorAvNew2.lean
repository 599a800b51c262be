/- Regions that draw their order: any two operations that stand apart. -/
import Derived.Test.YtkkdhgibaimboaaDoorAvNew
namespace Go.Av

variable {P : Program} [Inv P]

def Cl (K : St → Prop) (σ : St) : Prop := ∃ τ, Eqv σ τ ∧ K τ

theorem evL_length (σ : St) : ∀ (l : List LX), (evL σ l).length = l.length
  | [] => rfl
  | _ :: r => by simp [evL, evL_length σ r]

theorem res_drop (r : Ref) (x : Res) : x.av.drop r = x.av := by
  refine drop_eq ?_
  cases x with
  | one x => rfl
  | tup xs =>
    simp only [Res.av, AV.has, List.any_eq_false]
    intro y hy
    obtain ⟨z, _, rfl⟩ := List.mem_map.1 hy
    simp [AV.isPtr]

theorem bool_drop {r : Ref} {x : AV} {t : Bool} (h : x.drop r = .d (.bool t)) : x = .d (.bool t) := by
  unfold AV.drop at h
  split at h
  · cases h
  · exact h

theorem deff_newO {o : LOper} {σ : St} {d : Nat} {cs : List D} {e : Eff} (hd : d ∉ o.reads) (hk : o.keeps = true) (ho : okNew o.op = true) (h : DEffG P o (newO σ d cs) e) : ∃ z, DEffG P o σ ⟨[], z⟩ ∧ e = ⟨[], z.drop (.l d)⟩ := by
  obtain ⟨dst, op, g⟩ := o
  simp only [LOper.reads, List.mem_append, not_or] at hd
  have key : ∀ {e : Eff}, DEff P dst op (newO σ d cs) e → ∃ z, DEff P dst op σ ⟨[], z⟩ ∧ e = ⟨[], z.drop (.l d)⟩ := fun {e} h => by
    cases op <;> simp only [LOper.keeps] at hk <;> try (cases hk; done)
    · rename_i v
      obtain ⟨h0, z, h1, rfl⟩ := h
      obtain ⟨z0, h2, h3⟩ := pev_newO (by simpa [readsO] using hd.1) (by simpa [okNew] using ho) h1
      exact ⟨z0, ⟨h0, z0, h2, rfl⟩, by rw [h3]⟩
    · rename_i e' sz l
      obtain ⟨k, xs, h1, h2, h3, rfl⟩ := h
      rw [rdAll_newO (by simpa [readsO] using hd.1) (by simpa [okNew] using ho)] at h2
      rw [evL_length] at h3
      exact ⟨.d (.list xs), ⟨k, xs, h1, h2, by rw [evL_length]; exact h3, rfl⟩, by rw [drop_d]⟩
    · rename_i f l
      obtain ⟨ds, r, h1, h2, rfl⟩ := h
      rw [rdAll_newO (by simpa [readsO] using hd.1) (by simpa [okNew] using ho)] at h1
      exact ⟨r.av, ⟨ds, r, h1, h2, rfl⟩, by rw [res_drop]⟩
  unfold DEffG at *
  cases g with
  | none => exact key h
  | some sb =>
    obtain ⟨s, b⟩ := sb
    obtain ⟨t, h1, h2, h3⟩ := h
    have hs : d ≠ s := fun e => hd.2 (by simp [e])
    rw [get_newO hs] at h1
    have h1 := bool_drop h1
    by_cases ht : t = b
    · obtain ⟨z, hz, he⟩ := key (h2 ht)
      exact ⟨z, ⟨t, h1, fun _ => hz, fun hn => absurd ht hn⟩, he⟩
    · exact ⟨.junk, ⟨t, h1, fun hn => absurd hn ht, fun _ => rfl⟩, by rw [h3 ht]; rfl⟩

theorem newO_put {σ : St} {d : Nat} {cs : List D} {k : Option Nat} {z : AV} (h : (match k with | some a => d != a | none => true) = true) : Eqv (newO (putO σ k z) d cs) (putO (newO σ d cs) k (z.drop (.l d))) := by
  cases k with
  | none => exact .refl _
  | some k =>
    have hne : d ≠ k := by simpa using h
    refine ⟨fun s => ?_, rfl, rfl⟩
    simp only [newO, putO, St.put, St.setObj, St.drop, aget_acons, aget_amap']
    by_cases h1 : d = s
    · subst h1; simp [Ne.symm hne]
    · simp only [if_neg h1]
      by_cases h2 : k = s
      · simp [h2]
      · simp [h2]

theorem swapA {p q : LOper} (hap : apartD p q = true) {cs : List D} (hp : p.op = .allo cs) (hg : p.guard = none) {d : Nat} (hd : p.dst = some d) (hk : q.keeps = true) (ho : okNew q.op = true) {K : St → Prop} {σ : St} (h : LOps P [p] (Cl (DStepM P q K)) σ) : DStepM P q (LOps P [p] (Cl K)) σ := by
  obtain ⟨pd, pop, pg⟩ := p
  simp only at hp hg hd; subst hp hg hd
  obtain ⟨σ1, h1, τ, hτ, e, he, υ, hυ, hK⟩ : ∃ σ', step1 σ (some d) (.allo cs) = some σ' ∧ Cl (DStepM P q K) σ' := h
  simp only [step1, stepD] at h1
  cases h1
  unfold apartD at hap
  simp only [Bool.and_eq_true] at hap
  obtain ⟨⟨hne, hpq⟩, hqp⟩ := hap
  have hdr : d ∉ q.reads := by simpa [notIn] using hpq
  have he1 : DEffG P q (newO σ d cs) e := he.agree (.of_eqv hτ.symm)
  obtain ⟨z, hz, rfl⟩ := deff_newO hdr hk ho he1
  refine ⟨⟨[], z⟩, hz, _, .refl _, ?_⟩
  show ∃ σ', step1 (putO σ q.dst z) (some d) (.allo cs) = some σ' ∧ Cl K σ'
  refine ⟨_, rfl, υ, ?_, hK⟩
  refine .trans (newO_put (by cases hq : q.dst <;> simp_all)) ?_
  exact (hτ.putO q.dst _).trans hυ

/-! ### Ahead of a store -/
theorem erase_put' (σ : St) (q : Lab) (d : Nat) (x : AV) : (σ.put d x).erase q = (σ.erase q).put d (x.erase q) := by
  cases q with
  | t s => simp only [St.erase, St.put, amap_aset]
  | c r off =>
    cases r with
    | l s =>
      simp only [St.erase, St.put, St.obj, amap_aset]
      cases aget σ.L s with
      | none => rfl
      | some o => cases o <;> rfl
    | x k =>
      simp only [St.erase, St.put, St.obj, amap_aset]
      cases σ.H k with
      | none => rfl
      | some o => cases o <;> rfl

theorem setObj_put (σ : St) (r : Ref) (o : AObj) (d : Nat) (x : AV) : (σ.put d x).setObj r o = (σ.setObj r o).put d x := by cases r <;> rfl

theorem erase_simple {q : Lab} {x : AV} (h : x.simple = true) : x.erase q = x := by cases x <;> first | rfl | simp [AV.simple] at h
theorem rename_simple {q q' : Lab} {x : AV} (h : x.simple = true) : x.rename q q' = x := by cases x <;> first | rfl | simp [AV.simple] at h

theorem stS_put {σ σ2 : St} {m d : Nat} {A X z : AV} (hz : z.simple = true) (h : stS σ m A X = some σ2) : stS (σ.put d z) m A X = some (σ2.put d z) := by
  unfold stS at *
  split at h
  · rename_i r o
    simp only [St.obj_put]
    split at h
    · rename_i cs hcs
      split at h
      · split at h
        · rename_i hc; cases h; rw [if_pos hc, setObj_put]
        · cases h
      · split at h
        · rename_i hc
          rw [if_pos hc]
          simp only [erase_put', erase_simple hz] at h ⊢
          have e1 : ∀ k, ({ (σ.erase (.c r o)).put d z with ρ := amap (AV.rename (.t k) (.c r o)) ((σ.erase (.c r o)).put d z).ρ } : St) = St.put { σ.erase (.c r o) with ρ := amap (AV.rename (.t k) (.c r o)) (σ.erase (.c r o)).ρ } d z := fun k => by
            simp only [St.put, amap_aset, rename_simple hz]
          rw [e1]
          simp only [St.obj_put]
          split at h
          · cases h; rw [setObj_put]
          · cases h
        · cases h
      · split at h
        · rename_i hc; cases h; rw [if_pos hc, setObj_put]
        · cases h
      · split at h
        · rename_i hc; cases h; rw [if_pos hc, setObj_put]
        · cases h
      · cases h
    · cases h
  · cases h

theorem stS_get {σ σ2 : St} {m : Nat} {A X : AV} (h : stS σ m A X = some σ2) (s : Nat) : σ2.get s = σ.get s ∨ ∃ q q' q'', σ2.get s = ((σ.get s).erase q).rename q' q'' := by
  unfold stS at h
  have hset : ∀ (τ : St) (r : Ref) (o : AObj), (τ.setObj r o).get s = τ.get s := fun τ r o => by cases r <;> rfl
  have hren : ∀ (s' : Nat) (r : Ref) (o : Nat), St.get { σ.erase (.c r o) with ρ := amap (AV.rename (.t s') (.c r o)) (σ.erase (.c r o)).ρ } s = ((σ.get s).erase (.c r o)).rename (.t s') (.c r o) := fun s' r o => by
    simp only [St.get, aget_amap', erase_ρ]
    cases aget σ.ρ s <;> rfl
  split at h
  · split at h
    · split at h
      · split at h <;> cases h; exact .inl (hset _ _ _)
      · split at h
        · dsimp only at h
          split at h
          · cases h
            exact .inr ⟨_, _, _, (hset _ _ _).trans (hren _ _ _)⟩
          · cases h
        · cases h
      · split at h <;> cases h; exact .inl (hset _ _ _)
      · split at h <;> cases h; exact .inl (hset _ _ _)
      · cases h
    · cases h
  · cases h

theorem ren_er_inv {x : AV} {q q' q'' : Lab} {y : AV} (h : (x.erase q).rename q' q'' = y) (hy : (∃ t, y = .d (.bool t)) ∨ ∃ xs, y = .tuple xs) : x = y := by
  cases x <;> try exact h
  rename_i q0 e sz l
  exfalso
  simp only [AV.erase] at h
  split at h
  · simp only [AV.rename] at h
    rcases hy with ⟨t, rfl⟩ | ⟨xs, rfl⟩ <;> cases h
  · simp only [AV.rename] at h
    split at h <;> rcases hy with ⟨t, rfl⟩ | ⟨xs, rfl⟩ <;> cases h

theorem stS_get_inv {σ σ2 : St} {m : Nat} {A X : AV} (h : stS σ m A X = some σ2) {s : Nat} {y : AV} (e : σ2.get s = y) (hy : (∃ t, y = .d (.bool t)) ∨ ∃ xs, y = .tuple xs) : σ.get s = y := by
  rcases stS_get h s with h1 | ⟨q, q', q'', h1⟩
  · rw [← h1]; exact e
  · exact ren_er_inv (h1.symm.trans e) hy

theorem deff_st {σ σ2 : St} {m : Nat} {A X : AV} (h : stS σ m A X = some σ2) {o : LOper} (ho : isExt o.op = true) {e : Eff} (he : DEffG P o σ2 e) : ∃ z, z.simple = true ∧ DEffG P o σ ⟨[], z⟩ ∧ e = ⟨[], z⟩ := by
  obtain ⟨dst, op, g⟩ := o
  have hop : ∃ i s, op = .val (.ext i (.t s)) := by
    unfold isExt at ho
    split at ho
    · exact ⟨_, _, by assumption⟩
    · cases ho
  obtain ⟨i, s, rfl⟩ := hop
  have key : ∀ {e : Eff}, DEff P dst (.val (.ext i (.t s))) σ2 e → ∃ z, z.simple = true ∧ DEff P dst (.val (.ext i (.t s))) σ ⟨[], z⟩ ∧ e = ⟨[], z⟩ := fun {e} ⟨h0, z, h1, h2⟩ => by
    have h1' : fExt i (σ2.get s) = some z := h1
    unfold fExt at h1'
    split at h1'
    · rename_i xs hx
      have hx' := stS_get_inv h hx (.inr ⟨_, rfl⟩)
      split at h1'
      · rename_i y hy
        split at h1'
        · rename_i hs
          have hyz : y = z := by cases h1'; rfl
          subst hyz
          refine ⟨y, hs, ⟨h0, y, ?_, rfl⟩, h2⟩
          show fExt i (σ.get s) = some y
          rw [hx']
          simp only [fExt, hy, hs, if_true]
        · cases h1'
      · cases h1'
    · cases h1'
  unfold DEffG at *
  cases g with
  | none => exact key he
  | some sb =>
    obtain ⟨s', b⟩ := sb
    obtain ⟨t, h1, h2, h3⟩ := he
    have h1 := stS_get_inv h h1 (.inl ⟨_, rfl⟩)
    by_cases ht : t = b
    · obtain ⟨z, hz, hs, he⟩ := key (h2 ht)
      exact ⟨z, hz, ⟨t, h1, fun _ => hs, fun hn => absurd ht hn⟩, he⟩
    · exact ⟨.junk, rfl, ⟨t, h1, fun hn => absurd hn ht, fun _ => rfl⟩, by rw [h3 ht]⟩

theorem swapB {p q : LOper} (hap : apartD p q = true) (hp : isSt p.op = true) (hd : p.dst = none) (hg : p.guard = none) (hq : isExt q.op = true) {K : St → Prop} {σ : St} (h : LOps P [p] (Cl (DStepM P q K)) σ) : DStepM P q (LOps P [p] (Cl K)) σ := by
  obtain ⟨pd, pop, pg⟩ := p
  simp only at hp hg hd; subst hg hd
  obtain ⟨m, x, y, rfl⟩ : ∃ m x y, pop = .st m x y := by
    unfold isSt at hp
    split at hp
    · exact ⟨_, _, _, rfl⟩
    · cases hp
  obtain ⟨σ1, h1, τ, hτ, e, he, υ, hυ, hK⟩ : ∃ σ', step1 σ none (.st m x y) = some σ' ∧ Cl (DStepM P q K) σ' := h
  simp only [step1, stepN] at h1
  unfold apartD at hap
  simp only [Bool.and_eq_true] at hap
  obtain ⟨_, hqp⟩ := hap
  have he1 : DEffG P q σ1 e := he.agree (.of_eqv hτ.symm)
  obtain ⟨z, hz, hs, rfl⟩ := deff_st h1 hq he1
  refine ⟨⟨[], z⟩, hs, _, .refl _, ?_⟩
  show ∃ σ', step1 (putO σ q.dst z) none (.st m x y) = some σ' ∧ Cl K σ'
  simp only [step1, stepN]
  have ag : Agree (readsX x ++ readsX y) (putO σ q.dst z) σ := agree_putO _ _ (by simpa [LOper.reads, readsO] using hqp)
  rw [Agree.ev (x := x) ag.left, Agree.ev (x := y) ag.right]
  refine ⟨putO σ1 q.dst z, ?_, υ, (hτ.putO q.dst z).trans hυ, hK⟩
  cases q.dst with
  | none => exact h1
  | some k => exact stS_put hz h1

end Go.Av
