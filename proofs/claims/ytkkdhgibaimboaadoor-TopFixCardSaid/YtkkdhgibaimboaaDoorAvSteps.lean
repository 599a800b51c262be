/- Steps of abstract states: labels are given up and renamed, memory is made, cells are written. -/
import Derived.Test.YtkkdhgibaimboaaDoorAvState
namespace Go.Av

def updf {α β : Type} [DecidableEq α] (f : α → β) (a : α) (v : β) : α → β := fun x => if x = a then v else f x

@[simp] theorem updf_same {α β : Type} [DecidableEq α] (f : α → β) (a : α) (v : β) : updf f a v a = v := by simp [updf]
theorem updf_ne {α β : Type} [DecidableEq α] (f : α → β) {a x : α} (v : β) (h : x ≠ a) : updf f a v x = f x := by simp [updf, h]

/-! ### Labels -/
def AV.erase (q : Lab) : AV → AV
  | .own q' e sz l => if q' = q then .d (.list l) else .own q' e sz l
  | x => x

def amod {α : Type} : List α → Nat → (α → α) → List α
  | [], _, _ => []
  | x :: r, 0, g => g x :: r
  | x :: r, i + 1, g => x :: amod r i g

theorem amod_length {α : Type} (l : List α) (i : Nat) (g : α → α) : (amod l i g).length = l.length := by
  induction l generalizing i with
  | nil => rfl
  | cons x r ih => cases i <;> simp [amod, ih]

theorem amod_get {α : Type} (l : List α) (i j : Nat) (g : α → α) : (amod l i g)[j]? = if i = j then l[j]?.map g else l[j]? := by
  induction l generalizing i j with
  | nil => simp [amod]
  | cons x r ih => cases i <;> cases j <;> simp [amod, ih]

theorem mem_amod {α : Type} {l : List α} {i : Nat} {g : α → α} {y : α} (h : y ∈ amod l i g) : ∃ x ∈ l, y = x ∨ y = g x := by
  obtain ⟨j, hj⟩ := List.mem_iff_getElem?.1 h
  rw [amod_get] at hj
  split at hj
  · cases hx : l[j]? with
    | none => simp [hx] at hj
    | some x => simp [hx] at hj; exact ⟨x, List.mem_of_getElem? hx, .inr hj.symm⟩
  · exact ⟨y, List.mem_of_getElem? hj, .inl rfl⟩

def eraseObj (q : Lab) (r : Ref) (o : AObj) : AObj :=
  match o, q with
  | .cells cs, .c r' off => if r' = r then .cells (amod cs off (AV.erase q)) else .cells cs
  | o, _ => o

/-- The label is given up: whoever bears it may read on, but appends no more. -/
def St.erase (σ : St) (q : Lab) : St :=
  let σ' : St := { σ with ρ := amap (AV.erase q) σ.ρ }
  match q with
  | .t _ => σ'
  | .c r off => match σ'.obj r with
    | some (.cells cs) => σ'.setObj r (.cells (amod cs off (AV.erase q)))
    | _ => σ'

theorem AV.has_erase (q : Lab) (x : AV) (r : Ref) : (x.erase q).has r = x.has r := by
  cases x <;> simp [AV.erase]
  split <;> simp [AV.has]

theorem AVR.erase {G : Ghost} {w : World} {x : AV} {v : Value} (h : AVR G w x v) (q : Lab) :
    AVR { G with lam := updf G.lam q none } w (x.erase q) v := by
  cases h with
  | own q' e sz l v hq hv hs =>
    by_cases e' : q' = q
    · simp only [AV.erase, if_pos e']; exact .d _ _ hv
    · simp only [AV.erase, if_neg e']; exact .own q' e sz l v (by simpa [updf, e'] using hq) hv hs
  | d x v h => exact .d x v h
  | ptr r off => exact .ptr r off
  | dptr cs b o vs hb hc hr => exact .dptr cs b o vs hb hc hr
  | tuple xs vs hl hs h => exact AVR.mono (G := G) (w := w) (h := .tuple xs vs hl hs h) (G' := { G with lam := updf G.lam q none }) (Ext.refl _ _) (fun _ _ => rfl) (fun q p hq => by cases hq)
  | fn f xs ys us vs a b c d e g => exact AVR.mono (G := G) (w := w) (h := .fn f xs ys us vs a b c d e g) (G' := { G with lam := updf G.lam q none }) (Ext.refl _ _) (fun _ _ => rfl) (fun q p hq => by cases hq)
  | junk v => exact .junk v

theorem AVR.erase_other {G : Ghost} {w : World} {x : AV} {v : Value} (h : AVR G w x v) {q : Lab} (hn : ∀ q', x.lab? = some q' → q' ≠ q) :
    AVR { G with lam := updf G.lam q none } w x v :=
  AVR.mono (G := G) (w := w) (h := h) (G' := { G with lam := updf G.lam q none }) (Ext.refl _ _) (fun _ _ => rfl) (fun q' p hq hp => by show updf G.lam q none q' = some p; rw [updf_ne _ _ (hn q' hq)]; exact hp)

theorem St.obj_erase (σ : St) (q : Lab) (r : Ref) : (σ.erase q).obj r = (σ.obj r).map (eraseObj q r) := by
  have h0 : ∀ r, St.obj { σ with ρ := amap (AV.erase q) σ.ρ } r = σ.obj r := fun r => by cases r <;> rfl
  cases q with
  | t s =>
    simp only [St.erase, h0]
    cases σ.obj r with
    | none => rfl
    | some o => cases o <;> rfl
  | c r' off =>
    simp only [St.erase, h0]
    split
    · rename_i cs hcs
      rw [St.obj_setObj, h0]
      by_cases e : r' = r
      · subst e; simp [hcs, eraseObj]
      · rw [if_neg e]
        cases σ.obj r with
        | none => rfl
        | some o => cases o <;> simp [eraseObj, e]
    · rename_i hcs
      rw [h0]
      cases ho : σ.obj r with
      | none => rfl
      | some o =>
        cases o with
        | siter s p => rfl
        | cells cs =>
          have e : r' ≠ r := fun e => hcs cs (by rw [e]; exact ho)
          simp [eraseObj, e]

theorem St.ρ_erase (σ : St) (q : Lab) : (σ.erase q).ρ = amap (AV.erase q) σ.ρ := by
  cases q with
  | t s => rfl
  | c r off =>
    simp only [St.erase]
    split
    · cases r <;> rfl
    · rfl

theorem ObjR.erase {G : Ghost} {w : World} {r : Ref} {o : AObj} (h : ObjR G w r o) (q : Lab) : ObjR { G with lam := updf G.lam q none } w r (eraseObj q r o) := by
  cases o with
  | siter s p => cases q <;> exact h
  | cells cs =>
    obtain ⟨arr, el, h1, h2, h3⟩ := h
    cases q with
    | t s =>
      refine ⟨arr, el, h1, h2, fun i x hi => ⟨(h3 i x hi).1.erase_other (fun q' hq => ?_), (h3 i x hi).2⟩⟩
      rw [(h3 i x hi).2.2 q' hq]; simp
    | c r' off =>
      by_cases e : r' = r
      · subst e
        simp only [eraseObj, if_true]
        refine ⟨arr, el, h1, by simp [amod_length, h2], fun i x hi => ?_⟩
        simp only [amod_get] at hi
        by_cases e : off = i
        · subst e
          rw [if_pos rfl] at hi
          cases hx : cs[off]? with
          | none => simp [hx] at hi
          | some y =>
            simp [hx] at hi; subst hi
            refine ⟨(h3 off y hx).1.erase _, (h3 off y hx).2.1, fun q' hq => ?_⟩
            have h5 := (h3 off y hx).2.2 q'
            cases y with
            | own q'' e' sz l =>
              by_cases e'' : q'' = Lab.c r' off
              · simp [AV.erase, e'', AV.lab?] at hq
              · simp [AV.erase, e'', AV.lab?] at hq; exact h5 (by simp [AV.lab?, hq])
            | _ => simp [AV.erase, AV.lab?] at hq
        · rw [if_neg e] at hi
          refine ⟨(h3 i x hi).1.erase_other (fun q' hq => ?_), (h3 i x hi).2⟩
          rw [(h3 i x hi).2.2 q' hq]; simp; exact fun h => e h.symm
      · simp only [eraseObj, if_neg e]
        refine ⟨arr, el, h1, h2, fun i x hi => ⟨(h3 i x hi).1.erase_other (fun q' hq => ?_), (h3 i x hi).2⟩⟩
        rw [(h3 i x hi).2.2 q' hq]; simp; exact fun h _ => e h.symm

theorem eraseObj_has {q : Lab} {r : Ref} {o : AObj} {cs : List AV} (h : eraseObj q r o = .cells cs) : ∃ cs', o = .cells cs' ∧ ∀ y ∈ cs, ∃ x ∈ cs', ∀ t, y.has t = x.has t := by
  cases o with
  | siter s p => cases q <;> simp [eraseObj] at h
  | cells cs' =>
    refine ⟨cs', rfl, ?_⟩
    cases q with
    | t s => simp [eraseObj] at h; subst h; exact fun y hy => ⟨y, hy, fun _ => rfl⟩
    | c r' off =>
      simp only [eraseObj] at h
      split at h
      · simp at h; subst h
        intro y hy
        obtain ⟨x, hx, e | e⟩ := mem_amod hy
        · exact ⟨x, hx, fun _ => by rw [e]⟩
        · exact ⟨x, hx, fun t => by rw [e, AV.has_erase]⟩
      · simp at h; subst h; exact fun y hy => ⟨y, hy, fun _ => rfl⟩

variable {E : Entry} {n : Nat} {G : Ghost} {σ : St} {ts : Array Value} {w : World}

theorem SR.erase (h : SR E n G σ ts w) (q : Lab) : SR E n { G with lam := updf G.lam q none } (σ.erase q) ts w := by
  have ho : ∀ r o, (σ.erase q).obj r = some o → ∃ o', σ.obj r = some o' ∧ o = eraseObj q r o' := fun r o ho => by
    rw [St.obj_erase] at ho
    cases hx : σ.obj r with
    | none => simp [hx] at ho
    | some o' => simp [hx] at ho; exact ⟨o', rfl, ho.symm⟩
  have hl : ∀ q' p, updf G.lam q none q' = some p → G.lam q' = some p := fun q' p hp => by
    simp only [updf] at hp
    split at hp
    · cases hp
    · exact hp
  refine ⟨h.size, fun s x hx => ?_, fun r o hr => ?_, fun r o hr => ?_, fun r r' o o' hr hr' => ?_, fun q' v e sz hq => h.lam q' v e sz (hl _ _ hq), fun q' v e sz b hq hb r o hr => ?_,
    fun q1 q2 v v' p p' b h1 h2 => h.lamInj q1 q2 v v' p p' b (hl _ _ h1) (hl _ _ h2), fun r o hr => ?_, fun q' v e sz b hq => h.newLam q' v e sz b (hl _ _ hq), h.ext, h.fr, h.top, h.ext0, fun r cs x s hr hx => ?_, h.os, h.tape, h.output⟩
  · rw [St.ρ_erase, aget_amap] at hx
    cases hy : aget σ.ρ s with
    | none => simp [hy] at hx
    | some y => simp [hy] at hx; subst hx; exact (h.slot s y hy).erase q
  · obtain ⟨o', h1, rfl⟩ := ho r o hr; exact (h.obj r o' h1).erase q
  · obtain ⟨o', h1, rfl⟩ := ho r o hr; exact h.objf r o' h1
  · obtain ⟨o1, h1, rfl⟩ := ho r o hr; obtain ⟨o2, h2, rfl⟩ := ho r' o' hr'; exact h.inj r r' o1 o2 h1 h2
  · obtain ⟨o', h1, rfl⟩ := ho r o hr; exact h.lamObj q' v e sz b (hl _ _ hq) hb r o' h1
  · obtain ⟨o', h1, rfl⟩ := ho r o hr; exact h.newObj r o' h1
  · obtain ⟨o', h1, h2⟩ := ho _ _ hr
    obtain ⟨cs', rfl, h3⟩ := eraseObj_has h2.symm
    obtain ⟨y, hy, h4⟩ := h3 x hx
    rw [h4]; exact h.own0 r cs' y s h1 hy

end Go.Av
