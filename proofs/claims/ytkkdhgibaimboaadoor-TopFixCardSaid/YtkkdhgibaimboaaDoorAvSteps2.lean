/- Steps of abstract states, continued: a label is renamed; memory is made; a cell is written; a row grows. -/
import Derived.Test.YtkkdhgibaimboaaDoorAvSteps
import Derived.Deep.AppendSrc
namespace Go.Av

variable {E : Entry} {n : Nat} {G : Ghost} {σ : St} {ts : Array Value} {w : World}

/-! ### A slot's label is renamed -/
def AV.rename (q q' : Lab) : AV → AV
  | .own p e sz l => if p = q then .own q' e sz l else .own p e sz l
  | x => x

theorem AVR.rename {x : AV} {v : Value} (h : AVR G w x v) (s : Nat) (q' : Lab) (hq : G.lam q' = none) :
    AVR { G with lam := updf (updf G.lam q' (G.lam (.t s))) (.t s) none } w (x.rename (.t s) q') v := by
  have hne : ∀ p, G.lam (.t s) = some p → q' ≠ .t s := fun p hp e => by rw [e, hp] at hq; cases hq
  cases h with
  | own p e sz l v hp hv hs =>
    by_cases e' : p = .t s
    · subst e'
      simp only [AV.rename, if_true]
      exact .own q' e sz l v (by show updf (updf G.lam q' (G.lam (.t s))) (.t s) none q' = _; rw [updf_ne _ _ (hne _ hp), updf_same]; exact hp) hv hs
    · have h2 : p ≠ q' := fun e => by rw [e, hq] at hp; cases hp
      simp only [AV.rename, if_neg e']
      exact .own p e sz l v (by show updf (updf G.lam q' (G.lam (.t s))) (.t s) none p = _; rw [updf_ne _ _ e', updf_ne _ _ h2]; exact hp) hv hs
  | d x v h => exact .d x v h
  | ptr r off => exact .ptr r off
  | dptr cs b o vs hb hc hr => exact .dptr cs b o vs hb hc hr
  | tuple xs vs hl hs h => exact AVR.mono (G := G) (w := w) (h := .tuple xs vs hl hs h) (G' := { G with lam := updf (updf G.lam q' (G.lam (.t s))) (.t s) none }) (Ext.refl _ _) (fun _ _ => rfl) (fun q p hq => by cases hq)
  | fn f xs ys us vs a b c d e g => exact AVR.mono (G := G) (w := w) (h := .fn f xs ys us vs a b c d e g) (G' := { G with lam := updf (updf G.lam q' (G.lam (.t s))) (.t s) none }) (Ext.refl _ _) (fun _ _ => rfl) (fun q p hq => by cases hq)
  | junk v => exact .junk v

theorem AVR.lab_some {x : AV} {v : Value} (h : AVR G w x v) {q : Lab} (hq : x.lab? = some q) : ∃ p, G.lam q = some p := by
  cases h <;> simp [AV.lab?] at hq
  subst hq; exact ⟨_, ‹_›⟩

theorem SR.rename (h : SR E n G σ ts w) (s : Nat) (q' : Lab) (hq : G.lam q' = none) :
    SR E n { G with lam := updf (updf G.lam q' (G.lam (.t s))) (.t s) none } { σ with ρ := amap (AV.rename (.t s) q') σ.ρ } ts w := by
  have hobj : ∀ r, St.obj { σ with ρ := amap (AV.rename (.t s) q') σ.ρ } r = σ.obj r := fun r => by cases r <;> rfl
  have pre : ∀ q p, updf (updf G.lam q' (G.lam (.t s))) (.t s) none q = some p → q ≠ .t s ∧ ((q = q' ∧ G.lam (.t s) = some p) ∨ (q ≠ q' ∧ G.lam q = some p)) := fun q p hp => by
    simp only [updf] at hp
    split at hp
    · cases hp
    · rename_i h1
      split at hp
      · rename_i h2; exact ⟨h1, .inl ⟨h2, hp⟩⟩
      · rename_i h2; exact ⟨h1, .inr ⟨h2, hp⟩⟩
  have any : ∀ q p, updf (updf G.lam q' (G.lam (.t s))) (.t s) none q = some p → ∃ q0, G.lam q0 = some p := fun q p hp => by
    rcases (pre q p hp).2 with ⟨_, h⟩ | ⟨_, h⟩ <;> exact ⟨_, h⟩
  refine ⟨h.size, fun t x hx => ?_, fun r o hr => ?_, fun r o hr => h.objf r o (by rw [← hobj]; exact hr), fun r r' o o' hr hr' => h.inj r r' o o' (by rw [← hobj]; exact hr) (by rw [← hobj]; exact hr'),
    fun q v e sz hp => ?_, fun q v e sz b hp hb r o hr => ?_, fun q1 q2 v v' p p' b h1 h2 hb hb' => ?_, fun r o hr => h.newObj r o (by rw [← hobj]; exact hr), fun q v e sz b hp hb => ?_, h.ext, h.fr, h.top, h.ext0,
    fun r cs x t hr => h.own0 r cs x t (by rw [← hobj]; exact hr), h.os, h.tape, h.output⟩
  · rw [aget_amap] at hx
    cases hy : aget σ.ρ t with
    | none => simp [hy] at hx
    | some y => simp [hy] at hx; subst hx; exact (h.slot t y hy).rename s q' hq
  · rw [hobj] at hr
    have ho := h.obj r o hr
    cases o with
    | siter s p => exact ho
    | cells cs =>
      obtain ⟨arr, el, h1, h2, h3⟩ := ho
      refine ⟨arr, el, h1, h2, fun i x hi => ⟨?_, (h3 i x hi).2⟩⟩
      refine AVR.mono (G := G) (w := w) (h := (h3 i x hi).1) (G' := { G with lam := updf (updf G.lam q' (G.lam (.t s))) (.t s) none }) (Ext.refl _ _) (fun _ _ => rfl) (fun q p hl hp => ?_)
      have h4 := (h3 i x hi).2.2 q hl
      have h5 : q ≠ q' := fun e => by rw [e, hq] at hp; cases hp
      show updf (updf G.lam q' (G.lam (.t s))) (.t s) none q = some p
      rw [updf_ne _ _ (by rw [h4]; simp), updf_ne _ _ h5]
      exact hp
  · obtain ⟨q0, h0⟩ := any q _ hp; exact h.lam q0 v e sz h0
  · obtain ⟨q0, h0⟩ := any q _ hp; exact h.lamObj q0 v e sz b h0 hb r o (by rw [← hobj]; exact hr)
  · obtain ⟨n1, c1⟩ := pre q1 _ h1
    obtain ⟨n2, c2⟩ := pre q2 _ h2
    rcases c1 with ⟨e1, g1⟩ | ⟨e1, g1⟩ <;> rcases c2 with ⟨e2, g2⟩ | ⟨e2, g2⟩
    · rw [e1, e2]
    · exact absurd (h.lamInj _ _ v v' p p' b g1 g2 hb hb').symm n2
    · exact absurd (h.lamInj _ _ v v' p p' b g1 g2 hb hb') n1
    · exact h.lamInj _ _ v v' p p' b g1 g2 hb hb'
  · obtain ⟨q0, h0⟩ := any q _ hp; exact h.newLam q0 v e sz b h0 hb

/-! ### A draw; new memory -/
theorem Ext.of_heap {f : Nat → Nat} {w w' : World} (h : w'.heap = w.heap) : Ext f w f w' :=
  ⟨by rw [h]; exact Nat.le_refl _, fun _ => Nat.le_refl _, fun b i _ => by simp [World.cell?, h]⟩

theorem ObjR.mono {G G' : Ghost} {w w' : World} {r : Ref} {o : AObj} (h : ObjR G w r o) (hx : Ext G.f w G'.f w') (hb : G'.b r = G.b r) (hh : w'.heap[G.b r]? = w.heap[G.b r]?)
    (hbs : ∀ cs x, o = .cells cs → x ∈ cs → ∀ r', x.has r' = true → G'.b r' = G.b r') (hl : ∀ i p, G.lam (.c r i) = some p → G'.lam (.c r i) = some p) : ObjR G' w' r o := by
  cases o with
  | siter s p => show w'.heap[G'.b r]? = _; rw [hb, hh]; exact h
  | cells cs =>
    obtain ⟨arr, el, h1, h2, h3⟩ := h
    refine ⟨arr, el, by rw [hb, hh]; exact h1, h2, fun i x hi => ⟨(h3 i x hi).1.mono hx (hbs cs x rfl (List.mem_of_getElem? hi)) (fun q p hq hp => ?_), (h3 i x hi).2⟩⟩
    have := (h3 i x hi).2.2 q hq
    subst this; exact hl i p hp

theorem OwnOK.mono {f f' : Nat → Nat} {w w' : World} {v : Value} {e sz : Nat} (h : OwnOK f w v e sz) (hb : ∀ b, v.ownBlock = some b → w'.heap[b]? = w.heap[b]? ∧ f' b = f b) : OwnOK f' w' v e sz := by
  obtain ⟨n, xs, h1, h2⟩ := h
  refine ⟨n, xs, ⟨h1.1, ?_⟩, fun b hv => by rw [(hb b hv).2]; exact h2 b hv⟩
  rcases h1.2 with h | ⟨g, cap, cur, rfl, hg, hh, r⟩
  · exact .inl h
  · exact .inr ⟨g, cap, cur, rfl, hg, by rw [(hb g rfl).1]; exact hh, r⟩

/-- The world goes on; nothing of what the state speaks of has turned, but for blocks (X) that are nobody's. -/
theorem SR.world' (h : SR E n G σ ts w) {w' : World} {f' : Nat → Nat} (X : Nat → Prop) (hX : ∀ b, X b → (∀ r o, σ.obj r = some o → G.b r ≠ b) ∧ (∀ q v p, G.lam q = some (v, p) → v.ownBlock ≠ some b) ∧ (E.w0.heap.size ≤ b ∨ E.M b))
    (hx : Ext G.f w f' w') (hold : ∀ b, b < w.heap.size → ¬ X b → w'.heap[b]? = w.heap[b]? ∧ f' b = G.f b)
    (ht : ∀ b, w'.heap.size ≤ b → f' b = 0) (hos : w'.os = w.os) (htp : w'.tape = w.tape) (hout : w'.output = w.output) : SR E n { G with f := f' } σ ts w' := by
  have hlt : ∀ r o, σ.obj r = some o → G.b r < w.heap.size := fun r o ho => (h.obj r o ho).lt
  have ho' : ∀ r o, σ.obj r = some o → w'.heap[G.b r]? = w.heap[G.b r]? ∧ f' (G.b r) = G.f (G.b r) := fun r o ho => hold _ (hlt r o ho) (fun hx => (hX _ hx).1 r o ho rfl)
  refine ⟨h.size, fun s x hx' => (h.slot s x hx').mono (G' := { G with f := f' }) hx (fun _ _ => rfl) (fun _ _ _ hp => hp), fun r o ho => ?_, fun r o ho => ?_, h.inj, fun q v e sz hq => ?_, h.lamObj, h.lamInj, h.newObj, h.newLam, h.ext.trans hx, fun b hb hM => ?_, ht, h.ext0, h.own0,
    hos.trans h.os, htp.trans h.tape, hout.trans h.output⟩
  · exact (h.obj r o ho).mono (G' := { G with f := f' }) hx rfl (ho' r o ho).1 (fun _ _ _ _ _ _ => rfl) (fun _ _ hp => hp)
  · show f' (G.b r) = 0; rw [(ho' r o ho).2]; exact h.objf r o ho
  · exact (h.lam q v e sz hq).mono fun b hb => hold b ((h.lam q v e sz hq).lt hb) (fun hx => (hX _ hx).2.1 q v _ hq hb)
  · have hb' := Nat.lt_of_lt_of_le hb h.ext.size
    have h1 := hold b hb' (fun hx => by rcases (hX b hx).2.2 with h | h; · omega
                                        · exact hM h)
    exact ⟨h1.1.trans (h.fr b hb hM).1, h1.2.trans (h.fr b hb hM).2⟩

theorem SR.world (h : SR E n G σ ts w) {w' : World} {f' : Nat → Nat} (hx : Ext G.f w f' w') (hold : ∀ b, b < w.heap.size → w'.heap[b]? = w.heap[b]? ∧ f' b = G.f b)
    (ht : ∀ b, w'.heap.size ≤ b → f' b = 0) (hos : w'.os = w.os) (htp : w'.tape = w.tape) (hout : w'.output = w.output) : SR E n { G with f := f' } σ ts w' :=
  h.world' (fun _ => False) (fun _ h => h.elim) hx (fun b hb _ => hold b hb) ht hos htp hout

theorem SR.drew (h : SR E n G σ ts w) : SR E n G σ ts w.drew :=
  h.world (f' := G.f) (Ext.of_heap rfl) (fun _ _ => ⟨rfl, rfl⟩) (fun b hb => h.top b hb) rfl rfl rfl

theorem heap_alloc_lt (w : World) (o : Obj) {b : Nat} (hb : b < w.heap.size) : (w.alloc o).heap[b]? = w.heap[b]? := by
  show (w.heap.push o)[b]? = _
  rw [Array.getElem?_push, if_neg (by omega)]

theorem heap_alloc_at (w : World) (o : Obj) : (w.alloc o).heap[w.heap.size]? = some o := by
  show (w.heap.push o)[w.heap.size]? = _
  simp

theorem Ext.alloc {f : Nat → Nat} (w : World) (ht : ∀ b, w.heap.size ≤ b → f b = 0) (o : Obj) (k : Nat) : Ext f w (updf f w.heap.size k) (w.alloc o) := by
  refine ⟨by simp, fun b => ?_, fun b i hi => ?_⟩
  · by_cases e : b = w.heap.size
    · rw [e, ht _ (Nat.le_refl _)]; exact Nat.zero_le _
    · rw [updf_ne _ _ e]; exact Nat.le_refl _
  · have hb : b < w.heap.size := by
      rcases Nat.lt_or_ge b w.heap.size with h | h
      · exact h
      · rw [ht b h] at hi; omega
    simp only [World.cell?, at_]
    rw [heap_alloc_lt w o hb]

/-- A new block, k cells of it immutable at once. -/
theorem SR.alloc (h : SR E n G σ ts w) (o : Obj) (k : Nat) : SR E n { G with f := updf G.f w.heap.size k } σ ts (w.alloc o) := by
  refine h.world (Ext.alloc w h.top o k) (fun b hb => ⟨heap_alloc_lt w o hb, updf_ne _ _ (by omega)⟩) (fun b hb => ?_) rfl rfl rfl
  simp at hb
  rw [updf_ne _ _ (by omega)]
  exact h.top b (by omega)

/-- A label for a row that is nobody's. -/
theorem SR.addLam (h : SR E n G σ ts w) (q : Lab) (hq : G.lam q = none) {v : Value} {e sz : Nat} (hv : OwnOK G.f w v e sz)
    (hb : ∀ b, v.ownBlock = some b → (∀ r o, σ.obj r = some o → G.b r ≠ b) ∧ (∀ q' v' p, G.lam q' = some (v', p) → v'.ownBlock ≠ some b) ∧ (E.w0.heap.size ≤ b ∨ E.M b)) :
    SR E n { G with lam := updf G.lam q (some (v, e, sz)) } σ ts w := by
  have pre : ∀ q' p, updf G.lam q (some (v, e, sz)) q' = some p → (q' = q ∧ p = (v, e, sz)) ∨ (q' ≠ q ∧ G.lam q' = some p) := fun q' p hp => by
    simp only [updf] at hp
    split at hp
    · rename_i h; exact .inl ⟨h, by simpa using hp.symm⟩
    · rename_i h; exact .inr ⟨h, hp⟩
  have keep : ∀ q' p, G.lam q' = some p → updf G.lam q (some (v, e, sz)) q' = some p := fun q' p hp => by
    rw [updf_ne _ _ (fun e => by rw [e, hq] at hp; cases hp)]; exact hp
  refine ⟨h.size, fun s x hx => AVR.mono (G := G) (w := w) (h := h.slot s x hx) (G' := { G with lam := updf G.lam q (some (v, e, sz)) }) (Ext.refl _ _) (fun _ _ => rfl) (fun q' p _ hp => keep q' p hp), fun r o ho => ?_, h.objf, h.inj, fun q' v' e' sz' hp => ?_, fun q' v' e' sz' b hp hb' r o ho => ?_,
    fun q1 q2 v1 v2 p1 p2 b h1 h2 hb1 hb2 => ?_, h.newObj, fun q' v' e' sz' b hp hb' => ?_, h.ext, h.fr, h.top, h.ext0, h.own0, h.os, h.tape, h.output⟩
  · exact (h.obj r o ho).mono (G' := { G with lam := updf G.lam q (some (v, e, sz)) }) (Ext.refl _ _) rfl rfl (fun _ _ _ _ _ _ => rfl) (fun i p hp => keep _ p hp)
  · rcases pre q' _ hp with ⟨_, e1⟩ | ⟨_, hp⟩
    · cases e1; exact hv
    · exact h.lam q' v' e' sz' hp
  · rcases pre q' _ hp with ⟨_, e1⟩ | ⟨_, hp⟩
    · cases e1; exact (hb b hb').1 r o ho
    · exact h.lamObj q' v' e' sz' b hp hb' r o ho
  · rcases pre q1 _ h1 with ⟨e1, c1⟩ | ⟨_, c1⟩ <;> rcases pre q2 _ h2 with ⟨e2, c2⟩ | ⟨_, c2⟩
    · rw [e1, e2]
    · cases c1; exact absurd hb2 ((hb b hb1).2.1 q2 v2 p2 c2)
    · cases c2; exact absurd hb1 ((hb b hb2).2.1 q1 v1 p1 c1)
    · exact h.lamInj q1 q2 v1 v2 p1 p2 b c1 c2 hb1 hb2
  · rcases pre q' _ hp with ⟨_, e1⟩ | ⟨_, hp⟩
    · cases e1; exact (hb b hb').2.2
    · exact h.newLam q' v' e' sz' b hp hb'

end Go.Av
