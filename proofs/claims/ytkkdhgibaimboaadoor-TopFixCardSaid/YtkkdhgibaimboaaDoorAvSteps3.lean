/- Steps of abstract states, continued: a new local object; a cell of an object is written; a row grows. -/
import Derived.Test.YtkkdhgibaimboaaDoorAvSteps2
namespace Go.Av

variable {E : Entry} {n : Nat} {G : Ghost} {σ : St} {ts : Array Value} {w : World}

/-! ### A new local object -/
def AV.drop (r : Ref) (x : AV) : AV := if x.has r then .junk else x

def dropObj (r : Ref) : AObj → AObj
  | .cells cs => .cells (cs.map (AV.drop r))
  | .siter s p => .siter s p

def St.drop (σ : St) (s : Nat) : St := { σ with ρ := amap (AV.drop (.l s)) σ.ρ, L := amap (dropObj (.l s)) σ.L }

theorem AVR.drop {x : AV} {v : Value} (h : AVR G w x v) (r : Ref) : AVR G w (x.drop r) v := by
  unfold AV.drop; split
  · exact .junk v
  · exact h

theorem AV.has_drop (r r' : Ref) (x : AV) (h : x.has r' = false) : (x.drop r).has r' = false := by
  unfold AV.drop; split
  · rfl
  · exact h

theorem AV.drop_has (r : Ref) (x : AV) : (x.drop r).has r = false := by
  unfold AV.drop; split
  · rfl
  · rename_i h; simpa using h

theorem AV.lab_drop (r : Ref) (x : AV) {q : Lab} (h : (x.drop r).lab? = some q) : x.lab? = some q := by
  unfold AV.drop at h; split at h
  · cases h
  · exact h

theorem St.obj_drop (σ : St) (s : Nat) (r : Ref) {o : AObj} (h : (σ.drop s).obj r = some o) : ∃ o', σ.obj r = some o' ∧ (o = o' ∨ o = dropObj (.l s) o') := by
  cases r with
  | l t =>
    simp only [St.drop, St.obj, aget_amap] at h
    cases hx : aget σ.L t with
    | none => simp [hx] at h
    | some o' => simp [hx] at h; exact ⟨o', hx, .inr h.symm⟩
  | x t => exact ⟨o, h, .inl rfl⟩

theorem ObjR.drop {r r' : Ref} {o : AObj} (h : ObjR G w r o) : ObjR G w r (dropObj r' o) := by
  cases o with
  | siter s p => exact h
  | cells cs =>
    obtain ⟨arr, el, h1, h2, h3⟩ := h
    refine ⟨arr, el, h1, by simp [h2], fun i x hi => ?_⟩
    simp only [List.getElem?_map] at hi
    cases hy : cs[i]? with
    | none => simp [hy] at hi
    | some y => simp [hy] at hi; subst hi; exact ⟨(h3 i y hy).1.drop r', (h3 i y hy).2.1, fun q hq => (h3 i y hy).2.2 q (AV.lab_drop r' y hq)⟩

theorem SR.drop (h : SR E n G σ ts w) (s : Nat) : SR E n G (σ.drop s) ts w := by
  refine ⟨h.size, fun t x hx => ?_, fun r o ho => ?_, fun r o ho => ?_, fun r r' o o' ho ho' => ?_, h.lam, fun q v e sz b h1 h2 r o ho => ?_, h.lamInj, fun r o ho => ?_, h.newLam, h.ext, h.fr, h.top, h.ext0, fun r cs x t ho hx => ?_, h.os, h.tape, h.output⟩
  · simp only [St.drop, aget_amap] at hx
    cases hy : aget σ.ρ t with
    | none => simp [hy] at hx
    | some y => simp [hy] at hx; subst hx; exact (h.slot t y hy).drop _
  · obtain ⟨o', h1, e | e⟩ := σ.obj_drop s r ho
    · rw [e]; exact h.obj r o' h1
    · rw [e]; exact (h.obj r o' h1).drop
  · obtain ⟨o', h1, _⟩ := σ.obj_drop s r ho; exact h.objf r o' h1
  · obtain ⟨o1, h1, _⟩ := σ.obj_drop s r ho; obtain ⟨o2, h2, _⟩ := σ.obj_drop s r' ho'; exact h.inj r r' o1 o2 h1 h2
  · obtain ⟨o', h3, _⟩ := σ.obj_drop s r ho; exact h.lamObj q v e sz b h1 h2 r o' h3
  · obtain ⟨o', h1, _⟩ := σ.obj_drop s r ho; exact h.newObj r o' h1
  · exact h.own0 r cs x t ho hx

theorem SR.addObj (h : SR E n G σ ts w) (s b : Nat) (o : AObj) (hρ : ∀ t x, aget σ.ρ t = some x → x.has (.l s) = false) (hL : ∀ t cs x, aget σ.L t = some (.cells cs) → x ∈ cs → x.has (.l s) = false)
    (hf : G.f b = 0) (hb : ∀ r o, σ.obj r = some o → G.b r ≠ b) (hlam : ∀ q v p, G.lam q = some (v, p) → v.ownBlock ≠ some b) (hn : E.w0.heap.size ≤ b)
    (ho : ObjR { G with b := updf G.b (.l s) b } w (.l s) o) : SR E n { G with b := updf G.b (.l s) b } (σ.setObj (.l s) o) ts w := by
  have hbs : ∀ x : AV, x.has (.l s) = false → ∀ r, x.has r = true → updf G.b (.l s) b r = G.b r := fun x hx r hr => updf_ne _ _ (fun e => by rw [e, hx] at hr; cases hr)
  have obj : ∀ r o', (σ.setObj (.l s) o).obj r = some o' → (r = .l s ∧ o' = o) ∨ (r ≠ .l s ∧ σ.obj r = some o') := fun r o' h1 => by
    rw [St.obj_setObj] at h1
    split at h1
    · rename_i e; exact .inl ⟨e.symm, by simpa using h1.symm⟩
    · rename_i e; exact .inr ⟨fun e' => e e'.symm, h1⟩
  have hne : ∀ r, r ≠ .l s → updf G.b (.l s) b r = G.b r := fun r hr => updf_ne _ _ hr
  refine ⟨h.size, fun t x hx => ?_, fun r o' h1 => ?_, fun r o' h1 => ?_, fun r r' o1 o2 h1 h2 he => ?_, h.lam, fun q v e sz b' h1 h2 r o' h3 => ?_, h.lamInj, fun r o' h1 => ?_, h.newLam, h.ext, h.fr, h.top, fun r => ?_, fun r cs x t h1 hx => ?_, h.os, h.tape, h.output⟩
  · exact AVR.mono (G := G) (w := w) (h := h.slot t x hx) (G' := { G with b := updf G.b (.l s) b }) (Ext.refl _ _) (hbs x (hρ t x hx)) (fun _ _ _ hp => hp)
  · rcases obj r o' h1 with ⟨rfl, rfl⟩ | ⟨hr, h1⟩
    · exact ho
    · refine ObjR.mono (G := G) (w := w) (h := h.obj r o' h1) (G' := { G with b := updf G.b (.l s) b }) (Ext.refl _ _) (hne r hr) rfl (fun cs x e hx => hbs x ?_) (fun _ _ hp => hp)
      subst e
      cases r with
      | l t => exact hL t cs x h1 hx
      | x t => exact h.own0 t cs x s h1 hx
  · rcases obj r o' h1 with ⟨rfl, rfl⟩ | ⟨hr, h1⟩
    · show G.f (updf G.b (.l s) b (.l s)) = 0; rw [updf_same]; exact hf
    · show G.f (updf G.b (.l s) b r) = 0; rw [hne r hr]; exact h.objf r o' h1
  · have he' : updf G.b (.l s) b r = updf G.b (.l s) b r' := he
    rcases obj r o1 h1 with ⟨rfl, _⟩ | ⟨hr, h1⟩ <;> rcases obj r' o2 h2 with ⟨rfl, _⟩ | ⟨hr', h2⟩
    · rfl
    · rw [updf_same, hne r' hr'] at he'; exact absurd he'.symm (hb r' o2 h2)
    · rw [updf_same, hne r hr] at he'; exact absurd he' (hb r o1 h1)
    · rw [hne r hr, hne r' hr'] at he'; exact h.inj r r' o1 o2 h1 h2 he'
  · show updf G.b (.l s) b r ≠ b'
    rcases obj r o' h3 with ⟨rfl, _⟩ | ⟨hr, h3⟩
    · rw [updf_same]; intro e'; rw [← e'] at h2; exact hlam q v _ h1 h2
    · rw [hne r hr]; exact h.lamObj q v e sz b' h1 h2 r o' h3
  · show _ ≤ updf G.b (.l s) b r ∨ E.M (updf G.b (.l s) b r)
    rcases obj r o' h1 with ⟨rfl, _⟩ | ⟨hr, h1⟩
    · rw [updf_same]; exact .inl hn
    · rw [hne r hr]; exact h.newObj r o' h1
  · show updf G.b (.l s) b (.x r) = _; rw [hne _ (by simp)]; exact h.ext0 r
  · rcases obj (.x r) _ h1 with ⟨h2, _⟩ | ⟨_, h1⟩
    · cases h2
    · exact h.own0 r cs x t h1 hx

/-! ### A cell of an object is written -/
theorem heap_setCell_at (w : World) (b o : Nat) (v : Value) {arr : Array Value} {el : TypeId} {fr : Nat × Nat} (h : w.heap[b]? = some (.cells arr el fr)) :
    (w.setCell (at_ b o) v).heap[b]? = some (.cells (arr.setIfInBounds o v) el fr) := by
  simp [World.setCell, at_, Array.getElem?_modify, h]

theorem heap_setCell_ne (w : World) (b o k : Nat) (v : Value) (h : k ≠ b) : (w.setCell (at_ b o) v).heap[k]? = w.heap[k]? := by
  simp only [World.setCell, at_, Array.getElem?_modify]
  rw [if_neg (fun e => h e.symm)]

theorem SR.setCell (h : SR E n G σ ts w) {r : Ref} {cs : List AV} {i : Nat} (hr : σ.obj r = some (.cells cs)) (hi : i < cs.length) {x : AV} {v : Value} (hx : AVR G w x v) (h1 : v.oneCell' = true)
    (hl : ∀ q, x.lab? = some q → q = .c r i) (hx0 : ∀ k s, r = .x k → x.has (.l s) = false) :
    SR E n G (σ.setObj r (.cells (cs.set i x))) ts (w.setCell (at_ (G.b r) i) v) := by
  have hf := h.objf r _ hr
  have hext : Ext G.f w G.f (w.setCell (at_ (G.b r) i) v) := by
    refine ⟨by simp, fun _ => Nat.le_refl _, fun b j hj => ?_⟩
    have hb : b ≠ G.b r := fun e => by rw [e, hf] at hj; omega
    simp only [World.cell?, at_]
    rw [show (w.setCell ⟨G.b r, i, none⟩ v).heap[b]? = w.heap[b]? from heap_setCell_ne w _ i b v hb]
  have obj : ∀ r' o', (σ.setObj r (.cells (cs.set i x))).obj r' = some o' → (r' = r ∧ o' = .cells (cs.set i x)) ∨ (r' ≠ r ∧ σ.obj r' = some o') := fun r' o' h1 => by
    rw [St.obj_setObj] at h1
    split at h1
    · rename_i e; exact .inl ⟨e.symm, by simpa using h1.symm⟩
    · rename_i e; exact .inr ⟨fun e' => e e'.symm, h1⟩
  have dom : ∀ r' o', (σ.setObj r (.cells (cs.set i x))).obj r' = some o' → ∃ o'', σ.obj r' = some o'' := fun r' o' h1 => by
    rcases obj r' o' h1 with ⟨rfl, _⟩ | ⟨_, h1⟩
    · exact ⟨_, hr⟩
    · exact ⟨_, h1⟩
  refine ⟨h.size, fun t y hy => ?_, fun r' o' ho => ?_, fun r' o' ho => ?_, fun r1 r2 o1 o2 h1 h2 => ?_, fun q v' e sz hq => ?_, fun q v' e sz b hq hb r' o' ho => ?_, h.lamInj, fun r' o' ho => ?_, h.newLam, h.ext.trans hext, fun b hb hM => ?_, fun b hb => h.top b (by simpa using hb), h.ext0, fun k cs' y s ho hy => ?_,
    h.os, h.tape, h.output⟩
  · have h2 : aget σ.ρ t = some y := by cases r <;> exact hy
    exact AVR.mono (G' := G) (h := h.slot t y h2) hext (fun _ _ => rfl) (fun _ _ _ hp => hp)
  · rcases obj r' o' ho with ⟨rfl, rfl⟩ | ⟨hne, ho⟩
    · obtain ⟨arr, el, g1, g2, g3⟩ := h.obj r' _ hr
      refine ⟨arr.setIfInBounds i v, el, heap_setCell_at w _ i v g1, by simp [g2], fun j y hy => ?_⟩
      by_cases e : i = j
      · subst e
        simp [hi] at hy; subst hy
        have : (arr.setIfInBounds i v).getD i undef = v := by simp [g2, hi]
        rw [this]
        exact ⟨hx.mono hext (fun _ _ => rfl) (fun _ _ _ hp => hp), h1, hl⟩
      · rw [List.getElem?_set_ne e] at hy
        have : (arr.setIfInBounds i v).getD j undef = arr.getD j undef := by simp [Array.getElem?_setIfInBounds_ne e]
        rw [this]
        exact ⟨(g3 j y hy).1.mono hext (fun _ _ => rfl) (fun _ _ _ hp => hp), (g3 j y hy).2⟩
    · have hb : G.b r' ≠ G.b r := fun e => hne (h.inj r' r _ _ ho hr e)
      exact (h.obj r' o' ho).mono (G' := G) hext rfl (heap_setCell_ne w _ i _ v hb) (fun _ _ _ _ _ _ => rfl) (fun _ _ hp => hp)
  · obtain ⟨o'', h2⟩ := dom r' o' ho; exact h.objf r' o'' h2
  · obtain ⟨o3, h3⟩ := dom r1 o1 h1; obtain ⟨o4, h4⟩ := dom r2 o2 h2; exact h.inj r1 r2 o3 o4 h3 h4
  · exact (h.lam q v' e sz hq).mono fun b hb => ⟨heap_setCell_ne w _ i b v (fun e' => h.lamObj q v' e sz b hq hb r _ hr e'.symm), rfl⟩
  · obtain ⟨o'', h2⟩ := dom r' o' ho; exact h.lamObj q v' e sz b hq hb r' o'' h2
  · obtain ⟨o'', h2⟩ := dom r' o' ho; exact h.newObj r' o'' h2
  · have hb' : b ≠ G.b r := fun e => by
      rcases h.newObj r _ hr with h2 | h2
      · omega
      · rw [e] at hM; exact hM h2
    exact ⟨(heap_setCell_ne w _ i b v hb').trans (h.fr b hb hM).1, (h.fr b hb hM).2⟩
  · rcases obj (.x k) _ ho with ⟨e, h2⟩ | ⟨_, ho⟩
    · simp at h2; subst h2
      rcases List.mem_or_eq_of_mem_set hy with h3 | h3
      · exact h.own0 k cs y s (by rw [e]; exact hr) h3
      · rw [h3]; exact hx0 k s e.symm
    · exact h.own0 k cs' y s ho hy

end Go.Av
