/- Stepping through regions that draw their order: equations to rewrite with. -/
import Derived.Test.YtkkdhgibaimboaaDoorAvRun
import Derived.IntWalk
namespace Go.Av

variable {P : Program} [Inv P]

def DPS (P : Program) [Inv P] (l : List LOper) (k : List Item) (K : Exit → St → Prop) (σ : St) : Prop := DOps P l (stackK P k K .normal) σ
def CallD (P : Program) [Inv P] (f : Nat) (ds : Option (List D)) (d : Option Nat) (N : St → Prop) (σ : St) : Prop := ∃ l r, ds = some l ∧ PCall P f l (fun x => x = r) ∧ N (putO σ d r.av)

theorem CallD.of {f : Nat} {l : List D} {d : Option Nat} {N : St → Prop} {σ : St} {r : Res} (h : PCall P f l (fun x => x = r)) (hN : N (putO σ d r.av)) : CallD P f (some l) d N σ := ⟨l, r, rfl, h, hN⟩

def bspS (σ : St) (d sz : Nat) (xs : List AV) : Option St :=
  match rdAll xs with
  | some l => if allSz sz l = true ∧ xs.length * sz ≤ 16777216 ∧ sz ≠ 0 then some (σ.put d (.d (.list l))) else none
  | none => none

section
variable {k : List Item} {K : Exit → St → Prop} {σ : St}

theorem run_dreg {l : List LOper} : RUN P (.dreg l) k K σ = DPS P l k K σ := rfl
theorem dps_nil : DPS P [] k K σ = POP P .normal k K σ := propext ⟨fun h => h, fun h => h⟩

theorem dps_val {d : Nat} {v : LV} {l : List LOper} : DPS P (⟨some d, .val v, none⟩ :: l) k K σ = PutG (pev σ v) σ d (DPS P l k K) := by
  apply propext
  show (∃ e : Eff, (true = true ∧ ∃ z, pev σ v = some z ∧ e = (⟨[], z⟩ : Eff)) ∧ _) ↔ _
  constructor
  · rintro ⟨e, ⟨_, z, h1, rfl⟩, h2⟩; exact ⟨z, h1, h2⟩
  · rintro ⟨z, h1, h2⟩; exact ⟨_, ⟨rfl, z, h1, rfl⟩, h2⟩

theorem dps_call {d : Option Nat} {f : Nat} {xs : List LX} {l : List LOper} : DPS P (⟨d, .call f xs, none⟩ :: l) k K σ = CallD P f (rdAll (evL σ xs)) d (DPS P l k K) σ := by
  apply propext
  show (∃ e : Eff, (∃ ds r, rdAll (evL σ xs) = some ds ∧ PCall P f ds (fun x => x = r) ∧ e = (⟨[], r.av⟩ : Eff)) ∧ _) ↔ _
  constructor
  · rintro ⟨e, ⟨ds, r, h1, h2, rfl⟩, h3⟩; exact ⟨ds, r, h1, h2, h3⟩
  · rintro ⟨ds, r, h1, h2, h3⟩; exact ⟨_, ⟨ds, r, h1, h2, rfl⟩, h3⟩

theorem dps_bsl {d e sz : Nat} {xs : List LX} {l : List LOper} : DPS P (⟨some d, .bsl e sz xs, none⟩ :: l) k K σ = StG (bspS σ d sz (evL σ xs)) (DPS P l k K) := by
  apply propext
  show (∃ ef : Eff, (∃ k' l', some d = some k' ∧ rdAll (evL σ xs) = some l' ∧ (allSz sz l' = true ∧ (evL σ xs).length * sz ≤ 16777216 ∧ sz ≠ 0) ∧ ef = (⟨[], .d (.list l')⟩ : Eff)) ∧ _) ↔ _
  unfold StG bspS
  constructor
  · rintro ⟨e, ⟨k', l', h1, h2, h3, rfl⟩, h4⟩
    cases h1
    rw [h2]
    exact ⟨_, by simp only; rw [if_pos h3]; rfl, h4⟩
  · rintro ⟨τ, h1, h2⟩
    split at h1
    · rename_i l' hl
      split at h1
      · rename_i h3; cases h1
        exact ⟨_, ⟨d, l', rfl, hl, h3, rfl⟩, h2⟩
      · cases h1
    · cases h1

theorem dps_app {d e sz by_ : Nat} {str : Bool} {s x : LX} {l : List LOper} : DPS P (⟨some d, .app e sz by_ str s x, none⟩ :: l) k K σ = StG (appS σ d e sz by_ str (σ.ev s) (σ.ev x)) (DPS P l k K) := by
  apply propext
  show (∃ ef : Eff, (∃ k' q l' ys, some d = some k' ∧ σ.ev s = .own q e sz l' ∧ srcL str sz (σ.ev x) = some ys ∧ (l'.length + ys.length ≤ 140737488355327 ∧ (l'.length + ys.length) * by_ ≤ 140737488355328) ∧ ef = (⟨[q, .t k'], .own (.t k') e sz (l' ++ ys)⟩ : Eff)) ∧ _) ↔ _
  unfold StG appS
  constructor
  · rintro ⟨ef, ⟨k', q, l', ys, h1, h2, h3, h4, rfl⟩, h5⟩
    cases h1
    rw [h2, h3]
    exact ⟨_, by simp only; rw [if_pos ⟨trivial, trivial, h4.1, h4.2⟩]; rfl, h5⟩
  · rintro ⟨τ, h1, h2⟩
    split at h1
    · rename_i q e' sz' l' ys e1 e2
      split at h1
      · rename_i h3; cases h1
        obtain ⟨rfl, rfl, h3, h4⟩ := h3
        exact ⟨_, ⟨d, q, l', ys, rfl, e1, e2, ⟨h3, h4⟩, rfl⟩, h2⟩
      · cases h1
    · cases h1

theorem dps_asg {d : Nat} {x : LX} {l : List LOper} : DPS P (⟨some d, .asg x, none⟩ :: l) k K σ = DPS P l k K (asgS σ d (σ.ev x)) :=
  propext ⟨fun ⟨_, e, h⟩ => by cases e; exact h, fun h => ⟨_, rfl, h⟩⟩
theorem dps_nils {d e sz : Nat} {l : List LOper} : DPS P (⟨some d, .nils e sz, none⟩ :: l) k K σ = DPS P l k K (nilS σ d e sz) :=
  propext ⟨fun ⟨_, e, h⟩ => by cases e; exact h, fun h => ⟨_, rfl, h⟩⟩
theorem dps_box {d : Nat} {x : LX} {l : List LOper} : DPS P (⟨some d, .box x, none⟩ :: l) k K σ = StG (boxS σ d (σ.ev x)) (DPS P l k K) := propext ⟨fun h => h, fun h => h⟩
theorem dps_allo {d : Nat} {z : List D} {l : List LOper} : DPS P (⟨some d, .allo z, none⟩ :: l) k K σ = DPS P l k K (newO σ d z) :=
  propext ⟨fun ⟨_, e, h⟩ => by cases e; exact h, fun h => ⟨_, rfl, h⟩⟩
theorem dps_sla {d len : Nat} {x : LX} {lo hi : Option LX} {l : List LOper} : DPS P (⟨some d, .sla len x lo hi, none⟩ :: l) k K σ = StG (slaS σ d len (σ.ev x) (evO σ lo) (evO σ hi)) (DPS P l k K) := propext ⟨fun h => h, fun h => h⟩
theorem dps_st {m : Nat} {x y : LX} {l : List LOper} : DPS P (⟨none, .st m x y, none⟩ :: l) k K σ = StG (stS σ m (σ.ev x) (σ.ev y)) (DPS P l k K) := propext ⟨fun h => h, fun h => h⟩

theorem dps_guard {d : Option Nat} {op : LO} {s : Nat} {b : Bool} {l : List LOper} : DPS P (⟨d, op, some (s, b)⟩ :: l) k K σ =
    GuardG (σ.get s) b (DPS P (⟨d, op, none⟩ :: l) k K) (DPS P l k K) (σ.mark s (.d (.bool b))) (putO (σ.mark s (.d (.bool (!b)))) d .junk) := by
  apply propext
  have nb : ∀ {t : Bool}, t ≠ b ↔ t = !b := fun {t} => by cases t <;> cases b <;> simp
  by_cases hm : (⟨d, op, none⟩ : LOper).moves = true
  · have hm' : (⟨d, op, some (s, b)⟩ : LOper).moves = true := hm
    simp only [DPS, DOps, DStep, hm, hm', if_true, DEffG, GuardG]
    constructor
    · rintro ⟨e, ⟨t, h1, h2, h3⟩, h4⟩
      refine ⟨t, h1, fun ht => ?_, fun ht => ?_⟩
      · subst ht; rw [mark_same h1]; exact ⟨e, h2 rfl, h4⟩
      · have := h3 (nb.2 ht); subst this; rw [← ht, mark_same h1]; exact h4
    · rintro ⟨t, h1, h2, h3⟩
      by_cases ht : t = b
      · subst ht
        have := h2 rfl
        rw [mark_same h1] at this
        obtain ⟨e, h4, h5⟩ := this
        exact ⟨e, ⟨t, h1, fun _ => h4, fun hn => absurd rfl hn⟩, h5⟩
      · have h4 := h3 (nb.1 ht)
        rw [← nb.1 ht, mark_same h1] at h4
        exact ⟨⟨[], .junk⟩, ⟨t, h1, fun e => absurd e ht, fun _ => rfl⟩, h4⟩
  · have hm' : ¬ (⟨d, op, some (s, b)⟩ : LOper).moves = true := hm
    have hst : ∀ {K' : St → Prop} {σ : St}, LStep P ⟨d, op, some (s, b)⟩ K' σ ↔ LStep P ⟨d, op, none⟩ K' σ := fun {K' σ} => by unfold LStep; exact Iff.rfl
    simp only [DPS, DOps, DStep, if_neg hm, if_neg hm', LOps, GuardG]
    constructor
    · rintro ⟨t, h1, h2, h3⟩
      refine ⟨t, h1, fun e => ?_, fun e => ?_⟩
      · subst e; rw [mark_same h1]; exact hst.1 (h2 rfl)
      · have e' : t ≠ b := by rw [e]; cases b <;> simp
        rw [← e, mark_same h1]; exact h3 e'
    · rintro ⟨t, h1, h2, h3⟩
      refine ⟨t, h1, fun e => ?_, fun e => ?_⟩
      · subst e; have := h2 rfl; rw [mark_same h1] at this; exact hst.2 this
      · have e' : t = !b := by cases t <;> cases b <;> simp_all
        have := h3 e'; rw [← e', mark_same h1] at this; exact this

end

/-! ### Parts of strings and rows: what must hold, and a value -/
theorem PutG_getI {α : Type} {l : List α} {i : Int} {g : α → AV} {σ : St} {d : Nat} {N : St → Prop} (u : α) : PutG ((getI l i).map g) σ d N = (0 ≤ i ∧ i < l.length ∧ N (σ.put d (g (l.getD i.toNat u)))) := by
  apply propext
  constructor
  · rintro ⟨x, h1, h2⟩
    cases hg : getI l i with
    | none => simp [hg] at h1
    | some y =>
      obtain ⟨a, b, c⟩ := getI_some hg
      simp [hg] at h1; subst h1
      refine ⟨a, b, ?_⟩
      simpa [List.getD_eq_getElem?_getD, c] using h2
  · rintro ⟨a, b, h⟩
    have hlt : i.toNat < l.length := by omega
    refine ⟨_, ?_, h⟩
    simp [getI, a, hlt]

theorem getI_map {α β : Type} (f : α → β) (l : List α) (i : Int) : getI (l.map f) i = (getI l i).map f := by
  unfold getI; split <;> simp

/-- The function's code is read off as this. -/
def Lifts (P : Program) [Inv P] (f : FuncId) (n : Nat) (L : LCode) (R : List LRes) : Prop := ∃ fn c, P.funcs[f]? = some fn ∧ fn.body = some c ∧ liftC P fn.ntmps c = some L.strip ∧ liftRes P fn.results.toList = some R ∧ fn.ntmps = n

theorem Lifts.call {f : FuncId} {n : Nat} {L : LCode} {R : List LRes} (h : Lifts P f n L R) {args : List D} {Post : Res → Prop} (hn : Nat.ble args.length n = true) (hr : RUN P L [] (retK R Post) ⟨initρ 0 args, [], fun _ => none⟩) : PCall P f args Post := by
  obtain ⟨fn, c, h1, h2, h3, h4, rfl⟩ := h
  exact PCall.run h1 h2 h3 h4 (Nat.le_of_ble_eq_true hn) hr

/-- The rule of a loop whose states are told by what slots hold. -/
theorem weak_mk {ρ ρ' : List (Nat × AV)} {L L' : List (Nat × AObj)} {H : Nat → Option AObj} (h1 : Sub ρ ρ') (h2 : Sub L L') : Weak ⟨ρ, L, H⟩ ⟨ρ', L', H⟩ := ⟨h1, h2, fun _ _ h => h⟩

end Go.Av
