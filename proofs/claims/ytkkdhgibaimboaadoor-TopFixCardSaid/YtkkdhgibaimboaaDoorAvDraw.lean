/- Regions that draw their order: what is abstract of them may be taken in the order of the text. -/
import Derived.Test.YtkkdhgibaimboaaDoorAvMach
namespace Go.Av

variable {P : Program} [Inv P]

/-! ### States alike -/
structure Eqv (σ τ : St) : Prop where
  ρ : ∀ s, aget σ.ρ s = aget τ.ρ s
  L : σ.L = τ.L
  H : σ.H = τ.H

theorem Eqv.refl (σ : St) : Eqv σ σ := ⟨fun _ => rfl, rfl, rfl⟩
theorem Eqv.symm {σ τ : St} (h : Eqv σ τ) : Eqv τ σ := ⟨fun s => (h.ρ s).symm, h.L.symm, h.H.symm⟩
theorem Eqv.trans {σ τ υ : St} (h : Eqv σ τ) (k : Eqv τ υ) : Eqv σ υ := ⟨fun s => (h.ρ s).trans (k.ρ s), h.L.trans k.L, h.H.trans k.H⟩
theorem Eqv.get {σ τ : St} (h : Eqv σ τ) (s : Nat) : σ.get s = τ.get s := by simp only [St.get, h.ρ s]
theorem Eqv.obj {σ τ : St} (h : Eqv σ τ) (r : Ref) : σ.obj r = τ.obj r := by cases r <;> simp [St.obj, h.L, h.H]

theorem SR.eqv {E : Entry} {n : Nat} {G : Ghost} {σ τ : St} {ts : Array Value} {w : World} (h : SR E n G σ ts w) (e : Eqv σ τ) : SR E n G τ ts w :=
  have o : ∀ r, τ.obj r = σ.obj r := fun r => (e.obj r).symm
  { h with slot := fun s x hx => h.slot s x (by rw [e.ρ]; exact hx), obj := fun r x ho => h.obj r x (by rw [← o]; exact ho), objf := fun r x ho => h.objf r x (by rw [← o]; exact ho), inj := fun r r' x x' ho ho' => h.inj r r' x x' (by rw [← o]; exact ho) (by rw [← o]; exact ho'), lamObj := fun q v e sz b h1 h2 r x ho => h.lamObj q v e sz b h1 h2 r x (by rw [← o]; exact ho), newObj := fun r x ho => h.newObj r x (by rw [← o]; exact ho), own0 := fun r cs x s ho => h.own0 r cs x s (by rw [← o]; exact ho) }

theorem Eqv.put {σ τ : St} (h : Eqv σ τ) (d : Nat) (x : AV) : Eqv (σ.put d x) (τ.put d x) :=
  ⟨fun s => by simp only [St.put, aget_acons, h.ρ], h.L, h.H⟩
theorem Eqv.putO {σ τ : St} (h : Eqv σ τ) (d : Option Nat) (x : AV) : Eqv (putO σ d x) (putO τ d x) := by
  cases d with
  | none => exact h
  | some d => exact h.put d x

theorem aget_amap' {α : Type} (g : α → α) (l : List (Nat × α)) (s : Nat) : aget (amap g l) s = (aget l s).map g := by
  induction l with
  | nil => rfl
  | cons p r ih =>
    obtain ⟨k, v⟩ := p
    simp only [amap, aget]
    split
    · rfl
    · exact ih

theorem amap_aset {α : Type} (g : α → α) (l : List (Nat × α)) (s : Nat) (x : α) : amap g (acons l s x) = acons (amap g l) s (g x) := rfl

theorem erase_ρ (σ : St) (q : Lab) : (σ.erase q).ρ = amap (AV.erase q) σ.ρ := by
  unfold St.erase
  cases q with
  | t s => rfl
  | c r off =>
    simp only
    split
    · cases r <;> rfl
    · rfl

/-- Objects after: they hang on objects before. -/
theorem erase_LH {σ τ : St} (q : Lab) (hL : σ.L = τ.L) (hH : σ.H = τ.H) : (σ.erase q).L = (τ.erase q).L ∧ (σ.erase q).H = (τ.erase q).H := by
  unfold St.erase
  cases q with
  | t s => exact ⟨hL, hH⟩
  | c r off =>
    cases r with
    | l s =>
      simp only [St.obj, hL]
      cases h : aget τ.L s with
      | none => simp [hH]
      | some o => cases o <;> simp [St.setObj, hH]
    | x k =>
      simp only [St.obj, hH]
      cases h : τ.H k with
      | none => simp [hL]
      | some o => cases o <;> simp [St.setObj, hL]

theorem Eqv.erase {σ τ : St} (h : Eqv σ τ) (q : Lab) : Eqv (σ.erase q) (τ.erase q) :=
  ⟨fun s => by rw [erase_ρ, erase_ρ, aget_amap', aget_amap', h.ρ], (erase_LH q h.L h.H).1, (erase_LH q h.L h.H).2⟩

theorem erase_put (σ : St) (q : Lab) (d : Nat) (x : AV) : Eqv ((σ.put d x).erase q) ((σ.erase q).put d (x.erase q)) := by
  have h := erase_LH (σ := σ.put d x) (τ := σ) q rfl rfl
  refine ⟨fun s => ?_, h.1, h.2⟩
  rw [erase_ρ]
  simp only [St.put, erase_ρ, amap_aset]

/-! ### What operations read -/
/-- Alike in what is read. -/
structure Agree (rs : List Nat) (σ τ : St) : Prop where
  get : ∀ s ∈ rs, σ.get s = τ.get s
  L : σ.L = τ.L
  H : σ.H = τ.H

theorem Agree.mono {rs rs' : List Nat} {σ τ : St} (h : Agree rs σ τ) (hs : ∀ s ∈ rs', s ∈ rs) : Agree rs' σ τ := ⟨fun s k => h.get s (hs s k), h.L, h.H⟩
theorem Agree.left {rs rs' : List Nat} {σ τ : St} (h : Agree (rs ++ rs') σ τ) : Agree rs σ τ := h.mono fun _ k => List.mem_append_left _ k
theorem Agree.right {rs rs' : List Nat} {σ τ : St} (h : Agree (rs ++ rs') σ τ) : Agree rs' σ τ := h.mono fun _ k => List.mem_append_right _ k
theorem Agree.of_eqv {rs : List Nat} {σ τ : St} (h : Eqv σ τ) : Agree rs σ τ := ⟨fun s _ => h.get s, h.L, h.H⟩
theorem Agree.of_put {rs : List Nat} (σ : St) {d : Nat} (x : AV) (hd : d ∉ rs) : Agree rs (σ.put d x) σ :=
  ⟨fun s hs => by
    have : d ≠ s := fun e => hd (e ▸ hs)
    simp only [St.get, St.put, aget_acons, if_neg this], rfl, rfl⟩
theorem Agree.obj {rs : List Nat} {σ τ : St} (h : Agree rs σ τ) (r : Ref) : σ.obj r = τ.obj r := by cases r <;> simp [St.obj, h.L, h.H]

theorem Agree.ev {σ τ : St} {x : LX} (h : Agree (readsX x) σ τ) : σ.ev x = τ.ev x := by
  cases x with
  | t s => exact h.get s (by simp [readsX])
  | k x => rfl
theorem Agree.evO {σ τ : St} {x : Option LX} (h : Agree (readsXO x) σ τ) : evO σ x = evO τ x := by
  cases x with
  | none => rfl
  | some x => simp only [Go.Av.evO, Agree.ev (x := x) h]
theorem Agree.evL {σ τ : St} : ∀ {l : List LX}, Agree (readsXL l) σ τ → evL σ l = evL τ l
  | [], _ => rfl
  | x :: r, h => by simp only [Go.Av.evL, Agree.ev (x := x) h.left, Agree.evL (l := r) h.right]
theorem Agree.evP {σ τ : St} : ∀ {l : List (Nat × LX)}, Agree (readsXP l) σ τ → evP σ l = evP τ l
  | [], _ => rfl
  | (i, x) :: r, h => by simp only [Go.Av.evP, Agree.ev (x := x) h.left, Agree.evP (l := r) h.right]

theorem Agree.pev {σ τ : St} {v : LV} (h : Agree (readsV v) σ τ) : pev σ v = pev τ v := by
  cases v <;> simp only [readsV] at h <;> simp only [Go.Av.pev]
  case cp x => rw [h.ev]
  case pick c x y => rw [Agree.ev h.left, Agree.ev h.right.left, Agree.ev h.right.right]
  case bin op x y => rw [Agree.ev h.left, Agree.ev h.right]
  case eqB n x y => rw [Agree.ev h.left, Agree.ev h.right]
  case eqN k n x => rw [h.ev]
  case eqS n ks x y => rw [Agree.ev h.left, Agree.ev h.right]
  case not x => rw [h.ev]
  case neg x => rw [h.ev]
  case cvI k x => rw [h.ev]
  case i2s x => rw [h.ev]
  case b2s x => rw [h.ev]
  case idxS x y => rw [Agree.ev h.left, Agree.ev h.right]
  case subS x lo hi => rw [Agree.ev h.left, Agree.evO h.right.left, Agree.evO h.right.right]
  case len s x => rw [h.ev]
  case mm m x y => rw [Agree.ev h.left, Agree.ev h.right]
  case fa o x => rw [h.ev]
  case ia s x y => rw [Agree.ev h.left, Agree.ev h.right]
  case iaA l s x y => rw [Agree.ev h.left, Agree.ev h.right]
  case ld a m x =>
    rw [h.ev]
    unfold fLd
    cases τ.ev x <;> simp only [h.obj]
  case sub s x lo hi => rw [Agree.ev h.left, Agree.evO h.right.left, Agree.evO h.right.right]
  case fld a m o x => rw [h.ev]
  case bld p z l => rw [Agree.evP h]
  case mkI t x => rw [h.ev]
  case asT t z x => rw [h.ev]
  case ext i x => rw [h.ev]
  case nck x => rw [h.ev]
  case mkF f a b => rw [Agree.evL h.left, Agree.evL h.right]

/-! ### What is done with a label's loss -/
theorem ev_erase {σ : St} {q : Lab} {x : LX} (h : homX x = true) : (σ.erase q).ev x = (σ.ev x).erase q := by
  cases x with
  | t s =>
    simp only [St.ev, St.get, erase_ρ, aget_amap']
    cases aget σ.ρ s <;> rfl
  | k x => cases x <;> first | rfl | simp [homX] at h

theorem rd_erase {q : Lab} (x : AV) : (x.erase q).rd = x.rd := by
  cases x <;> try rfl
  rename_i q' e sz l
  by_cases h : q' = q <;> simp [AV.erase, AV.rd, h]

theorem evO_erase {σ : St} {q : Lab} {x : Option LX} (h : homXO x = true) : evO (σ.erase q) x = (evO σ x).map (AV.erase q) := by
  cases x with
  | none => rfl
  | some x => simp only [evO, ev_erase (x := x) h, Option.map_some]

theorem loOf_erase {q : Lab} (x : Option AV) : loOf (x.map (AV.erase q)) = loOf x := by
  cases x with
  | none => rfl
  | some x =>
    cases x <;> try rfl
    rename_i q' e sz l
    by_cases h : q' = q <;> simp [AV.erase, loOf, h]
theorem hiOf_erase {q : Lab} {n : Nat} (x : Option AV) : hiOf n (x.map (AV.erase q)) = hiOf n x := by
  cases x with
  | none => rfl
  | some x =>
    cases x <;> try rfl
    rename_i q' e sz l
    by_cases h : q' = q <;> simp [AV.erase, hiOf, h]

/-- Operations by one, two operands whose value is no row that may be appended to. -/
theorem hom1 {q : Lab} {g : AV → Option AV} (hg : ∀ q e sz l, g (.own q e sz l) = none) (hl : ∀ l, g (.d (.list l)) = none) (hr : ∀ x z, g x = some z → z.erase q = z) (x : AV) : g (x.erase q) = (g x).map (AV.erase q) := by
  have h0 : ∀ x, x.erase q = x → g (x.erase q) = (g x).map (AV.erase q) := fun x e => by
    rw [e]
    cases h : g x with
    | none => rfl
    | some z => simp [hr x z h]
  cases x <;> try exact h0 _ rfl
  rename_i q' e sz l
  by_cases h : q' = q
  · simp [AV.erase, h, hg, hl]
  · exact h0 _ (by simp [AV.erase, h])

theorem hom2 {q : Lab} {g : AV → AV → Option AV} (hg : ∀ q e sz l y, g (.own q e sz l) y = none) (hl : ∀ l y, g (.d (.list l)) y = none) (hg' : ∀ q e sz l y, g y (.own q e sz l) = none) (hl' : ∀ l y, g y (.d (.list l)) = none)
    (hr : ∀ x y z, g x y = some z → z.erase q = z) (x y : AV) : g (x.erase q) (y.erase q) = (g x y).map (AV.erase q) := by
  rw [hom1 (g := fun x => g x (y.erase q)) (fun q e sz l => hg ..) (fun l => hl ..) (fun x z h => hr x _ z h)]
  rw [hom1 (g := fun y => g x y) (fun q e sz l => hg' ..) (fun l => hl' ..) (fun y z h => hr x y z h)]
  cases g x y with
  | none => rfl
  | some z =>
    simp only [Option.map_some, Option.some.injEq]
    cases z <;> try rfl
    rename_i q' e sz l
    by_cases h : q' = q <;> simp [AV.erase, h]

theorem erase_not_own {q : Lab} {z : AV} (h : z.lab? = none) : z.erase q = z := by
  cases z <;> first | rfl | simp [AV.lab?] at h

theorem pev_erase {σ : St} {q : Lab} {v : LV} (h : homV v = true) : pev (σ.erase q) v = (pev σ v).map (AV.erase q) := by
  have two : ∀ {a b : Bool}, (a && b) = true → a = true ∧ b = true := fun h => by simpa using h
  cases v <;> simp only [homV] at h <;> try (cases h; done)
  case cp x => simp only [pev, ev_erase h, Option.map_some]
  case pick c x y =>
    simp only [pev, ev_erase (two h).1, ev_erase (two (two h).2).1, ev_erase (two (two h).2).2]
    generalize σ.ev c = c
    unfold fPick
    cases c <;> try rfl
    · rename_i d; cases d <;> try rfl
      rename_i b; cases b <;> rfl
    · rename_i q' e sz l
      by_cases h : q' = q <;> simp [AV.erase, h]
  case bin op x y =>
    simp only [pev, ev_erase (two h).1, ev_erase (two h).2]
    refine hom2 (g := fun a b => fB (binD op a b)) ?_ ?_ ?_ ?_ ?_ _ _
    · intros; rfl
    · intros; rfl
    · intro q e sz l y; cases y <;> first | rfl | (rename_i d; cases d <;> rfl)
    · intro l y; cases y <;> first | rfl | (rename_i d; cases d <;> rfl)
    · intro x y z hz
      simp only [fB] at hz
      cases hb : binD op x y with
      | none => simp [hb] at hz
      | some w => simp [hb] at hz; subst hz; rfl
  case eqB n x y =>
    simp only [pev, ev_erase (two h).1, ev_erase (two h).2]
    refine hom2 (g := fEqB n) ?_ ?_ ?_ ?_ ?_ _ _
    · intros; rfl
    · intros; rfl
    · intro q e sz l y; cases y <;> first | rfl | (rename_i d; cases d <;> rfl)
    · intro l y; cases y <;> first | rfl | (rename_i d; cases d <;> rfl)
    · intro x y z hz; unfold fEqB at hz; split at hz <;> cases hz; rfl
  case eqS n ks x y =>
    simp only [pev, ev_erase (two h).1, ev_erase (two h).2]
    refine hom2 (g := fEqS n ks) ?_ ?_ ?_ ?_ ?_ _ _
    · intros; rfl
    · intros; rfl
    · intro q e sz l y; cases y <;> first | rfl | (rename_i d; cases d <;> rfl)
    · intro l y; cases y <;> first | rfl | (rename_i d; cases d <;> rfl)
    · intro x y z hz; unfold fEqS at hz; split at hz
      · rename_i xs ys; cases hb : eqCs ks xs ys <;> simp [hb] at hz; subst hz; rfl
      · cases hz
  case not x =>
    simp only [pev, ev_erase h]
    refine hom1 (g := fNot) (by intros; rfl) (by intros; rfl) (fun x z hz => ?_) _
    unfold fNot at hz; split at hz <;> cases hz; rfl
  case neg x =>
    simp only [pev, ev_erase h]
    refine hom1 (g := fNeg) (by intros; rfl) (by intros; rfl) (fun x z hz => ?_) _
    unfold fNeg at hz; split at hz <;> cases hz; rfl
  case cvI k x =>
    simp only [pev, ev_erase h]
    refine hom1 (g := fCvI k) (by intros; rfl) (by intros; rfl) (fun x z hz => ?_) _
    unfold fCvI at hz; split at hz <;> cases hz; rfl
  case i2s x =>
    simp only [pev, ev_erase h]
    refine hom1 (g := fI2s) (by intros; rfl) (by intros; rfl) (fun x z hz => ?_) _
    unfold fI2s at hz; split at hz <;> cases hz; rfl
  case b2s x =>
    simp only [pev, ev_erase h, fB2s, rd_erase]
    split
    · rename_i l hl; cases bytesOf l <;> rfl
    · rfl
  case idxS x y =>
    simp only [pev, ev_erase (two h).1, ev_erase (two h).2]
    refine hom2 (g := fIdxS) ?_ ?_ ?_ ?_ ?_ _ _
    · intros; rfl
    · intros; rfl
    · intro q e sz l y; cases y <;> first | rfl | (rename_i d; cases d <;> rfl)
    · intro l y; cases y <;> first | rfl | (rename_i d; cases d <;> rfl)
    · intro x y z hz
      unfold fIdxS at hz; split at hz
      · rename_i s k i; cases hg : getI s i <;> simp [hg] at hz; subst hz; rfl
      · cases hz
  case subS x lo hi =>
    simp only [pev, ev_erase (two h).1, evO_erase (two (two h).2).1, evO_erase (two (two h).2).2]
    refine hom1 (q := q) (g := fun a => fSubS a ((evO σ lo).map (AV.erase q)) ((evO σ hi).map (AV.erase q))) (by intros; rfl) (by intros; rfl) (fun x z hz => ?_) _ |>.trans ?_
    · unfold fSubS at hz; split at hz
      · split at hz
        · split at hz <;> cases hz; rfl
        · cases hz
      · cases hz
    · unfold fSubS
      simp only [loOf_erase, hiOf_erase]
  case len s x =>
    simp only [pev, ev_erase h]
    generalize σ.ev x = a
    cases a <;> cases s <;> try rfl
    · rename_i d; cases d <;> rfl
    · rename_i d; cases d <;> rfl
    · rename_i q' e sz l
      by_cases h : q' = q <;> simp [AV.erase, h, fLenK, fLen]
    · rename_i q' e sz l
      by_cases h : q' = q <;> simp [AV.erase, h, fLenK]
  case mm m x y =>
    simp only [pev, ev_erase (two h).1, ev_erase (two h).2]
    refine hom2 (g := fMm m) ?_ ?_ ?_ ?_ ?_ _ _
    · intros; rfl
    · intros; rfl
    · intro q e sz l y; cases y <;> first | rfl | (rename_i d; cases d <;> rfl)
    · intro l y; cases y <;> first | rfl | (rename_i d; cases d <;> rfl)
    · intro x y z hz; unfold fMm at hz; split at hz <;> cases hz; rfl
  case fa o x =>
    simp only [pev, ev_erase h]
    refine hom1 (g := fFa o) (by intros; rfl) (by intros; rfl) (fun x z hz => ?_) _
    unfold fFa at hz; split at hz
    · cases hz; rfl
    · split at hz <;> cases hz; rfl
    · cases hz
  case ia sz x y =>
    simp only [pev, ev_erase (two h).1, ev_erase (two h).2, fIa, rd_erase]
    refine hom1 (q := q) (g := fun b => match (σ.ev x).rd, b with
      | some (.list l), .d (.int _ i) => match getI l i with
        | some e => if e.cells.length = sz then some (.dptr e.cells) else none
        | none => none
      | _, _ => none) ?_ ?_ (fun y z hz => ?_) _
    · intros; cases (σ.ev x).rd <;> try rfl
      rename_i d; cases d <;> rfl
    · intros; cases (σ.ev x).rd <;> try rfl
      rename_i d; cases d <;> rfl
    · split at hz
      · split at hz
        · split at hz <;> cases hz; rfl
        · cases hz
      · cases hz
  case iaA len sz x y =>
    simp only [pev, ev_erase (two h).1, ev_erase (two h).2]
    refine hom2 (g := fIaA len sz) ?_ ?_ ?_ ?_ ?_ _ _
    · intros; rfl
    · intros; rfl
    · intro q e sz l y; cases y <;> rfl
    · intro l y; cases y <;> rfl
    · intro x y z hz
      unfold fIaA at hz; split at hz
      · split at hz <;> cases hz; rfl
      · split at hz <;> cases hz; rfl
      · cases hz
  case sub sz x lo hi =>
    simp only [pev, ev_erase (two h).1, evO_erase (two (two h).2).1, evO_erase (two (two h).2).2, fSub, rd_erase, loOf_erase, hiOf_erase]
    split
    · split
      · split <;> rfl
      · rfl
    · rfl

end Go.Av
