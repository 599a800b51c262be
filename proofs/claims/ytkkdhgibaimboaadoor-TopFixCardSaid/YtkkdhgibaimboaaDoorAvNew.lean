/- Regions that draw their order: what may be done ahead of the making of a variable, and ahead of a store. -/
import Derived.Test.YtkkdhgibaimboaaDoorAvDraw2
namespace Go.Av

variable {P : Program} [Inv P]

/-! ### Ahead of a new variable -/
theorem drop_eq {r : Ref} {x : AV} (h : x.has r = false) : x.drop r = x := by simp [AV.drop, h]

theorem drop_d {r : Ref} (x : D) : (AV.d x).drop r = .d x := drop_eq rfl

theorem rd_drop {r : Ref} (x : AV) : (x.drop r).rd = x.rd := by
  cases hx : x.has r with
  | false => rw [drop_eq hx]
  | true => cases x <;> simp [AV.has] at hx <;> simp [AV.drop, AV.has, AV.rd, hx]

theorem drop1 {r : Ref} {α : Type} {g : AV → Option α} (hj : g .junk = none) {x : AV} {z : α} (h : g (x.drop r) = some z) : x.has r = false ∧ x.drop r = x ∧ g x = some z := by
  cases hx : x.has r with
  | false => rw [drop_eq hx] at h; exact ⟨rfl, drop_eq hx, h⟩
  | true => simp [AV.drop, hx, hj] at h

theorem get_newO {σ : St} {d s : Nat} {cs : List D} (h : d ≠ s) : (newO σ d cs).get s = (σ.get s).drop (.l d) := by
  simp only [newO, St.get, St.put, aget_acons, if_neg h, St.setObj, St.drop, aget_amap']
  cases aget σ.ρ s <;> rfl

theorem ev_newO {σ : St} {d : Nat} {cs : List D} {x : LX} (h : d ∉ readsX x) (hc : constD x = true) : (newO σ d cs).ev x = (σ.ev x).drop (.l d) := by
  cases x with
  | t s => exact get_newO (fun e => h (by simp [readsX, e]))
  | k y => cases y <;> first | rfl | simp [constD] at hc

theorem evO_newO {σ : St} {d : Nat} {cs : List D} {x : Option LX} (h : d ∉ readsXO x) (hc : constDO x = true) : evO (newO σ d cs) x = (evO σ x).map (AV.drop (.l d)) := by
  cases x with
  | none => rfl
  | some x => simp only [evO, ev_newO (x := x) h hc, Option.map_some]

theorem lo_drop {r : Ref} {x : Option AV} {i : Int} (h : loOf (x.map (AV.drop r)) = some i) : loOf x = some i := by
  cases x with
  | none => exact h
  | some x => exact (drop1 (g := fun x => loOf (some x)) rfl h).2.2
theorem hi_drop {r : Ref} {n : Nat} {x : Option AV} {i : Int} (h : hiOf n (x.map (AV.drop r)) = some i) : hiOf n x = some i := by
  cases x with
  | none => exact h
  | some x => exact (drop1 (g := fun x => hiOf n (some x)) rfl h).2.2

theorem rdAll_newO {σ : St} {d : Nat} {cs : List D} : ∀ {l : List LX}, d ∉ readsXL l → l.all constD = true → rdAll (evL (newO σ d cs) l) = rdAll (evL σ l)
  | [], _, _ => rfl
  | x :: r, h, hc => by
    simp only [readsXL, List.mem_append, not_or] at h
    simp only [List.all_cons, Bool.and_eq_true] at hc
    simp only [evL, rdAll, ev_newO h.1 hc.1, rd_drop, rdAll_newO h.2 hc.2]

theorem fillD_newO {σ : St} {d : Nat} {ds : List D} (pl : List (Nat × Nat)) : ∀ {l : List (Nat × LX)} (cs : List D), d ∉ readsXP l → (l.all fun p => constD p.2) = true → fillD pl cs (evP (newO σ d ds) l) = fillD pl cs (evP σ l)
  | [], _, _, _ => rfl
  | (i, x) :: r, cs, h, hc => by
    simp only [readsXP, List.mem_append, not_or] at h
    simp only [List.all_cons, Bool.and_eq_true] at hc
    simp only [evP, fillD, ev_newO h.1 hc.1, rd_drop]
    split
    · split
      · exact fillD_newO pl _ h.2 hc.2
      · rfl
    · rfl

theorem rdL_drop {r : Ref} : ∀ (xs : List AV), rdL (xs.map (AV.drop r)) = rdL xs
  | [] => rfl
  | x :: l => by simp only [List.map_cons, rdL, rd_drop, rdL_drop l]

theorem fLdP_drop {r : Ref} {agg : Bool} {m o : Nat} {cs : List AV} {z : AV} (h : fLdP agg m (cs.map (AV.drop r)) o = some z) : ∃ z0, fLdP agg m cs o = some z0 ∧ z0.drop r = z := by
  unfold fLdP at *
  cases agg
  · simp only [Bool.false_eq_true, if_false, List.getElem?_map] at *
    cases hx : cs[o]? with
    | none => simp [hx] at h
    | some x => simp [hx] at h; exact ⟨x, rfl, h⟩
  · simp only [if_true, List.length_map, ← List.map_drop, ← List.map_take, rdL_drop] at *
    split at h
    · rename_i hl
      rw [if_pos hl]
      refine ⟨z, h, ?_⟩
      cases hr : rdL ((cs.drop o).take m) with
      | none => simp [hr] at h
      | some l => simp [hr] at h; subst h; rfl
    · cases h

theorem obj_newO {σ : St} {d : Nat} {cs : List D} {r : Ref} (h : r ≠ .l d) {o : AObj} (ho : (newO σ d cs).obj r = some o) : (σ.obj r = some o) ∨ ∃ o', σ.obj r = some o' ∧ o = dropObj (.l d) o' := by
  have h1 : (newO σ d cs).obj r = (σ.drop d).obj r := by
    simp only [newO, St.obj_put, St.obj_setObj]
    rw [if_neg (fun e => h e.symm)]
  rw [h1] at ho
  cases r with
  | l t =>
    simp only [St.drop, St.obj, aget_amap'] at ho
    cases hx : aget σ.L t with
    | none => simp [hx] at ho
    | some o' => simp [hx] at ho; exact .inr ⟨o', hx, ho.symm⟩
  | x k => exact .inl ho

theorem locFree_has {z : AV} (h : z.locFree = true) (d : Nat) : z.has (.l d) = false := by
  cases z <;> simp [AV.locFree] at h <;> try rfl
  rename_i r o
  cases r <;> simp at h
  rfl

theorem fLd_newO {σ : St} {d : Nat} {ds : List D} {agg : Bool} {m : Nat} {x z : AV} (hx : x.has (.l d) = false) (h : fLd (newO σ d ds) agg m x = some z) : ∃ z0, fLd σ agg m x = some z0 ∧ z0.drop (.l d) = z := by
  unfold fLd at *
  split at h
  · rename_i r o
    have hr : r ≠ .l d := fun e => by subst e; simp [AV.has] at hx
    split at h
    · rename_i cs hcs
      cases r with
      | l t =>
        have h3 := hcs
        simp only [newO, St.obj_put, St.obj_setObj] at h3
        rw [if_neg (fun e => hr e.symm)] at h3
        simp only [St.drop, St.obj, aget_amap'] at h3
        cases ho : aget σ.L t with
        | none => simp [ho] at h3
        | some o' =>
          simp [ho] at h3
          cases o' with
          | siter s p => simp [dropObj] at h3
          | cells cs' =>
            simp [dropObj] at h3; subst h3
            simp only [St.obj, ho]
            exact fLdP_drop (fLdX_some h)
      | x k =>
        have h3 : σ.H k = some (.cells cs) := hcs
        simp only [St.obj, h3]
        refine ⟨z, h, ?_⟩
        cases hz : fLdP agg m cs o with
        | none => rw [hz] at h; cases h
        | some y =>
          rw [hz] at h
          simp only [fLdX] at h
          split at h
          · cases h; rename_i hl; exact drop_eq (locFree_has hl d)
          · cases h
    · cases h
  · refine ⟨z, h, ?_⟩
    split at h
    · split at h <;> cases h; rfl
    · rename_i cs _
      cases hc : cs[0]? <;> simp [hc] at h; subst h; rfl
  · cases h

/-- An operation that only reckons, ahead of a new variable. -/
theorem pev_newO {σ : St} {d : Nat} {cs : List D} {v : LV} {z : AV} (hd : d ∉ readsV v) (ho : okNewV v = true) (h : pev (newO σ d cs) v = some z) : ∃ z0, pev σ v = some z0 ∧ z0.drop (.l d) = z := by
  have two : ∀ {a b : Bool}, (a && b) = true → a = true ∧ b = true := fun h => by simpa using h
  cases v <;> simp only [readsV, List.mem_append, not_or] at hd <;> simp only [okNewV] at ho <;> simp only [pev] at h ⊢
  case cp x => rw [ev_newO hd ho] at h; cases h; exact ⟨_, rfl, rfl⟩
  case pick c x y =>
    rw [ev_newO hd.1 (two ho).1, ev_newO hd.2.1 (two (two ho).2).1, ev_newO hd.2.2 (two (two ho).2).2] at h
    obtain ⟨_, _, h1⟩ := drop1 (g := fun c => fPick c ((σ.ev x).drop (.l d)) ((σ.ev y).drop (.l d))) rfl h
    unfold fPick at h1 ⊢
    split at h1
    · rename_i _ _ t e
      cases h1
      simp only [e]
      refine ⟨_, rfl, ?_⟩
      cases t <;> rfl
    · cases h1
  case bin op x y =>
    rw [ev_newO hd.1 (two ho).1, ev_newO hd.2 (two ho).2] at h
    obtain ⟨_, _, h1⟩ := drop1 (g := fun x => fB (binD op x ((σ.ev y).drop (.l d)))) rfl h
    obtain ⟨_, _, h2⟩ := drop1 (g := fun y => fB (binD op (σ.ev x) y)) (by cases σ.ev x <;> first | rfl | (rename_i d; cases d <;> rfl)) h1
    refine ⟨z, h2, ?_⟩
    simp only [fB] at h2
    cases hb : binD op (σ.ev x) (σ.ev y) <;> simp [hb] at h2; subst h2; rfl
  case eqB n x y =>
    rw [ev_newO hd.1 (two ho).1, ev_newO hd.2 (two ho).2] at h
    obtain ⟨_, _, h1⟩ := drop1 (g := fun x => fEqB n x ((σ.ev y).drop (.l d))) rfl h
    obtain ⟨_, _, h2⟩ := drop1 (g := fun y => fEqB n (σ.ev x) y) (by cases σ.ev x <;> first | rfl | (rename_i d; cases d <;> rfl)) h1
    refine ⟨z, h2, ?_⟩
    unfold fEqB at h2; split at h2 <;> cases h2; rfl
  case eqN k n x =>
    rw [ev_newO hd ho] at h
    obtain ⟨_, _, h1⟩ := drop1 (g := fun x => fEqN k n x) (by simp [fEqN]; intro h; cases k <;> simp [okN] at h) h
    refine ⟨z, h1, ?_⟩
    unfold fEqN fNil at h1
    split at h1
    · cases hb : isNil (σ.ev x) <;> simp [hb] at h1; subst h1; rfl
    · cases h1
  case eqS n ks x y =>
    rw [ev_newO hd.1 (two ho).1, ev_newO hd.2 (two ho).2] at h
    obtain ⟨_, _, h1⟩ := drop1 (g := fun x => fEqS n ks x ((σ.ev y).drop (.l d))) rfl h
    obtain ⟨_, _, h2⟩ := drop1 (g := fun y => fEqS n ks (σ.ev x) y) (by cases σ.ev x <;> first | rfl | (rename_i d; cases d <;> rfl)) h1
    refine ⟨z, h2, ?_⟩
    unfold fEqS at h2; split at h2
    · rename_i xs ys _ _; cases hb : eqCs ks xs ys <;> simp [hb] at h2; subst h2; rfl
    · cases h2
  case not x =>
    rw [ev_newO hd ho] at h
    obtain ⟨_, _, h1⟩ := drop1 (g := fNot) rfl h
    refine ⟨z, h1, ?_⟩
    unfold fNot at h1; split at h1 <;> cases h1; rfl
  case neg x =>
    rw [ev_newO hd ho] at h
    obtain ⟨_, _, h1⟩ := drop1 (g := fNeg) rfl h
    refine ⟨z, h1, ?_⟩
    unfold fNeg at h1; split at h1 <;> cases h1; rfl
  case cvI k x =>
    rw [ev_newO hd ho] at h
    obtain ⟨_, _, h1⟩ := drop1 (g := fCvI k) rfl h
    refine ⟨z, h1, ?_⟩
    unfold fCvI at h1; split at h1 <;> cases h1; rfl
  case i2s x =>
    rw [ev_newO hd ho] at h
    obtain ⟨_, _, h1⟩ := drop1 (g := fI2s) rfl h
    refine ⟨z, h1, ?_⟩
    unfold fI2s at h1; split at h1 <;> cases h1; rfl
  case b2s x =>
    rw [ev_newO hd ho] at h
    obtain ⟨_, _, h1⟩ := drop1 (g := fB2s) rfl h
    refine ⟨z, h1, ?_⟩
    unfold fB2s at h1; split at h1
    · rename_i l _; cases hb : bytesOf l <;> simp [hb] at h1; subst h1; rfl
    · cases h1
  case idxS x y =>
    rw [ev_newO hd.1 (two ho).1, ev_newO hd.2 (two ho).2] at h
    obtain ⟨_, _, h1⟩ := drop1 (g := fun x => fIdxS x ((σ.ev y).drop (.l d))) rfl h
    obtain ⟨_, _, h2⟩ := drop1 (g := fun y => fIdxS (σ.ev x) y) (by cases σ.ev x <;> first | rfl | (rename_i d; cases d <;> rfl)) h1
    refine ⟨z, h2, ?_⟩
    unfold fIdxS at h2; split at h2
    · rename_i s k i _ _; cases hb : getI s i <;> simp [hb] at h2; subst h2; rfl
    · cases h2
  case subS x lo hi =>
    rw [ev_newO hd.1 (two ho).1, evO_newO hd.2.1 (two (two ho).2).1, evO_newO hd.2.2 (two (two ho).2).2] at h
    obtain ⟨_, _, h1⟩ := drop1 (g := fun x => fSubS x ((evO σ lo).map (AV.drop (.l d))) ((evO σ hi).map (AV.drop (.l d)))) rfl h
    unfold fSubS at h1 ⊢
    split at h1
    · split at h1
      · rename_i s _ i j e1 e2
        rw [lo_drop e1, hi_drop e2]
        refine ⟨z, h1, ?_⟩
        split at h1 <;> cases h1; rfl
      · cases h1
    · cases h1
  case len s x =>
    rw [ev_newO hd ho] at h
    obtain ⟨_, _, h1⟩ := drop1 (g := fLenK s) (by cases s <;> rfl) h
    refine ⟨z, h1, ?_⟩
    unfold fLenK fLen at h1
    split at h1 <;> (split at h1 <;> first | (cases h1; done) | skip) <;> (try split at h1) <;> first | (cases h1; rfl) | cases h1
  case mm m x y =>
    rw [ev_newO hd.1 (two ho).1, ev_newO hd.2 (two ho).2] at h
    obtain ⟨_, _, h1⟩ := drop1 (g := fun x => fMm m x ((σ.ev y).drop (.l d))) rfl h
    obtain ⟨_, _, h2⟩ := drop1 (g := fun y => fMm m (σ.ev x) y) (by cases σ.ev x <;> first | rfl | (rename_i d; cases d <;> rfl)) h1
    refine ⟨z, h2, ?_⟩
    unfold fMm at h2; split at h2 <;> cases h2; rfl
  case fa o x =>
    rw [ev_newO hd ho] at h
    obtain ⟨h0, _, h1⟩ := drop1 (g := fFa o) rfl h
    refine ⟨z, h1, ?_⟩
    unfold fFa at h1; split at h1
    · rename_i r o' e; cases h1; rw [e] at h0; exact drop_eq h0
    · split at h1 <;> cases h1; rfl
    · cases h1
  case ia s x y =>
    rw [ev_newO hd.1 (two ho).1, ev_newO hd.2 (two ho).2] at h
    obtain ⟨_, _, h1⟩ := drop1 (g := fun x => fIa s x ((σ.ev y).drop (.l d))) rfl h
    obtain ⟨_, _, h2⟩ := drop1 (g := fun y => fIa s (σ.ev x) y) (by unfold fIa; cases (σ.ev x).rd <;> first | rfl | (rename_i d; cases d <;> rfl)) h1
    refine ⟨z, h2, ?_⟩
    unfold fIa at h2; split at h2
    · split at h2
      · split at h2 <;> cases h2; rfl
      · cases h2
    · cases h2
  case iaA l s x y =>
    rw [ev_newO hd.1 (two ho).1, ev_newO hd.2 (two ho).2] at h
    obtain ⟨h0, _, h1⟩ := drop1 (g := fun x => fIaA l s x ((σ.ev y).drop (.l d))) rfl h
    obtain ⟨_, _, h2⟩ := drop1 (g := fun y => fIaA l s (σ.ev x) y) (by cases σ.ev x <;> rfl) h1
    refine ⟨z, h2, ?_⟩
    unfold fIaA at h2; split at h2
    · rename_i r o k i e _; split at h2 <;> cases h2; rw [e] at h0; exact drop_eq h0
    · split at h2 <;> cases h2; rfl
    · cases h2
  case ld a m x =>
    rw [ev_newO hd ho] at h
    obtain ⟨h0, _, h1⟩ := drop1 (g := fLd (newO σ d cs) a m) rfl h
    exact fLd_newO h0 h1
  case sub s x lo hi =>
    rw [ev_newO hd.1 (two ho).1, evO_newO hd.2.1 (two (two ho).2).1, evO_newO hd.2.2 (two (two ho).2).2] at h
    unfold fSub at h ⊢
    rw [rd_drop] at h
    split at h
    · split at h
      · rename_i s _ _ i j e1 e2
        rw [lo_drop e1, hi_drop e2]
        refine ⟨z, h, ?_⟩
        split at h <;> cases h; rfl
      · cases h
    · cases h
  case fld a m o x =>
    rw [ev_newO hd ho] at h
    obtain ⟨_, _, h1⟩ := drop1 (g := fFld a m o) rfl h
    refine ⟨z, h1, ?_⟩
    unfold fFld at h1; split at h1
    · split at h1
      · split at h1 <;> cases h1; rfl
      · rename_i cs _ _; cases hb : cs[o]? <;> simp [hb] at h1; subst h1; rfl
    · cases h1
  case bld p zz l =>
    rw [fillD_newO p zz hd ho] at h
    refine ⟨z, h, ?_⟩
    simp only [fB] at h
    cases hb : fillD p zz (evP σ l) <;> simp [hb] at h; subst h; rfl
  case mkI t x =>
    rw [ev_newO hd ho] at h
    unfold fMkI at h ⊢
    rw [rd_drop] at h
    refine ⟨z, h, ?_⟩
    cases hb : (σ.ev x).rd <;> simp [hb] at h; subst h; rfl
  case asT t zz x =>
    rw [ev_newO hd ho] at h
    obtain ⟨_, _, h1⟩ := drop1 (g := fAsT t zz) rfl h
    refine ⟨z, h1, ?_⟩
    unfold fAsT at h1; split at h1
    · split at h1 <;> cases h1 <;> rfl
    · cases h1; rfl
    · cases h1
  case ext i x =>
    rw [ev_newO hd ho] at h
    obtain ⟨h0, _, h1⟩ := drop1 (g := fExt i) rfl h
    refine ⟨z, h1, ?_⟩
    unfold fExt at h1; split at h1
    · rename_i xs e
      split at h1
      · rename_i y hy
        split at h1
        · rename_i hs
          have hyz : y = z := by cases h1; rfl
          subst hyz
          rw [e] at h0
          refine drop_eq ?_
          rw [AV.has_of_simple hs]
          simp only [AV.has, List.any_eq_false] at h0
          exact Bool.eq_false_iff.2 (h0 y (List.mem_of_getElem? hy))
        · cases h1
      · cases h1
    · cases h1
  case nck x =>
    rw [ev_newO hd ho] at h
    obtain ⟨h0, _, h1⟩ := drop1 (g := fNck) rfl h
    refine ⟨z, h1, ?_⟩
    unfold fNck at h1; split at h1
    · rename_i r o e; cases h1; rw [e] at h0; exact drop_eq h0
    · cases h1; rfl
    · cases h1
  case mkF f a b => cases ho

end Go.Av
