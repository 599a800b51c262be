/- The operations that only reckon: what is read off is sound. -/
import Derived.Test.YtkkdhgibaimboaaDoorAvLift
namespace Go.Av

variable {E : Entry} {n : Nat} {G : Ghost} {σ : St} {a : Act} {w : World} {P : Program}

theorem isU8_inv {d : Option TypeDesc} (h : isU8 d = true) : d = some (.int .u8) := by
  unfold isU8 at h; split at h
  · rfl
  · cases h

theorem liftCv_sound (hσ : SR E n G σ a.tmps w) {o : Oper} {s t : TypeId} {x : Operand} {v : LV} {z : AV} (ho : o.op = .convert s t x) (hl : liftCv P s t x = some v) (h : pev σ v = some z) : Yields P a G w o z := by
  refine Yields.mk (s := convert s t (a.eval x)) (by simp only [execOp, ho]) ?_
  unfold liftCv at hl
  split at hl
  · rename_i hs ht; obtain ⟨x', hx, rfl⟩ := lift1_inv hl; exact fCvI_run hs ht (hσ.ev hx) h
  · rename_i hs ht; obtain ⟨x', hx, rfl⟩ := lift1_inv hl; exact fI2s_run hs ht (hσ.ev hx) h
  · rename_i e hs ht
    split at hl
    · rename_i h8; obtain ⟨x', hx, rfl⟩ := lift1_inv hl; exact fB2s_run hs (isU8_inv h8) ht (hσ.ev hx) h
    · cases hl
  · cases hl

theorem liftSlice_sound (hσ : SR E n G σ a.tmps w) {o : Oper} {t : TypeId} {x : Operand} {lo hi : Option Operand} {v : LV} {z : AV} (ho : o.op = .slice t x lo hi none) (hl : liftSlice P t x lo hi = some v) (h : pev σ v = some z) : Yields P a G w o z := by
  refine Yields.mk (s := Instr.sliceAt t (a.eval x) (lo.map a.eval) (hi.map a.eval) none) (by simp [execOp, ho]) ?_
  unfold liftSlice at hl
  split at hl
  · rename_i x' lo' hi' ht hx hlo hhi; cases hl
    exact fSubS_run ht (hσ.ev hx) (liftO_rel hσ hlo) (liftO_rel hσ hhi) h
  · rename_i e x' lo' hi' ht hx hlo hhi
    cases hs : Program.sz P e with
    | none => simp [hs] at hl
    | some sz => simp [hs] at hl; subst hl; exact fSub_run ht hs (hσ.ev hx) (liftO_rel hσ hlo) (liftO_rel hσ hhi) h
  · cases hl

theorem liftIa_sound (hσ : SR E n G σ a.tmps w) {o : Oper} {t : TypeId} {x i : Operand} {v : LV} {z : AV} (ho : o.op = .indexAddr t x i) (hl : liftIa P t x i = some v) (h : pev σ v = some z) : Yields P a G w o z := by
  refine Yields.mk (s := Instr.indexAt t (a.eval x) (a.eval i)) (by simp only [execOp, ho]) ?_
  unfold liftIa at hl
  split at hl
  · rename_i e ht
    split at hl
    · rename_i sz hs; obtain ⟨x', y', hx, hy, rfl⟩ := lift2_inv hl; exact fIa_run ht hs (hσ.ev hx) (hσ.ev hy) h
    · cases hl
  · rename_i len e ht
    split at hl
    · rename_i sz hs; obtain ⟨x', y', hx, hy, rfl⟩ := lift2_inv hl; exact fIaA_run ht hs (hσ.ev hx) (hσ.ev hy) h
    · cases hl
  · cases hl

theorem liftFa_sound (hσ : SR E n G σ a.tmps w) {o : Oper} {t : TypeId} {x : Operand} {i : Nat} {v : LV} {z : AV} (ho : o.op = .fieldAddr t x i) (hl : liftFa P t x i = some v) (h : pev σ v = some z) : Yields P a G w o z := by
  refine Yields.mk (s := Instr.fieldAt t (a.eval x) i) (by simp only [execOp, ho]) ?_
  unfold liftFa at hl
  split at hl
  · rename_i fs ht
    split at hl
    · rename_i f hf
      split at hl
      · rename_i hc; obtain ⟨x', hx, rfl⟩ := lift1_inv hl; exact fFa_run ht hf rfl hc (hσ.ev hx) h
      · cases hl
    · cases hl
  · cases hl

theorem liftFld_sound (hσ : SR E n G σ a.tmps w) {o : Oper} {t : TypeId} {x : Operand} {i : Nat} {v : LV} {z : AV} (ho : o.op = .field t x i) (hl : liftFld P t x i = some v) (h : pev σ v = some z) : Yields P a G w o z := by
  refine Yields.mk (s := Instr.field t (a.eval x) i) (by simp only [execOp, ho]) ?_
  unfold liftFld at hl
  split at hl
  · rename_i fs ht
    split at hl
    · rename_i f hf
      split at hl
      · rename_i d m hd hm; obtain ⟨x', hx, rfl⟩ := lift1_inv hl; exact fFld_run ht hf hd hm (hσ.ev hx) h
      · cases hl
    · cases hl
  · cases hl

theorem liftLd_sound (hσ : SR E n G σ a.tmps w) {o : Oper} {t : TypeId} {x : Operand} {v : LV} {z : AV} (ho : o.op = .load t x) (hl : liftLd P t x = some v) (h : pev σ v = some z) : Yields P a G w o z := by
  refine Yields.mk (s := Instr.loadAt t (a.eval x)) (by simp only [execOp, ho]) ?_
  unfold liftLd at hl
  split at hl
  · rename_i d m hd hm; obtain ⟨x', hx, rfl⟩ := lift1_inv hl; exact fLd_run hσ hd hm (hσ.ev hx) h
  · cases hl

theorem mapM_length {α β : Type} {f : α → Option β} : ∀ {l : List α} {r : List β}, l.mapM f = some r → r.length = l.length
  | [], r, h => by simp at h; subst h; rfl
  | x :: l, r, h => by
    simp only [List.mapM_cons, Option.bind_eq_bind, Option.pure_def] at h
    cases hx : f x with
    | none => simp [hx] at h
    | some y =>
      cases hr : l.mapM f with
      | none => simp [hx, hr] at h
      | some r' => simp [hx, hr] at h; subst h; simp [mapM_length hr]

theorem liftBld_sound (hσ : SR E n G σ a.tmps w) {o : Oper} {t : TypeId} {parts : Array (Nat × Operand)} {v : LV} {z : AV} (ho : o.op = .build t parts) (hl : liftBld P t parts.toList = some v) (h : pev σ v = some z) : Yields P a G w o z := by
  refine Yields.mk (s := Instr.build t (parts.map fun (i, x) => (i, a.eval x))) (by simp only [execOp, ho]) ?_
  unfold liftBld at hl
  split at hl
  · rename_i places zero l hp hz hpl
    split at hl
    · rename_i hc
      cases hl
      obtain ⟨k1, k2⟩ := liftP_rel hσ hpl
      have h' : fB ((fillD places zero (evP σ l)).map .agg) = some z := h
      obtain ⟨x, hx, rfl⟩ := fB_inv h'
      cases ho' : fillD places zero (evP σ l) with
      | none => simp [ho'] at hx
      | some out =>
        simp [ho'] at hx; subst hx
        have e : (parts.map fun (i, x) => (i, a.eval x)) = (parts.toList.map fun p => (p.1, a.eval p.2)).toArray := by
          apply Array.ext'; simp
        rw [e]
        -- each part's number is in range: else there is no place
        have hplace : ∀ (q : List (Nat × AV)) (cs out : List D), fillD places cs q = some out → ∀ p ∈ q, p.1 < places.length := fun q => by
          induction q with
          | nil => intro _ _ _ p hp; simp at hp
          | cons p q ih =>
            obtain ⟨i, x⟩ := p
            intro cs out hf p' hp'
            simp only [fillD] at hf
            split at hf
            · rename_i off size y hpl hy
              split at hf
              · rcases List.mem_cons.1 hp' with rfl | hp'
                · rw [lookP_eq] at hpl; exact (List.getElem?_eq_some_iff.1 hpl).1
                · exact ih _ _ hf p' hp'
              · cases hf
            · cases hf
        cases hu : P.underlying t with
        | none => simp [Program.placesOf, hu] at hp
        | some d =>
          cases d with
          | struct fs =>
            -- structs: any bound serves
            have hp2 : Program.placesOf P t (parts.toList.length + places.length) = some places := by simpa [Program.placesOf, hu] using hp
            exact fBld_run hp2 hz (fun p hpm => by have := hplace _ _ _ ho' p hpm; omega) k1 k2 ho'
          | array k e =>
            have hlen : places.length = parts.toList.length := by
              simp only [Program.placesOf, hu] at hp
              cases hie : P.info? e with
              | none => simp [hie] at hp
              | some ie => simp [hie] at hp; rw [← hp]; simp
            exact fBld_run hp hz (fun p hpm => by have := hplace _ _ _ ho' p hpm; omega) k1 k2 ho'
          | _ => simp [Program.placesOf, hu] at hp
    · cases hl
  · cases hl

theorem liftAs_sound (hσ : SR E n G σ a.tmps w) {o : Oper} {xt t : TypeId} {x : Operand} {v : LV} {z : AV} (ho : o.op = .typeAssert x xt t true) (hl : liftAs P x t = some v) (h : pev σ v = some z) : Yields P a G w o z := by
  refine Yields.mk (s := Instr.typeAssert (a.eval x) xt t true) (by simp only [execOp, ho]) ?_
  unfold liftAs at hl
  split at hl
  · cases hl
  · rename_i d zv hne hd hz
    split at hl
    · rename_i zero hc
      obtain ⟨x', hx, rfl⟩ := lift1_inv hl
      cases hi : P.info? t with
      | none => simp [hi] at hz
      | some ti =>
        simp [hi] at hz
        exact fAsT_run hd (fun ms e => by subst e; exact hne _ rfl) hi hz hc (hσ.ev hx) h
    · cases hl
  · cases hl

theorem liftBuiltin_sound (hσ : SR E n G σ a.tmps w) {o : Oper} {b : Builtin} {args : Array Operand} {ts : Array TypeId} {v : LV} {z : AV} (ho : o.op = .call { callee := .builtin b, args := args, argTypes := ts }) (hl : liftBuiltin P b args.toList ts.toList = some v) (h : pev σ v = some z) : Yields P a G w o z := by
  unfold liftBuiltin at hl
  split at hl
  · rename_i x t ea et
    have ea' : args = #[x] := by apply Array.ext'; exact ea
    have et' : ts = #[t] := by apply Array.ext'; exact et
    subst ea'; subst et'
    refine Yields.mk (s := Builtin.len_ #[t] o.type #[a.eval x]) (by simp [execOp, ho, resolve, invoke, builtin]) ?_
    unfold liftLen at hl
    split at hl
    · rename_i ht
      obtain ⟨x', hx, rfl⟩ := lift1_inv hl
      have h' : fLenK true (σ.ev x') = some z := h
      unfold fLenK at h'; split at h'
      · rename_i s hs
        have rx := hσ.ev hx
        rw [hs] at rx
        exact fLen_run rx (by simpa using h') ht
      · simp at h'
    · rename_i e ht
      obtain ⟨x', hx, rfl⟩ := lift1_inv hl
      have h' : fLenK false (σ.ev x') = some z := h
      unfold fLenK at h'; split at h'
      · simp at h'
      · rename_i hne
        refine fLen_run (hσ.ev hx) (by simpa using h') ?_
        unfold lenFits; split
        · rename_i s hs; exact absurd hs (hne s)
        · exact ⟨e, ht⟩
    · cases hl
  · rename_i _ x y ea
    have ea' : args = #[x, y] := by apply Array.ext'; exact ea
    subst ea'
    obtain ⟨x', y', hx, hy, rfl⟩ := lift2_inv hl
    have h' : fMm false (σ.ev x') (σ.ev y') = some z := h
    have := fMm_run (P := P) (at_ := ts) (ty := o.type) (hσ.ev hx) (hσ.ev hy) h'
    exact Yields.mk (s := Builtin.min_ ts o.type #[a.eval x, a.eval y]) (by simp [execOp, ho, resolve, invoke, builtin]) (by simpa using this)
  · rename_i _ x y ea
    have ea' : args = #[x, y] := by apply Array.ext'; exact ea
    subst ea'
    obtain ⟨x', y', hx, hy, rfl⟩ := lift2_inv hl
    have h' : fMm true (σ.ev x') (σ.ev y') = some z := h
    have := fMm_run (P := P) (at_ := ts) (ty := o.type) (hσ.ev hx) (hσ.ev hy) h'
    exact Yields.mk (s := Builtin.max_ ts o.type #[a.eval x, a.eval y]) (by simp [execOp, ho, resolve, invoke, builtin]) (by simpa using this)
  · cases hl

theorem liftV_sound (hσ : SR E n G σ a.tmps w) {o : Oper} {v : LV} {z : AV} (hl : liftV P o.op = some v) (h : pev σ v = some z) : Yields P a G w o z := by
  unfold liftV at hl
  split at hl
  · rename_i x ho
    obtain ⟨x', hx, rfl⟩ := lift1_inv hl
    have h' : some (σ.ev x') = some z := h
    cases h'
    exact ⟨a.eval x, by simp [execOp, ho], hσ.ev hx⟩
  · rename_i c x y ho
    split at hl
    · rename_i c' x' y' hc hx hy
      cases hl
      have h' : fPick (σ.ev c') (σ.ev x') (σ.ev y') = some z := h
      unfold fPick at h'; split at h'
      · rename_i t hct
        cases h'

        have rc := hσ.ev hc
        rw [hct] at rc
        have rc := rc.dinv
        generalize hcv : a.eval c = cv at rc
        cases rc
        refine ⟨if t then a.eval x else a.eval y, by simp [execOp, ho, hcv, asBool], ?_⟩
        cases t
        · exact hσ.ev hy
        · exact hσ.ev hx
      · cases h'
    · cases hl
  · rename_i op t x y yt ho; exact liftBin_sound hσ ho hl h
  · rename_i t x ho
    obtain ⟨x', hx, rfl⟩ := lift1_inv hl
    exact Yields.mk (by simp only [execOp, ho]) (fNot_run (hσ.ev hx) h)
  · rename_i t x ho
    obtain ⟨x', hx, rfl⟩ := lift1_inv hl
    exact Yields.mk (by simp only [execOp, ho]) (fNeg_run (hσ.ev hx) h)
  · rename_i s t x ho; exact liftCv_sound hσ ho hl h
  · rename_i t x i ho
    split at hl
    · rename_i ht
      obtain ⟨x', y', hx, hy, rfl⟩ := lift2_inv hl
      exact Yields.mk (by simp only [execOp, ho]) (fIdxS_run ht (hσ.ev hx) (hσ.ev hy) h)
    · cases hl
  · rename_i t x lo hi ho; exact liftSlice_sound hσ ho hl h
  · rename_i t x i ho; exact liftFa_sound hσ ho hl h
  · rename_i t x i ho; exact liftFld_sound hσ ho hl h
  · rename_i t x i ho; exact liftIa_sound hσ ho hl h
  · rename_i t x ho; exact liftLd_sound hσ ho hl h
  · rename_i t parts ho; exact liftBld_sound hσ ho hl h
  · rename_i t x ho
    split at hl
    · rename_i hc
      obtain ⟨x', hx, rfl⟩ := lift1_inv hl
      exact Yields.mk (by simp only [execOp, ho]) (fMkI_run hc (hσ.ev hx) h)
    · cases hl
  · rename_i x xt t ho; exact liftAs_sound hσ ho hl h
  · rename_i x i ho
    obtain ⟨x', hx, rfl⟩ := lift1_inv hl
    exact Yields.mk (by simp only [execOp, ho]) (fExt_run (hσ.ev hx) h)
  · rename_i x ho
    obtain ⟨x', hx, rfl⟩ := lift1_inv hl
    have rx := hσ.ev hx
    have h' : fNck (σ.ev x') = some z := h
    unfold fNck at h'; split at h'
    · rename_i r off he; cases h'
      rw [he] at rx
      generalize hv : a.eval x = xv at rx
      cases rx
      exact ⟨_, by simp [execOp, ho, hv], .ptr _ _⟩
    · rename_i cs he; cases h'
      rw [he] at rx
      generalize hv : a.eval x = xv at rx
      obtain ⟨b, off, rfl⟩ := rx.dptr_inv
      exact ⟨_, by simp [execOp, ho, hv], rx⟩
    · cases h'
  · rename_i f x y ho
    split at hl
    · rename_i x' y' hx hy
      cases hl
      have h' : fMkF f (evL σ x') (evL σ y') = some z := h
      unfold fMkF at h'; split at h'
      · rename_i hs; cases h'
        simp only [Bool.and_eq_true] at hs
        obtain ⟨l1, r1⟩ := liftL_rel hσ hx
        obtain ⟨l2, r2⟩ := liftL_rel hσ hy
        refine ⟨.func f (x.map a.eval) (y.map a.eval), by simp [execOp, ho, Instr.makeFunc], ?_⟩
        exact .fn f _ _ _ _ (by simpa using l1) (allSimple_iff.1 hs.1) (fun i u hu => by have := r1 i u hu; simpa [List.getD_eq_getElem?_getD] using this)
          (by simpa using l2) (allSimple_iff.1 hs.2) (fun i u hu => by have := r2 i u hu; simpa [List.getD_eq_getElem?_getD] using this)
      · cases h'
    · cases hl
  · rename_i b args ts ho; exact liftBuiltin_sound hσ ho hl h
  · cases hl

end Go.Av
