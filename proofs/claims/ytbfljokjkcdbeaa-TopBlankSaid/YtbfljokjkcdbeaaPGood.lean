import Derived.Test.YtbfljokjkcdbeaaPMod
import Derived.Test.YtbfljokjkcdbeaaESrt
/- What is read: where it ends, how great it is. -/
set_option linter.unusedSimpArgs false
namespace Go.Av.Try
open Go.Proofs

/-! ### Fields put in, none of that name there -/
theorem getV_none {nm : List UInt8} : ∀ {l : List Fld}, (getV nm l).isSome = false → ∀ y ∈ l, y.name ≠ nm
  | [], _, y, hy => by simp at hy
  | x :: r, h, y, hy => by
    rw [getV] at h
    by_cases e : x.name = nm
    · rw [if_pos e] at h; cases h
    · rw [if_neg e] at h
      rcases List.mem_cons.1 hy with rfl | hy
      · exact e
      · exact getV_none h y hy
theorem hasV_none {nm : List UInt8} {l : List Fld} (h : ∀ y ∈ l, y.name ≠ nm) : hasV nm l = false := by
  unfold hasV
  cases hx : l[posV nm l]? with
  | none => rfl
  | some x => simpa using h x (List.mem_of_getElem? hx)
theorem setF_new {nm : List UInt8} {x : Val} {y : Fld} {r : List Fld} (h : ∀ z ∈ y :: r, z.name ≠ nm) :
    setF nm x (y :: r) = if Op.bytesLess y.name nm = true then y :: setF nm x r else .mk nm x :: y :: r := by
  have h1 := hasV_none h
  have h2 := hasV_none (l := r) fun z hz => h z (by simp [hz])
  simp only [setF, h1, h2, posV, Bool.false_eq_true, if_false]
  by_cases hl : Op.bytesLess y.name nm = true
  · rw [if_pos hl, if_pos hl]; rfl
  · rw [if_neg hl, if_neg hl]; rfl
theorem srt_cons {y : Fld} {r : List Fld} (h : srt r) (h2 : ∀ z ∈ r, Op.bytesLess y.name z.name = true) : srt (y :: r) := by
  intro i j a b hij ha hb
  cases j with
  | zero => omega
  | succ j =>
    simp only [List.getElem?_cons_succ] at hb
    cases i with
    | zero => simp only [List.getElem?_cons_zero, Option.some.injEq] at ha; subst ha; exact h2 b (List.mem_of_getElem? hb)
    | succ i => exact h i j a b (by omega) (by simpa using ha) hb
theorem srt_set {nm : List UInt8} {x : Val} : ∀ {l : List Fld}, srt l → (∀ z ∈ l, z.name ≠ nm) → srt (setF nm x l)
  | [], _, _ => by
    intro i j a b hij ha hb
    simp [setF, hasV, posV] at ha hb
    have := (List.getElem?_eq_some_iff.1 ha).1
    have := (List.getElem?_eq_some_iff.1 hb).1
    simp at *; omega
  | y :: r, hs, hn => by
    rw [setF_new hn]
    obtain ⟨h1, h2⟩ := srt_tail hs
    have hn' : ∀ z ∈ r, z.name ≠ nm := fun z hz => hn z (by simp [hz])
    by_cases hl : Op.bytesLess y.name nm = true
    · rw [if_pos hl]
      refine srt_cons (srt_set h1 hn') fun z hz => ?_
      rcases setF_mem hz with rfl | hz
      · exact hl
      · exact h2 z hz
    · rw [if_neg hl]
      have hlt : Op.bytesLess nm y.name = true := by
        have h3 := leqB_not nm y.name
        have h4 : Op.bytesLess y.name nm = false := by simpa using hl
        rw [h4] at h3
        simp only [leqB, Bool.not_false, Bool.or_eq_true, decide_eq_true_eq] at h3
        exact h3.resolve_right fun e => hn y (by simp) e.symm
      refine srt_cons hs fun z hz => ?_
      rcases List.mem_cons.1 hz with rfl | hz
      · exact hlt
      · exact less_trans hlt (h2 z hz)
theorem setF_pt {nm : List UInt8} {x : Val} : ∀ {l : List Fld}, (∀ z ∈ l, z.name ≠ nm) → (ptF (setF nm x l)).1 = (ptF l).1 + (ptV x).1 ∧ (setF nm x l).length = l.length + 1
  | [], _ => by simp [setF, hasV, posV, ptF]
  | y :: r, hn => by
    rw [setF_new hn]
    have ih := setF_pt (nm := nm) (x := x) (l := r) fun z hz => hn z (by simp [hz])
    split
    · simp only [ptF_cons, List.length_cons]; omega
    · rw [ptF_cons (.mk nm x)]
      simp only [List.length_cons, Fld.v]
      exact ⟨by omega, trivial⟩
theorem ptL_append : ∀ (a b : List Val), (ptL (a ++ b)).1 = (ptL a).1 + (ptL b).1
  | [], b => by simp [ptL]
  | v :: r, b => by simp only [List.cons_append, ptL, ptL_append r b]; omega

mutual
theorem Val.sm_mono {m m' : Nat} (h : m ≤ m') : ∀ v : Val, v.sm m = true → v.sm m' = true
  | .mk k n s l f, hv => by
    simp only [Val.sm, Bool.and_eq_true, decide_eq_true_eq] at hv ⊢
    exact ⟨by omega, by omega, by omega, smL_mono h l hv.2.2.2.1, smF_mono h f hv.2.2.2.2⟩
theorem smL_mono {m m' : Nat} (h : m ≤ m') : ∀ l : List Val, smL m l = true → smL m' l = true
  | [], _ => rfl
  | v :: r, hl => by
    simp only [smL, Bool.and_eq_true] at hl ⊢
    exact ⟨Val.sm_mono h v hl.1, smL_mono h r hl.2⟩
theorem smF_mono {m m' : Nat} (h : m ≤ m') : ∀ l : List Fld, smF m l = true → smF m' l = true
  | [], _ => rfl
  | .mk nm v :: r, hl => by
    simp only [smF, Fld.sm, Bool.and_eq_true, decide_eq_true_eq] at hl ⊢
    exact ⟨⟨by omega, Val.sm_mono h v hl.1.2⟩, smF_mono h r hl.2⟩
end
/-! ### Parts -/
theorem nameAt_good {s : List UInt8} {at_ k : Nat} {b : List UInt8} (ha : at_ < s.length) (h : nameAt s at_ = some (b, k)) : at_ < k ∧ k ≤ s.length ∧ b.length ≤ 200 ∧ nameMay b = true := by
  unfold nameAt at h
  have hw := wordP_len s (at_ + 1)
  split at h
  · cases h
  · rename_i b' hb
    split at h
    · rename_i hm
      cases h
      refine ⟨by omega, by omega, ?_, hm⟩
      simp only [nameMay, Bool.and_eq_true, decide_eq_true_eq] at hm
      exact hm.2.1
    · cases h
theorem gtEnd_le : ∀ t : List UInt8, gtEnd t ≤ t.length
  | [] => by simp [gtEnd]
  | c :: r => by unfold gtEnd; have := gtEnd_le r; split <;> simp <;> omega
theorem unhexF_code : ∀ (t : List UInt8) (h : Int) (b : List UInt8), (unhexF t h b).2 = 0 ∨ (unhexF t h b).2 = 4 ∨ (unhexF t h b).2 = 5
  | [], _, _ => by simp [unhexF]
  | c :: r, h, b => by
    unfold unhexF
    split
    · simp
    · split
      · exact unhexF_code r _ _
      · split
        · simp
        · split
          · exact unhexF_code r _ _
          · exact unhexF_code r _ _
theorem hexAt_good {s : List UInt8} {at_ : Nat} (ha : at_ ≤ s.length) : match hexAt s at_ with
    | .ok v k => at_ < k ∧ k ≤ s.length ∧ v.sm 300 = true ∧ (ptV v).1 = 1
    | .bad e => 1 ≤ e ∧ e ≤ 8 := by
  have hg := gtEnd_le (s.drop at_)
  rw [List.length_drop] at hg
  unfold hexAt
  have hc := unhexF_code (s.drop at_) (-1) []
  by_cases h0 : (unhexF (s.drop at_) (-1) []).2 = 0
  · rw [if_pos h0]
    have hne : s.drop at_ ≠ [] := fun e => by rw [e] at h0; simp [unhexF] at h0
    have hpos : 1 ≤ gtEnd (s.drop at_) := by
      cases hd : s.drop at_ with
      | nil => exact absurd hd hne
      | cons c r => unfold gtEnd; split <;> omega
    split
    · rename_i v k e
      split at e
      · cases e
        rename_i hl
        refine ⟨by omega, by omega, Val.sm_iff.2 ⟨by simp only [strV, Val.s]; omega, by simp [strV, Val.l], by simp [strV, Val.f], by simp [strV, Val.l], by simp [strV, Val.f]⟩, by simp [strV, ptV, ptL, ptF]⟩
      · cases e
    · rename_i e' e
      split at e
      · cases e
      · cases e; omega
  · rw [if_neg h0]
    simp only
    omega
theorem litF_end : ∀ (t : List UInt8) (k d : Nat) (b : List UInt8) (p : Nat) {q : List UInt8} {n : Nat}, litF k d t b p = some (q, n) → p < n ∧ n ≤ p + t.length
  | [], _, _, _, _, _, _, h => by simp [litF] at h
  | c :: r, 0, d, b, p, q, n, h => by
    unfold litF at h
    simp only [List.length_cons]
    split at h
    · split at h
      · cases h
      · have := litF_end r _ _ _ _ h; omega
    · split at h
      · split at h
        · cases h; omega
        · have := litF_end r _ _ _ _ h; omega
      · split at h
        · have := litF_end r _ _ _ _ h; omega
        · have := litF_end r _ _ _ _ h; omega
  | c :: r, k + 1, d, b, p, q, n, h => by
    unfold litF at h
    simp only [List.length_cons]
    have := litF_end r _ _ _ _ h; omega
theorem strV_good {b : List UInt8} (h : b.length ≤ 200) : (strV b).sm 300 = true ∧ (ptV (strV b)).1 = 1 :=
  ⟨Val.sm_iff.2 ⟨by simp only [strV, Val.s]; omega, by simp [strV, Val.l], by simp [strV, Val.f], by simp [strV, Val.l], by simp [strV, Val.f]⟩, by simp [strV, ptV, ptL, ptF]⟩
theorem litAt_good {s : List UInt8} {at_ : Nat} (ha : at_ ≤ s.length) : match litAt s at_ with
    | .ok v k => at_ < k ∧ k ≤ s.length ∧ v.sm 300 = true ∧ (ptV v).1 = 1
    | .bad e => 1 ≤ e ∧ e ≤ 8 := by
  unfold litAt
  cases h : litF 0 1 (s.drop at_) [] at_ with
  | none => simp
  | some p =>
    obtain ⟨b, k⟩ := p
    have := litF_end _ _ _ _ _ h
    rw [List.length_drop] at this
    simp only
    by_cases hb : b.length ≤ 200
    · rw [if_pos hb]
      obtain ⟨h1, h2⟩ := strV_good hb
      exact ⟨by omega, by omega, h1, h2⟩
    · rw [if_neg hb]; simp
theorem refAt_good {s : List UInt8} {at_ n k : Nat} (ha : at_ ≤ s.length) (h : refAt s at_ = some (n, k)) : at_ < k ∧ k ≤ s.length ∧ 1 ≤ n ∧ n ≤ 60 := by
  unfold refAt at h
  have hw := wordP_len s at_
  split at h
  · cases h
  · rename_i m hm
    have h1 := skipP_le (s := s) (k := at_ + (wordP s at_).length) (by omega)
    simp only at h
    split at h
    · rename_i hq
      have hw2 := wordP_len s (skipP s (at_ + (wordP s at_).length))
      rw [hq] at hw2
      simp only [List.length_cons, List.length_nil] at hw2
      have h2 := skipP_le (s := s) (k := skipP s (at_ + (wordP s at_).length) + 1) (by omega)
      split at h
      · rename_i hr
        have hw3 := wordP_len s (skipP s (skipP s (at_ + (wordP s at_).length) + 1))
        rw [hr] at hw3
        simp only [List.length_cons, List.length_nil] at hw3
        cases h
        have hb : 1 ≤ n ∧ n ≤ 60 := by
          unfold objF at hm
          split at hm
          · cases hm
          · rename_i hc
            generalize wordP s at_ = w at hm hc
            cases hd : digF w 0 with
            | none => rw [hd] at hm; cases hm
            | some z =>
              rw [hd] at hm
              simp only at hm
              split at hm
              · rename_i hz
                cases hm
                refine ⟨?_, hz⟩
                cases w with
                | nil => simp at hc
                | cons a r =>
                  have ha : a.toNat ≠ 48 := fun e => hc (.inr (.inr (by simp [e])))
                  have mono : ∀ (t : List UInt8) (x y : Nat), digF t x = some y → x ≤ y := fun t => by
                    induction t with
                    | nil => intro x y e; simp only [digF, Option.some.injEq] at e; omega
                    | cons c r ih =>
                      intro x y e
                      unfold digF at e
                      split at e
                      · cases e
                      · have := ih _ _ e; omega
                  unfold digF at hd
                  split at hd
                  · cases hd
                  · have := mono _ _ _ hd; omega
              · cases hm
        exact ⟨by omega, by omega, hb⟩
      · cases h
    · cases h
theorem parseF_code (w : List UInt8) : (parseF w).2 = 0 ∨ (parseF w).2 = 1 ∨ (parseF w).2 = 4 := by
  unfold parseF finP
  split
  · simp
  · split
    · simp
    · split <;> simp
theorem parseF_nil : (parseF []).2 = 4 := rfl
theorem wordV_good {s : List UInt8} {at_ : Nat} (ha : at_ ≤ s.length) : match wordV s at_ with
    | .ok v k => at_ < k ∧ k ≤ s.length ∧ v.sm 300 = true ∧ (ptV v).1 = 1
    | .bad e => 1 ≤ e ∧ e ≤ 8 := by
  have plain : ∀ (k n : Int), (Val.mk k n [] [] []).sm 300 = true ∧ (ptV (Val.mk k n [] [] [])).1 = 1 := fun k n => ⟨by simp [Val.sm, smL, smF], by simp [ptV, ptL, ptF]⟩
  have hw := wordP_len s at_
  unfold wordV
  by_cases h1 : wordP s at_ = [110, 117, 108, 108]
  · rw [if_pos h1]
    rw [h1] at hw
    simp only [List.length_cons, List.length_nil] at hw
    exact ⟨by omega, by omega, plain 0 0⟩
  · rw [if_neg h1]
    by_cases h2 : wordP s at_ = [116, 114, 117, 101]
    · rw [if_pos h2]
      rw [h2] at hw
      simp only [List.length_cons, List.length_nil] at hw
      exact ⟨by omega, by omega, plain 1 1⟩
    · rw [if_neg h2]
      by_cases h3 : wordP s at_ = [102, 97, 108, 115, 101]
      · rw [if_pos h3]
        rw [h3] at hw
        simp only [List.length_cons, List.length_nil] at hw
        exact ⟨by omega, by omega, plain 1 0⟩
      · rw [if_neg h3]
        cases hr : refAt s at_ with
        | some p =>
          obtain ⟨n, k⟩ := p
          have := refAt_good ha hr
          exact ⟨by omega, by omega, plain 7 n⟩
        | none =>
          simp only
          have hc := parseF_code (wordP s at_)
          by_cases h4 : (parseF (wordP s at_)).2 = 0
          · rw [if_pos h4]
            have hne : (wordP s at_).length ≠ 0 := fun e => by
              rw [List.length_eq_zero_iff.1 e, parseF_nil] at h4; cases h4
            exact ⟨by omega, by omega, plain 2 _⟩
          · rw [if_neg h4]
            simp only; omega

/-! ### Values -/
def goodR (s : List UInt8) (at_ : Nat) : RV → Prop
  | .ok v k => at_ < k ∧ k ≤ s.length ∧ v.sm 300 = true ∧ (ptV v).1 + at_ ≤ k
  | .bad e => 1 ≤ e ∧ e ≤ 8
theorem listF_good {rd : Nat → RV} {s : List UInt8} (hr : ∀ k, k ≤ s.length → goodR s k (rd k)) : ∀ (m : Nat) (acc : List Val) (at_ : Nat), acc.length + m = 301 → at_ ≤ s.length → (∀ x ∈ acc, x.sm 300 = true) →
    match listF rd s m acc at_ with
    | .ok v k => at_ < k ∧ k ≤ s.length ∧ v.sm 300 = true ∧ (ptV v).1 + at_ ≤ 1 + (ptL acc).1 + k ∧ ∃ l, v = lisV l
    | .bad e => 1 ≤ e ∧ e ≤ 8
  | 0, acc, at_, _, _, _ => by simp [listF]
  | m + 1, acc, at_, hm, ha, hacc => by
    have hsk := skipP_le ha
    unfold listF
    cases hc : s[skipP s at_]? with
    | none => simp
    | some c =>
      have hlt : skipP s at_ < s.length := (List.getElem?_eq_some_iff.1 hc).1
      simp only
      by_cases h93 : c.toNat = 93
      · rw [if_pos h93]
        refine ⟨by omega, by omega, Val.sm_iff.2 ⟨by simp [lisV, Val.s], by simp only [lisV, Val.l]; omega, by simp [lisV, Val.f], hacc, by simp [lisV, Val.f]⟩, ?_, acc, rfl⟩
        simp only [lisV, ptV, ptF]; omega
      · rw [if_neg h93]
        have hg := hr (skipP s at_) hsk.2
        cases hx : rd (skipP s at_) with
        | bad e => rw [hx] at hg; exact hg
        | ok x k =>
          rw [hx] at hg
          obtain ⟨g1, g2, g3, g4⟩ := hg
          have ih := listF_good hr m (acc ++ [x]) k (by simp; omega) g2 (fun y hy => by
            rcases List.mem_append.1 hy with h | h
            · exact hacc y h
            · simp at h; subst h; exact g3)
          simp only
          generalize listF rd s m (acc ++ [x]) k = R at *
          cases R with
          | bad e => exact ih
          | ok v q =>
            obtain ⟨i1, i2, i3, i4, i5⟩ := ih
            rw [ptL_append] at i4
            simp only [ptL] at i4
            exact ⟨by omega, i2, i3, by omega, i5⟩
theorem dictF_good {rd : Nat → RV} {s : List UInt8} (hr : ∀ k, k ≤ s.length → goodR s k (rd k)) : ∀ (m : Nat) (acc : List Fld) (at_ : Nat), acc.length + m = 301 → at_ ≤ s.length → (∀ x ∈ acc, x.sm 300 = true) →
    match dictF rd s m acc at_ with
    | .ok v k => at_ < k ∧ k ≤ s.length ∧ v.sm 300 = true ∧ (ptV v).1 + at_ ≤ 1 + (ptF acc).1 + k ∧ ∃ l, v = dicV l
    | .bad e => 1 ≤ e ∧ e ≤ 8
  | 0, acc, at_, _, _, _ => by simp [dictF]
  | m + 1, acc, at_, hm, ha, hacc => by
    have hsk := skipP_le ha
    unfold dictF
    cases hc : s[skipP s at_]? with
    | none => simp
    | some c =>
      have hlt : skipP s at_ < s.length := (List.getElem?_eq_some_iff.1 hc).1
      simp only
      by_cases h62 : c.toNat = 62 ∧ s[skipP s at_ + 1]? = some 62
      · rw [if_pos h62]
        have := (List.getElem?_eq_some_iff.1 h62.2).1
        refine ⟨by omega, by omega, Val.sm_iff.2 ⟨by simp [dicV, Val.s], by simp [dicV, Val.l], by simp only [dicV, Val.f]; omega, by simp [dicV, Val.l], hacc⟩, ?_, acc, rfl⟩
        simp only [dicV, ptV, ptL]; omega
      · rw [if_neg h62]
        by_cases h47 : c.toNat ≠ 47
        · rw [if_pos h47]; simp
        · rw [if_neg h47]
          cases hn : nameAt s (skipP s at_) with
          | none => simp
          | some p =>
            obtain ⟨nm, k⟩ := p
            obtain ⟨n1, n2, n3, _⟩ := nameAt_good hlt hn
            have hg := hr k n2
            simp only
            cases hx : rd k with
            | bad e => rw [hx] at hg; exact hg
            | ok x k' =>
              rw [hx] at hg
              obtain ⟨g1, g2, g3, g4⟩ := hg
              simp only
              by_cases hd : (getV nm acc).isSome = true
              · rw [if_pos hd]; simp
              · rw [if_neg hd]
                have hno := getV_none (by simpa using hd : (getV nm acc).isSome = false)
                obtain ⟨p1, p2⟩ := setF_pt (x := x) hno
                have ih := dictF_good hr m (setF nm x acc) k' (by omega) g2 (fun y hy => by
                  rcases setF_mem hy with rfl | h
                  · exact Fld.sm_iff.2 ⟨by simp only [Fld.name]; omega, g3⟩
                  · exact hacc y h)
                generalize dictF rd s m (setF nm x acc) k' = R at *
                cases R with
                | bad e => exact ih
                | ok v q =>
                  obtain ⟨i1, i2, i3, i4, i5⟩ := ih
                  exact ⟨by omega, i2, i3, by omega, i5⟩
theorem readF_good (s : List UInt8) : ∀ (d at_ : Nat), at_ ≤ s.length → goodR s at_ (readF d s at_)
  | d, at_, ha => by
    have hsk := skipP_le ha
    unfold readF
    cases hc : s[skipP s at_]? with
    | none => exact ⟨by decide, by decide⟩
    | some c =>
      have hlt : skipP s at_ < s.length := (List.getElem?_eq_some_iff.1 hc).1
      cases d with
      | zero => exact ⟨by decide, by decide⟩
      | succ d =>
        have ih : ∀ k, k ≤ s.length → goodR s k (readF d s k) := fun k hk => readF_good s d k hk
        have one : ∀ {R : RV} {q : Nat}, at_ ≤ q → (match R with
            | .ok v k => q < k ∧ k ≤ s.length ∧ v.sm 300 = true ∧ (ptV v).1 = 1
            | .bad e => 1 ≤ e ∧ e ≤ 8) → goodR s at_ R := fun {R q} hq h => by
          cases R with
          | bad e => exact h
          | ok v k => obtain ⟨h1, h2, h3, h4⟩ := h; exact ⟨by omega, h2, h3, by omega⟩
        simp only
        by_cases c47 : c.toNat = 47
        · rw [if_pos c47]
          cases hn : nameAt s (skipP s at_) with
          | none => exact ⟨by decide, by decide⟩
          | some p =>
            obtain ⟨b, k⟩ := p
            obtain ⟨n1, n2, n3, _⟩ := nameAt_good hlt hn
            exact ⟨by omega, n2, Val.sm_iff.2 ⟨by simp only [namV, Val.s]; omega, by simp [namV, Val.l], by simp [namV, Val.f], by simp [namV, Val.l], by simp [namV, Val.f]⟩, by simp only [namV, ptV, ptL, ptF]; omega⟩
        · rw [if_neg c47]
          by_cases c40 : c.toNat = 40
          · rw [if_pos c40]; exact one (by omega) (litAt_good (by omega))
          · rw [if_neg c40]
            by_cases cd : c.toNat = 60 ∧ s[skipP s at_ + 1]? = some 60
            · rw [if_pos cd]
              have := (List.getElem?_eq_some_iff.1 cd.2).1
              have hg := dictF_good ih 301 [] (skipP s at_ + 2) rfl (by omega) (by simp)
              generalize dictF (readF d s) s 301 [] (skipP s at_ + 2) = R at *
              cases R with
              | bad e => exact hg
              | ok v k => obtain ⟨g1, g2, g3, g4, _⟩ := hg; simp only [ptF] at g4; exact ⟨by omega, g2, g3, by omega⟩
            · rw [if_neg cd]
              by_cases c60 : c.toNat = 60
              · rw [if_pos c60]; exact one (by omega) (hexAt_good (by omega))
              · rw [if_neg c60]
                by_cases c91 : c.toNat = 91
                · rw [if_pos c91]
                  have hg := listF_good ih 301 [] (skipP s at_ + 1) rfl (by omega) (by simp)
                  generalize listF (readF d s) s 301 [] (skipP s at_ + 1) = R at *
                  cases R with
                  | bad e => exact hg
                  | ok v k => obtain ⟨g1, g2, g3, g4, _⟩ := hg; simp only [ptL] at g4; exact ⟨by omega, g2, g3, by omega⟩
                · rw [if_neg c91]
                  by_cases hs : signB c = true
                  · rw [if_pos hs]; exact ⟨by decide, by decide⟩
                  · rw [if_neg hs]; exact one (by omega) (wordV_good (by omega))
end Go.Av.Try
