import Derived.Test.YtjmhecojjcjcaaaDoorAvG
import Derived.Lib.MapLaws
import Derived.Lib.RuneBytes
import Derived.Lib.SpaceUEq
import Derived.Lib.ValidLaws
import Derived.Test.YtjmhecojjcjcaaaDoorProg
import Derived.Lib.LaidTab
import Derived.Lib.ItoaNum
import Derived.Shelf.Unicode.DecodeSlow
import Derived.Shelf.Unicode.DecodeLast
import Derived.Shelf.LaysM
set_option linter.unusedSimpArgs false
set_option linter.unusedVariables false
namespace Go.Av.Tryd
open Go.Proofs
theorem drop_at {α : Type} {l : List α} {i : Nat} {x : α} (h : l[i]? = some x) : l.drop i = x :: l.drop (i + 1) := by
 obtain ⟨h1, h2⟩ := List.getElem?_eq_some_iff.1 h
 rw [List.drop_eq_getElem_cons h1, h2]
open Go.Lib (decodeL decodeN decodeN_shape decodeL_N encodeRune encodeRuneZ decodeLastL validD)
def vrune (r : Nat) : Prop := r < 55296 ∨ (57344 ≤ r ∧ r ≤ 1114111)
instance (r : Nat) : Decidable (vrune r) := by unfold vrune; infer_instance
def enc (r : Nat) : List UInt8 := encodeRune (r : Int)
def bad (l : List UInt8) : Bool := decide ((decodeL l).1 = 65533) && decide ((decodeL l).2 = 1)
theorem bad_iff {l : List UInt8} : bad l = true ↔ (decodeL l).1 = 65533 ∧ (decodeL l).2 = 1 := by simp [bad]
theorem dec_facts {l : List UInt8} (hne : l ≠ []) : 1 ≤ (decodeL l).2 ∧ (decodeL l).2 ≤ 4 ∧ (decodeL l).2 ≤ l.length ∧ vrune (decodeL l).1 ∧ (bad l = false → l.take (decodeL l).2 = enc (decodeL l).1) := by
 refine ⟨?_, ?_, Lib.decodeL_le l hne, ?_, fun hb => ?_⟩
 ·have hl : 0 < l.length := List.length_pos_iff.2 hne
  rw [decodeL_N]
  rcases decodeN_shape l.length (l.getD 0 0).toNat (l.getD 1 0).toNat (l.getD 2 0).toNat (l.getD 3 0).toNat with ⟨c, e⟩ | ⟨c1, c2, c3, cv, e⟩ | ⟨c1, c2, c3, c4, cv, cs, e⟩ | ⟨c1, c2, c3, c4, c5, cv, cw, e⟩ | e
  all_goals (rw [e]; dsimp only; omega)
 ·rw [decodeL_N]
  rcases decodeN_shape l.length (l.getD 0 0).toNat (l.getD 1 0).toNat (l.getD 2 0).toNat (l.getD 3 0).toNat with ⟨c, e⟩ | ⟨c1, c2, c3, cv, e⟩ | ⟨c1, c2, c3, c4, cv, cs, e⟩ | ⟨c1, c2, c3, c4, c5, cv, cw, e⟩ | e
  all_goals (rw [e]; dsimp only; omega)
 ·have k1 := (l.getD 1 0).toNat_lt
  rw [decodeL_N]
  unfold vrune
  rcases decodeN_shape l.length (l.getD 0 0).toNat (l.getD 1 0).toNat (l.getD 2 0).toNat (l.getD 3 0).toNat with ⟨c, e⟩ | ⟨c1, c2, c3, cv, e⟩ | ⟨c1, c2, c3, c4, cv, cs, e⟩ | ⟨c1, c2, c3, c4, c5, cv, cw, e⟩ | e
  all_goals (rw [e]; dsimp only; omega)
 ·exact (Lib.encode_decode l hne (fun h => by rw [bad_iff.2 h] at hb; cases hb)).symm
/-! ### A text's signs -/
def runesF : Nat → List UInt8 → Option (List Nat)
 | 0, _ => some []
 | f + 1, l => if l = [] then some [] else if bad l = true then none else (runesF f (l.drop (decodeL l).2)).map ((decodeL l).1 :: ·)
def runesM (l : List UInt8) : Option (List Nat) := runesF l.length l
theorem runesF_nil : ∀ f, runesF f [] = some []
 | 0 => rfl
 | f + 1 => by simp [runesF]
theorem runesF_fuel : ∀ (f g : Nat) (l : List UInt8), l.length ≤ f → l.length ≤ g → runesF f l = runesF g l
 | 0, g, l, h, _ => by have : l = [] := List.length_eq_zero_iff.1 (by omega); subst this; rw [runesF_nil, runesF_nil]
 | f + 1, 0, l, _, h => by have : l = [] := List.length_eq_zero_iff.1 (by omega); subst this; rw [runesF_nil, runesF_nil]
 | f + 1, g + 1, l, h1, h2 => by
  simp only [runesF]
  by_cases hl : l = []
  ·simp [hl]
  ·have := (dec_facts hl).1
   have := List.length_pos_iff.2 hl
   rw [runesF_fuel f g (l.drop (decodeL l).2) (by simp; omega) (by simp; omega)]
theorem runesM_nil : runesM [] = some [] := rfl
theorem runesM_step {l : List UInt8} (hl : l ≠ []) : runesM l = if bad l = true then none else (runesM (l.drop (decodeL l).2)).map ((decodeL l).1 :: ·) := by
 unfold runesM
 obtain ⟨c, r, rfl⟩ : ∃ c r, l = c :: r := by cases l with | nil => exact absurd rfl hl | cons c r => exact ⟨c, r, rfl⟩
 have h1 := (dec_facts hl).1
 conv => lhs; rw [List.length_cons, runesF, if_neg hl]
 rw [runesF_fuel r.length _ (List.drop _ _) (by simp; omega) (Nat.le_refl _)]
def encM (rs : List Nat) : List UInt8 := rs.flatMap enc
theorem runesM_enc : ∀ (n : Nat) {l : List UInt8} {rs : List Nat}, l.length ≤ n → runesM l = some rs → encM rs = l ∧ ∀ r ∈ rs, vrune r
 | n, [], rs, _, h => by cases h; exact ⟨rfl, by simp⟩
 | 0, c :: l, rs, h, _ => by simp at h
 | n + 1, c :: l, rs, hn, h => by
  have hne : c :: l ≠ [] := by simp
  rw [runesM_step hne] at h
  obtain ⟨f1, f2, f3, f4, f5⟩ := dec_facts hne
  split at h
  ·cases h
  ·rename_i hb
   obtain ⟨rs', h1, rfl⟩ := Option.map_eq_some_iff.1 h
   obtain ⟨e1, e2⟩ := runesM_enc n (by simp at hn ⊢; omega) h1
   refine ⟨?_, fun r hr => ?_⟩
   ·show enc _ ++ encM rs' = _
    rw [e1, ← f5 (by simpa using hb)]; exact List.take_append_drop _ _
   ·rcases List.mem_cons.1 hr with rfl | hr
    ·exact f4
    ·exact e2 r hr
/-! ### A sign's bytes, read -/
theorem enc_cases {r : Nat} (h : vrune r) :
  (r < 128 ∧ enc r = [UInt8.ofNat r]) ∨ (128 ≤ r ∧ r < 2048 ∧ enc r = [UInt8.ofNat (192 + r / 64), UInt8.ofNat (128 + r % 64)]) ∨
  (2048 ≤ r ∧ r < 65536 ∧ enc r = [UInt8.ofNat (224 + r / 4096), UInt8.ofNat (128 + r / 64 % 64), UInt8.ofNat (128 + r % 64)]) ∨
  (65536 ≤ r ∧ r ≤ 1114111 ∧ enc r = [UInt8.ofNat (240 + r / 262144), UInt8.ofNat (128 + r / 4096 % 64), UInt8.ofNat (128 + r / 64 % 64), UInt8.ofNat (128 + r % 64)]) := by
 unfold vrune at h
 have t : ∀ (z : Int) (k : Nat), z = (k : Int) → z.toNat.toUInt8 = UInt8.ofNat k := fun z k e => by rw [e]; rfl
 by_cases h1 : r < 128
 ·left; refine ⟨h1, ?_⟩
  unfold enc encodeRune
  rw [Lib.encodeRuneZ_one (by omega) (by omega)]
  simp only [List.map_cons, List.map_nil]; rw [t r r rfl]
 ·by_cases h2 : r < 2048
  ·right; left; refine ⟨by omega, h2, ?_⟩
   unfold enc encodeRune
   rw [Lib.encodeRuneZ_two (by omega) (by omega)]
   simp only [List.map_cons, List.map_nil]; rw [t (192 + (r : Int) / 64) (192 + r / 64) (by omega), t (128 + (r : Int) % 64) (128 + r % 64) (by omega)]
  ·by_cases h3 : r < 65536
   ·right; right; left; refine ⟨by omega, h3, ?_⟩
    unfold enc encodeRune
    rw [Lib.encodeRuneZ_three (by omega)]
    simp only [List.map_cons, List.map_nil]; rw [t (224 + (r : Int) / 4096) (224 + r / 4096) (by omega), t (128 + (r : Int) / 64 % 64) (128 + r / 64 % 64) (by omega), t (128 + (r : Int) % 64) (128 + r % 64) (by omega)]
   ·right; right; right; refine ⟨by omega, by omega, ?_⟩
    unfold enc encodeRune
    rw [Lib.encodeRuneZ_four (by omega) (by omega)]
    simp only [List.map_cons, List.map_nil]
    rw [t (240 + (r : Int) / 262144) (240 + r / 262144) (by omega), t (128 + (r : Int) / 4096 % 64) (128 + r / 4096 % 64) (by omega), t (128 + (r : Int) / 64 % 64) (128 + r / 64 % 64) (by omega), t (128 + (r : Int) % 64) (128 + r % 64) (by omega)]
theorem ofNat_toNat {k : Nat} (h : k < 256) : (UInt8.ofNat k).toNat = k := by simp [UInt8.toNat_ofNat']; omega
theorem decode_enc {r : Nat} (h : vrune r) (t : List UInt8) : decodeL (enc r ++ t) = (r, (enc r).length) := by
 rw [decodeL_N]
 unfold vrune at h
 rcases enc_cases h with ⟨a, e⟩ | ⟨a, b, e⟩ | ⟨a, b, e⟩ | ⟨a, b, e⟩
 all_goals rw [e]
 ·simp only [List.cons_append, List.nil_append, List.getD_cons_zero, List.length_cons, List.length_nil]
  rw [ofNat_toNat (by omega), decodeN, if_pos a]
 ·simp only [List.cons_append, List.nil_append, List.getD_cons_zero, List.getD_cons_succ, List.length_cons, List.length_nil]
  rw [ofNat_toNat (by omega), ofNat_toNat (by omega), decodeN, if_neg (by omega), if_pos (by omega), if_pos (by omega)]
  congr 1; omega
 ·simp only [List.cons_append, List.nil_append, List.getD_cons_zero, List.getD_cons_succ, List.length_cons, List.length_nil]
  rw [ofNat_toNat (by omega), ofNat_toNat (by omega), ofNat_toNat (by omega), decodeN, if_neg (by omega), if_neg (by omega), if_pos (by omega), if_pos (by omega)]
  congr 1; omega
 ·simp only [List.cons_append, List.nil_append, List.getD_cons_zero, List.getD_cons_succ, List.length_cons, List.length_nil]
  rw [ofNat_toNat (by omega), ofNat_toNat (by omega), ofNat_toNat (by omega), ofNat_toNat (by omega), decodeN, if_neg (by omega), if_neg (by omega), if_neg (by omega), if_pos (by omega), if_pos (by omega)]
  congr 1; omega
theorem enc_len {r : Nat} (h : vrune r) : 1 ≤ (enc r).length ∧ (enc r).length ≤ 4 ∧ enc r ≠ [] := by
 rcases enc_cases h with ⟨a, e⟩ | ⟨a, b, e⟩ | ⟨a, b, e⟩ | ⟨a, b, e⟩ <;> (rw [e]; simp)
theorem lastStart_enc2 (t : List UInt8) {c0 c1 c2 c3 : UInt8} (h3 : 128 ≤ c3.toNat) (h2 : Lib.runeStartB c2 = false) (h1 : Lib.runeStartB c1 = false) (h0 : Lib.runeStartB c0 = true) (hd : (decodeL [c0, c1, c2, c3]).2 = 4) : decodeLastL (t ++ [c0, c1, c2, c3]) = decodeL [c0, c1, c2, c3] := by
 have g1 := Lib.getD_app_end t [c0, c1, c2, c3] 1 (by omega) (by simp)
 have g2 := Lib.getD_app_end t [c0, c1, c2, c3] 2 (by omega) (by simp)
 have g3 := Lib.getD_app_end t [c0, c1, c2, c3] 3 (by omega) (by simp)
 have g4 := Lib.getD_app_end t [c0, c1, c2, c3] 4 (by omega) (by simp)
 have hl : (t ++ [c0, c1, c2, c3]).length = t.length + 4 := by simp
 have hs : Lib.lastStart (t ++ [c0, c1, c2, c3]) = (t ++ [c0, c1, c2, c3]).length - 4 := by
  unfold Lib.lastStart
  simp only [g2, g3, g4]
  rw [if_neg (by omega)]
  simp only [List.length_cons, List.length_nil, List.getD_cons_succ, List.getD_cons_zero, Nat.reduceAdd, Nat.reduceSub, h2, h1, h0, Bool.false_eq_true, if_false, if_true]
  rw [if_neg (by omega), if_neg (by omega)]
 have hdrop := Lib.drop_app_end t [c0, c1, c2, c3]
 unfold decodeLastL
 rw [if_neg (by simp), g1, if_neg (by simp; omega), hs]
 simp only [List.length_cons, List.length_nil] at hdrop
 simp only [hdrop, hd]
 rw [if_pos (by omega)]
theorem last_enc {r : Nat} (h : vrune r) (t : List UInt8) : decodeLastL (t ++ enc r) = (r, (enc r).length) := by
 have hd := decode_enc h []
 rw [List.append_nil] at hd
 have h' := h
 unfold vrune at h'
 have st : ∀ k, k < 256 → Lib.runeStartB (UInt8.ofNat k) = (k / 64 != 2) := fun k hk => by unfold Lib.runeStartB; rw [ofNat_toNat hk]
 have nc : ∀ k : Nat, 128 ≤ k → k < 192 → Lib.runeStartB (UInt8.ofNat k) = false := by
  intro k h1 h2
  have h3 : k / 64 = 2 := by omega
  rw [st k (by omega), h3]; rfl
 have ns : ∀ k : Nat, 192 ≤ k → k < 256 → Lib.runeStartB (UInt8.ofNat k) = true := by
  intro k h1 h2
  have h3 : k / 64 = 3 := by omega
  rw [st k (by omega), h3]; rfl
 rcases enc_cases h with ⟨a, e⟩ | ⟨a, b, e⟩ | ⟨a, b, e⟩ | ⟨a, b, e⟩
 ·have g1 := Lib.getD_app_end t [UInt8.ofNat r] 1 (by omega) (by simp)
  rw [e]
  unfold decodeLastL
  rw [if_neg (by simp), g1]
  simp only [List.length_cons, List.length_nil, Nat.sub_self, List.getD_cons_zero, Nat.zero_add]
  rw [if_pos (by rw [ofNat_toNat (by omega)]; exact a), ofNat_toNat (by omega)]
 ·rw [e] at hd ⊢
  rw [Lib.last2 t _ _ (by rw [ofNat_toNat (by omega)]; omega) (ns _ (by omega) (by omega)) (by rw [hd]; rfl), hd]
 ·rw [e] at hd ⊢
  rw [Lib.last3 t _ _ _ (by rw [ofNat_toNat (by omega)]; omega) (nc _ (by omega) (by omega)) (ns _ (by omega) (by omega)) (by rw [hd]; rfl), hd]
 ·rw [e] at hd ⊢
  rw [lastStart_enc2 t (by rw [ofNat_toNat (by omega)]; omega) (nc _ (by omega) (by omega)) (nc _ (by omega) (by omega)) (ns _ (by omega) (by omega)) (by rw [hd]; rfl), hd]
theorem encode_enc {r : Nat} (h : vrune r) : (Utf8.encode (r : Int)).data.toList = enc r := by
 have hv : Utf8.valid (r : Int) = true := by unfold vrune at h; simp [Utf8.valid]; omega
 unfold Utf8.encode
 simp only [hv, if_true, Int.toNat_natCast]
 unfold vrune at h
 rcases enc_cases h with ⟨a, e⟩ | ⟨a, b, e⟩ | ⟨a, b, e⟩ | ⟨a, b, e⟩
 ·simp only [if_pos a, e]
 ·have a' : ¬ r < 128 := by omega
  simp only [if_neg a', if_pos b, e]
 ·have a' : ¬ r < 128 := by omega
  have b' : ¬ r < 2048 := by omega
  simp only [if_neg a', if_neg b', if_pos b, e]
 ·have a' : ¬ r < 128 := by omega
  have b' : ¬ r < 2048 := by omega
  have c' : ¬ r < 65536 := by omega
  simp only [if_neg a', if_neg b', if_neg c', e]
theorem tab_lt {P : Program} {name : String} {k : IntKind} {zs : List Int} {w : World} (h : Lib.TabIs P w name k zs) (b : Nat) (hb : P.globalNamed name = some b) : b < w.heap.size := by
 unfold Lib.TabIs World.var? at h
 simp only [hb, Option.bind_some] at h
 cases hc : w.heap[b]? with
 | none => simp [hc] at h
 | some o => exact (Array.getElem?_eq_some_iff.1 hc).1
theorem tab_keep {P : Program} {name : String} {k : IntKind} {zs : List Int} {w w' : World} (hk : ∀ b, P.globalNamed name = some b → w'.heap[b]? = w.heap[b]?) (h : Lib.TabIs P w name k zs) : Lib.TabIs P w' name k zs := by
 unfold Lib.TabIs World.var? at h ⊢
 cases hg : P.globalNamed name with
 | none => simp [hg] at h
 | some g =>
  simp only [hg, Option.bind_some] at h ⊢
  rw [hk g hg]; exact h
def intAt (P : Program) (name : String) (w : World) : Prop := ∀ b, P.globalNamed name = some b → ∃ m : Int, w.cell? ⟨b, 0, none⟩ = some (.int .i64 m)
theorem cell_same {w w' : World} {b : Nat} (h : w'.heap[b]? = w.heap[b]?) : w'.cell? ⟨b, 0, none⟩ = w.cell? ⟨b, 0, none⟩ := by
 simp only [World.cell?, h]
theorem cell_lt {w : World} {b : Nat} {v : Value} (h : w.cell? ⟨b, 0, none⟩ = some v) : b < w.heap.size := by
 rcases Nat.lt_or_ge b w.heap.size with h' | h'
 ·exact h'
 ·simp [World.cell?, Array.getElem?_eq_none h'] at h
def tabAt (P : Program) (name : String) (k : IntKind) (zs : List Int) (w : World) : Prop := ∀ b, P.globalNamed name = some b → Lib.TabIs P w name k zs
def u8At (P : Program) (w : World) : Prop := ∀ g3 g4, P.globalNamed "unicode/utf8.first" = some g3 → P.globalNamed "unicode/utf8.acceptRanges" = some g4 → Lib.Utf8Tabs g3 g4 w
theorem u8_cells {g3 g4 : Nat} {w w' : World} (h3 : w'.heap[g3]? = w.heap[g3]?) (h4 : w'.heap[g4]? = w.heap[g4]?) (h : Lib.Utf8Tabs g3 g4 w) : Lib.Utf8Tabs g3 g4 w' := by
 obtain ⟨a, b⟩ := h
 refine ⟨fun c hc => ?_, fun i hi => ?_⟩
 ·have := a c hc
  simpa only [World.cell?, h3] using this
 ·have := b i hi
  simpa only [World.cell?, h4] using this
def u8Own (P : Program) (b : Nat) : Prop := P.globalNamed "unicode/utf8.first" = some b ∨ P.globalNamed "unicode/utf8.acceptRanges" = some b
theorem u8_inv {P : Program} {g3 g4 : Nat} {w : World} (h3 : P.globalNamed "unicode/utf8.first" = some g3) (h4 : P.globalNamed "unicode/utf8.acceptRanges" = some g4) (h : Lib.Utf8Tabs g3 g4 w) : u8At P w ∧ ∀ b, u8Own P b → b < w.heap.size := by
 have lt : ∀ (b o : Nat) (v : Value), w.cell? ⟨b, o, none⟩ = some v → b < w.heap.size := fun b o v hc => by
  rcases Nat.lt_or_ge b w.heap.size with h' | h'
  ·exact h'
  ·simp [World.cell?, Array.getElem?_eq_none h'] at hc
 refine ⟨fun a b ha hb => ?_, fun b hb => ?_⟩
 ·obtain rfl := Option.some.inj (h3.symm.trans ha)
  obtain rfl := Option.some.inj (h4.symm.trans hb)
  exact h
 ·obtain ⟨q1, q2⟩ := h
  rcases hb with hb | hb
  ·obtain rfl := Option.some.inj (h3.symm.trans hb)
   exact lt _ _ _ (q1 0 (by decide))
  ·obtain rfl := Option.some.inj (h4.symm.trans hb)
   exact lt _ _ _ (q2 0 (by decide)).1
instance : Inv Tryd.prog := ⟨fun _ w => tabAt Tryd.prog "internal/strconv.uint64pow10" .u64 Lib.pow10Tab w ∧ intAt Tryd.prog "internal/bytealg.MaxLen" w ∧ (u8At Tryd.prog w ∧ ∀ b, u8Own Tryd.prog b → b < w.heap.size),
 fun b => Tryd.prog.globalNamed "internal/strconv.uint64pow10" = some b ∨ Tryd.prog.globalNamed "internal/bytealg.MaxLen" = some b ∨ u8Own Tryd.prog b,
 fun h b hb => hb.elim (fun hb => tab_lt (h.1 b hb) b hb) fun hb => hb.elim (fun hb => by obtain ⟨m, hm⟩ := h.2.1 b hb; exact cell_lt hm) (h.2.2.2 b),
 fun {f w f' w'} hk h => ⟨fun b hb => tab_keep (fun b hb => (hk b (.inl hb)).1) (h.1 b hb), fun b hb => by obtain ⟨m, hm⟩ := h.2.1 b hb; exact ⟨m, (cell_same (hk b (.inr (.inl hb))).1).trans hm⟩,
  fun g3 g4 h3 h4 => u8_cells (hk g3 (.inr (.inr (.inl h3)))).1 (hk g4 (.inr (.inr (.inr h4)))).1 (h.2.2.1 g3 g4 h3 h4), fun b hb => by
   have h1 := h.2.2.2 b hb
   have h2 := (hk b (.inr (.inr hb))).1
   rw [Array.getElem?_eq_getElem h1] at h2
   exact (Array.getElem?_eq_some_iff.1 h2).1⟩⟩
def errD (n : Nat) : D := if n = 0 then .nil else .iface 65 (.int .i64 n)
end Go.Av.Tryd
set_option linter.unusedSimpArgs false
set_option maxRecDepth 100000
namespace Go.Av.Tryd
open Go.Proofs
open Go.Lib (decodeL decodeN decodeN_shape decodeL_N)
def natsU (l : List Nat) : List D := l.map fun (n : Nat) => D.int .i64 (n : Int)
theorem natsU_length (l : List Nat) : (natsU l).length = l.length := by simp [natsU]
theorem natsU_append (a b : List Nat) : natsU (a ++ b) = natsU a ++ natsU b := by simp [natsU]
theorem natsU_get (l : List Nat) (j : Nat) : (natsU l)[j]? = (l[j]?).map fun (n : Nat) => D.int .i64 (n : Int) := by simp [natsU]
def cumR (l : List UInt8) (r0 : Nat) : Nat → Nat
 | 0 => r0
 | j + 1 => 64 * cumR l r0 j + (l.getD (j + 1) 0).toNat - 128
def contB (l : List UInt8) (j : Nat) : Prop := 128 ≤ (l.getD j 0).toNat ∧ (l.getD j 0).toNat ≤ 191
def leadR (c n r0 : Nat) : Prop := (c < 128 ∧ n = 0 ∧ r0 = c) ∨ (194 ≤ c ∧ c < 224 ∧ n = 1 ∧ r0 = c - 192) ∨ (224 ≤ c ∧ c < 240 ∧ n = 2 ∧ r0 = c - 224) ∨ (240 ≤ c ∧ c < 245 ∧ n = 3 ∧ r0 = c - 240)
theorem bad_N (l : List UInt8) (h : decodeN l.length (l.getD 0 0).toNat (l.getD 1 0).toNat (l.getD 2 0).toNat (l.getD 3 0).toNat = (65533, 1)) : bad l = true := by
 have e : decodeL l = (65533, 1) := (decodeL_N l).trans h
 simp only [bad, e, decide_true, Bool.and_self]
theorem lead_none {l : List UInt8} (hl : 0 < l.length) (h : ∀ n r0, ¬ leadR (l.getD 0 0).toNat n r0) : bad l = true := by
 refine bad_N l (Lib.decodeN_bad _ _ _ _ _ ?_)
 have k0 := (l.getD 0 0).toNat_lt
 by_cases a : (l.getD 0 0).toNat < 128
 ·exact absurd (.inl ⟨a, rfl, rfl⟩) (h 0 (l.getD 0 0).toNat)
 ·by_cases b : 194 ≤ (l.getD 0 0).toNat ∧ (l.getD 0 0).toNat < 224
  ·exact absurd (.inr (.inl ⟨b.1, b.2, rfl, rfl⟩)) (h 1 ((l.getD 0 0).toNat - 192))
  ·by_cases c : 224 ≤ (l.getD 0 0).toNat ∧ (l.getD 0 0).toNat < 240
   ·exact absurd (.inr (.inr (.inl ⟨c.1, c.2, rfl, rfl⟩))) (h 2 ((l.getD 0 0).toNat - 224))
   ·by_cases d : 240 ≤ (l.getD 0 0).toNat ∧ (l.getD 0 0).toNat < 245
    ·exact absurd (.inr (.inr (.inr ⟨d.1, d.2, rfl, rfl⟩))) (h 3 ((l.getD 0 0).toNat - 240))
    ·omega
theorem lead_short {l : List UInt8} {n r0 : Nat} (hl : 0 < l.length) (h : leadR (l.getD 0 0).toNat n r0) (hn : l.length ≤ n) : bad l = true := by
 refine bad_N l ?_
 unfold leadR at h
 rcases decodeN_shape l.length (l.getD 0 0).toNat (l.getD 1 0).toNat (l.getD 2 0).toNat (l.getD 3 0).toNat with ⟨c, e⟩ | ⟨c1, c2, c3, cv, e⟩ | ⟨c1, c2, c3, c4, cv, cs, e⟩ | ⟨c1, c2, c3, c4, c5, cv, cw, e⟩ | e
 all_goals first | exact e | (exfalso; omega)
theorem lead_cont {l : List UInt8} {n r0 j : Nat} (hl : 0 < l.length) (h : leadR (l.getD 0 0).toNat n r0) (h1 : 1 ≤ j) (hj : j ≤ n) (hc : ¬ contB l j) : bad l = true := by
 refine bad_N l ?_
 unfold leadR at h
 unfold contB at hc
 have k1 := (l.getD 1 0).toNat_lt
 have k2 := (l.getD 2 0).toNat_lt
 have k3 := (l.getD 3 0).toNat_lt
 have hj3 : j = 1 ∨ j = 2 ∨ j = 3 := by omega
 rcases decodeN_shape l.length (l.getD 0 0).toNat (l.getD 1 0).toNat (l.getD 2 0).toNat (l.getD 3 0).toNat with ⟨c, e⟩ | ⟨c1, c2, c3, cv, e⟩ | ⟨c1, c2, c3, c4, cv, cs, e⟩ | ⟨c1, c2, c3, c4, c5, cv, cw, e⟩ | e
 all_goals first
  | exact e
  | (exfalso; omega)
  | (exfalso; rcases hj3 with rfl | rfl | rfl <;> omega)
theorem lead_fin {l : List UInt8} {n r0 : Nat} (h : leadR (l.getD 0 0).toNat n r0) (hl : n < l.length) (hc : ∀ j, 1 ≤ j → j ≤ n → contB l j) :
  (((n = 2 ∧ cumR l r0 n < 2048) ∨ (n = 3 ∧ cumR l r0 n < 65536) ∨ 1114111 < cumR l r0 n ∨ (55295 < cumR l r0 n ∧ cumR l r0 n < 57344)) ∧ bad l = true) ∨
  (¬ ((n = 2 ∧ cumR l r0 n < 2048) ∨ (n = 3 ∧ cumR l r0 n < 65536) ∨ 1114111 < cumR l r0 n ∨ (55295 < cumR l r0 n ∧ cumR l r0 n < 57344)) ∧ bad l = false ∧ decodeL l = (cumR l r0 n, n + 1)) := by
 have hb : ∀ r k, decodeN l.length (l.getD 0 0).toNat (l.getD 1 0).toNat (l.getD 2 0).toNat (l.getD 3 0).toNat = (r, k) → (r ≠ 65533 ∨ k ≠ 1) → bad l = false ∧ decodeL l = (r, k) := fun r k e hk => by
  refine ⟨?_, by rw [decodeL_N, e]⟩
  rw [Bool.eq_false_iff]; intro hb
  rw [bad_iff, decodeL_N, e] at hb
  simp only at hb
  rcases hk with hk | hk
  ·exact hk hb.1
  ·exact hk hb.2
 have k0 := (l.getD 0 0).toNat_lt
 unfold leadR at h
 rcases h with ⟨a, rfl, rfl⟩ | ⟨a, b, rfl, rfl⟩ | ⟨a, b, rfl, rfl⟩ | ⟨a, b, rfl, rfl⟩
 ·right
  simp only [cumR]
  refine ⟨by omega, hb _ _ ?_ (.inl (by omega))⟩
  rw [decodeN, if_pos a]
 ·right
  obtain ⟨c1, c2⟩ := hc 1 (by omega) (by omega)
  have e : cumR l ((l.getD 0 0).toNat - 192) 1 = (l.getD 0 0).toNat % 32 * 64 + (l.getD 1 0).toNat % 64 := by simp only [cumR, Nat.zero_add, Nat.reduceAdd]; omega
  rw [e]
  refine ⟨by omega, hb _ _ ?_ (.inr (by omega))⟩
  rw [decodeN, if_neg (by omega), if_pos (by omega), if_pos (by omega)]
 ·obtain ⟨c1, c2⟩ := hc 1 (by omega) (by omega)
  obtain ⟨d1, d2⟩ := hc 2 (by omega) (by omega)
  have e : cumR l ((l.getD 0 0).toNat - 224) 2 = (l.getD 0 0).toNat % 16 * 4096 + (l.getD 1 0).toNat % 64 * 64 + (l.getD 2 0).toNat % 64 := by simp only [cumR, Nat.zero_add, Nat.reduceAdd]; omega
  rw [e]
  by_cases hx : (l.getD 0 0).toNat % 16 * 4096 + (l.getD 1 0).toNat % 64 * 64 + (l.getD 2 0).toNat % 64 < 2048 ∨ (55295 < (l.getD 0 0).toNat % 16 * 4096 + (l.getD 1 0).toNat % 64 * 64 + (l.getD 2 0).toNat % 64 ∧ (l.getD 0 0).toNat % 16 * 4096 + (l.getD 1 0).toNat % 64 * 64 + (l.getD 2 0).toNat % 64 < 57344)
  ·left
   refine ⟨by omega, bad_N l ?_⟩
   rw [decodeN, if_neg (by omega), if_neg (by omega), if_pos (by omega), if_neg (by omega)]
  ·right
   refine ⟨by omega, hb _ _ ?_ (.inr (by omega))⟩
   rw [decodeN, if_neg (by omega), if_neg (by omega), if_pos (by omega), if_pos (by omega)]
 ·obtain ⟨c1, c2⟩ := hc 1 (by omega) (by omega)
  obtain ⟨d1, d2⟩ := hc 2 (by omega) (by omega)
  obtain ⟨f1, f2⟩ := hc 3 (by omega) (by omega)
  have e : cumR l ((l.getD 0 0).toNat - 240) 3 = (l.getD 0 0).toNat % 8 * 262144 + (l.getD 1 0).toNat % 64 * 4096 + (l.getD 2 0).toNat % 64 * 64 + (l.getD 3 0).toNat % 64 := by simp only [cumR, Nat.zero_add, Nat.reduceAdd]; omega
  rw [e]
  by_cases hx : (l.getD 0 0).toNat % 8 * 262144 + (l.getD 1 0).toNat % 64 * 4096 + (l.getD 2 0).toNat % 64 * 64 + (l.getD 3 0).toNat % 64 < 65536 ∨ 1114111 < (l.getD 0 0).toNat % 8 * 262144 + (l.getD 1 0).toNat % 64 * 4096 + (l.getD 2 0).toNat % 64 * 64 + (l.getD 3 0).toNat % 64
  ·left
   refine ⟨by omega, bad_N l ?_⟩
   rw [decodeN, if_neg (by omega), if_neg (by omega), if_neg (by omega), if_pos (by omega), if_neg (by omega)]
  ·right
   refine ⟨by omega, hb _ _ ?_ (.inr (by omega))⟩
   rw [decodeN, if_neg (by omega), if_neg (by omega), if_neg (by omega), if_pos (by omega), if_pos (by omega)]
def runesRes (o : Option (List Nat)) : Res := match o with
 | some rs => .tup [.list (natsU rs), .bool true]
 | none => .tup [.list [], .bool false]
theorem lead_le {l : List UInt8} {n r0 : Nat} (h : leadR (l.getD 0 0).toNat n r0) : n ≤ 3 ∧ r0 < 128 := by unfold leadR at h; omega
theorem cum_le {l : List UInt8} {n r0 : Nat} (h : r0 < 128) : ∀ j, j ≤ 3 → cumR l r0 j < 50000000 := by
 intro j hj
 have k1 := (l.getD (0 + 1) 0).toNat_lt
 have k2 := (l.getD (1 + 1) 0).toNat_lt
 have k3 := (l.getD (2 + 1) 0).toNat_lt
 match j, hj with
 | 0, _ => simp only [cumR]; omega
 | 1, _ => simp only [cumR]; omega
 | 2, _ => simp only [cumR]; omega
 | 3, _ => simp only [cumR]; omega
 | j + 4, h => omega
def L_foliowrightref_Runes : LCode :=
 .seq (.reg [⟨some 2, .nils 3 1, none⟩, Qx 3 KF]) (.seq (.reg [⟨some 4, .nils 3 1, none⟩]) (.seq (.reg [Qx 5 (Ki 0)]) (.seq (.block 0 (.loop (.seq (.seq (.reg [Qc 11 5, Qc 12 0, Q 
 13 (.len true (.t 12)), Q 14 (.bin .lss (.t 11) (.t 13))]) (.cond (.t 14) .skip (.exit 0))) (.block 1 (.seq (.reg [Qc 15 0, Qc 16 5, Q 17 (.idxS (.t 15) (.t 16)), Q 18 (.cvI .i64 
 (.t 17)), Qa 6 18]) (.seq (.reg [Qx 7 (Ki 0)]) (.seq (.reg [Qc 19 6, Qa 8 19]) (.seq (.block 2 (.seq (.reg [Qc 21 6, Q 22 (.bin .lss (.t 21) (Ki 128)), Qa 20 22]) (.cond (.t 20) 
 .skip (.seq (.reg [Qc 24 6, Q 25 (.bin .geq (.t 24) (Ki 194)), Qc 26 25, Qd 27 6 26 true, Qg 28 (.bin .lss (.t 27) (Ki 224)) 26 true, Q 29 (.pick (.t 26) (.t 28) KF), Qa 23 29]) 
 (.cond (.t 23) (.seq (.reg [Qx 7 (Ki 1)]) (.reg [Qc 30 6, Q 31 (.bin .sub (.t 30) (Ki 192)), Qa 8 31])) (.seq (.reg [Qc 33 6, Q 34 (.bin .geq (.t 33) (Ki 224)), Qc 35 34, Qd 36 6 
 35 true, Qg 37 (.bin .lss (.t 36) (Ki 240)) 35 true, Q 38 (.pick (.t 35) (.t 37) KF), Qa 32 38]) (.cond (.t 32) (.seq (.reg [Qx 7 (Ki 2)]) (.reg [Qc 39 6, Q 40 (.bin .sub (.t 39) 
 (Ki 224)), Qa 8 40])) (.seq (.reg [Qc 42 6, Q 43 (.bin .geq (.t 42) (Ki 240)), Qc 44 43, Qd 45 6 44 true, Qg 46 (.bin .lss (.t 45) (Ki 245)) 44 true, Q 47 (.pick (.t 44) (.t 46) 
 KF), Qa 41 47]) (.cond (.t 41) (.seq (.reg [Qx 7 (Ki 3)]) (.reg [Qc 48 6, Q 49 (.bin .sub (.t 48) (Ki 240)), Qa 8 49])) (.seq (.reg [⟨some 2, .nils 3 1, none⟩, Qx 3 KF]) 
 .ret)))))))))) (.seq (.seq (.reg [Qc 50 5, Qc 51 7, Q 52 (.bin .add (.t 50) (.t 51)), Qc 53 0, Q 54 (.len true (.t 53)), Q 55 (.bin .geq (.t 52) (.t 54))]) (.cond (.t 55) (.seq 
 (.reg [⟨some 2, .nils 3 1, none⟩, Qx 3 KF]) .ret) .skip)) (.seq (.seq (.reg [Qx 9 (Ki 1)]) (.block 3 (.loop (.seq (.seq (.reg [Qc 56 9, Qc 57 7, Q 58 (.bin .leq (.t 56) (.t 
 57))]) (.cond (.t 58) .skip (.exit 3))) (.seq (.block 4 (.seq (.reg [Qc 61 0, Qc 62 5, Qc 63 9, Q 64 (.bin .add (.t 62) (.t 63)), Q 65 (.idxS (.t 61) (.t 64)), Q 66 (.cvI .i64 
 (.t 65)), Qa 10 66]) (.seq (.seq (.reg [Qc 67 10, Q 68 (.bin .lss (.t 67) (Ki 128)), Qc 69 68, Qd 70 10 69 false, Qg 71 (.bin .gtr (.t 70) (Ki 191)) 69 false, Q 72 (.pick (.t 69) 
 KT (.t 71))]) (.cond (.t 72) (.seq (.reg [⟨some 2, .nils 3 1, none⟩, Qx 3 KF]) .ret) .skip)) (.reg [Qc 73 8, Q 74 (.bin .mul (Ki 64) (.t 73)), Qc 75 10, Q 76 (.bin .add (.t 74) 
 (.t 75)), Q 77 (.bin .sub (.t 76) (Ki 128)), Qa 8 77])))) (.reg [Qc 59 9, Q 60 (.bin .add (.t 59) (Ki 1)), Qa 9 60])))))) (.seq (.seq (.reg [Qc 78 7, Q 79 (.bin .eql (.t 78) (Ki 
 2)), Qc 80 79, Qd 81 8 80 true, Qg 82 (.bin .lss (.t 81) (Ki 2048)) 80 true, Q 83 (.pick (.t 80) (.t 82) KF), Qc 84 83, Qd 85 7 84 false, Qg 86 (.bin .eql (.t 85) (Ki 3)) 84 
 false, Qd 87 86 84 false, Qd 88 8 87 true, Qg 89 (.bin .lss (.t 88) (Ki 65536)) 87 true, Qg 90 (.pick (.t 87) (.t 89) KF) 84 false, Q 91 (.pick (.t 84) KT (.t 90)), Qc 92 91, Qd 
 93 8 92 false, Qg 94 (.bin .gtr (.t 93) (Ki 1114111)) 92 false, Q 95 (.pick (.t 92) KT (.t 94)), Qc 96 95, Qd 97 8 96 false, Qg 98 (.bin .gtr (.t 97) (Ki 55295)) 96 false, Qd 99 
 98 96 false, Qd 100 8 99 true, Qg 101 (.bin .lss (.t 100) (Ki 57344)) 99 true, Qg 102 (.pick (.t 99) (.t 101) KF) 96 false, Q 103 (.pick (.t 96) KT (.t 102))]) (.cond (.t 103) 
 (.seq (.reg [⟨some 2, .nils 3 1, none⟩, Qx 3 KF]) .ret) .skip)) (.seq (.reg [Qc 104 4, Qc 105 8, ⟨some 106, .bsl 3 1 [.t 105], none⟩, ⟨some 107, .app 3 1 8 false (.t 104) (.t 
 106), none⟩, Qa 4 107]) (.reg [Qc 108 5, Qc 109 7, Q 110 (.bin .add (.t 108) (.t 109)), Q 111 (.bin .add (.t 110) (Ki 1)), Qa 5 111]))))))))))))) (.seq (.reg [Qc 112 4, Qa 2 112, 
 Qx 3 KT]) .ret))))
def R_foliowrightref_Runes : List LRes := [.tmp 2, .tmp 3]
theorem lift_foliowrightref_Runes : Lifts Tryd.prog 46 113 L_foliowrightref_Runes R_foliowrightref_Runes := ⟨_, _, Tryd.func46, rfl, by kernel_rfl, by kernel_rfl, rfl⟩
theorem runes_call (s : List UInt8) (hs : s.length ≤ 1000000000) : PCall Tryd.prog 46 [.str s] (fun r => r = runesRes (runesM s)) := by
 refine lift_foliowrightref_Runes.call rfl ?_
 simp (maxSteps := 2000000) only [go_sem, ↓reduceIte, L_foliowrightref_Runes, R_foliowrightref_Runes]
 refine run_loop (fun y : Nat × List Nat => ⟨[(0, .d (.str s)), (4, .own (.t 4) 3 1 (natsU y.2)), (5, .d (.int .i64 y.1))], [], []⟩)
  (fun y => y.1 ≤ s.length ∧ y.2.length ≤ y.1 ∧ (runesM (s.drop y.1)).map (y.2 ++ ·) = runesM s) (fun y => s.length - y.1) (0, []) ?_ ?_ ?_
 ·refine weak_mk ?_ trivial
  simp (maxSteps := 2000000) only [go_sem, ↓reduceIte, Sub, Int.natCast_add, Int.natCast_mul, natsU]
 ·exact ⟨Nat.zero_le _, Nat.le_refl _, by simp⟩
 ·rintro ⟨i, acc⟩ ⟨hi, ha, hF⟩
  simp only at hi ha hF
  have hacc := natsU_length acc
  simp (maxSteps := 2000000) only [go_sem, ↓reduceIte]
  refine ⟨fun hlt => ?_, fun hge => ?_⟩
  ·obtain ⟨c, hc⟩ := get_some (l := s) (i := i) (by omega)
   have hc8 := u8_lt c
   have hne : s.drop i ≠ [] := fun h => by have := List.drop_eq_nil_iff.1 h; omega
   have hlen : (s.drop i).length = s.length - i := List.length_drop
   have hg0 : (s.drop i).getD 0 0 = c := by rw [List.getD_eq_getElem?_getD, List.getElem?_drop]; simp [hc]
   rw [runesM_step hne] at hF
   have bad' : bad (s.drop i) = true → Res.tup [D.list [], D.bool false] = runesRes (runesM s) := fun h => by rw [if_pos h] at hF; rw [← hF]; rfl
   by_cases a : c.toNat < 128
   ·have z0 : ((c.toNat : Int) < 128) = True := eq_true (by omega)
    have hlead : leadR ((s.drop i).getD 0 0).toNat 0 (c.toNat) := by rw [hg0]; unfold leadR; omega
    obtain ⟨q1, q2⟩ := lead_le hlead
    have e0 : ((cumR (s.drop i) (c.toNat) 0 : Nat) : Int) = (c.toNat : Int) := by unfold cumR; omega
    simp (maxSteps := 2000000) (disch := omega) only [go_sem, ↓reduceIte, getI_nat, hc, z0]
    refine ⟨fun h => bad' (lead_short (by omega) hlead (by omega)), fun h => ?_⟩
    refine run_loop (fun j : Nat => ⟨[(0, .d (.str s)), (4, .own (.t 4) 3 1 (natsU acc)), (5, .d (.int .i64 i)), (7, .d (.int .i64 0)), (8, .d (.int .i64 (cumR (s.drop i) (c.toNat) j : Nat))), (9, .d (.int .i64 ((j : Int) + 1)))], [], []⟩)
     (fun j => j ≤ 0 ∧ ∀ k, 1 ≤ k → k ≤ j → contB (s.drop i) k) (fun j => 0 - j) 0 ?_ ?_ ?_
    ·refine weak_mk ?_ trivial
     simp (maxSteps := 2000000) only [go_sem, ↓reduceIte, Sub, Int.natCast_add, Int.natCast_mul, e0]
    ·exact ⟨by omega, fun k h1 h2 => by omega⟩
    ·rintro j ⟨hj, hcj⟩
     have hcum := cum_le (l := s.drop i) (n := 0) q2 j (by omega)
     have zj : (((j : Int) + 1 ≤ 0)) = (j < 0) := propext (by omega)
     simp (maxSteps := 2000000) (disch := omega) only [go_sem, ↓reduceIte, zj]
     refine ⟨fun hj1 => ?_, fun hj1 => ?_⟩
     ·obtain ⟨d, hd⟩ := get_some (l := s) (i := i + (j + 1)) (by omega)
      have hd8 := u8_lt d
      have hgd : getI s ((i : Int) + ((j : Int) + 1)) = some d := by rw [← hd, ← getI_nat]; congr 1
      have hgd' : (s.drop i).getD (j + 1) 0 = d := by rw [List.getD_eq_getElem?_getD, List.getElem?_drop]; simp [hd]
      have hbad : ¬ (128 ≤ d.toNat ∧ d.toNat ≤ 191) → bad (s.drop i) = true := fun h => lead_cont (by omega) hlead (j := j + 1) (by omega) (by omega) (by unfold contB; rw [hgd']; exact h)
      have hnext : 128 ≤ d.toNat → ((cumR (s.drop i) (c.toNat) (j + 1) : Nat) : Int) = 64 * (cumR (s.drop i) (c.toNat) j : Nat) + d.toNat - 128 := fun h => by simp only [cumR, hgd']; omega
      simp (maxSteps := 2000000) (disch := omega) only [go_sem, ↓reduceIte, hgd]
      refine ⟨fun h1 => ⟨fun h2 => bad' (hbad (by omega)), fun h2 => ⟨j + 1, ?_, ⟨by omega, fun k k1 k2 => ?_⟩, by omega⟩⟩, fun h1 => bad' (hbad (by omega))⟩
      ·have hn := hnext (by omega)
       refine weak_mk ?_ trivial
       simp (maxSteps := 2000000) only [go_sem, ↓reduceIte, Sub, Int.natCast_add, Int.natCast_mul, hn]
      ·by_cases hk : k = j + 1
       ·subst hk; unfold contB; rw [hgd']; omega
       ·exact hcj k k1 (by omega)
     ·have hjN : j = 0 := by omega
      subst hjN
      have hfin := lead_fin hlead (by omega) (fun k k1 k2 => hcj k k1 k2)
      generalize cumR (s.drop i) (c.toNat) 0 = R at *
      clear e0
      simp (maxSteps := 2000000) (disch := omega) only [go_sem, ↓reduceIte]
      have eN : ((i + 1 : Nat) : Int) = (i : Int) + 0 + 1 := by omega
      have zz : natsU acc ++ [D.int .i64 (R : Int)] = natsU (acc ++ [R]) := by rw [natsU_append]; rfl
      rcases hfin with ⟨hx, hb⟩ | ⟨hx, hb, hdec⟩
      ·repeat' (first | intro _ | apply And.intro)
       all_goals first | exact bad' hb | (exfalso; omega)
      ·rw [hb, if_neg (by decide), hdec] at hF
       simp only at hF
       have hF2 : (runesM (s.drop (i + 1))).map ((acc ++ [R]) ++ ·) = runesM s := by
        rw [List.drop_drop] at hF
        rw [← hF]
        cases runesM (s.drop (i + 1)) <;> simp
       repeat' (first | intro _ | apply And.intro)
       all_goals first | (exfalso; omega) | omega | skip
       all_goals refine ⟨(i + 1, acc ++ [R]), ?_, ⟨by simp only; omega, by simp only [List.length_append, List.length_cons, List.length_nil]; omega, hF2⟩, by simp only; omega⟩
       all_goals (refine weak_mk ?_ trivial; simp (maxSteps := 2000000) only [go_sem, ↓reduceIte, Sub, Int.natCast_add, Int.natCast_mul, zz, eN])
   by_cases b : 194 ≤ c.toNat ∧ c.toNat < 224
   ·have z0 : ((c.toNat : Int) < 128) = False := eq_false (by omega)
    have z1 : (194 ≤ (c.toNat : Int)) = True := eq_true (by omega)
    have z2 : ((c.toNat : Int) < 224) = True := eq_true (by omega)
    have hlead : leadR ((s.drop i).getD 0 0).toNat 1 (c.toNat - 192) := by rw [hg0]; unfold leadR; omega
    obtain ⟨q1, q2⟩ := lead_le hlead
    have e0 : ((cumR (s.drop i) (c.toNat - 192) 0 : Nat) : Int) = (c.toNat : Int) - 192 := by unfold cumR; omega
    simp (maxSteps := 2000000) (disch := omega) only [go_sem, ↓reduceIte, getI_nat, hc, z0, z1, z2]
    refine ⟨fun h => bad' (lead_short (by omega) hlead (by omega)), fun h => ?_⟩
    refine run_loop (fun j : Nat => ⟨[(0, .d (.str s)), (4, .own (.t 4) 3 1 (natsU acc)), (5, .d (.int .i64 i)), (7, .d (.int .i64 1)), (8, .d (.int .i64 (cumR (s.drop i) (c.toNat - 192) j : Nat))), (9, .d (.int .i64 ((j : Int) + 1)))], [], []⟩)
     (fun j => j ≤ 1 ∧ ∀ k, 1 ≤ k → k ≤ j → contB (s.drop i) k) (fun j => 1 - j) 0 ?_ ?_ ?_
    ·refine weak_mk ?_ trivial
     simp (maxSteps := 2000000) only [go_sem, ↓reduceIte, Sub, Int.natCast_add, Int.natCast_mul, e0]
    ·exact ⟨by omega, fun k h1 h2 => by omega⟩
    ·rintro j ⟨hj, hcj⟩
     have hcum := cum_le (l := s.drop i) (n := 1) q2 j (by omega)
     have zj : (((j : Int) + 1 ≤ 1)) = (j < 1) := propext (by omega)
     simp (maxSteps := 2000000) (disch := omega) only [go_sem, ↓reduceIte, zj]
     refine ⟨fun hj1 => ?_, fun hj1 => ?_⟩
     ·obtain ⟨d, hd⟩ := get_some (l := s) (i := i + (j + 1)) (by omega)
      have hd8 := u8_lt d
      have hgd : getI s ((i : Int) + ((j : Int) + 1)) = some d := by rw [← hd, ← getI_nat]; congr 1
      have hgd' : (s.drop i).getD (j + 1) 0 = d := by rw [List.getD_eq_getElem?_getD, List.getElem?_drop]; simp [hd]
      have hbad : ¬ (128 ≤ d.toNat ∧ d.toNat ≤ 191) → bad (s.drop i) = true := fun h => lead_cont (by omega) hlead (j := j + 1) (by omega) (by omega) (by unfold contB; rw [hgd']; exact h)
      have hnext : 128 ≤ d.toNat → ((cumR (s.drop i) (c.toNat - 192) (j + 1) : Nat) : Int) = 64 * (cumR (s.drop i) (c.toNat - 192) j : Nat) + d.toNat - 128 := fun h => by simp only [cumR, hgd']; omega
      simp (maxSteps := 2000000) (disch := omega) only [go_sem, ↓reduceIte, hgd]
      refine ⟨fun h1 => ⟨fun h2 => bad' (hbad (by omega)), fun h2 => ⟨j + 1, ?_, ⟨by omega, fun k k1 k2 => ?_⟩, by omega⟩⟩, fun h1 => bad' (hbad (by omega))⟩
      ·have hn := hnext (by omega)
       refine weak_mk ?_ trivial
       simp (maxSteps := 2000000) only [go_sem, ↓reduceIte, Sub, Int.natCast_add, Int.natCast_mul, hn]
      ·by_cases hk : k = j + 1
       ·subst hk; unfold contB; rw [hgd']; omega
       ·exact hcj k k1 (by omega)
     ·have hjN : j = 1 := by omega
      subst hjN
      have hfin := lead_fin hlead (by omega) (fun k k1 k2 => hcj k k1 k2)
      generalize cumR (s.drop i) (c.toNat - 192) 1 = R at *
      clear e0
      simp (maxSteps := 2000000) (disch := omega) only [go_sem, ↓reduceIte]
      have eN : ((i + 2 : Nat) : Int) = (i : Int) + 1 + 1 := by omega
      have zz : natsU acc ++ [D.int .i64 (R : Int)] = natsU (acc ++ [R]) := by rw [natsU_append]; rfl
      rcases hfin with ⟨hx, hb⟩ | ⟨hx, hb, hdec⟩
      ·repeat' (first | intro _ | apply And.intro)
       all_goals first | exact bad' hb | (exfalso; omega)
      ·rw [hb, if_neg (by decide), hdec] at hF
       simp only at hF
       have hF2 : (runesM (s.drop (i + 2))).map ((acc ++ [R]) ++ ·) = runesM s := by
        rw [List.drop_drop] at hF
        rw [← hF]
        cases runesM (s.drop (i + 2)) <;> simp
       repeat' (first | intro _ | apply And.intro)
       all_goals first | (exfalso; omega) | omega | skip
       all_goals refine ⟨(i + 2, acc ++ [R]), ?_, ⟨by simp only; omega, by simp only [List.length_append, List.length_cons, List.length_nil]; omega, hF2⟩, by simp only; omega⟩
       all_goals (refine weak_mk ?_ trivial; simp (maxSteps := 2000000) only [go_sem, ↓reduceIte, Sub, Int.natCast_add, Int.natCast_mul, zz, eN])
   by_cases b2 : 224 ≤ c.toNat ∧ c.toNat < 240
   ·have z0 : ((c.toNat : Int) < 128) = False := eq_false (by omega)
    have z1 : (194 ≤ (c.toNat : Int)) = True := eq_true (by omega)
    have z2 : ((c.toNat : Int) < 224) = False := eq_false (by omega)
    have z3 : (224 ≤ (c.toNat : Int)) = True := eq_true (by omega)
    have z4 : ((c.toNat : Int) < 240) = True := eq_true (by omega)
    have hlead : leadR ((s.drop i).getD 0 0).toNat 2 (c.toNat - 224) := by rw [hg0]; unfold leadR; omega
    obtain ⟨q1, q2⟩ := lead_le hlead
    have e0 : ((cumR (s.drop i) (c.toNat - 224) 0 : Nat) : Int) = (c.toNat : Int) - 224 := by unfold cumR; omega
    simp (maxSteps := 2000000) (disch := omega) only [go_sem, ↓reduceIte, getI_nat, hc, z0, z1, z2, z3, z4]
    refine ⟨fun h => bad' (lead_short (by omega) hlead (by omega)), fun h => ?_⟩
    refine run_loop (fun j : Nat => ⟨[(0, .d (.str s)), (4, .own (.t 4) 3 1 (natsU acc)), (5, .d (.int .i64 i)), (7, .d (.int .i64 2)), (8, .d (.int .i64 (cumR (s.drop i) (c.toNat - 224) j : Nat))), (9, .d (.int .i64 ((j : Int) + 1)))], [], []⟩)
     (fun j => j ≤ 2 ∧ ∀ k, 1 ≤ k → k ≤ j → contB (s.drop i) k) (fun j => 2 - j) 0 ?_ ?_ ?_
    ·refine weak_mk ?_ trivial
     simp (maxSteps := 2000000) only [go_sem, ↓reduceIte, Sub, Int.natCast_add, Int.natCast_mul, e0]
    ·exact ⟨by omega, fun k h1 h2 => by omega⟩
    ·rintro j ⟨hj, hcj⟩
     have hcum := cum_le (l := s.drop i) (n := 2) q2 j (by omega)
     have zj : (((j : Int) + 1 ≤ 2)) = (j < 2) := propext (by omega)
     simp (maxSteps := 2000000) (disch := omega) only [go_sem, ↓reduceIte, zj]
     refine ⟨fun hj1 => ?_, fun hj1 => ?_⟩
     ·obtain ⟨d, hd⟩ := get_some (l := s) (i := i + (j + 1)) (by omega)
      have hd8 := u8_lt d
      have hgd : getI s ((i : Int) + ((j : Int) + 1)) = some d := by rw [← hd, ← getI_nat]; congr 1
      have hgd' : (s.drop i).getD (j + 1) 0 = d := by rw [List.getD_eq_getElem?_getD, List.getElem?_drop]; simp [hd]
      have hbad : ¬ (128 ≤ d.toNat ∧ d.toNat ≤ 191) → bad (s.drop i) = true := fun h => lead_cont (by omega) hlead (j := j + 1) (by omega) (by omega) (by unfold contB; rw [hgd']; exact h)
      have hnext : 128 ≤ d.toNat → ((cumR (s.drop i) (c.toNat - 224) (j + 1) : Nat) : Int) = 64 * (cumR (s.drop i) (c.toNat - 224) j : Nat) + d.toNat - 128 := fun h => by simp only [cumR, hgd']; omega
      simp (maxSteps := 2000000) (disch := omega) only [go_sem, ↓reduceIte, hgd]
      refine ⟨fun h1 => ⟨fun h2 => bad' (hbad (by omega)), fun h2 => ⟨j + 1, ?_, ⟨by omega, fun k k1 k2 => ?_⟩, by omega⟩⟩, fun h1 => bad' (hbad (by omega))⟩
      ·have hn := hnext (by omega)
       refine weak_mk ?_ trivial
       simp (maxSteps := 2000000) only [go_sem, ↓reduceIte, Sub, Int.natCast_add, Int.natCast_mul, hn]
      ·by_cases hk : k = j + 1
       ·subst hk; unfold contB; rw [hgd']; omega
       ·exact hcj k k1 (by omega)
     ·have hjN : j = 2 := by omega
      subst hjN
      have hfin := lead_fin hlead (by omega) (fun k k1 k2 => hcj k k1 k2)
      generalize cumR (s.drop i) (c.toNat - 224) 2 = R at *
      clear e0
      simp (maxSteps := 2000000) (disch := omega) only [go_sem, ↓reduceIte]
      have eN : ((i + 3 : Nat) : Int) = (i : Int) + 2 + 1 := by omega
      have zz : natsU acc ++ [D.int .i64 (R : Int)] = natsU (acc ++ [R]) := by rw [natsU_append]; rfl
      rcases hfin with ⟨hx, hb⟩ | ⟨hx, hb, hdec⟩
      ·repeat' (first | intro _ | apply And.intro)
       all_goals first | exact bad' hb | (exfalso; omega)
      ·rw [hb, if_neg (by decide), hdec] at hF
       simp only at hF
       have hF2 : (runesM (s.drop (i + 3))).map ((acc ++ [R]) ++ ·) = runesM s := by
        rw [List.drop_drop] at hF
        rw [← hF]
        cases runesM (s.drop (i + 3)) <;> simp
       repeat' (first | intro _ | apply And.intro)
       all_goals first | (exfalso; omega) | omega | skip
       all_goals refine ⟨(i + 3, acc ++ [R]), ?_, ⟨by simp only; omega, by simp only [List.length_append, List.length_cons, List.length_nil]; omega, hF2⟩, by simp only; omega⟩
       all_goals (refine weak_mk ?_ trivial; simp (maxSteps := 2000000) only [go_sem, ↓reduceIte, Sub, Int.natCast_add, Int.natCast_mul, zz, eN])
   by_cases b3 : 240 ≤ c.toNat ∧ c.toNat < 245
   ·have z0 : ((c.toNat : Int) < 128) = False := eq_false (by omega)
    have z1 : (194 ≤ (c.toNat : Int)) = True := eq_true (by omega)
    have z2 : ((c.toNat : Int) < 224) = False := eq_false (by omega)
    have z3 : (224 ≤ (c.toNat : Int)) = True := eq_true (by omega)
    have z4 : ((c.toNat : Int) < 240) = False := eq_false (by omega)
    have z5 : (240 ≤ (c.toNat : Int)) = True := eq_true (by omega)
    have z6 : ((c.toNat : Int) < 245) = True := eq_true (by omega)
    have hlead : leadR ((s.drop i).getD 0 0).toNat 3 (c.toNat - 240) := by rw [hg0]; unfold leadR; omega
    obtain ⟨q1, q2⟩ := lead_le hlead
    have e0 : ((cumR (s.drop i) (c.toNat - 240) 0 : Nat) : Int) = (c.toNat : Int) - 240 := by unfold cumR; omega
    simp (maxSteps := 2000000) (disch := omega) only [go_sem, ↓reduceIte, getI_nat, hc, z0, z1, z2, z3, z4, z5, z6]
    refine ⟨fun h => bad' (lead_short (by omega) hlead (by omega)), fun h => ?_⟩
    refine run_loop (fun j : Nat => ⟨[(0, .d (.str s)), (4, .own (.t 4) 3 1 (natsU acc)), (5, .d (.int .i64 i)), (7, .d (.int .i64 3)), (8, .d (.int .i64 (cumR (s.drop i) (c.toNat - 240) j : Nat))), (9, .d (.int .i64 ((j : Int) + 1)))], [], []⟩)
     (fun j => j ≤ 3 ∧ ∀ k, 1 ≤ k → k ≤ j → contB (s.drop i) k) (fun j => 3 - j) 0 ?_ ?_ ?_
    ·refine weak_mk ?_ trivial
     simp (maxSteps := 2000000) only [go_sem, ↓reduceIte, Sub, Int.natCast_add, Int.natCast_mul, e0]
    ·exact ⟨by omega, fun k h1 h2 => by omega⟩
    ·rintro j ⟨hj, hcj⟩
     have hcum := cum_le (l := s.drop i) (n := 3) q2 j (by omega)
     have zj : (((j : Int) + 1 ≤ 3)) = (j < 3) := propext (by omega)
     simp (maxSteps := 2000000) (disch := omega) only [go_sem, ↓reduceIte, zj]
     refine ⟨fun hj1 => ?_, fun hj1 => ?_⟩
     ·obtain ⟨d, hd⟩ := get_some (l := s) (i := i + (j + 1)) (by omega)
      have hd8 := u8_lt d
      have hgd : getI s ((i : Int) + ((j : Int) + 1)) = some d := by rw [← hd, ← getI_nat]; congr 1
      have hgd' : (s.drop i).getD (j + 1) 0 = d := by rw [List.getD_eq_getElem?_getD, List.getElem?_drop]; simp [hd]
      have hbad : ¬ (128 ≤ d.toNat ∧ d.toNat ≤ 191) → bad (s.drop i) = true := fun h => lead_cont (by omega) hlead (j := j + 1) (by omega) (by omega) (by unfold contB; rw [hgd']; exact h)
      have hnext : 128 ≤ d.toNat → ((cumR (s.drop i) (c.toNat - 240) (j + 1) : Nat) : Int) = 64 * (cumR (s.drop i) (c.toNat - 240) j : Nat) + d.toNat - 128 := fun h => by simp only [cumR, hgd']; omega
      simp (maxSteps := 2000000) (disch := omega) only [go_sem, ↓reduceIte, hgd]
      refine ⟨fun h1 => ⟨fun h2 => bad' (hbad (by omega)), fun h2 => ⟨j + 1, ?_, ⟨by omega, fun k k1 k2 => ?_⟩, by omega⟩⟩, fun h1 => bad' (hbad (by omega))⟩
      ·have hn := hnext (by omega)
       refine weak_mk ?_ trivial
       simp (maxSteps := 2000000) only [go_sem, ↓reduceIte, Sub, Int.natCast_add, Int.natCast_mul, hn]
      ·by_cases hk : k = j + 1
       ·subst hk; unfold contB; rw [hgd']; omega
       ·exact hcj k k1 (by omega)
     ·have hjN : j = 3 := by omega
      subst hjN
      have hfin := lead_fin hlead (by omega) (fun k k1 k2 => hcj k k1 k2)
      generalize cumR (s.drop i) (c.toNat - 240) 3 = R at *
      clear e0
      simp (maxSteps := 2000000) (disch := omega) only [go_sem, ↓reduceIte]
      have eN : ((i + 4 : Nat) : Int) = (i : Int) + 3 + 1 := by omega
      have zz : natsU acc ++ [D.int .i64 (R : Int)] = natsU (acc ++ [R]) := by rw [natsU_append]; rfl
      rcases hfin with ⟨hx, hb⟩ | ⟨hx, hb, hdec⟩
      ·repeat' (first | intro _ | apply And.intro)
       all_goals first | exact bad' hb | (exfalso; omega)
      ·rw [hb, if_neg (by decide), hdec] at hF
       simp only at hF
       have hF2 : (runesM (s.drop (i + 4))).map ((acc ++ [R]) ++ ·) = runesM s := by
        rw [List.drop_drop] at hF
        rw [← hF]
        cases runesM (s.drop (i + 4)) <;> simp
       repeat' (first | intro _ | apply And.intro)
       all_goals first | (exfalso; omega) | omega | skip
       all_goals refine ⟨(i + 4, acc ++ [R]), ?_, ⟨by simp only; omega, by simp only [List.length_append, List.length_cons, List.length_nil]; omega, hF2⟩, by simp only; omega⟩
       all_goals (refine weak_mk ?_ trivial; simp (maxSteps := 2000000) only [go_sem, ↓reduceIte, Sub, Int.natCast_add, Int.natCast_mul, zz, eN])
   have hnone : bad (s.drop i) = true := lead_none (by omega) (by rw [hg0]; intro n r0 h; unfold leadR at h; omega)
   have z0 : ((c.toNat : Int) < 128) = False := eq_false (by omega)
   simp (maxSteps := 2000000) (disch := omega) only [go_sem, ↓reduceIte, getI_nat, hc, z0]
   repeat' (first | intro _ | apply And.intro)
   all_goals first | exact bad' hnone | (exfalso; omega)
  ·have : s.drop i = [] := List.drop_eq_nil_of_le (by omega)
   rw [this, runesM_nil] at hF
   rw [← hF]
   simp (maxSteps := 2000000) only [go_sem, ↓reduceIte]
   simp [runesRes]
end Go.Av.Tryd
set_option linter.unusedSimpArgs false
set_option maxRecDepth 100000
namespace Go.Av.Tryd
open Go.Proofs
theorem encM_append (a b : List Nat) : encM (a ++ b) = encM a ++ encM b := by simp [encM]
theorem encM_len : ∀ {l : List Nat}, (∀ r ∈ l, vrune r) → (encM l).length ≤ 4 * l.length
 | [], _ => by simp [encM]
 | r :: l, h => by
  have h1 := enc_len (h r (by simp))
  have ih := encM_len fun x hx => h x (List.mem_cons_of_mem _ hx)
  have : encM (r :: l) = enc r ++ encM l := rfl
  rw [this, List.length_append, List.length_cons]; omega
def L_foliowrightref_Signs : LCode :=
 .seq (.reg [Qx 2 (.k (.d (.str [])))]) (.seq (.reg [⟨some 3, .nils 5 1, none⟩]) (.seq (.seq (.reg [Qx 4 (Ki 0)]) (.block 0 (.loop (.seq (.seq (.reg [Qc 6 4, Qc 7 0, Q 8 (.len false 
 (.t 7)), Q 9 (.bin .lss (.t 6) (.t 8))]) (.cond (.t 9) .skip (.exit 0))) (.seq (.block 1 (.seq (.reg [Qc 12 0, Qc 13 4, Q 14 (.ia 1 (.t 12) (.t 13)), Q 15 (.ld false 1 (.t 14)), 
 Qa 5 15]) (.block 2 (.seq (.reg [Qc 38 5, Q 39 (.bin .lss (.t 38) (Ki 128)), Qa 37 39]) (.cond (.t 37) (.reg [Qc 40 3, Qc 41 5, Q 42 (.cvI .u8 (.t 41)), ⟨some 43, .bsl 5 1 [.t 
 42], none⟩, ⟨some 44, .app 5 1 1 false (.t 40) (.t 43), none⟩, Qa 3 44]) (.seq (.reg [Qc 46 5, Q 47 (.bin .lss (.t 46) (Ki 2048)), Qa 45 47]) (.cond (.t 45) (.reg [Qc 48 3, Qc 49 
 5, Q 50 (.bin .quo (.t 49) (Ki 64)), Q 51 (.bin .add (Ki 192) (.t 50)), Q 52 (.cvI .u8 (.t 51)), Qc 53 5, Q 54 (.bin .rem (.t 53) (Ki 64)), Q 55 (.bin .add (Ki 128) (.t 54)), Q 
 56 (.cvI .u8 (.t 55)), ⟨some 57, .bsl 5 1 [.t 52, .t 56], none⟩, ⟨some 58, .app 5 1 1 false (.t 48) (.t 57), none⟩, Qa 3 58]) (.seq (.reg [Qc 60 5, Q 61 (.bin .lss (.t 60) (Ki 
 65536)), Qa 59 61]) (.cond (.t 59) (.reg [Qc 62 3, Qc 63 5, Q 64 (.bin .quo (.t 63) (Ki 4096)), Q 65 (.bin .add (Ki 224) (.t 64)), Q 66 (.cvI .u8 (.t 65)), Qc 67 5, Q 68 (.bin 
 .quo (.t 67) (Ki 64)), Q 69 (.bin .rem (.t 68) (Ki 64)), Q 70 (.bin .add (Ki 128) (.t 69)), Q 71 (.cvI .u8 (.t 70)), Qc 72 5, Q 73 (.bin .rem (.t 72) (Ki 64)), Q 74 (.bin .add 
 (Ki 128) (.t 73)), Q 75 (.cvI .u8 (.t 74)), ⟨some 76, .bsl 5 1 [.t 66, .t 71, .t 75], none⟩, ⟨some 77, .app 5 1 1 false (.t 62) (.t 76), none⟩, Qa 3 77]) (.reg [Qc 16 3, Qc 17 5, 
 Q 18 (.bin .quo (.t 17) (Ki 262144)), Q 19 (.bin .add (Ki 240) (.t 18)), Q 20 (.cvI .u8 (.t 19)), Qc 21 5, Q 22 (.bin .quo (.t 21) (Ki 4096)), Q 23 (.bin .rem (.t 22) (Ki 64)), Q 
 24 (.bin .add (Ki 128) (.t 23)), Q 25 (.cvI .u8 (.t 24)), Qc 26 5, Q 27 (.bin .quo (.t 26) (Ki 64)), Q 28 (.bin .rem (.t 27) (Ki 64)), Q 29 (.bin .add (Ki 128) (.t 28)), Q 30 
 (.cvI .u8 (.t 29)), Qc 31 5, Q 32 (.bin .rem (.t 31) (Ki 64)), Q 33 (.bin .add (Ki 128) (.t 32)), Q 34 (.cvI .u8 (.t 33)), ⟨some 35, .bsl 5 1 [.t 20, .t 25, .t 30, .t 34], none⟩, 
 ⟨some 36, .app 5 1 1 false (.t 16) (.t 35), none⟩, Qa 3 36])))))))))) (.reg [Qc 10 4, Q 11 (.bin .add (.t 10) (Ki 1)), Qa 4 11])))))) (.seq (.reg [Qc 78 3, Q 79 (.b2s (.t 78)), 
 Qa 2 79]) .ret)))
def R_foliowrightref_Signs : List LRes := [.tmp 2]
theorem lift_foliowrightref_Signs : Lifts Tryd.prog 30 80 L_foliowrightref_Signs R_foliowrightref_Signs := ⟨_, _, Tryd.func30, rfl, by kernel_rfl, by kernel_rfl, rfl⟩
theorem signsR_call (l : List Nat) (hv : ∀ r ∈ l, vrune r) (hl : l.length ≤ 100000000) : PCall Tryd.prog 30 [.list (natsU l)] (fun r => r = .one (.str (encM l))) := by
 have hI : ((natsU l).length : Int) = (l.length : Int) := by rw [natsU_length]
 refine lift_foliowrightref_Signs.call rfl ?_
 simp (maxSteps := 2000000) only [go_sem, ↓reduceIte, L_foliowrightref_Signs, R_foliowrightref_Signs, hI]
 refine run_loop (fun i : Nat => ⟨[(0, .d (.list (natsU l))), (3, .own (.t 3) 5 1 (bytesD (encM (l.take i)))), (4, .d (.int .i64 i))], [], []⟩)
  (fun i => i ≤ l.length) (fun i => l.length - i) 0 ?_ ?_ ?_
 ·refine weak_mk ?_ trivial
  simp (maxSteps := 2000000) only [go_sem, ↓reduceIte, Sub, Int.natCast_add, Int.natCast_mul, bytesD, encM, List.flatMap_nil]
 ·omega
 ·intro i hi
  simp (maxSteps := 2000000) only [go_sem, ↓reduceIte, hI]
  refine ⟨fun hlt => ?_, fun hge => ?_⟩
  ·obtain ⟨r, hr⟩ := get_some (l := l) (i := i) (by omega)
   have hvr := hv r (List.mem_of_getElem? hr)
   have hvr' := hvr
   unfold vrune at hvr'
   have htake : l.take (i + 1) = l.take i ++ [r] := by rw [List.take_add_one, hr]; rfl
   have hle := encM_len (l := l.take i) fun x hx => hv x (List.mem_of_mem_take hx)
   have hti : (l.take i).length = i := by rw [List.length_take]; omega
   have hbl := bytesD_length (encM (l.take i))
   have hnext : bytesD (encM (l.take i)) ++ bytesD (enc r) = bytesD (encM (l.take (i + 1))) := by rw [htake, encM_append, bytesD_append]; simp [encM]
   have q1 : Int.tdiv (r : Int) 64 = ((r / 64 : Nat) : Int) := rfl
   have q2 : Int.tmod (r : Int) 64 = ((r % 64 : Nat) : Int) := rfl
   have q3 : Int.tdiv (r : Int) 4096 = ((r / 4096 : Nat) : Int) := rfl
   have q4 : Int.tdiv (r : Int) 262144 = ((r / 262144 : Nat) : Int) := rfl
   have q5 : Int.tmod ((r / 64 : Nat) : Int) 64 = ((r / 64 % 64 : Nat) : Int) := rfl
   have q6 : Int.tmod ((r / 4096 : Nat) : Int) 64 = ((r / 4096 % 64 : Nat) : Int) := rfl
   rcases enc_cases hvr with ⟨a, e⟩ | ⟨a, b, e⟩ | ⟨a, b, e⟩ | ⟨a, b, e⟩
   ·rw [e] at hnext
    have z0 : ((r : Int) < 128) = True := eq_true (by omega)
    have hz : bytesD (encM (l.take i)) ++ [.int .u8 ((r : Int))] = bytesD (encM (l.take (i + 1))) := by
     rw [← hnext]
     congr 1
     simp only [bytesD, List.map_cons, List.map_nil, ofNat_toNat (show r < 256 by omega), Int.natCast_add, Int.cast_ofNat_Int]
    simp (maxSteps := 2000000) (disch := omega) only [go_sem, ↓reduceIte, hI, getI_nat, natsU_get, hr, q1, q2, q3, q4, q5, q6, z0]
    refine ⟨by omega, i + 1, ?_, by omega, by omega⟩
    refine weak_mk ?_ trivial
    simp (maxSteps := 2000000) only [go_sem, ↓reduceIte, Sub, Int.natCast_add, Int.natCast_mul, hz]
   ·rw [e] at hnext
    have z0 : ((r : Int) < 128) = False := eq_false (by omega)
    have z1 : ((r : Int) < 2048) = True := eq_true (by omega)
    have hz : bytesD (encM (l.take i)) ++ [.int .u8 (192 + ((r / 64 : Nat) : Int)), .int .u8 (128 + ((r % 64 : Nat) : Int))] = bytesD (encM (l.take (i + 1))) := by
     rw [← hnext]
     congr 1
     simp only [bytesD, List.map_cons, List.map_nil, ofNat_toNat (show 192 + r / 64 < 256 by omega), ofNat_toNat (show 128 + r % 64 < 256 by omega), Int.natCast_add, Int.cast_ofNat_Int]
    simp (maxSteps := 2000000) (disch := omega) only [go_sem, ↓reduceIte, hI, getI_nat, natsU_get, hr, q1, q2, q3, q4, q5, q6, z0, z1]
    refine ⟨by omega, i + 1, ?_, by omega, by omega⟩
    refine weak_mk ?_ trivial
    simp (maxSteps := 2000000) only [go_sem, ↓reduceIte, Sub, Int.natCast_add, Int.natCast_mul, hz]
   ·rw [e] at hnext
    have z0 : ((r : Int) < 128) = False := eq_false (by omega)
    have z1 : ((r : Int) < 2048) = False := eq_false (by omega)
    have z2 : ((r : Int) < 65536) = True := eq_true (by omega)
    have hz : bytesD (encM (l.take i)) ++ [.int .u8 (224 + ((r / 4096 : Nat) : Int)), .int .u8 (128 + ((r / 64 % 64 : Nat) : Int)), .int .u8 (128 + ((r % 64 : Nat) : Int))] = bytesD (encM (l.take (i + 1))) := by
     rw [← hnext]
     congr 1
     simp only [bytesD, List.map_cons, List.map_nil, ofNat_toNat (show 224 + r / 4096 < 256 by omega), ofNat_toNat (show 128 + r / 64 % 64 < 256 by omega), ofNat_toNat (show 128 + r % 64 < 256 by omega), Int.natCast_add, Int.cast_ofNat_Int]
    simp (maxSteps := 2000000) (disch := omega) only [go_sem, ↓reduceIte, hI, getI_nat, natsU_get, hr, q1, q2, q3, q4, q5, q6, z0, z1, z2]
    refine ⟨by omega, i + 1, ?_, by omega, by omega⟩
    refine weak_mk ?_ trivial
    simp (maxSteps := 2000000) only [go_sem, ↓reduceIte, Sub, Int.natCast_add, Int.natCast_mul, hz]
   ·rw [e] at hnext
    have z0 : ((r : Int) < 128) = False := eq_false (by omega)
    have z1 : ((r : Int) < 2048) = False := eq_false (by omega)
    have z2 : ((r : Int) < 65536) = False := eq_false (by omega)
    have hz : bytesD (encM (l.take i)) ++ [.int .u8 (240 + ((r / 262144 : Nat) : Int)), .int .u8 (128 + ((r / 4096 % 64 : Nat) : Int)), .int .u8 (128 + ((r / 64 % 64 : Nat) : Int)), .int .u8 (128 + ((r % 64 : Nat) : Int))] = bytesD (encM (l.take (i + 1))) := by
     rw [← hnext]
     congr 1
     simp only [bytesD, List.map_cons, List.map_nil, ofNat_toNat (show 240 + r / 262144 < 256 by omega), ofNat_toNat (show 128 + r / 4096 % 64 < 256 by omega), ofNat_toNat (show 128 + r / 64 % 64 < 256 by omega), ofNat_toNat (show 128 + r % 64 < 256 by omega), Int.natCast_add, Int.cast_ofNat_Int]
    simp (maxSteps := 2000000) (disch := omega) only [go_sem, ↓reduceIte, hI, getI_nat, natsU_get, hr, q1, q2, q3, q4, q5, q6, z0, z1, z2]
    refine ⟨by omega, i + 1, ?_, by omega, by omega⟩
    refine weak_mk ?_ trivial
    simp (maxSteps := 2000000) only [go_sem, ↓reduceIte, Sub, Int.natCast_add, Int.natCast_mul, hz]
  ·have : i = l.length := by omega
   subst this
   simp (maxSteps := 2000000) only [go_sem, ↓reduceIte, bytesOf_bytesD, List.take_length]
end Go.Av.Tryd
set_option linter.unusedSimpArgs false
set_option maxRecDepth 100000
namespace Go.Av.Tryd
open Go.Proofs
def onM (s : List UInt8) (n : Nat) : Option (List UInt8) :=
 match runesM s with
 | none => none
 | some rs => if rs = [] then none else
  if 1114111 < rs.getLastD 0 + n ∨ (55295 < rs.getLastD 0 + n ∧ rs.getLastD 0 + n < 57344) ∨ (rs.getLastD 0 ≤ 55295 ∧ 57344 ≤ rs.getLastD 0 + n) then none
  else some (encM (rs.dropLast ++ [rs.getLastD 0 + n]))
def onRes (o : Option (List UInt8)) : Res := match o with
 | some t => .tup [.str t, .bool true]
 | none => .tup [.str [], .bool false]
theorem last_get {rs : List Nat} (h : rs ≠ []) : rs[rs.length - 1]? = some (rs.getLastD 0) := by
 rw [List.getLastD_eq_getLast?, List.getLast?_eq_getElem?]
 have : rs.length - 1 < rs.length := by have := List.length_pos_iff.2 h; omega
 rw [List.getElem?_eq_getElem this]; rfl
theorem set_last {rs : List Nat} (h : rs ≠ []) (x : Nat) : rs.set (rs.length - 1) x = rs.dropLast ++ [x] := by
 obtain ⟨a, b, rfl⟩ : ∃ a b, rs = a ++ [b] := ⟨rs.dropLast, rs.getLast h, (List.dropLast_concat_getLast h).symm⟩
 rw [List.dropLast_concat, List.length_append, List.set_append_right _ _ (by simp)]
 simp
theorem natsU_set (l : List Nat) (i x : Nat) : (natsU l).set i (.int .i64 x) = natsU (l.set i x) := by simp [natsU, List.map_set]
theorem natsU_one (l : List Nat) : ∀ y ∈ natsU l, y.cells = [y] := fun y hy => by
 simp only [natsU, List.mem_map] at hy
 obtain ⟨n, _, rfl⟩ := hy; rfl
theorem intRow : liftSl Tryd.prog 64 = some (3, 1, 8) := by kernel_rfl
theorem intZero : zeroOne Tryd.prog 3 = true := by kernel_rfl
theorem intSl : isSl Tryd.prog 64 = true := by kernel_rfl
def L_foliowrightref_on : LCode :=
 .seq (.reg [Qx 4 (.k (.d (.str []))), Qx 5 KF]) (.seq (.reg [Qc 12 0, ⟨some 13, .call 46 [.t 12], none⟩, Qc 11 13, Q 14 (.ext 0 (.t 11)), Q 15 (.ext 1 (.t 11)), Qa 6 14, Qa 7 15]) 
 (.seq (.seq (.reg [Qc 16 7, Q 17 (.not (.t 16)), Qc 18 17, Qd 19 6 18 false, Qg 20 (.len false (.t 19)) 18 false, Qg 21 (.bin .eql (.t 20) (Ki 0)) 18 false, Q 22 (.pick (.t 18) 
 KT (.t 21))]) (.cond (.t 22) (.seq (.reg [Qx 4 (.k (.d (.str []))), Qx 5 KF]) .ret) .skip)) (.seq (.reg [Qc 23 6, Qc 24 6, Q 25 (.len false (.t 24)), Q 26 (.bin .sub (.t 25) (Ki 
 1)), Q 27 (.ia 1 (.t 23) (.t 26)), Q 28 (.ld false 1 (.t 27)), Qa 8 28]) (.seq (.reg [Qc 29 8, Qc 30 1, Q 31 (.bin .add (.t 29) (.t 30)), Qa 9 31]) (.seq (.seq (.reg [Qc 32 9, Q 
 33 (.bin .gtr (.t 32) (Ki 1114111)), Qc 34 33, Qd 35 9 34 false, Qg 36 (.bin .gtr (.t 35) (Ki 55295)) 34 false, Qd 37 36 34 false, Qd 38 9 37 true, Qg 39 (.bin .lss (.t 38) (Ki 
 57344)) 37 true, Qg 40 (.pick (.t 37) (.t 39) KF) 34 false, Q 41 (.pick (.t 34) KT (.t 40)), Qc 42 41, Qd 43 8 42 false, Qg 44 (.bin .leq (.t 43) (Ki 55295)) 42 false, Qd 45 44 
 42 false, Qd 46 9 45 true, Qg 47 (.bin .geq (.t 46) (Ki 57344)) 45 true, Qg 48 (.pick (.t 45) (.t 47) KF) 42 false, Q 49 (.pick (.t 42) KT (.t 48))]) (.cond (.t 49) (.seq (.reg 
 [Qx 4 (.k (.d (.str []))), Qx 5 KF]) .ret) .skip)) (.seq (.reg [Qc 50 6, ⟨some 51, .prim (.bi .append [64, 64]) [.k (.d (.list [])), .t 50] [], none⟩, Qa 10 51]) (.seq (.reg [Qc 
 52 10, Qc 53 10, Q 54 (.len false (.t 53)), Q 55 (.bin .sub (.t 54) (Ki 1)), Qc 56 9, Q 57 (.ia 1 (.t 52) (.t 55)), ⟨none, .st 1 (.t 57) (.t 56), none⟩]) (.seq (.reg [Qc 58 10, 
 ⟨some 59, .call 30 [.t 58], none⟩, Qa 4 59, Qx 5 KT]) .ret))))))))
def R_foliowrightref_on : List LRes := [.tmp 4, .tmp 5]
theorem lift_foliowrightref_on : Lifts Tryd.prog 47 60 L_foliowrightref_on R_foliowrightref_on := ⟨_, _, Tryd.func47, rfl, by kernel_rfl, by kernel_rfl, rfl⟩
theorem onR_call (s : List UInt8) (n : Nat) (hs : s.length ≤ 1000000) (hn : n ≤ 1000000) : PCall Tryd.prog 47 [.str s, .int .i64 n] (fun r => r = onRes (onM s n)) := by
 refine lift_foliowrightref_on.call rfl ?_
 simp (maxSteps := 2000000) only [go_sem, ↓reduceIte, L_foliowrightref_on, R_foliowrightref_on]
 refine CallG.of (runes_call s (by omega)) ?_
 unfold onM
 cases hrs : runesM s with
 | none =>
  simp only [runesRes]
  simp (maxSteps := 2000000) only [go_sem, ↓reduceIte]
  simp [onRes]
 | some rs =>
  obtain ⟨e1, e2⟩ := runesM_enc s.length (Nat.le_refl _) hrs
  have hI : ((natsU rs).length : Int) = (rs.length : Int) := by rw [natsU_length]
  simp only [runesRes]
  by_cases h0 : rs = []
  ·subst h0
   simp (maxSteps := 2000000) only [go_sem, ↓reduceIte, natsU]
   simp [onRes]
  ·have hpos := List.length_pos_iff.2 h0
   have hlast := last_get h0
   have hlv := e2 _ (List.mem_of_getElem? hlast)
   have hle : rs.length ≤ s.length := by
    rw [← e1]
    have : ∀ l : List Nat, (∀ r ∈ l, vrune r) → l.length ≤ (encM l).length := fun l => by
     induction l with
     | nil => intro _; simp
     | cons a l ih =>
      intro h
      have h1 := (enc_len (h a (by simp))).1
      have h2 := ih fun x hx => h x (List.mem_cons_of_mem _ hx)
      have h3 : encM (a :: l) = enc a ++ encM l := rfl
      rw [h3, List.length_append, List.length_cons]; omega
    exact this rs e2
   rw [if_neg h0]
   have hd := set_last h0 (rs.getLastD 0 + n)
   generalize rs.getLastD 0 = k at *
   unfold vrune at hlv
   have z0 : ((rs.length : Int) = 0) = False := eq_false (by omega)
   have g1 : getI (natsU rs) ((rs.length : Int) - 1) = some (.int .i64 k) := by
    rw [show ((rs.length : Int) - 1) = ((rs.length - 1 : Nat) : Int) by omega, getI_nat, natsU_get, hlast]; rfl
   by_cases hb : 1114111 < k + n ∨ (55295 < k + n ∧ k + n < 57344) ∨ (k ≤ 55295 ∧ 57344 ≤ k + n)
   ·rw [if_pos hb]
    by_cases hA : 1114111 < k + n
    ·have zA : (1114111 < (k : Int) + n) = True := eq_true (by omega)
     simp (maxSteps := 2000000) (disch := omega) only [go_sem, ↓reduceIte, hI, z0, g1, zA]
     simp [onRes]
    ·by_cases hB : 55295 < k + n ∧ k + n < 57344
     ·have zA : (1114111 < (k : Int) + n) = False := eq_false (by omega)
      have zB : (55295 < (k : Int) + n) = True := eq_true (by omega)
      have zC : ((k : Int) + n < 57344) = True := eq_true (by omega)
      simp (maxSteps := 2000000) (disch := omega) only [go_sem, ↓reduceIte, hI, z0, g1, zA, zB, zC]
      simp [onRes]
     ·have zA : (1114111 < (k : Int) + n) = False := eq_false (by omega)
      have zB : (55295 < (k : Int) + n) = True := eq_true (by omega)
      have zC : ((k : Int) + n < 57344) = False := eq_false (by omega)
      have zD : ((k : Int) ≤ 55295) = True := eq_true (by omega)
      have zE : (57344 ≤ (k : Int) + n) = True := eq_true (by omega)
      simp (maxSteps := 2000000) (disch := omega) only [go_sem, ↓reduceIte, hI, z0, g1, zA, zB, zC, zD, zE]
      simp [onRes]
   ·rw [if_neg hb]
    have zA : (1114111 < (k : Int) + n) = False := eq_false (by omega)
    have hnl : (rs.dropLast ++ [k + n]).length = rs.length := by rw [← hd, List.length_set]
    have hvn : ∀ r ∈ rs.dropLast ++ [k + n], vrune r := fun r hr => by
     rcases List.mem_append.1 hr with hr | hr
     ·exact e2 r ((List.dropLast_subset _ hr))
     ·simp at hr; subst hr; unfold vrune; omega
    by_cases hB : 55295 < k + n
    ·have zB : (55295 < (k : Int) + n) = True := eq_true (by omega)
     have zC : ((k : Int) + n < 57344) = False := eq_false (by omega)
     have zE : (57344 ≤ (k : Int) + n) = True := eq_true (by omega)
     have zD : ((k : Int) ≤ 55295) = False := eq_false (by omega)
     simp (maxSteps := 2000000) (disch := omega) only [go_sem, ↓reduceIte, hI, z0, g1, zA, zB, zC, zE, zD]
     refine PrimG.appRow (fs := []) (ys := natsU rs) (c := 0) intRow intZero intSl (.inl ⟨.inr rfl, rfl⟩) rfl (by intro h; exact h0 (List.length_eq_zero_iff.1 (by rw [← natsU_length, h]; rfl))) (fun y hy => by rw [natsU_one _ y hy]; rfl) (by simp) (by simp only [List.length_nil, natsU_length, maxLen]; omega) (fun c' h1 h2 => ?_)
     have hrl : (rowC 1 (natsU rs) c').length = c' := by rw [rowC_len (fun y hy => by rw [natsU_one _ y hy]; rfl) (by simpa using h1)]; omega
     have hcl : rs.length ≤ c' := by simpa [natsU_length] using h1
     have hset : (rowC 1 (natsU rs) c').set (rs.length - 1) (.d (.int .i64 ((k : Int) + n))) = rowC 1 (natsU (rs.dropLast ++ [k + n])) c' := by
      rw [← Int.natCast_add, rowC_put (natsU_one rs) (by rw [natsU_length]; omega) rfl, natsU_set, hd]
     have hto : ((rs.length : Int) - 1).toNat = rs.length - 1 := by omega
     simp (maxSteps := 2000000) (disch := omega) only [go_sem, ↓reduceIte, hI, natsU_length, hrl, hto, Nat.mul_one, hset]
     refine ⟨by omega, by omega, CallG.cstep (CStep.frozen (k := 51) (sz := 1) (c := c') (fs := natsU (rs.dropLast ++ [k + n])) (by rw [natsU_length, hnl]; rfl) rfl (fun y hy => by rw [natsU_one _ y hy]; rfl) (by rw [natsU_length, hnl]; exact hcl) (signsR_call _ hvn (by rw [hnl]; omega)) ?_)⟩
     simp (maxSteps := 2000000) only [go_sem, ↓reduceIte]
     simp [onRes]
    ·have zB : (55295 < (k : Int) + n) = False := eq_false (by omega)
     have zE : (57344 ≤ (k : Int) + n) = False := eq_false (by omega)
     by_cases hD : k ≤ 55295
     ·have zD : ((k : Int) ≤ 55295) = True := eq_true (by omega)
      simp (maxSteps := 2000000) (disch := omega) only [go_sem, ↓reduceIte, hI, z0, g1, zA, zB, zE, zD]
      refine PrimG.appRow (fs := []) (ys := natsU rs) (c := 0) intRow intZero intSl (.inl ⟨.inr rfl, rfl⟩) rfl (by intro h; exact h0 (List.length_eq_zero_iff.1 (by rw [← natsU_length, h]; rfl))) (fun y hy => by rw [natsU_one _ y hy]; rfl) (by simp) (by simp only [List.length_nil, natsU_length, maxLen]; omega) (fun c' h1 h2 => ?_)
      have hrl : (rowC 1 (natsU rs) c').length = c' := by rw [rowC_len (fun y hy => by rw [natsU_one _ y hy]; rfl) (by simpa using h1)]; omega
      have hcl : rs.length ≤ c' := by simpa [natsU_length] using h1
      have hset : (rowC 1 (natsU rs) c').set (rs.length - 1) (.d (.int .i64 ((k : Int) + n))) = rowC 1 (natsU (rs.dropLast ++ [k + n])) c' := by
       rw [← Int.natCast_add, rowC_put (natsU_one rs) (by rw [natsU_length]; omega) rfl, natsU_set, hd]
      have hto : ((rs.length : Int) - 1).toNat = rs.length - 1 := by omega
      simp (maxSteps := 2000000) (disch := omega) only [go_sem, ↓reduceIte, hI, natsU_length, hrl, hto, Nat.mul_one, hset]
      refine ⟨by omega, by omega, CallG.cstep (CStep.frozen (k := 51) (sz := 1) (c := c') (fs := natsU (rs.dropLast ++ [k + n])) (by rw [natsU_length, hnl]; rfl) rfl (fun y hy => by rw [natsU_one _ y hy]; rfl) (by rw [natsU_length, hnl]; exact hcl) (signsR_call _ hvn (by rw [hnl]; omega)) ?_)⟩
      simp (maxSteps := 2000000) only [go_sem, ↓reduceIte]
      simp [onRes]
     ·exfalso; omega
end Go.Av.Tryd
set_option linter.unusedSimpArgs false
set_option maxRecDepth 100000
namespace Go.Av.Tryd
open Go.Proofs
structure Span where
 fr : Int
 to : Int
 tx : List UInt8
def Span.d (x : Span) : D := .agg [.int .i64 x.fr, .int .i64 x.to, .str x.tx]
def spansD (l : List Span) : List D := l.map Span.d
theorem spansD_length (l : List Span) : (spansD l).length = l.length := by simp [spansD]
theorem spansD_get (l : List Span) (j : Nat) : (spansD l)[j]? = (l[j]?).map Span.d := by simp [spansD]
def Span.wf (x : Span) : Prop := -9223372036854775808 ≤ x.fr ∧ x.fr ≤ 9223372036854775807 ∧ -9223372036854775808 ≤ x.to ∧ x.to ≤ 9223372036854775807 ∧ x.tx.length ≤ 1000000
def spanFault (most : Int) (prev : Option Int) (x : Span) : Nat :=
 if x.fr < 0 ∨ most < x.to then 1
 else if x.to < x.fr ∨ (∃ p, prev = some p ∧ x.fr ≤ p) ∨ runesM x.tx = none ∨ x.tx = [] ∨ 40 < x.tx.length then 3
 else if onM x.tx (x.to - x.fr).toNat = none then 3 else 0
instance (prev : Option Int) (f : Int) : Decidable (∃ p, prev = some p ∧ f ≤ p) := match prev with
 | none => .isFalse (by rintro ⟨p, h, _⟩; cases h)
 | some p => if h : f ≤ p then .isTrue ⟨p, rfl, h⟩ else .isFalse (by rintro ⟨q, h1, h2⟩; cases h1; exact h h2)
def faultsF (most : Int) : Option Int → List Span → Nat
 | _, [] => 0
 | prev, x :: r => if spanFault most prev x = 0 then faultsF most (some x.to) r else spanFault most prev x
def mostM (wide : Bool) : Int := if wide = true then 65535 else 255
def faultM (l : List Span) (wide : Bool) : Nat := if 300 < l.length then 2 else faultsF (mostM wide) none l
def prevM (l : List Span) (i : Nat) : Option Int := if i = 0 then none else (l[i - 1]?).map Span.to
theorem onR_call' (s : List UInt8) (m : Int) (hs : s.length ≤ 1000000) (h0 : 0 ≤ m) (h1 : m ≤ 1000000) : PCall Tryd.prog 47 [.str s, .int .i64 m] (fun r => r = onRes (onM s m.toNat)) := by
 obtain ⟨n, rfl⟩ := Int.eq_ofNat_of_zero_le h0
 exact onR_call s n hs (by omega)
def L_foliowrightref_SpansFault : LCode :=
 .seq (.reg [Qx 4 (Ki 0)]) (.seq (.seq (.reg [Qc 12 0, Q 13 (.len false (.t 12)), Q 14 (.bin .gtr (.t 13) (Ki 300))]) (.cond (.t 14) (.seq (.reg [Qx 4 (Ki 2)]) .ret) .skip)) (.seq 
 (.reg [Qx 5 (Ki 255)]) (.seq (.seq (.reg [Qc 15 1]) (.cond (.t 15) (.reg [Qx 5 (Ki 65535)]) .skip)) (.seq (.seq (.reg [Qx 6 (Ki 0)]) (.block 0 (.loop (.seq (.seq (.reg [Qc 16 6, 
 Qc 17 0, Q 18 (.len false (.t 17)), Q 19 (.bin .lss (.t 16) (.t 18))]) (.cond (.t 19) .skip (.exit 0))) (.seq (.block 1 (.seq (.reg [Qc 22 0, Qc 23 6, Q 24 (.ia 3 (.t 22) (.t 
 23)), Q 25 (.ld true 3 (.t 24)), ⟨some 7, .allo [.int .i64 0, .int .i64 0, .str []], none⟩, ⟨none, .st 3 (.t 7) (.t 25), none⟩]) (.seq (.seq (.reg [Q 26 (.fa 0 (.t 7)), Q 27 (.ld 
 false 1 (.t 26)), Q 28 (.bin .lss (.t 27) (Ki 0)), Qc 29 28, Qg 30 (.fa 1 (.t 7)) 29 false, Qg 31 (.ld false 1 (.t 30)) 29 false, Qd 32 5 29 false, Qg 33 (.bin .gtr (.t 31) (.t 
 32)) 29 false, Q 34 (.pick (.t 29) KT (.t 33))]) (.cond (.t 34) (.seq (.reg [Qx 4 (Ki 1)]) .ret) .skip)) (.seq (.reg [Q 36 (.fa 2 (.t 7)), Q 37 (.ld false 1 (.t 36)), ⟨some 38, 
 .call 46 [.t 37], none⟩, Qc 35 38, Q 39 (.ext 0 (.t 35)), Q 40 (.ext 1 (.t 35)), Qa 8 39, Qa 9 40]) (.seq (.seq (.dreg [Q 41 (.fa 0 (.t 7)), Q 42 (.ld false 1 (.t 41)), Q 43 (.fa 
 1 (.t 7)), Q 44 (.ld false 1 (.t 43)), Q 45 (.bin .gtr (.t 42) (.t 44)), Qc 46 45, Qd 47 6 46 false, Qg 48 (.bin .gtr (.t 47) (Ki 0)) 46 false, Qd 49 48 46 false, Qg 50 (.fa 0 
 (.t 7)) 49 true, Qg 51 (.ld false 1 (.t 50)) 49 true, Qd 52 0 49 true, Qd 53 6 49 true, Qg 54 (.bin .sub (.t 53) (Ki 1)) 49 true, Qg 55 (.ia 3 (.t 52) (.t 54)) 49 true, Qg 56 
 (.fa 1 (.t 55)) 49 true, Qg 57 (.ld false 1 (.t 56)) 49 true, Qg 58 (.bin .leq (.t 51) (.t 57)) 49 true, Qg 59 (.pick (.t 49) (.t 58) KF) 46 false, Q 60 (.pick (.t 46) KT (.t 
 59)), Qc 61 60, Qd 62 9 61 false, Qg 63 (.not (.t 62)) 61 false, Q 64 (.pick (.t 61) KT (.t 63)), Qc 65 64, Qg 66 (.fa 2 (.t 7)) 65 false, Qg 67 (.ld false 1 (.t 66)) 65 false, 
 Qg 68 (.bin .eql (.t 67) (.k (.d (.str [])))) 65 false, Q 69 (.pick (.t 65) KT (.t 68)), Qc 70 69, Qg 71 (.fa 2 (.t 7)) 70 false, Qg 72 (.ld false 1 (.t 71)) 70 false, Qg 73 
 (.len true (.t 72)) 70 false, Qg 74 (.bin .gtr (.t 73) (Ki 40)) 70 false, Q 75 (.pick (.t 70) KT (.t 74))]) (.cond (.t 75) (.seq (.reg [Qx 4 (Ki 3)]) .ret) .skip)) (.seq (.reg [Q 
 77 (.fa 2 (.t 7)), Q 78 (.ld false 1 (.t 77)), Q 79 (.fa 1 (.t 7)), Q 80 (.ld false 1 (.t 79)), Q 81 (.fa 0 (.t 7)), Q 82 (.ld false 1 (.t 81)), Q 83 (.bin .sub (.t 80) (.t 82)), 
 ⟨some 84, .call 47 [.t 78, .t 83], none⟩, Qc 76 84, Q 85 (.ext 0 (.t 76)), Q 86 (.ext 1 (.t 76)), Qa 10 85, Qa 11 86]) (.seq (.reg [Qc 87 11, Q 88 (.not (.t 87))]) (.cond (.t 88) 
 (.seq (.reg [Qx 4 (Ki 3)]) .ret) .skip)))))))) (.reg [Qc 20 6, Q 21 (.bin .add (.t 20) (Ki 1)), Qa 6 21])))))) (.seq (.reg [Qx 4 (Ki 0)]) .ret)))))
def R_foliowrightref_SpansFault : List LRes := [.tmp 4]
theorem lift_foliowrightref_SpansFault : Lifts Tryd.prog 21 89 L_foliowrightref_SpansFault R_foliowrightref_SpansFault := ⟨_, _, Tryd.func21, rfl, by kernel_rfl, by kernel_rfl, rfl⟩
theorem spansFault_call (l : List Span) (wide : Bool) (hw : ∀ x ∈ l, x.wf) : PCall Tryd.prog 21 [.list (spansD l), .bool wide] (fun r => r = .one (.int .i64 (faultM l wide))) := by
 have hI : ((spansD l).length : Int) = (l.length : Int) := by rw [spansD_length]
 refine lift_foliowrightref_SpansFault.call rfl ?_
 unfold faultM
 by_cases h300 : 300 < l.length
 ·rw [if_pos h300]
  have z : (300 < (l.length : Int)) = True := eq_true (by omega)
  simp (maxSteps := 2000000) only [go_sem, ↓reduceIte, L_foliowrightref_SpansFault, R_foliowrightref_SpansFault, hI, z]
 ·rw [if_neg h300]
  have z : (300 < (l.length : Int)) = False := eq_false (by omega)
  generalize hR : faultsF (mostM wide) none l = R
  simp (maxSteps := 2000000) only [go_sem, ↓reduceIte, L_foliowrightref_SpansFault, R_foliowrightref_SpansFault, hI, z]
  refine ⟨fun hwd => ?_, fun hwd => ?_⟩
  ·have e5 : mostM wide = 65535 := by rw [hwd]; rfl
   rw [e5] at hR
   refine run_loop (fun i : Nat => ⟨[(0, .d (.list (spansD l))), (5, .d (.int .i64 65535)), (6, .d (.int .i64 i))], [], []⟩)
    (fun i => i ≤ l.length ∧ faultsF 65535 (prevM l i) (l.drop i) = R) (fun i => l.length - i) 0 ?_ ?_ ?_
   ·refine weak_mk ?_ trivial
    simp (maxSteps := 2000000) only [go_sem, ↓reduceIte, Sub, Int.natCast_add, Int.natCast_mul]
   ·exact ⟨Nat.zero_le _, hR⟩
   ·rintro i ⟨hi, hF⟩
    simp (maxSteps := 2000000) only [go_sem, ↓reduceIte, hI]
    refine ⟨fun hlt => ?_, fun hge => ?_⟩
    ·obtain ⟨x, hx⟩ := get_some (l := l) (i := i) (by omega)
     obtain ⟨w1, w2, w3, w4, w5⟩ := hw x (List.mem_of_getElem? hx)
     rw [drop_at hx, faultsF] at hF
     have hprev : prevM l (i + 1) = some x.to := by unfold prevM; rw [if_neg (by omega), Nat.add_sub_cancel, hx]; rfl
     rw [← hprev] at hF
     have hbad : ∀ k : Nat, k ≠ 0 → spanFault 65535 (prevM l i) x = k → Res.one (.int .i64 (k : Int)) = Res.one (.int .i64 (R : Int)) := fun k h0 h => by rw [h, if_neg h0] at hF; rw [hF]
     unfold spanFault at hF hbad
     by_cases hA : x.fr < 0 ∨ 65535 < x.to
     ·have b1 := hbad 1 (by decide) (if_pos hA)
      by_cases hA1 : x.fr < 0
      ·have z1 := eq_true hA1
       simp (maxSteps := 2000000) (disch := omega) only [go_sem, ↓reduceIte, hI, getI_nat, spansD_get, hx, Span.d, z1]
       exact b1
      ·have z1 := eq_false hA1
       have z2 : (65535 < x.to) = True := eq_true (by omega)
       simp (maxSteps := 2000000) (disch := omega) only [go_sem, ↓reduceIte, hI, getI_nat, spansD_get, hx, Span.d, z1, z2]
       exact b1
     ·rw [if_neg hA] at hF
      simp only [if_neg hA] at hbad
      have z1 : (x.fr < 0) = False := eq_false (by omega)
      have z2 : (65535 < x.to) = False := eq_false (by omega)
      simp (maxSteps := 2000000) (disch := omega) only [go_sem, ↓reduceIte, hI, getI_nat, spansD_get, hx, Span.d, z1, z2]
      refine CallG.of (runes_call x.tx (by omega)) ?_
      by_cases hC : x.to < x.fr
      ·have b3 := hbad 3 (by decide) (if_pos (.inl hC))
       have z3 := eq_true hC
       cases hrs : runesM x.tx <;> (simp only [runesRes]; simp (maxSteps := 2000000) (disch := omega) only [go_sem, ↓reduceIte, z3]; exact b3)
      ·have z3 := eq_false hC
       by_cases hi0 : i = 0
       ·have z4 : (0 < (i : Int)) = False := eq_false (by omega)
        have hp : ¬ ∃ p, prevM l i = some p ∧ x.fr ≤ p := by rintro ⟨p, h1, _⟩; unfold prevM at h1; rw [if_pos hi0] at h1; cases h1
        cases hrs : runesM x.tx with
        | none =>
         have b3 := hbad 3 (by decide) (if_pos (.inr (.inr (.inl hrs))))
         simp only [runesRes]
         simp (maxSteps := 2000000) (disch := omega) only [go_sem, ↓reduceIte, hI, getI_nat, spansD_get, hx, Span.d, z3, z4]
         exact b3
        | some rs =>
         simp only [runesRes]
         by_cases h5 : x.tx = []
         ·have b3 := hbad 3 (by decide) (if_pos (.inr (.inr (.inr (.inl h5)))))
          simp (maxSteps := 2000000) (disch := omega) only [go_sem, ↓reduceIte, hI, getI_nat, spansD_get, hx, Span.d, z3, z4, h5]
          exact b3
         ·by_cases h6 : 40 < x.tx.length
          ·have b3 := hbad 3 (by decide) (if_pos (.inr (.inr (.inr (.inr h6)))))
           have z6 : (40 < (x.tx.length : Int)) = True := eq_true (by omega)
           simp (maxSteps := 2000000) (disch := omega) only [go_sem, ↓reduceIte, hI, getI_nat, spansD_get, hx, Span.d, z3, z4, h5, z6]
           exact b3
          ·have hgood : ¬ (x.to < x.fr ∨ (∃ p, prevM l i = some p ∧ x.fr ≤ p) ∨ runesM x.tx = none ∨ x.tx = [] ∨ 40 < x.tx.length) := by
            rintro (h | h | h | h | h)
            ·exact hC h
            ·exact hp h
            ·rw [hrs] at h; cases h
            ·exact h5 h
            ·exact h6 h
           rw [if_neg hgood] at hF
           simp only [if_neg hgood] at hbad
           have z6 : (40 < (x.tx.length : Int)) = False := eq_false (by omega)
           simp (maxSteps := 2000000) (disch := omega) only [go_sem, ↓reduceIte, hI, getI_nat, spansD_get, hx, Span.d, z3, z4, h5, z6]
           refine CallG.of (onR_call' x.tx (x.to - x.fr) (by omega) (by omega) (by omega)) ?_
           cases ho : onM x.tx (x.to - x.fr).toNat with
           | none =>
            have b3 := hbad 3 (by decide) (if_pos ho)
            simp only [onRes]
            simp (maxSteps := 2000000) (disch := omega) only [go_sem, ↓reduceIte]
            exact b3
           | some u =>
            simp only [onRes]
            simp only [ho, reduceCtorEq, if_false, if_true] at hF
            simp (maxSteps := 2000000) (disch := omega) only [go_sem, ↓reduceIte]
            refine ⟨i + 1, ?_, ⟨by omega, hF⟩, by omega⟩
            refine weak_mk ?_ trivial
            simp (maxSteps := 2000000) only [go_sem, ↓reduceIte, Sub, Int.natCast_add, Int.natCast_mul]
       ·have z4 : (0 < (i : Int)) = True := eq_true (by omega)
        obtain ⟨y, hy⟩ := get_some (l := l) (i := i - 1) (by omega)
        have gy : getI (spansD l) ((i : Int) - 1) = some (.agg [.int .i64 y.fr, .int .i64 y.to, .str y.tx]) := by
         rw [show ((i : Int) - 1) = ((i - 1 : Nat) : Int) by omega, getI_nat, spansD_get, hy]; rfl
        have hpv : prevM l i = some y.to := by unfold prevM; rw [if_neg hi0, hy]; rfl
        by_cases hq : x.fr ≤ y.to
        ·have b3 := hbad 3 (by decide) (if_pos (.inr (.inl ⟨y.to, hpv, hq⟩)))
         have z7 := eq_true hq
         cases hrs : runesM x.tx <;> (simp only [runesRes]; simp (maxSteps := 2000000) (disch := omega) only [go_sem, ↓reduceIte, z3, z4, gy, z7]; exact b3)
        ·have z7 := eq_false hq
         have hp : ¬ ∃ p, prevM l i = some p ∧ x.fr ≤ p := by rintro ⟨p, h1, h2⟩; rw [hpv] at h1; cases h1; exact hq h2
         cases hrs : runesM x.tx with
         | none =>
          have b3 := hbad 3 (by decide) (if_pos (.inr (.inr (.inl hrs))))
          simp only [runesRes]
          simp (maxSteps := 2000000) (disch := omega) only [go_sem, ↓reduceIte, hI, getI_nat, spansD_get, hx, Span.d, z3, z4, gy, z7]
          exact b3
         | some rs =>
          simp only [runesRes]
          by_cases h5 : x.tx = []
          ·have b3 := hbad 3 (by decide) (if_pos (.inr (.inr (.inr (.inl h5)))))
           simp (maxSteps := 2000000) (disch := omega) only [go_sem, ↓reduceIte, hI, getI_nat, spansD_get, hx, Span.d, z3, z4, gy, z7, h5]
           exact b3
          ·by_cases h6 : 40 < x.tx.length
           ·have b3 := hbad 3 (by decide) (if_pos (.inr (.inr (.inr (.inr h6)))))
            have z6 : (40 < (x.tx.length : Int)) = True := eq_true (by omega)
            simp (maxSteps := 2000000) (disch := omega) only [go_sem, ↓reduceIte, hI, getI_nat, spansD_get, hx, Span.d, z3, z4, gy, z7, h5, z6]
            exact b3
           ·have hgood : ¬ (x.to < x.fr ∨ (∃ p, prevM l i = some p ∧ x.fr ≤ p) ∨ runesM x.tx = none ∨ x.tx = [] ∨ 40 < x.tx.length) := by
             rintro (h | h | h | h | h)
             ·exact hC h
             ·exact hp h
             ·rw [hrs] at h; cases h
             ·exact h5 h
             ·exact h6 h
            rw [if_neg hgood] at hF
            simp only [if_neg hgood] at hbad
            have z6 : (40 < (x.tx.length : Int)) = False := eq_false (by omega)
            simp (maxSteps := 2000000) (disch := omega) only [go_sem, ↓reduceIte, hI, getI_nat, spansD_get, hx, Span.d, z3, z4, gy, z7, h5, z6]
            refine CallG.of (onR_call' x.tx (x.to - x.fr) (by omega) (by omega) (by omega)) ?_
            cases ho : onM x.tx (x.to - x.fr).toNat with
            | none =>
             have b3 := hbad 3 (by decide) (if_pos ho)
             simp only [onRes]
             simp (maxSteps := 2000000) (disch := omega) only [go_sem, ↓reduceIte]
             exact b3
            | some u =>
             simp only [onRes]
             simp only [ho, reduceCtorEq, if_false, if_true] at hF
             simp (maxSteps := 2000000) (disch := omega) only [go_sem, ↓reduceIte]
             refine ⟨i + 1, ?_, ⟨by omega, hF⟩, by omega⟩
             refine weak_mk ?_ trivial
             simp (maxSteps := 2000000) only [go_sem, ↓reduceIte, Sub, Int.natCast_add, Int.natCast_mul]
    ·have : l.drop i = [] := List.drop_eq_nil_of_le (by omega)
     rw [this] at hF
     simp only [faultsF] at hF
     subst hF
     rfl
  ·have e5 : mostM wide = 255 := by rw [hwd]; rfl
   rw [e5] at hR
   refine run_loop (fun i : Nat => ⟨[(0, .d (.list (spansD l))), (5, .d (.int .i64 255)), (6, .d (.int .i64 i))], [], []⟩)
    (fun i => i ≤ l.length ∧ faultsF 255 (prevM l i) (l.drop i) = R) (fun i => l.length - i) 0 ?_ ?_ ?_
   ·refine weak_mk ?_ trivial
    simp (maxSteps := 2000000) only [go_sem, ↓reduceIte, Sub, Int.natCast_add, Int.natCast_mul]
   ·exact ⟨Nat.zero_le _, hR⟩
   ·rintro i ⟨hi, hF⟩
    simp (maxSteps := 2000000) only [go_sem, ↓reduceIte, hI]
    refine ⟨fun hlt => ?_, fun hge => ?_⟩
    ·obtain ⟨x, hx⟩ := get_some (l := l) (i := i) (by omega)
     obtain ⟨w1, w2, w3, w4, w5⟩ := hw x (List.mem_of_getElem? hx)
     rw [drop_at hx, faultsF] at hF
     have hprev : prevM l (i + 1) = some x.to := by unfold prevM; rw [if_neg (by omega), Nat.add_sub_cancel, hx]; rfl
     rw [← hprev] at hF
     have hbad : ∀ k : Nat, k ≠ 0 → spanFault 255 (prevM l i) x = k → Res.one (.int .i64 (k : Int)) = Res.one (.int .i64 (R : Int)) := fun k h0 h => by rw [h, if_neg h0] at hF; rw [hF]
     unfold spanFault at hF hbad
     by_cases hA : x.fr < 0 ∨ 255 < x.to
     ·have b1 := hbad 1 (by decide) (if_pos hA)
      by_cases hA1 : x.fr < 0
      ·have z1 := eq_true hA1
       simp (maxSteps := 2000000) (disch := omega) only [go_sem, ↓reduceIte, hI, getI_nat, spansD_get, hx, Span.d, z1]
       exact b1
      ·have z1 := eq_false hA1
       have z2 : (255 < x.to) = True := eq_true (by omega)
       simp (maxSteps := 2000000) (disch := omega) only [go_sem, ↓reduceIte, hI, getI_nat, spansD_get, hx, Span.d, z1, z2]
       exact b1
     ·rw [if_neg hA] at hF
      simp only [if_neg hA] at hbad
      have z1 : (x.fr < 0) = False := eq_false (by omega)
      have z2 : (255 < x.to) = False := eq_false (by omega)
      simp (maxSteps := 2000000) (disch := omega) only [go_sem, ↓reduceIte, hI, getI_nat, spansD_get, hx, Span.d, z1, z2]
      refine CallG.of (runes_call x.tx (by omega)) ?_
      by_cases hC : x.to < x.fr
      ·have b3 := hbad 3 (by decide) (if_pos (.inl hC))
       have z3 := eq_true hC
       cases hrs : runesM x.tx <;> (simp only [runesRes]; simp (maxSteps := 2000000) (disch := omega) only [go_sem, ↓reduceIte, z3]; exact b3)
      ·have z3 := eq_false hC
       by_cases hi0 : i = 0
       ·have z4 : (0 < (i : Int)) = False := eq_false (by omega)
        have hp : ¬ ∃ p, prevM l i = some p ∧ x.fr ≤ p := by rintro ⟨p, h1, _⟩; unfold prevM at h1; rw [if_pos hi0] at h1; cases h1
        cases hrs : runesM x.tx with
        | none =>
         have b3 := hbad 3 (by decide) (if_pos (.inr (.inr (.inl hrs))))
         simp only [runesRes]
         simp (maxSteps := 2000000) (disch := omega) only [go_sem, ↓reduceIte, hI, getI_nat, spansD_get, hx, Span.d, z3, z4]
         exact b3
        | some rs =>
         simp only [runesRes]
         by_cases h5 : x.tx = []
         ·have b3 := hbad 3 (by decide) (if_pos (.inr (.inr (.inr (.inl h5)))))
          simp (maxSteps := 2000000) (disch := omega) only [go_sem, ↓reduceIte, hI, getI_nat, spansD_get, hx, Span.d, z3, z4, h5]
          exact b3
         ·by_cases h6 : 40 < x.tx.length
          ·have b3 := hbad 3 (by decide) (if_pos (.inr (.inr (.inr (.inr h6)))))
           have z6 : (40 < (x.tx.length : Int)) = True := eq_true (by omega)
           simp (maxSteps := 2000000) (disch := omega) only [go_sem, ↓reduceIte, hI, getI_nat, spansD_get, hx, Span.d, z3, z4, h5, z6]
           exact b3
          ·have hgood : ¬ (x.to < x.fr ∨ (∃ p, prevM l i = some p ∧ x.fr ≤ p) ∨ runesM x.tx = none ∨ x.tx = [] ∨ 40 < x.tx.length) := by
            rintro (h | h | h | h | h)
            ·exact hC h
            ·exact hp h
            ·rw [hrs] at h; cases h
            ·exact h5 h
            ·exact h6 h
           rw [if_neg hgood] at hF
           simp only [if_neg hgood] at hbad
           have z6 : (40 < (x.tx.length : Int)) = False := eq_false (by omega)
           simp (maxSteps := 2000000) (disch := omega) only [go_sem, ↓reduceIte, hI, getI_nat, spansD_get, hx, Span.d, z3, z4, h5, z6]
           refine CallG.of (onR_call' x.tx (x.to - x.fr) (by omega) (by omega) (by omega)) ?_
           cases ho : onM x.tx (x.to - x.fr).toNat with
           | none =>
            have b3 := hbad 3 (by decide) (if_pos ho)
            simp only [onRes]
            simp (maxSteps := 2000000) (disch := omega) only [go_sem, ↓reduceIte]
            exact b3
           | some u =>
            simp only [onRes]
            simp only [ho, reduceCtorEq, if_false, if_true] at hF
            simp (maxSteps := 2000000) (disch := omega) only [go_sem, ↓reduceIte]
            refine ⟨i + 1, ?_, ⟨by omega, hF⟩, by omega⟩
            refine weak_mk ?_ trivial
            simp (maxSteps := 2000000) only [go_sem, ↓reduceIte, Sub, Int.natCast_add, Int.natCast_mul]
       ·have z4 : (0 < (i : Int)) = True := eq_true (by omega)
        obtain ⟨y, hy⟩ := get_some (l := l) (i := i - 1) (by omega)
        have gy : getI (spansD l) ((i : Int) - 1) = some (.agg [.int .i64 y.fr, .int .i64 y.to, .str y.tx]) := by
         rw [show ((i : Int) - 1) = ((i - 1 : Nat) : Int) by omega, getI_nat, spansD_get, hy]; rfl
        have hpv : prevM l i = some y.to := by unfold prevM; rw [if_neg hi0, hy]; rfl
        by_cases hq : x.fr ≤ y.to
        ·have b3 := hbad 3 (by decide) (if_pos (.inr (.inl ⟨y.to, hpv, hq⟩)))
         have z7 := eq_true hq
         cases hrs : runesM x.tx <;> (simp only [runesRes]; simp (maxSteps := 2000000) (disch := omega) only [go_sem, ↓reduceIte, z3, z4, gy, z7]; exact b3)
        ·have z7 := eq_false hq
         have hp : ¬ ∃ p, prevM l i = some p ∧ x.fr ≤ p := by rintro ⟨p, h1, h2⟩; rw [hpv] at h1; cases h1; exact hq h2
         cases hrs : runesM x.tx with
         | none =>
          have b3 := hbad 3 (by decide) (if_pos (.inr (.inr (.inl hrs))))
          simp only [runesRes]
          simp (maxSteps := 2000000) (disch := omega) only [go_sem, ↓reduceIte, hI, getI_nat, spansD_get, hx, Span.d, z3, z4, gy, z7]
          exact b3
         | some rs =>
          simp only [runesRes]
          by_cases h5 : x.tx = []
          ·have b3 := hbad 3 (by decide) (if_pos (.inr (.inr (.inr (.inl h5)))))
           simp (maxSteps := 2000000) (disch := omega) only [go_sem, ↓reduceIte, hI, getI_nat, spansD_get, hx, Span.d, z3, z4, gy, z7, h5]
           exact b3
          ·by_cases h6 : 40 < x.tx.length
           ·have b3 := hbad 3 (by decide) (if_pos (.inr (.inr (.inr (.inr h6)))))
            have z6 : (40 < (x.tx.length : Int)) = True := eq_true (by omega)
            simp (maxSteps := 2000000) (disch := omega) only [go_sem, ↓reduceIte, hI, getI_nat, spansD_get, hx, Span.d, z3, z4, gy, z7, h5, z6]
            exact b3
           ·have hgood : ¬ (x.to < x.fr ∨ (∃ p, prevM l i = some p ∧ x.fr ≤ p) ∨ runesM x.tx = none ∨ x.tx = [] ∨ 40 < x.tx.length) := by
             rintro (h | h | h | h | h)
             ·exact hC h
             ·exact hp h
             ·rw [hrs] at h; cases h
             ·exact h5 h
             ·exact h6 h
            rw [if_neg hgood] at hF
            simp only [if_neg hgood] at hbad
            have z6 : (40 < (x.tx.length : Int)) = False := eq_false (by omega)
            simp (maxSteps := 2000000) (disch := omega) only [go_sem, ↓reduceIte, hI, getI_nat, spansD_get, hx, Span.d, z3, z4, gy, z7, h5, z6]
            refine CallG.of (onR_call' x.tx (x.to - x.fr) (by omega) (by omega) (by omega)) ?_
            cases ho : onM x.tx (x.to - x.fr).toNat with
            | none =>
             have b3 := hbad 3 (by decide) (if_pos ho)
             simp only [onRes]
             simp (maxSteps := 2000000) (disch := omega) only [go_sem, ↓reduceIte]
             exact b3
            | some u =>
             simp only [onRes]
             simp only [ho, reduceCtorEq, if_false, if_true] at hF
             simp (maxSteps := 2000000) (disch := omega) only [go_sem, ↓reduceIte]
             refine ⟨i + 1, ?_, ⟨by omega, hF⟩, by omega⟩
             refine weak_mk ?_ trivial
             simp (maxSteps := 2000000) only [go_sem, ↓reduceIte, Sub, Int.natCast_add, Int.natCast_mul]
    ·have : l.drop i = [] := List.drop_eq_nil_of_le (by omega)
     rw [this] at hF
     simp only [faultsF] at hF
     subst hF
     rfl
def codeM : List Span → Int → Option (List UInt8)
 | [], _ => none
 | x :: r, c => if x.fr ≤ c ∧ c ≤ x.to then onM x.tx (c - x.fr).toNat else codeM r c
end Go.Av.Tryd
set_option linter.unusedSimpArgs false
namespace Go.Av.Tryd
open Go.Proofs Go.RowKit
open Go.Shelf
set_option maxRecDepth 100000
def lastLays_ren : Go.Shelf.Ren := ⟨fun | 271 => 71 | 120 => 82 | 197 => 83 | 260 => 88 | n => n, fun | 9 => 9 | 21 => 21 | 3 => 3 | 4 => 4 | 5 => 5 | 105 => 113 | 119 => 108 | 0 => 0 | 46 => 112 | 139 => 111 | 138 => 110 | n => n, fun | 3 => 0 | 4 => 1 | n => n⟩
theorem lastLays : Go.Proofs.LaysM.n271 Tryd.prog lastLays_ren where
 mixed := by kernel_rfl
 f120 := Tryd.func82.trans (congrArg some (by kernel_rfl))
 f197 := Tryd.func83.trans (congrArg some (by kernel_rfl))
 f260 := Tryd.func88.trans (congrArg some (by kernel_rfl))
 f271 := Tryd.func71.trans (congrArg some (by kernel_rfl))
 t0 := Tryd.underlying0
 a0 := Tryd.isAgg0
 z0 := Tryd.sizeOf0
 v0 := Tryd.zeroValue0
 t3 := Tryd.underlying3
 a3 := Tryd.isAgg3
 z3 := Tryd.sizeOf3
 v3 := Tryd.zeroValue3
 t4 := Tryd.underlying4
 a4 := Tryd.isAgg4
 z4 := Tryd.sizeOf4
 v4 := Tryd.zeroValue4
 t5 := Tryd.underlying5
 a5 := Tryd.isAgg5
 z5 := Tryd.sizeOf5
 v5 := Tryd.zeroValue5
 t9 := Tryd.underlying9
 a9 := Tryd.isAgg9
 z9 := Tryd.sizeOf9
 v9 := Tryd.zeroValue9
 t21 := Tryd.underlying21
 a21 := Tryd.isAgg21
 z21 := Tryd.sizeOf21
 v21 := Tryd.zeroValue21
 t46 := Tryd.underlying112
 a46 := Tryd.isAgg112
 z46 := Tryd.sizeOf112
 v46 := Tryd.zeroValue112
 t105 := Tryd.underlying113
 a105 := Tryd.isAgg113
 z105 := Tryd.sizeOf113
 v105 := Tryd.zeroValue113
 t119 := Tryd.underlying108
 a119 := Tryd.isAgg108
 z119 := Tryd.sizeOf108
 t138 := Tryd.underlying110
 a138 := Tryd.isAgg110
 z138 := Tryd.sizeOf110
 v138 := Tryd.zeroValue110
 t139 := Tryd.underlying111
 a139 := Tryd.isAgg111
 z139 := Tryd.sizeOf111
 v139 := Tryd.zeroValue111
 g3 := by kernel_rfl
 g4 := by kernel_rfl
 i0 := by kernel_rfl
 i3 := by kernel_rfl
 i4 := by kernel_rfl
 i5 := by kernel_rfl
 i9 := by kernel_rfl
 i21 := by kernel_rfl
 i46 := by kernel_rfl
 i105 := by kernel_rfl
 i138 := by kernel_rfl
 i139 := by kernel_rfl
 m3 := by kernel_rfl
 m4 := by kernel_rfl
theorem u8_tabs {f : Nat → Nat} {w : World} (hI : Inv.inv Tryd.prog f w) : Lib.Utf8Tabs 0 1 w := hI.2.2.1 _ _ (by kernel_rfl) (by kernel_rfl)
theorem below_fr {f : Nat → Nat} {w w' : World} (h : Below w.heap.size w w') (ht : ∀ b, w.heap.size ≤ b → f b = 0) : Fr f w f w' :=
 ⟨h.size, fun b hb => ⟨h.block b hb, rfl⟩, fun b hb => ht b (Nat.le_trans h.size hb), h.os, h.tape, h.output⟩
theorem strArg {f : Nat → Nat} {w : World} {vs : Array Value} {s : List UInt8} (hsz : vs.size = 1) (h : RD f w (.str s) (vs.getD 0 undef)) : vs = #[.string ⟨s.toArray⟩] := by
 match vs, hsz with
 | ⟨[v]⟩, _ => cases h; rfl
theorem decodeLast_call (s : List UInt8) (hs : s.length ≤ 1000000000) : PCall Tryd.prog 71 [.str s] (fun r => r = .tup [.int .i32 (Lib.decodeLastL s).1, .int .i64 (Lib.decodeLastL s).2]) := by
 intro f w vs hI ht hsz hrd
 obtain rfl := strArg hsz (hrd 0 _ rfl)
 refine (Any.utf8_DecodeLastRuneInString lastLays.ton271 ⟨s.toArray⟩ w (by show s.toArray.size ≤ _; simp; omega) (u8_tabs hI)).mono fun e w' ⟨he, hw⟩ => ?_
 refine ⟨_, _, f, rfl, he, ⟨_, rfl, rfl, fun i y hi => ?_⟩, below_fr hw ht⟩
 match i, hi with
 | 0, hi => cases hi; exact .int _ _
 | 1, hi => cases hi; exact .int _ _
 | (i + 2), hi => simp at hi
end Go.Av.Tryd
set_option linter.unusedSimpArgs false
set_option maxRecDepth 100000
namespace Go.Av.Tryd
open Go.Proofs
def L_cmap_behind : LCode :=
 .seq (.reg [Qx 4 (.k (.d (.str []))), Qx 5 KF]) (.seq (.reg [Qc 10 0, ⟨some 11, .call 71 [.t 10], none⟩, Qc 9 11, Q 12 (.ext 0 (.t 9)), Q 13 (.ext 1 (.t 9)), Qa 6 12, Qa 7 13]) 
 (.seq (.reg [Qc 14 6, Q 15 (.cvI .i64 (.t 14)), Qc 16 1, Q 17 (.bin .add (.t 15) (.t 16)), Qa 8 17]) (.seq (.seq (.reg [Qc 18 8, Q 19 (.bin .gtr (.t 18) (Ki 1114111)), Qc 20 19, 
 Qd 21 8 20 false, Qg 22 (.bin .geq (.t 21) (Ki 55296)) 20 false, Qd 23 22 20 false, Qd 24 8 23 true, Qg 25 (.bin .lss (.t 24) (Ki 57344)) 23 true, Qg 26 (.pick (.t 23) (.t 25) 
 KF) 20 false, Q 27 (.pick (.t 20) KT (.t 26))]) (.cond (.t 27) (.seq (.reg [Qx 4 (.k (.d (.str []))), Qx 5 KF]) .ret) .skip)) (.seq (.seq (.reg [Qc 28 6, Q 29 (.cvI .i64 (.t 
 28)), Q 30 (.bin .lss (.t 29) (Ki 55296)), Qc 31 30, Qd 32 8 31 true, Qg 33 (.bin .geq (.t 32) (Ki 57344)) 31 true, Q 34 (.pick (.t 31) (.t 33) KF)]) (.cond (.t 34) (.seq (.reg 
 [Qx 4 (.k (.d (.str []))), Qx 5 KF]) .ret) .skip)) (.seq (.reg [Qc 35 0, Qc 36 0, Q 37 (.len true (.t 36)), Qc 38 7, Q 39 (.bin .sub (.t 37) (.t 38)), Q 40 (.subS (.t 35) none 
 (some (.t 39))), Qc 41 8, Q 42 (.cvI .i32 (.t 41)), Q 43 (.i2s (.t 42)), Q 44 (.bin .add (.t 40) (.t 43)), Qa 4 44, Qx 5 KT]) .ret)))))
def R_cmap_behind : List LRes := [.tmp 4, .tmp 5]
theorem lift_cmap_behind : Lifts Tryd.prog 53 45 L_cmap_behind R_cmap_behind := ⟨_, _, Tryd.func53, rfl, by kernel_rfl, by kernel_rfl, rfl⟩
theorem behind_call (s : List UInt8) (m : Int) {rs : List Nat} (hrs : runesM s = some rs) (h0 : rs ≠ []) (hs : s.length ≤ 1000000) (h1 : 0 ≤ m) (h2 : m ≤ 1000000) : PCall Tryd.prog 53 [.str s, .int .i64 m] (fun r => r = onRes (onM s m.toNat)) := by
 obtain ⟨n, rfl⟩ := Int.eq_ofNat_of_zero_le h1
 obtain ⟨e1, e2⟩ := runesM_enc s.length (Nat.le_refl _) hrs
 have hlast := last_get h0
 have hlv := e2 _ (List.mem_of_getElem? hlast)
 have hlv' := hlv
 unfold vrune at hlv'
 have hsplit : s = encM rs.dropLast ++ enc (rs.getLastD 0) := by
  rw [← e1]
  obtain ⟨a, b, rfl⟩ : ∃ a b, rs = a ++ [b] := ⟨rs.dropLast, rs.getLast h0, (List.dropLast_concat_getLast h0).symm⟩
  rw [encM_append, List.dropLast_concat]; simp [encM]
 have hdec : Lib.decodeLastL s = (rs.getLastD 0, (enc (rs.getLastD 0)).length) := by rw [hsplit]; exact last_enc hlv _
 have hel := enc_len hlv
 have hlen : s.length = (encM rs.dropLast).length + (enc (rs.getLastD 0)).length := by conv => lhs; rw [hsplit, List.length_append]
 have htake : s.take (encM rs.dropLast).length = encM rs.dropLast := by
  conv => lhs; rw [hsplit]
  simp
 refine lift_cmap_behind.call rfl ?_
 simp (maxSteps := 2000000) only [go_sem, ↓reduceIte, L_cmap_behind, R_cmap_behind]
 refine CallG.of (decodeLast_call s (by omega)) ?_
 rw [hdec]
 unfold onM
 simp only [hrs, if_neg h0, Int.toNat_natCast]
 have hfin : encM rs.dropLast ++ enc (rs.getLastD 0 + n) = encM (rs.dropLast ++ [rs.getLastD 0 + n]) := by rw [encM_append]; simp [encM]
 have henc : vrune (rs.getLastD 0 + n) → (Utf8.encode ((rs.getLastD 0 : Int) + n)).data.toList = enc (rs.getLastD 0 + n) := fun h => by rw [← Int.natCast_add]; exact encode_enc h
 generalize rs.getLastD 0 = k at *
 generalize encM rs.dropLast = pre at *
 by_cases hb : 1114111 < k + n ∨ (55295 < k + n ∧ k + n < 57344) ∨ (k ≤ 55295 ∧ 57344 ≤ k + n)
 ·rw [if_pos hb]
  by_cases hA : 1114111 < k + n
  ·have zA : (1114111 < (k : Int) + n) = True := eq_true (by omega)
   simp (maxSteps := 2000000) (disch := omega) only [go_sem, ↓reduceIte, zA]
   simp [onRes]
  ·by_cases hB : 55295 < k + n ∧ k + n < 57344
   ·have zA : (1114111 < (k : Int) + n) = False := eq_false (by omega)
    have zB : (55296 ≤ (k : Int) + n) = True := eq_true (by omega)
    have zC : ((k : Int) + n < 57344) = True := eq_true (by omega)
    simp (maxSteps := 2000000) (disch := omega) only [go_sem, ↓reduceIte, zA, zB, zC]
    simp [onRes]
   ·have zA : (1114111 < (k : Int) + n) = False := eq_false (by omega)
    have zB : (55296 ≤ (k : Int) + n) = True := eq_true (by omega)
    have zC : ((k : Int) + n < 57344) = False := eq_false (by omega)
    have zD : ((k : Int) < 55296) = True := eq_true (by omega)
    have zE : (57344 ≤ (k : Int) + n) = True := eq_true (by omega)
    simp (maxSteps := 2000000) (disch := omega) only [go_sem, ↓reduceIte, zA, zB, zC, zD, zE]
    simp [onRes]
 ·rw [if_neg hb]
  have zA : (1114111 < (k : Int) + n) = False := eq_false (by omega)
  have hv := henc (by unfold vrune; omega)
  have hw32 : IntKind.i32.wrap ((k : Int) + n) = (k : Int) + n := by rw [IntWalk.i32_in _ (by omega)]
  have hcut : cutI s 0 ((s.length : Int) - (enc k).length) = pre := by
   unfold cutI
   rw [show ((s.length : Int) - (enc k).length).toNat = pre.length by omega, htake]; rfl
  have hfl := enc_len (r := k + n) (by unfold vrune; omega)
  by_cases hB : 55295 < k + n
  ·have zB : (55296 ≤ (k : Int) + n) = True := eq_true (by omega)
   have zC : ((k : Int) + n < 57344) = False := eq_false (by omega)
   have zE : (57344 ≤ (k : Int) + n) = True := eq_true (by omega)
   have zD : ((k : Int) < 55296) = False := eq_false (by omega)
   simp (maxSteps := 2000000) (disch := omega) only [go_sem, ↓reduceIte, zA, zB, zC, zE, zD, hw32, hv, hcut, hfin]
   refine ⟨by omega, by omega, ?_⟩
   simp [onRes]
  ·have zB : (55296 ≤ (k : Int) + n) = False := eq_false (by omega)
   have zE : (57344 ≤ (k : Int) + n) = False := eq_false (by omega)
   have zD : ((k : Int) < 55296) = True := eq_true (by omega)
   simp (maxSteps := 2000000) (disch := omega) only [go_sem, ↓reduceIte, zA, zB, zE, zD, hw32, hv, hcut, hfin]
   refine ⟨by omega, by omega, ?_⟩
   simp [onRes]
def L_cmap_Text : LCode :=
 .seq (.reg [Qx 4 (.k (.d (.str []))), Qx 5 KF]) (.seq (.seq (.reg [Qc 8 0, Q 9 (.len false (.t 8)), Q 10 (.cp (Ki 0))]) (.block 0 (.loop (.seq (.reg [Q 11 (.bin .lss (.t 10) (.t 
 9))]) (.seq (.cond (.t 11) .skip (.exit 0)) (.seq (.block 1 (.seq (.reg [Q 12 (.ia 3 (.t 8) (.t 10)), Q 13 (.ld true 3 (.t 12)), ⟨some 7, .allo [.int .i64 0, .int .i64 0, .str 
 []], none⟩, ⟨none, .st 3 (.t 7) (.t 13), none⟩]) (.seq (.reg [Qc 14 1, Q 15 (.fa 0 (.t 7)), Q 16 (.ld false 1 (.t 15)), Q 17 (.bin .geq (.t 14) (.t 16)), Qc 18 17, Qd 19 1 18 
 true, Qg 20 (.fa 1 (.t 7)) 18 true, Qg 21 (.ld false 1 (.t 20)) 18 true, Qg 22 (.bin .leq (.t 19) (.t 21)) 18 true, Q 23 (.pick (.t 18) (.t 22) KF)]) (.cond (.t 23) (.seq (.reg 
 [Q 24 (.fa 2 (.t 7)), Q 25 (.ld false 1 (.t 24)), Qc 26 1, Q 27 (.fa 0 (.t 7)), Q 28 (.ld false 1 (.t 27)), Q 29 (.bin .sub (.t 26) (.t 28)), ⟨some 30, .call 53 [.t 25, .t 29], 
 none⟩, Q 31 (.ext 0 (.t 30)), Q 32 (.ext 1 (.t 30)), Qa 4 31, Qa 5 32]) .ret) .skip)))) (.reg [Q 33 (.bin .add (.t 10) (Ki 1)), Qc 10 33]))))))) (.seq (.reg [Qx 4 (.k (.d (.str 
 []))), Qx 5 KF]) .ret))
def R_cmap_Text : List LRes := [.tmp 4, .tmp 5]
theorem lift_cmap_Text : Lifts Tryd.prog 24 34 L_cmap_Text R_cmap_Text := ⟨_, _, Tryd.func24, rfl, by kernel_rfl, by kernel_rfl, rfl⟩
def spanOK (x : Span) : Prop := x.wf ∧ x.to - x.fr ≤ 1000000 ∧ ∃ rs, runesM x.tx = some rs ∧ rs ≠ []
theorem text_call (l : List Span) (c : Int) (hw : ∀ x ∈ l, spanOK x) (hc : -9223372036854775808 ≤ c ∧ c ≤ 9223372036854775807) (hl : l.length ≤ 1000000) : PCall Tryd.prog 24 [.list (spansD l), .int .i64 c] (fun r => r = onRes (codeM l c)) := by
 have hI : ((spansD l).length : Int) = (l.length : Int) := by rw [spansD_length]
 refine lift_cmap_Text.call rfl ?_
 generalize hR : codeM l c = R
 simp (maxSteps := 2000000) only [go_sem, ↓reduceIte, L_cmap_Text, R_cmap_Text, hI]
 refine run_loop (fun i : Nat => ⟨[(0, .d (.list (spansD l))), (1, .d (.int .i64 c)), (8, .d (.list (spansD l))), (9, .d (.int .i64 l.length)), (10, .d (.int .i64 i))], [], []⟩)
  (fun i => i ≤ l.length ∧ codeM (l.drop i) c = R) (fun i => l.length - i) 0 ?_ ?_ ?_
 ·refine weak_mk ?_ trivial
  simp (maxSteps := 2000000) only [go_sem, ↓reduceIte, Sub, Int.natCast_add, Int.natCast_mul]
 ·exact ⟨Nat.zero_le _, hR⟩
 ·rintro i ⟨hi, hF⟩
  simp (maxSteps := 2000000) only [go_sem, ↓reduceIte, hI]
  refine ⟨fun hlt => ?_, fun hge => ?_⟩
  ·obtain ⟨x, hx⟩ := get_some (l := l) (i := i) (by omega)
   obtain ⟨⟨w1, w2, w3, w4, w5⟩, w6, rs, w7, w8⟩ := hw x (List.mem_of_getElem? hx)
   rw [drop_at hx, codeM] at hF
   by_cases hA : x.fr ≤ c ∧ c ≤ x.to
   ·rw [if_pos hA] at hF
    have z1 := eq_true hA.1
    have z2 := eq_true hA.2
    simp (maxSteps := 2000000) (disch := omega) only [go_sem, ↓reduceIte, hI, getI_nat, spansD_get, hx, Span.d, z1, z2]
    refine CallG.of (behind_call x.tx (c - x.fr) w7 w8 (by omega) (by omega) (by omega)) ?_
    rw [hF]
    cases R <;> (simp only [onRes]; simp (maxSteps := 2000000) (disch := omega) only [go_sem, ↓reduceIte])
   ·rw [if_neg hA] at hF
    by_cases hA1 : x.fr ≤ c
    ·have z1 := eq_true hA1
     have z2 : (c ≤ x.to) = False := eq_false (by omega)
     simp (maxSteps := 2000000) (disch := omega) only [go_sem, ↓reduceIte, hI, getI_nat, spansD_get, hx, Span.d, z1, z2]
     refine ⟨i + 1, ?_, ⟨by omega, hF⟩, by omega⟩
     refine weak_mk ?_ trivial
     simp (maxSteps := 2000000) only [go_sem, ↓reduceIte, Sub, Int.natCast_add, Int.natCast_mul]
    ·have z1 := eq_false hA1
     simp (maxSteps := 2000000) (disch := omega) only [go_sem, ↓reduceIte, hI, getI_nat, spansD_get, hx, Span.d, z1]
     refine ⟨i + 1, ?_, ⟨by omega, hF⟩, by omega⟩
     refine weak_mk ?_ trivial
     simp (maxSteps := 2000000) only [go_sem, ↓reduceIte, Sub, Int.natCast_add, Int.natCast_mul]
  ·have : l.drop i = [] := List.drop_eq_nil_of_le (by omega)
   rw [this] at hF
   simp only [codeM] at hF
   subst hF
   rfl
end Go.Av.Tryd
set_option linter.unusedSimpArgs false
set_option maxRecDepth 100000
namespace Go.Av.Tryd
open Go.Proofs
def gNames : List (List UInt8) := [[115, 112, 97, 99, 101], [112, 101, 114, 105, 111, 100], [99, 111, 109, 109, 97], [104, 121, 112, 104, 101, 110], [99, 111, 108, 111, 110], [122, 101, 114, 111], [111, 110, 101], [116, 119, 111], [116, 104, 114, 101, 101], [102, 111, 117, 114], [102, 105, 118, 101], [115, 105, 120], [115, 101, 118, 101, 110], [101, 105, 103, 104, 116], [110, 105, 110, 101]]
def gSigns : List UInt8 := [32, 46, 44, 45, 58, 48, 49, 50, 51, 52, 53, 54, 55, 56, 57]
def look : List (List UInt8) → List UInt8 → List UInt8 → Option (List UInt8)
 | n :: ns, c :: cs, s => if s = n then some [c] else look ns cs s
 | _, _, _ => none
theorem mlook_look : ∀ (ns : List (List UInt8)) (cs : List UInt8) (s : List UInt8), mlook (ns.map .str) (cs.map fun c => .str [c]) (.str s) = (look ns cs s).map .str
 | [], _, _ => by simp [mlook, look]
 | _ :: _, [], _ => by simp [mlook, look]
 | n :: ns, c :: cs, s => by
  simp only [List.map_cons, mlook, look, keyEq, beq_iff_eq]
  split
  ·rfl
  ·exact mlook_look ns cs s
def letter (s : List UInt8) : Bool := decide (s.length = 1) && ((decide (97 ≤ (s.getD 0 0).toNat) && decide ((s.getD 0 0).toNat ≤ 122)) || (decide (65 ≤ (s.getD 0 0).toNat) && decide ((s.getD 0 0).toNat ≤ 90)))
def singleM (s : List UInt8) : Option (List UInt8) := if letter s = true then some s else look gNames gSigns s
theorem PrimG.mapNewS {t kt e : TypeId} {m i x : LX} {K : St → Prop} {σ : St} {ks vs : List D} {key v : D} {s : Nat} (hm : σ.ev m = .mp (.l s)) (ho : σ.obj (.l s) = some (.mobj ks vs)) (hi : σ.ev i = .d key) (hx : σ.ev x = .d v)
  (ht : Tryd.prog.underlying t = some (.map kt e)) (hkt : Tryd.prog.underlying kt = some .string) (hkey : keyKind .string key = true) (hks : ks.all (keyKind .string) = true) (hnew : (mlook ks vs key).isNone = true)
  (hK : K (σ.setObj (.l s) (.mobj (ks ++ [key]) (vs ++ [v])))) : PrimG Tryd.prog none (.mapUpd t) [m, i, x] K σ :=
 PrimG.mapNew hm ho hi hx ht hkt hkey (fun k hk => List.all_eq_true.1 hks k hk) (Option.isNone_iff_eq_none.1 hnew) hK
def L_font_single : LCode :=
 .seq (.reg [Qx 2 (.k (.d (.str []))), Qx 3 KF]) (.seq (.seq (.reg [Qc 6 0, Q 7 (.len true (.t 6)), Q 8 (.bin .eql (.t 7) (Ki 1)), Qc 9 8, Qd 10 0 9 true, Qg 11 (.idxS (.t 10) (Ki 
 0)) 9 true, Qg 12 (.bin .geq (.t 11) (Kb 97)) 9 true, Qd 13 12 9 true, Qd 14 0 13 true, Qg 15 (.idxS (.t 14) (Ki 0)) 13 true, Qg 16 (.bin .leq (.t 15) (Kb 122)) 13 true, Qg 17 
 (.pick (.t 13) (.t 16) KF) 9 true, Qd 18 17 9 true, Qd 19 0 18 false, Qg 20 (.idxS (.t 19) (Ki 0)) 18 false, Qg 21 (.bin .geq (.t 20) (Kb 65)) 18 false, Qd 22 21 18 false, Qd 23 
 0 22 true, Qg 24 (.idxS (.t 23) (Ki 0)) 22 true, Qg 25 (.bin .leq (.t 24) (Kb 90)) 22 true, Qg 26 (.pick (.t 22) (.t 25) KF) 18 false, Qg 27 (.pick (.t 18) KT (.t 26)) 9 true, Q 
 28 (.pick (.t 9) (.t 27) KF)]) (.cond (.t 28) (.seq (.reg [Qc 29 0, Qa 2 29, Qx 3 KT]) .ret) .skip)) (.seq (.reg [⟨some 31, .prim (.mkMap 96) [] [], none⟩, ⟨none, .prim (.mapUpd 
 96) [.t 31, .k (.d (.str [115, 112, 97, 99, 101])), .k (.d (.str [32]))] [], none⟩, ⟨none, .prim (.mapUpd 96) [.t 31, .k (.d (.str [112, 101, 114, 105, 111, 100])), .k (.d (.str 
 [46]))] [], none⟩, ⟨none, .prim (.mapUpd 96) [.t 31, .k (.d (.str [99, 111, 109, 109, 97])), .k (.d (.str [44]))] [], none⟩, ⟨none, .prim (.mapUpd 96) [.t 31, .k (.d (.str [104, 
 121, 112, 104, 101, 110])), .k (.d (.str [45]))] [], none⟩, ⟨none, .prim (.mapUpd 96) [.t 31, .k (.d (.str [99, 111, 108, 111, 110])), .k (.d (.str [58]))] [], none⟩, ⟨none, 
 .prim (.mapUpd 96) [.t 31, .k (.d (.str [122, 101, 114, 111])), .k (.d (.str [48]))] [], none⟩, ⟨none, .prim (.mapUpd 96) [.t 31, .k (.d (.str [111, 110, 101])), .k (.d (.str 
 [49]))] [], none⟩, ⟨none, .prim (.mapUpd 96) [.t 31, .k (.d (.str [116, 119, 111])), .k (.d (.str [50]))] [], none⟩, ⟨none, .prim (.mapUpd 96) [.t 31, .k (.d (.str [116, 104, 
 114, 101, 101])), .k (.d (.str [51]))] [], none⟩, ⟨none, .prim (.mapUpd 96) [.t 31, .k (.d (.str [102, 111, 117, 114])), .k (.d (.str [52]))] [], none⟩, ⟨none, .prim (.mapUpd 96) 
 [.t 31, .k (.d (.str [102, 105, 118, 101])), .k (.d (.str [53]))] [], none⟩, ⟨none, .prim (.mapUpd 96) [.t 31, .k (.d (.str [115, 105, 120])), .k (.d (.str [54]))] [], none⟩, 
 ⟨none, .prim (.mapUpd 96) [.t 31, .k (.d (.str [115, 101, 118, 101, 110])), .k (.d (.str [55]))] [], none⟩, ⟨none, .prim (.mapUpd 96) [.t 31, .k (.d (.str [101, 105, 103, 104, 
 116])), .k (.d (.str [56]))] [], none⟩, ⟨none, .prim (.mapUpd 96) [.t 31, .k (.d (.str [110, 105, 110, 101])), .k (.d (.str [57]))] [], none⟩, Qc 32 31, Qc 33 0, ⟨some 34, .prim 
 (.lookup 96 true) [.t 32, .t 33] [], none⟩, Qc 30 34, Q 35 (.ext 0 (.t 30)), Q 36 (.ext 1 (.t 30)), Qa 4 35, Qa 5 36]) (.seq (.reg [Qc 37 4, Qc 38 5, Qa 2 37, Qa 3 38]) .ret)))
def R_font_single : List LRes := [.tmp 2, .tmp 3]
theorem lift_font_single : Lifts Tryd.prog 27 39 L_font_single R_font_single := ⟨_, _, Tryd.func27, rfl, by kernel_rfl, by kernel_rfl, rfl⟩
theorem single_call (s : List UInt8) (hs : s.length ≤ 1000000) : PCall Tryd.prog 27 [.str s] (fun r => r = onRes (singleM s)) := by
 refine lift_font_single.call rfl ?_
 unfold singleM
 have one : s.length = 1 → ∃ c, s = [c] := fun h => List.length_eq_one_iff.1 h
 have mapT : Tryd.prog.underlying 96 = some (.map 9 9) := by kernel_rfl
 have strT : Tryd.prog.underlying 9 = some .string := by kernel_rfl
 have strZ : Program.zeroOf Tryd.prog 9 = some (.str []) := by kernel_rfl
 have htab := mlook_look gNames gSigns s
 generalize look gNames gSigns s = R at htab ⊢
 simp only [gNames, gSigns, List.map_cons, List.map_nil] at htab
 by_cases h1 : s.length = 1
 ·obtain ⟨c, hc⟩ := one h1
  have hc8 := u8_lt c
  have g0 : getI s 0 = some c := by rw [hc]; rfl
  have hlet : letter s = (decide (97 ≤ c.toNat) && decide (c.toNat ≤ 122) || decide (65 ≤ c.toNat) && decide (c.toNat ≤ 90)) := by rw [hc]; rfl
  have zl : ((s.length : Int) = 1) = True := eq_true (by omega)
  rw [hlet]
  by_cases a1 : 97 ≤ c.toNat ∧ c.toNat ≤ 122
  ·have z1 : (97 ≤ (c.toNat : Int)) = True := eq_true (by omega)
   have z2 : ((c.toNat : Int) ≤ 122) = True := eq_true (by omega)
   rw [if_pos (by simp; omega)]
   simp (maxSteps := 2000000) (disch := omega) only [go_sem, ↓reduceIte, L_font_single, R_font_single, g0, zl, z1, z2]
   rfl
  ·by_cases a2 : 65 ≤ c.toNat ∧ c.toNat ≤ 90
   ·have z1 : (97 ≤ (c.toNat : Int)) = False := eq_false (by omega)
    have z3 : (65 ≤ (c.toNat : Int)) = True := eq_true (by omega)
    have z4 : ((c.toNat : Int) ≤ 90) = True := eq_true (by omega)
    rw [if_pos (by simp; omega)]
    simp (maxSteps := 2000000) (disch := omega) only [go_sem, ↓reduceIte, L_font_single, R_font_single, g0, zl, z1, z3, z4]
    rfl
   ·rw [if_neg (by simp; omega)]
    by_cases a3 : c.toNat < 65
    ·have z1 : (97 ≤ (c.toNat : Int)) = False := eq_false (by omega)
     have z3 : (65 ≤ (c.toNat : Int)) = False := eq_false (by omega)
     simp (maxSteps := 2000000) (disch := omega) only [go_sem, ↓reduceIte, L_font_single, R_font_single, g0, zl, z1, z3]
     refine PrimG.mkMap mapT ?_
     simp (maxSteps := 2000000) only [go_sem, ↓reduceIte]
     refine PrimG.mapNewS rfl rfl rfl rfl mapT strT rfl rfl rfl ?_
     simp (maxSteps := 2000000) only [go_sem, ↓reduceIte]
     refine PrimG.mapNewS rfl rfl rfl rfl mapT strT rfl rfl rfl ?_
     simp (maxSteps := 2000000) only [go_sem, ↓reduceIte]
     refine PrimG.mapNewS rfl rfl rfl rfl mapT strT rfl rfl rfl ?_
     simp (maxSteps := 2000000) only [go_sem, ↓reduceIte]
     refine PrimG.mapNewS rfl rfl rfl rfl mapT strT rfl rfl rfl ?_
     simp (maxSteps := 2000000) only [go_sem, ↓reduceIte]
     refine PrimG.mapNewS rfl rfl rfl rfl mapT strT rfl rfl rfl ?_
     simp (maxSteps := 2000000) only [go_sem, ↓reduceIte]
     refine PrimG.mapNewS rfl rfl rfl rfl mapT strT rfl rfl rfl ?_
     simp (maxSteps := 2000000) only [go_sem, ↓reduceIte]
     refine PrimG.mapNewS rfl rfl rfl rfl mapT strT rfl rfl rfl ?_
     simp (maxSteps := 2000000) only [go_sem, ↓reduceIte]
     refine PrimG.mapNewS rfl rfl rfl rfl mapT strT rfl rfl rfl ?_
     simp (maxSteps := 2000000) only [go_sem, ↓reduceIte]
     refine PrimG.mapNewS rfl rfl rfl rfl mapT strT rfl rfl rfl ?_
     simp (maxSteps := 2000000) only [go_sem, ↓reduceIte]
     refine PrimG.mapNewS rfl rfl rfl rfl mapT strT rfl rfl rfl ?_
     simp (maxSteps := 2000000) only [go_sem, ↓reduceIte]
     refine PrimG.mapNewS rfl rfl rfl rfl mapT strT rfl rfl rfl ?_
     simp (maxSteps := 2000000) only [go_sem, ↓reduceIte]
     refine PrimG.mapNewS rfl rfl rfl rfl mapT strT rfl rfl rfl ?_
     simp (maxSteps := 2000000) only [go_sem, ↓reduceIte]
     refine PrimG.mapNewS rfl rfl rfl rfl mapT strT rfl rfl rfl ?_
     simp (maxSteps := 2000000) only [go_sem, ↓reduceIte]
     refine PrimG.mapNewS rfl rfl rfl rfl mapT strT rfl rfl rfl ?_
     simp (maxSteps := 2000000) only [go_sem, ↓reduceIte]
     refine PrimG.mapNewS rfl rfl rfl rfl mapT strT rfl rfl rfl ?_
     simp (maxSteps := 2000000) only [go_sem, ↓reduceIte]
     refine PrimG.lookupM (kd := .string) (key := .str s) (zero := .str []) rfl rfl rfl mapT strT rfl (fun k hk => List.all_eq_true.1 (show (List.map D.str gNames).all (keyKind .string) = true from rfl) k hk) strZ ?_
     rw [htab]
     cases R <;> (simp only [Option.map_some, Option.map_none]; simp (maxSteps := 2000000) only [go_sem, ↓reduceIte]; rfl)
    ·by_cases a4 : c.toNat < 97
     ·have z1 : (97 ≤ (c.toNat : Int)) = False := eq_false (by omega)
      have z3 : (65 ≤ (c.toNat : Int)) = True := eq_true (by omega)
      have z4 : ((c.toNat : Int) ≤ 90) = False := eq_false (by omega)
      simp (maxSteps := 2000000) (disch := omega) only [go_sem, ↓reduceIte, L_font_single, R_font_single, g0, zl, z1, z3, z4]
      refine PrimG.mkMap mapT ?_
      simp (maxSteps := 2000000) only [go_sem, ↓reduceIte]
      refine PrimG.mapNewS rfl rfl rfl rfl mapT strT rfl rfl rfl ?_
      simp (maxSteps := 2000000) only [go_sem, ↓reduceIte]
      refine PrimG.mapNewS rfl rfl rfl rfl mapT strT rfl rfl rfl ?_
      simp (maxSteps := 2000000) only [go_sem, ↓reduceIte]
      refine PrimG.mapNewS rfl rfl rfl rfl mapT strT rfl rfl rfl ?_
      simp (maxSteps := 2000000) only [go_sem, ↓reduceIte]
      refine PrimG.mapNewS rfl rfl rfl rfl mapT strT rfl rfl rfl ?_
      simp (maxSteps := 2000000) only [go_sem, ↓reduceIte]
      refine PrimG.mapNewS rfl rfl rfl rfl mapT strT rfl rfl rfl ?_
      simp (maxSteps := 2000000) only [go_sem, ↓reduceIte]
      refine PrimG.mapNewS rfl rfl rfl rfl mapT strT rfl rfl rfl ?_
      simp (maxSteps := 2000000) only [go_sem, ↓reduceIte]
      refine PrimG.mapNewS rfl rfl rfl rfl mapT strT rfl rfl rfl ?_
      simp (maxSteps := 2000000) only [go_sem, ↓reduceIte]
      refine PrimG.mapNewS rfl rfl rfl rfl mapT strT rfl rfl rfl ?_
      simp (maxSteps := 2000000) only [go_sem, ↓reduceIte]
      refine PrimG.mapNewS rfl rfl rfl rfl mapT strT rfl rfl rfl ?_
      simp (maxSteps := 2000000) only [go_sem, ↓reduceIte]
      refine PrimG.mapNewS rfl rfl rfl rfl mapT strT rfl rfl rfl ?_
      simp (maxSteps := 2000000) only [go_sem, ↓reduceIte]
      refine PrimG.mapNewS rfl rfl rfl rfl mapT strT rfl rfl rfl ?_
      simp (maxSteps := 2000000) only [go_sem, ↓reduceIte]
      refine PrimG.mapNewS rfl rfl rfl rfl mapT strT rfl rfl rfl ?_
      simp (maxSteps := 2000000) only [go_sem, ↓reduceIte]
      refine PrimG.mapNewS rfl rfl rfl rfl mapT strT rfl rfl rfl ?_
      simp (maxSteps := 2000000) only [go_sem, ↓reduceIte]
      refine PrimG.mapNewS rfl rfl rfl rfl mapT strT rfl rfl rfl ?_
      simp (maxSteps := 2000000) only [go_sem, ↓reduceIte]
      refine PrimG.mapNewS rfl rfl rfl rfl mapT strT rfl rfl rfl ?_
      simp (maxSteps := 2000000) only [go_sem, ↓reduceIte]
      refine PrimG.lookupM (kd := .string) (key := .str s) (zero := .str []) rfl rfl rfl mapT strT rfl (fun k hk => List.all_eq_true.1 (show (List.map D.str gNames).all (keyKind .string) = true from rfl) k hk) strZ ?_
      rw [htab]
      cases R <;> (simp only [Option.map_some, Option.map_none]; simp (maxSteps := 2000000) only [go_sem, ↓reduceIte]; rfl)
     ·have z1 : (97 ≤ (c.toNat : Int)) = True := eq_true (by omega)
      have z2 : ((c.toNat : Int) ≤ 122) = False := eq_false (by omega)
      have z3 : (65 ≤ (c.toNat : Int)) = True := eq_true (by omega)
      have z4 : ((c.toNat : Int) ≤ 90) = False := eq_false (by omega)
      simp (maxSteps := 2000000) (disch := omega) only [go_sem, ↓reduceIte, L_font_single, R_font_single, g0, zl, z1, z2, z3, z4]
      refine PrimG.mkMap mapT ?_
      simp (maxSteps := 2000000) only [go_sem, ↓reduceIte]
      refine PrimG.mapNewS rfl rfl rfl rfl mapT strT rfl rfl rfl ?_
      simp (maxSteps := 2000000) only [go_sem, ↓reduceIte]
      refine PrimG.mapNewS rfl rfl rfl rfl mapT strT rfl rfl rfl ?_
      simp (maxSteps := 2000000) only [go_sem, ↓reduceIte]
      refine PrimG.mapNewS rfl rfl rfl rfl mapT strT rfl rfl rfl ?_
      simp (maxSteps := 2000000) only [go_sem, ↓reduceIte]
      refine PrimG.mapNewS rfl rfl rfl rfl mapT strT rfl rfl rfl ?_
      simp (maxSteps := 2000000) only [go_sem, ↓reduceIte]
      refine PrimG.mapNewS rfl rfl rfl rfl mapT strT rfl rfl rfl ?_
      simp (maxSteps := 2000000) only [go_sem, ↓reduceIte]
      refine PrimG.mapNewS rfl rfl rfl rfl mapT strT rfl rfl rfl ?_
      simp (maxSteps := 2000000) only [go_sem, ↓reduceIte]
      refine PrimG.mapNewS rfl rfl rfl rfl mapT strT rfl rfl rfl ?_
      simp (maxSteps := 2000000) only [go_sem, ↓reduceIte]
      refine PrimG.mapNewS rfl rfl rfl rfl mapT strT rfl rfl rfl ?_
      simp (maxSteps := 2000000) only [go_sem, ↓reduceIte]
      refine PrimG.mapNewS rfl rfl rfl rfl mapT strT rfl rfl rfl ?_
      simp (maxSteps := 2000000) only [go_sem, ↓reduceIte]
      refine PrimG.mapNewS rfl rfl rfl rfl mapT strT rfl rfl rfl ?_
      simp (maxSteps := 2000000) only [go_sem, ↓reduceIte]
      refine PrimG.mapNewS rfl rfl rfl rfl mapT strT rfl rfl rfl ?_
      simp (maxSteps := 2000000) only [go_sem, ↓reduceIte]
      refine PrimG.mapNewS rfl rfl rfl rfl mapT strT rfl rfl rfl ?_
      simp (maxSteps := 2000000) only [go_sem, ↓reduceIte]
      refine PrimG.mapNewS rfl rfl rfl rfl mapT strT rfl rfl rfl ?_
      simp (maxSteps := 2000000) only [go_sem, ↓reduceIte]
      refine PrimG.mapNewS rfl rfl rfl rfl mapT strT rfl rfl rfl ?_
      simp (maxSteps := 2000000) only [go_sem, ↓reduceIte]
      refine PrimG.mapNewS rfl rfl rfl rfl mapT strT rfl rfl rfl ?_
      simp (maxSteps := 2000000) only [go_sem, ↓reduceIte]
      refine PrimG.lookupM (kd := .string) (key := .str s) (zero := .str []) rfl rfl rfl mapT strT rfl (fun k hk => List.all_eq_true.1 (show (List.map D.str gNames).all (keyKind .string) = true from rfl) k hk) strZ ?_
      rw [htab]
      cases R <;> (simp only [Option.map_some, Option.map_none]; simp (maxSteps := 2000000) only [go_sem, ↓reduceIte]; rfl)
 ·have zl : ((s.length : Int) = 1) = False := eq_false (by omega)
  have hlet : letter s = false := by unfold letter; rw [decide_eq_false h1]; rfl
  rw [hlet, if_neg (by decide)]
  simp (maxSteps := 2000000) (disch := omega) only [go_sem, ↓reduceIte, L_font_single, R_font_single, zl]
  refine PrimG.mkMap mapT ?_
  simp (maxSteps := 2000000) only [go_sem, ↓reduceIte]
  refine PrimG.mapNewS rfl rfl rfl rfl mapT strT rfl rfl rfl ?_
  simp (maxSteps := 2000000) only [go_sem, ↓reduceIte]
  refine PrimG.mapNewS rfl rfl rfl rfl mapT strT rfl rfl rfl ?_
  simp (maxSteps := 2000000) only [go_sem, ↓reduceIte]
  refine PrimG.mapNewS rfl rfl rfl rfl mapT strT rfl rfl rfl ?_
  simp (maxSteps := 2000000) only [go_sem, ↓reduceIte]
  refine PrimG.mapNewS rfl rfl rfl rfl mapT strT rfl rfl rfl ?_
  simp (maxSteps := 2000000) only [go_sem, ↓reduceIte]
  refine PrimG.mapNewS rfl rfl rfl rfl mapT strT rfl rfl rfl ?_
  simp (maxSteps := 2000000) only [go_sem, ↓reduceIte]
  refine PrimG.mapNewS rfl rfl rfl rfl mapT strT rfl rfl rfl ?_
  simp (maxSteps := 2000000) only [go_sem, ↓reduceIte]
  refine PrimG.mapNewS rfl rfl rfl rfl mapT strT rfl rfl rfl ?_
  simp (maxSteps := 2000000) only [go_sem, ↓reduceIte]
  refine PrimG.mapNewS rfl rfl rfl rfl mapT strT rfl rfl rfl ?_
  simp (maxSteps := 2000000) only [go_sem, ↓reduceIte]
  refine PrimG.mapNewS rfl rfl rfl rfl mapT strT rfl rfl rfl ?_
  simp (maxSteps := 2000000) only [go_sem, ↓reduceIte]
  refine PrimG.mapNewS rfl rfl rfl rfl mapT strT rfl rfl rfl ?_
  simp (maxSteps := 2000000) only [go_sem, ↓reduceIte]
  refine PrimG.mapNewS rfl rfl rfl rfl mapT strT rfl rfl rfl ?_
  simp (maxSteps := 2000000) only [go_sem, ↓reduceIte]
  refine PrimG.mapNewS rfl rfl rfl rfl mapT strT rfl rfl rfl ?_
  simp (maxSteps := 2000000) only [go_sem, ↓reduceIte]
  refine PrimG.mapNewS rfl rfl rfl rfl mapT strT rfl rfl rfl ?_
  simp (maxSteps := 2000000) only [go_sem, ↓reduceIte]
  refine PrimG.mapNewS rfl rfl rfl rfl mapT strT rfl rfl rfl ?_
  simp (maxSteps := 2000000) only [go_sem, ↓reduceIte]
  refine PrimG.mapNewS rfl rfl rfl rfl mapT strT rfl rfl rfl ?_
  simp (maxSteps := 2000000) only [go_sem, ↓reduceIte]
  refine PrimG.lookupM (kd := .string) (key := .str s) (zero := .str []) rfl rfl rfl mapT strT rfl (fun k hk => List.all_eq_true.1 (show (List.map D.str gNames).all (keyKind .string) = true from rfl) k hk) strZ ?_
  rw [htab]
  cases R <;> (simp only [Option.map_some, Option.map_none]; simp (maxSteps := 2000000) only [go_sem, ↓reduceIte]; rfl)
end Go.Av.Tryd
