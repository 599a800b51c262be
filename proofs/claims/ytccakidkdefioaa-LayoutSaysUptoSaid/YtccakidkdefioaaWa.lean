import Derived.Test.YtccakidkdefioaaAvG
import Derived.Test.YtccakidkdefioaaAvH
import Derived.Test.YtccakidkdefioaaProg
import Derived.Lib.LaidTab
import Derived.Lib.ItoaNum
import Derived.Shelf.Unicode.DecodeSlow
import Derived.Test.YtccakidkdefioaaAvI
set_option linter.unusedSimpArgs false
namespace Go.Av.Try
open Go.Proofs
theorem tab_lt {P : Program} {name : String} {k : IntKind} {zs : List Int} {w : World} (h : Lib.TabIs P w name k zs) (b : Nat) (hb : P.globalNamed name = some b) : b < w.heap.size := by
 unfold Lib.TabIs World.var? at h
 simp only [hb, Option.bind_some] at h
 cases hc : w.heap[b]? with
 | none => simp [hc] at h
 | some o => exact (Array.getElem?_eq_some_iff.1 hc).1
theorem tab_keep {P : Program} {name : String} {k : IntKind} {zs : List Int} {w w' : World} (hk : ∀ b, P.globalNamed name = some b → w'.heap[b]? = w.heap[b]?) (h : Lib.TabIs P w name k zs) : Lib.TabIs P w' name k zs := by
 unfold Lib.TabIs World.var? at h ⊢
 cases hg : P.globalNamed name with
 | none => simp [hg] at h
 | some g =>
  simp only [hg, Option.bind_some] at h ⊢
  rw [hk g hg]; exact h
def intAt (P : Program) (name : String) (w : World) : Prop := ∀ b, P.globalNamed name = some b → ∃ m : Int, w.cell? ⟨b, 0, none⟩ = some (.int .i64 m)
theorem cell_same {w w' : World} {b : Nat} (h : w'.heap[b]? = w.heap[b]?) : w'.cell? ⟨b, 0, none⟩ = w.cell? ⟨b, 0, none⟩ := by
 simp only [World.cell?, h]
theorem cell_lt {w : World} {b : Nat} {v : Value} (h : w.cell? ⟨b, 0, none⟩ = some v) : b < w.heap.size := by
 rcases Nat.lt_or_ge b w.heap.size with h' | h'
 ·exact h'
 ·simp [World.cell?, Array.getElem?_eq_none h'] at h
def tabAt (P : Program) (name : String) (k : IntKind) (zs : List Int) (w : World) : Prop := ∀ b, P.globalNamed name = some b → Lib.TabIs P w name k zs
def u8At (P : Program) (w : World) : Prop := ∀ g3 g4, P.globalNamed "unicode/utf8.first" = some g3 → P.globalNamed "unicode/utf8.acceptRanges" = some g4 → Lib.Utf8Tabs g3 g4 w
theorem u8_cells {g3 g4 : Nat} {w w' : World} (h3 : w'.heap[g3]? = w.heap[g3]?) (h4 : w'.heap[g4]? = w.heap[g4]?) (h : Lib.Utf8Tabs g3 g4 w) : Lib.Utf8Tabs g3 g4 w' := by
 obtain ⟨a, b⟩ := h
 refine ⟨fun c hc => ?_, fun i hi => ?_⟩
 ·have := a c hc
  simpa only [World.cell?, h3] using this
 ·have := b i hi
  simpa only [World.cell?, h4] using this
def u8Own (P : Program) (b : Nat) : Prop := P.globalNamed "unicode/utf8.first" = some b ∨ P.globalNamed "unicode/utf8.acceptRanges" = some b
instance : Inv Try.prog := ⟨fun _ w => tabAt Try.prog "internal/strconv.uint64pow10" .u64 Lib.pow10Tab w ∧ intAt Try.prog "internal/bytealg.MaxLen" w ∧ (u8At Try.prog w ∧ ∀ b, u8Own Try.prog b → b < w.heap.size),
 fun b => Try.prog.globalNamed "internal/strconv.uint64pow10" = some b ∨ Try.prog.globalNamed "internal/bytealg.MaxLen" = some b ∨ u8Own Try.prog b,
 fun h b hb => hb.elim (fun hb => tab_lt (h.1 b hb) b hb) fun hb => hb.elim (fun hb => by obtain ⟨m, hm⟩ := h.2.1 b hb; exact cell_lt hm) (h.2.2.2 b),
 fun {f w f' w'} hk h => ⟨fun b hb => tab_keep (fun b hb => (hk b (.inl hb)).1) (h.1 b hb), fun b hb => by obtain ⟨m, hm⟩ := h.2.1 b hb; exact ⟨m, (cell_same (hk b (.inr (.inl hb))).1).trans hm⟩,
  fun g3 g4 h3 h4 => u8_cells (hk g3 (.inr (.inr (.inl h3)))).1 (hk g4 (.inr (.inr (.inr h4)))).1 (h.2.2.1 g3 g4 h3 h4), fun b hb => by
   have h1 := h.2.2.2 b hb
   have h2 := (hk b (.inr (.inr hb))).1
   rw [Array.getElem?_eq_getElem h1] at h2
   exact (Array.getElem?_eq_some_iff.1 h2).1⟩⟩
def nsA (l : List Nat) : List AV := l.map fun (n : Nat) => .d (.int .i64 (n : Int))
theorem nsA_len (l : List Nat) : (nsA l).length = l.length := by simp [nsA]
def rowN (l : List Nat) (c : Nat) : List AV := rowA (nsA l) c
theorem rowN_len {l : List Nat} {c : Nat} (h : l.length ≤ c) : (rowN l c).length = c := rowA_len (by rw [nsA_len]; exact h)
theorem rowN_get {l : List Nat} {c i v : Nat} (h : l[i]? = some v) : (rowN l c)[i]? = some (.d (.int .i64 v)) := by
 have hi := (List.getElem?_eq_some_iff.1 h).1
 rw [rowN, rowA, List.getElem?_append_left (by rw [nsA_len]; exact hi), nsA, List.getElem?_map, h]; rfl
theorem rowN_set {l : List Nat} {c i v : Nat} (h : i < l.length) : (rowN l c).set i (.d (.int .i64 v)) = rowN (l.set i v) c := by
 rw [rowN, rowA, List.set_append_left _ _ (by rw [nsA_len]; exact h), rowN, rowA, nsA_len, nsA_len, List.length_set]
 simp [nsA]
theorem rowN_row (l : List Nat) (c : Nat) : rowO (.cells (rowN l c)) = true := by
 simp only [rowO, rowN, rowA, nsA, List.all_append, List.all_map, Bool.and_eq_true, List.all_eq_true, Function.comp]
 refine ⟨fun x _ => trivial, fun x hx => ?_⟩
 rw [(List.mem_replicate.1 hx).2]
def nsD (l : List Nat) : List D := l.map fun (n : Nat) => .int .i64 (n : Int)
theorem nsD_len (l : List Nat) : (nsD l).length = l.length := by simp [nsD]
theorem nsD_get (l : List Nat) (j : Nat) : (nsD l)[j]? = (l[j]?).map fun (n : Nat) => D.int .i64 (n : Int) := by simp [nsD]
theorem nsA_nsD (l : List Nat) : nsA l = (nsD l).map .d := by simp [nsA, nsD]
theorem nsD_one (l : List Nat) : ∀ y ∈ nsD l, y.cells = [y] := fun y hy => by
 simp only [nsD, List.mem_map] at hy
 obtain ⟨n, _, rfl⟩ := hy; rfl
theorem nsA_ok (l : List Nat) (d : Nat) : ∀ y ∈ nsA l, okCell d y := fun y hy => by
 simp only [nsA, List.mem_map] at hy
 obtain ⟨n, _, rfl⟩ := hy
 exact ⟨rfl, rfl, fun e he => by cases he⟩
theorem int_ok (n : Int) (d : Nat) : okCell d (.d (.int .i64 n)) := ⟨rfl, rfl, fun e he => by cases he⟩
theorem rowN_drop (r : Ref) (l : List Nat) (c : Nat) : (rowN l c).map (AV.drop r) = rowN l c := by
 refine (List.map_congr_left fun x hx => ?_).trans (List.map_id _)
 rcases List.mem_append.1 hx with hx | hx
 ·simp only [nsA, List.mem_map] at hx
  obtain ⟨n, _, rfl⟩ := hx
  rfl
 ·rw [(List.mem_replicate.1 hx).2]; rfl
theorem rowN_snoc (l : List Nat) (n c : Nat) : rowA (nsA l ++ [.d (.int .i64 (n : Int))]) c = rowN (l ++ [n]) c := by
 simp [rowN, nsA]
attribute [go_sem] rowN_drop
theorem box_row (G : D) : rowO (.cells [.d G]) = true := rfl
attribute [go_sem] rowN_row
end Go.Av.Try
set_option linter.unusedSimpArgs false
namespace Go.Av.Try
structure Ky where
 key : Nat → Int
 pos : Nat → Nat
def Ky.T (K : Ky) (x y : Nat) : Prop := K.key x < K.key y ∨ (K.key x = K.key y ∧ K.pos x < K.pos y)
def Ky.ahead (K : Ky) (A B : List Nat) : Prop := ∀ x ∈ A, ∀ y ∈ B, K.pos x < K.pos y
def Ky.srt (K : Ky) (l : List Nat) : Prop := l.Pairwise K.T
theorem Ky.T_trans {K : Ky} {x y z : Nat} (h : K.T x y) (g : K.T y z) : K.T x z := by unfold Ky.T at *; omega
theorem Ky.T_asym {K : Ky} {x y : Nat} (h : K.T x y) : ¬ K.T y x := by unfold Ky.T at *; omega
theorem Ky.T_late {K : Ky} {x y : Nat} (h : K.pos y < K.pos x) : K.T x y ↔ K.key x < K.key y := by unfold Ky.T; omega
theorem Ky.T_early {K : Ky} {x y : Nat} (h : K.pos y < K.pos x) : K.T y x ↔ ¬ K.key x < K.key y := by unfold Ky.T; omega
theorem Ky.uniq {K : Ky} : ∀ {l m : List Nat}, K.srt l → K.srt m → l.Perm m → l = m
 | [], m, _, _, h => (List.nil_perm.1 h).symm
 | x :: l, [], _, _, h => by have := h.length_eq; simp at this
 | x :: l, y :: m, hl, hm, h => by
  have h1 := List.pairwise_cons.1 hl
  have h2 := List.pairwise_cons.1 hm
  have hx : x ∈ y :: m := h.subset (by simp)
  have hy : y ∈ x :: l := h.symm.subset (by simp)
  have e : x = y := by
   rcases List.mem_cons.1 hx with e | hx
   ·exact e
   ·rcases List.mem_cons.1 hy with e | hy
    ·exact e.symm
    ·exact absurd (h1.1 y hy) (Ky.T_asym (h2.1 x hx))
  subst e
  rw [Ky.uniq h1.2 h2.2 (List.Perm.cons_inv h)]
def Ky.ins (K : Ky) (x : Nat) : List Nat → List Nat
 | [] => [x]
 | y :: l => if K.key x < K.key y ∨ (K.key x = K.key y ∧ K.pos x < K.pos y) then x :: y :: l else y :: Ky.ins K x l
def Ky.st (K : Ky) (l : List Nat) : List Nat := l.foldr K.ins []
def Ky.tot (K : Ky) (l : List Nat) : Prop := l.Pairwise fun x y => K.T x y ∨ K.T y x
theorem Ky.ins_perm {K : Ky} (x : Nat) : ∀ l : List Nat, (K.ins x l).Perm (x :: l)
 | [] => .refl _
 | y :: l => by
  unfold Ky.ins
  split
  ·exact .refl _
  ·exact ((Ky.ins_perm x l).cons y).trans (.swap x y l)
theorem Ky.ins_srt {K : Ky} {x : Nat} : ∀ {l : List Nat}, K.srt l → (∀ y ∈ l, K.T x y ∨ K.T y x) → K.srt (K.ins x l)
 | [], _, _ => List.pairwise_singleton _ _
 | y :: l, h, ht => by
  obtain ⟨h1, h2⟩ := List.pairwise_cons.1 h
  unfold Ky.ins
  split
  ·rename_i hx
   have hx : K.T x y := hx
   refine List.pairwise_cons.2 ⟨fun z hz => ?_, h⟩
   rcases List.mem_cons.1 hz with rfl | hz
   ·exact hx
   ·exact Ky.T_trans hx (h1 z hz)
  ·rename_i hx
   have hyx : K.T y x := (ht y (by simp)).resolve_left hx
   refine List.pairwise_cons.2 ⟨fun z hz => ?_, Ky.ins_srt h2 fun z hz => ht z (by simp [hz])⟩
   rcases List.mem_cons.1 ((Ky.ins_perm x l).subset hz) with rfl | hz
   ·exact hyx
   ·exact h1 z hz
theorem Ky.st_perm {K : Ky} : ∀ l : List Nat, (K.st l).Perm l
 | [] => .refl _
 | x :: l => (Ky.ins_perm x (K.st l)).trans ((Ky.st_perm l).cons x)
theorem Ky.st_srt {K : Ky} : ∀ {l : List Nat}, K.tot l → K.srt (K.st l)
 | [], _ => .nil
 | x :: l, h => by
  obtain ⟨h1, h2⟩ := List.pairwise_cons.1 h
  exact Ky.ins_srt (Ky.st_srt h2) fun y hy => h1 y ((Ky.st_perm l).subset hy)
theorem Ky.srt_tot {K : Ky} {l : List Nat} (h : K.srt l) : K.tot l := List.Pairwise.imp (fun h => .inl h) h
theorem Ky.tot_perm {K : Ky} {l m : List Nat} (h : l.Perm m) (hl : K.tot l) : K.tot m := h.pairwise hl (fun {_ _} h => h.symm)
theorem Ky.st_eq {K : Ky} {l M : List Nat} (hM : K.srt M) (hp : M.Perm l) : M = K.st l :=
 Ky.uniq hM (Ky.st_srt (Ky.tot_perm hp (Ky.srt_tot hM))) (hp.trans (Ky.st_perm l).symm)
theorem ahead_perm {K : Ky} {A A' B B' : List Nat} (hA : A'.Perm A) (hB : B'.Perm B) (h : K.ahead A B) : K.ahead A' B' :=
 fun x hx y hy => h x (hA.subset hx) y (hB.subset hy)
theorem ahead_app {K : Ky} {A B C : List Nat} : K.ahead A (B ++ C) ↔ K.ahead A B ∧ K.ahead A C :=
 ⟨fun h => ⟨fun x hx y hy => h x hx y (by simp [hy]), fun x hx y hy => h x hx y (by simp [hy])⟩, fun ⟨h, g⟩ x hx y hy => by
  rcases List.mem_append.1 hy with hy | hy
  ·exact h x hx y hy
  ·exact g x hx y hy⟩
theorem app_ahead {K : Ky} {A B C : List Nat} : K.ahead (A ++ B) C ↔ K.ahead A C ∧ K.ahead B C :=
 ⟨fun h => ⟨fun x hx y hy => h x (by simp [hx]) y hy, fun x hx y hy => h x (by simp [hx]) y hy⟩, fun ⟨h, g⟩ x hx y hy => by
  rcases List.mem_append.1 hx with hx | hx
  ·exact h x hx y hy
  ·exact g x hx y hy⟩
def Ky.up (K : Ky) (l : List Nat) : Prop := l.Pairwise fun x y => K.pos x < K.pos y
theorem Ky.up_app {K : Ky} {A B : List Nat} : K.up (A ++ B) ↔ K.up A ∧ K.up B ∧ K.ahead A B := List.pairwise_append
def Ky.mrg (K : Ky) (A B M : List Nat) : Prop := M.Perm (A ++ B) ∧ K.srt M
theorem Ky.mrg_st {K : Ky} {A B M : List Nat} (h : K.mrg A B M) : M = K.st (A ++ B) := Ky.st_eq h.2 h.1
theorem Ky.st_mrg {K : Ky} {A B : List Nat} (hA : K.srt A) (hB : K.srt B) (h : K.ahead A B) : K.mrg A B (K.st (A ++ B)) :=
 ⟨Ky.st_perm _, Ky.st_srt (List.pairwise_append.2 ⟨Ky.srt_tot hA, Ky.srt_tot hB, fun x hx y hy => by
  have := h x hx y hy
  unfold Ky.T; omega⟩)⟩
theorem Ky.up_tot {K : Ky} {l : List Nat} (h : K.up l) : K.tot l := List.Pairwise.imp (fun h => by unfold Ky.T; omega) h
theorem Ky.halves {K : Ky} {A1 A2 B1 B2 : List Nat} (hA : K.srt (A1 ++ A2)) (hB : K.srt (B1 ++ B2)) (h1 : ∀ x ∈ A1.getLast?, ∀ y ∈ B2.head?, K.T x y) (h2 : ∀ y ∈ B1.getLast?, ∀ x ∈ A2.head?, K.T y x) {M N : List Nat} (hM : K.mrg A1 B1 M) (hN : K.mrg A2 B2 N) : K.mrg (A1 ++ A2) (B1 ++ B2) (M ++ N) := by
 obtain ⟨a1, a2, a3⟩ := List.pairwise_append.1 hA
 obtain ⟨b1, b2, b3⟩ := List.pairwise_append.1 hB
 have last_le : ∀ {l : List Nat} {x : Nat}, K.srt l → x ∈ l → ∃ z ∈ l.getLast?, x = z ∨ K.T x z := fun {l x} hl hx => by
  obtain ⟨l', z, rfl⟩ : ∃ l' z, l = l' ++ [z] := ⟨l.dropLast, l.getLast (List.ne_nil_of_mem hx), (List.dropLast_concat_getLast _).symm⟩
  refine ⟨z, by simp, ?_⟩
  obtain ⟨_, _, c⟩ := List.pairwise_append.1 hl
  rcases List.mem_append.1 hx with hx | hx
  ·exact .inr (c x hx z (by simp))
  ·exact .inl (by simpa using hx)
 have head_le : ∀ {l : List Nat} {x : Nat}, K.srt l → x ∈ l → ∃ z ∈ l.head?, x = z ∨ K.T z x := fun {l x} hl hx => by
  cases l with
  | nil => cases hx
  | cons z l =>
   refine ⟨z, by simp, ?_⟩
   rcases List.mem_cons.1 hx with rfl | hx
   ·exact .inl rfl
   ·exact .inr ((List.pairwise_cons.1 hl).1 x hx)
 have c1 : ∀ x ∈ A1, ∀ y ∈ B2, K.T x y := fun x hx y hy => by
  obtain ⟨u, hu, e1⟩ := last_le a1 hx
  obtain ⟨v, hv, e2⟩ := head_le b2 hy
  have := h1 u hu v hv
  rcases e1 with rfl | e1 <;> rcases e2 with rfl | e2
  ·exact this
  ·exact Ky.T_trans this e2
  ·exact Ky.T_trans e1 this
  ·exact Ky.T_trans e1 (Ky.T_trans this e2)
 have c2 : ∀ y ∈ B1, ∀ x ∈ A2, K.T y x := fun y hy x hx => by
  obtain ⟨u, hu, e1⟩ := last_le b1 hy
  obtain ⟨v, hv, e2⟩ := head_le a2 hx
  have := h2 u hu v hv
  rcases e1 with rfl | e1 <;> rcases e2 with rfl | e2
  ·exact this
  ·exact Ky.T_trans this e2
  ·exact Ky.T_trans e1 this
  ·exact Ky.T_trans e1 (Ky.T_trans this e2)
 refine ⟨?_, List.pairwise_append.2 ⟨hM.2, hN.2, fun x hx y hy => ?_⟩⟩
 ·refine (hM.1.append hN.1).trans ?_
  rw [List.append_assoc, List.append_assoc]
  refine List.Perm.append_left _ ?_
  rw [← List.append_assoc, ← List.append_assoc]
  exact List.Perm.append_right _ List.perm_append_comm
 ·rcases List.mem_append.1 (hM.1.subset hx) with hx | hx <;> rcases List.mem_append.1 (hN.1.subset hy) with hy | hy
  ·exact a3 x hx y hy
  ·exact c1 x hx y hy
  ·exact c2 x hx y hy
  ·exact b3 x hx y hy
end Go.Av.Try
set_option linter.unusedSimpArgs false
set_option maxRecDepth 100000
set_option maxHeartbeats 1000000
namespace Go.Av.Try
open Go.Proofs
def swpL (P X Y Z S : List Nat) (i : Nat) : List Nat := P ++ ((Z.take i ++ X.drop i) ++ (Y ++ ((X.take i ++ Z.drop i) ++ S)))
theorem swpL_len (P X Y Z S : List Nat) (hz : Z.length = X.length) {i : Nat} (hi : i ≤ X.length) : (swpL P X Y Z S i).length = P.length + 2 * X.length + Y.length + S.length := by
 simp [swpL]; omega
theorem swpL_x {P X Y Z S : List Nat} (hz : Z.length = X.length) {i x : Nat} (h : X[i]? = some x) : (swpL P X Y Z S i)[P.length + i]? = some x := by
 have hi := (List.getElem?_eq_some_iff.1 h).1
 have hlt : i < (Z.take i ++ X.drop i).length := by simp; omega
 rw [swpL, List.getElem?_append_right (by omega), Nat.add_sub_cancel_left, List.getElem?_append_left hlt, List.getElem?_append_right (by simp; omega)]
 have : (Z.take i).length = i := by simp; omega
 rw [this, Nat.sub_self, List.getElem?_drop]
 exact h
theorem swpL_z {P X Y Z S : List Nat} (hz : Z.length = X.length) {i z : Nat} (h : Z[i]? = some z) : (swpL P X Y Z S i)[P.length + X.length + Y.length + i]? = some z := by
 have hi := (List.getElem?_eq_some_iff.1 h).1
 have h1 : (Z.take i ++ X.drop i).length = X.length := by simp; omega
 have hlt : i < (X.take i ++ Z.drop i).length := by simp; omega
 rw [swpL, List.getElem?_append_right (by omega), List.getElem?_append_right (by omega), h1, List.getElem?_append_right (by omega)]
 rw [show P.length + X.length + Y.length + i - P.length - X.length - Y.length = i by omega, List.getElem?_append_left hlt, List.getElem?_append_right (by simp; omega)]
 have : (X.take i).length = i := by simp; omega
 rw [this, Nat.sub_self, List.getElem?_drop]
 exact h
theorem set_in {A B C : List Nat} {k v : Nat} (h : k < B.length) : (A ++ (B ++ C)).set (A.length + k) v = A ++ (B.set k v ++ C) := by
 rw [List.set_append_right _ _ (by omega), Nat.add_sub_cancel_left, List.set_append_left _ _ h]
theorem mid_set {A B : List Nat} {i a b : Nat} (ha : A[i]? = some a) (hb : B[i]? = some b) : (A.take i ++ B.drop i).set i a = A.take (i + 1) ++ B.drop (i + 1) := by
 have hi := (List.getElem?_eq_some_iff.1 ha).1
 have hj := (List.getElem?_eq_some_iff.1 hb).1
 have hd : B.drop i = b :: B.drop (i + 1) := by
  rw [List.drop_eq_getElem_cons hj]; congr 1; exact (List.getElem?_eq_some_iff.1 hb).2
 have ht : (A.take i).length = i := by simp; omega
 rw [hd, List.set_append_right _ _ (by omega), ht, Nat.sub_self, List.set_cons_zero, List.take_add_one, ha]
 simp
theorem swpL_step {P X Y Z S : List Nat} (hz : Z.length = X.length) {i x z : Nat} (hx : X[i]? = some x) (hzi : Z[i]? = some z) : ((swpL P X Y Z S i).set (P.length + i) z).set (P.length + X.length + Y.length + i) x = swpL P X Y Z S (i + 1) := by
 have hi := (List.getElem?_eq_some_iff.1 hx).1
 have h1 : (Z.take i ++ X.drop i).length = X.length := by simp; omega
 rw [swpL, set_in (by omega), mid_set hzi hx]
 have h2 : (Z.take (i + 1) ++ X.drop (i + 1)).length = X.length := by simp; omega
 have e : P ++ ((Z.take (i + 1) ++ X.drop (i + 1)) ++ (Y ++ ((X.take i ++ Z.drop i) ++ S))) = (P ++ ((Z.take (i + 1) ++ X.drop (i + 1)) ++ Y)) ++ ((X.take i ++ Z.drop i) ++ S) := by simp
 have e2 : P.length + X.length + Y.length + i = (P ++ ((Z.take (i + 1) ++ X.drop (i + 1)) ++ Y)).length + i := by rw [List.length_append, List.length_append, h2]; omega
 rw [e, e2, set_in (by simp; omega), mid_set hx hzi, swpL]
 simp
def L_slices_swapRangeCmpFunc_int_ : LCode :=
 .seq (.reg [Qx 10 (Ki 0)]) (.block 0 (.loop (.seq (.seq (.reg [Qc 11 10, Qc 12 3, Q 13 (.bin .lss (.t 11) (.t 12))]) (.cond (.t 13) .skip (.exit 0))) (.seq (.block 1 (.dreg [Qc 16 
 0, Qc 17 1, Qc 18 10, Q 19 (.bin .add (.t 17) (.t 18)), Qc 20 0, Qc 21 2, Qc 22 10, Q 23 (.bin .add (.t 21) (.t 22)), Qc 24 0, Qc 25 2, Qc 26 10, Q 27 (.bin .add (.t 25) (.t 
 26)), Q 28 (.ia 1 (.t 24) (.t 27)), Q 29 (.ld false 1 (.t 28)), Qc 30 0, Qc 31 1, Qc 32 10, Q 33 (.bin .add (.t 31) (.t 32)), Q 34 (.ia 1 (.t 30) (.t 33)), Q 35 (.ld false 1 (.t 
 34)), Q 36 (.ia 1 (.t 16) (.t 19)), ⟨none, .stC 1 (.t 36) (.t 29) [(20, .cp (.t 0)), (21, .cp (.t 2)), (22, .cp (.t 10)), (23, .bin .add (.t 21) (.t 22))], none⟩, Q 37 (.ia 1 (.t 
 20) (.t 23)), ⟨none, .stC 1 (.t 37) (.t 35) [], none⟩])) (.reg [Qc 14 10, Q 15 (.bin .add (.t 14) (Ki 1)), Qa 10 15])))))
def R_slices_swapRangeCmpFunc_int_ : List LRes := []
theorem lift_slices_swapRangeCmpFunc_int_ : Lifts Try.prog 37 38 L_slices_swapRangeCmpFunc_int_ R_slices_swapRangeCmpFunc_int_ := ⟨_, _, Try.func37, rfl, by kernel_rfl, by kernel_rfl, rfl⟩
theorem swapRange_call (P X Y Z S : List Nat) (c g : Nat) (G : D) (hl : (P ++ (X ++ (Y ++ (Z ++ S)))).length ≤ c) (hc : (P ++ (X ++ (Y ++ (Z ++ S)))).length ≤ 1000000) (hz : Z.length = X.length) : MCallE Try.prog 37 [.rs (.x 1) (P ++ (X ++ (Y ++ (Z ++ S)))).length c, .d (.int .i64 (P.length : Nat)), .d (.int .i64 ((P.length + X.length + Y.length : Nat))), .d (.int .i64 (X.length : Nat)), .fn (.func g) [] [.ptr (.x 0) 0]]
  [.cells [.d G], .cells (rowN (P ++ (X ++ (Y ++ (Z ++ S)))) c)] (.tuple []) [.cells [.d G], .cells (rowN (P ++ (Z ++ (Y ++ (X ++ S)))) c)] := by
 refine lift_slices_swapRangeCmpFunc_int_.mcall (by kernel_rfl) rfl ?_
 simp (maxSteps := 2000000) only [go_sem, ↓reduceIte, L_slices_swapRangeCmpFunc_int_, R_slices_swapRangeCmpFunc_int_]
 have hn : (P ++ (X ++ (Y ++ (Z ++ S)))).length = P.length + 2 * X.length + Y.length + S.length := by simp; omega
 generalize hN : (P ++ (X ++ (Y ++ (Z ++ S)))).length = N at *
 refine run_loop (fun i : Nat => ⟨[(0, .rs (.x 1) N c), (1, .d (.int .i64 (P.length : Nat))), (2, .d (.int .i64 ((P.length + X.length + Y.length : Nat)))), (3, .d (.int .i64 (X.length : Nat))), (10, .d (.int .i64 i))], [], [(0, .cells [.d G]), (1, .cells (rowN (swpL P X Y Z S i) c))]⟩)
  (fun i => i ≤ X.length) (fun i => X.length - i) 0 ?_ ?_ ?_
 ·have e : swpL P X Y Z S 0 = P ++ (X ++ (Y ++ (Z ++ S))) := by simp [swpL]
  rw [e]
  refine Weak.mk ?_ ?_ ?_ <;> simp (maxSteps := 2000000) only [go_sem, ↓reduceIte, Sub, Int.natCast_add, Int.natCast_mul]
 ·exact Nat.zero_le _
 ·intro i hi
  have hll := swpL_len P X Y Z S hz hi
  simp (maxSteps := 2000000) only [go_sem, ↓reduceIte]
  refine ⟨fun hlt => ?_, fun hge => ?_⟩
  ·obtain ⟨x, hx⟩ := get_some (l := X) (i := i) (by omega)
   obtain ⟨z, hzi⟩ := get_some (l := Z) (i := i) (by omega)
   have l1 : (rowN (swpL P X Y Z S i) c)[(((P.length + X.length + Y.length : Nat) : Int) + (i : Int)).toNat * 1]? = some (.d (.int .i64 z)) := by
    rw [show (((P.length + X.length + Y.length : Nat) : Int) + (i : Int)).toNat * 1 = P.length + X.length + Y.length + i by omega]
    exact rowN_get (swpL_z hz hzi)
   have l2 : (rowN (swpL P X Y Z S i) c)[((P.length : Int) + (i : Int)).toNat * 1]? = some (.d (.int .i64 x)) := by
    rw [show ((P.length : Int) + (i : Int)).toNat * 1 = P.length + i by omega]
    exact rowN_get (swpL_x hz hx)
   have l3 : (rowN (swpL P X Y Z S i) c).set (((P.length : Int) + (i : Int)).toNat * 1) (.d (.int .i64 z)) = rowN ((swpL P X Y Z S i).set (P.length + i) z) c := by
    rw [show ((P.length : Int) + (i : Int)).toNat * 1 = P.length + i by omega, rowN_set (by omega)]
   have l4 : (rowN ((swpL P X Y Z S i).set (P.length + i) z) c).set ((((P.length + X.length + Y.length : Nat) : Int) + (i : Int)).toNat * 1) (.d (.int .i64 x)) = rowN (swpL P X Y Z S (i + 1)) c := by
    rw [show (((P.length + X.length + Y.length : Nat) : Int) + (i : Int)).toNat * 1 = P.length + X.length + Y.length + i by omega, rowN_set (by rw [List.length_set]; omega), swpL_step hz hx hzi]
   have l5 : (rowN ((swpL P X Y Z S i).set (P.length + i) z) c).length = c := rowN_len (by rw [List.length_set]; omega)
   have l6 : (rowN (swpL P X Y Z S i) c).length = c := rowN_len (by omega)
   simp (maxSteps := 2000000) (disch := omega) only [go_sem, ↓reduceIte, l1, l2, l3, l4, l5, l6]
   refine ⟨⟨by omega, by omega⟩, ⟨by omega, by omega⟩, ⟨by omega, by omega⟩, by omega, ⟨by omega, by omega⟩, by omega, i + 1, ?_, by omega, by omega⟩
   refine Weak.mk ?_ ?_ ?_ <;> simp (maxSteps := 2000000) only [go_sem, ↓reduceIte, Sub, Int.natCast_add, Int.natCast_mul]
  ·have : i = X.length := by omega
   subst this
   have e : swpL P X Y Z S X.length = P ++ (Z ++ (Y ++ (X ++ S))) := by
    have h1 : X.drop X.length = [] := List.drop_length
    have h2 : Z.take X.length = Z := by rw [← hz]; exact List.take_length
    have h3 : Z.drop X.length = [] := by rw [← hz]; exact List.drop_length
    simp [swpL, h1, h2, h3]
   rw [e]
theorem swapRange_at {L L' P X Y Z S : List Nat} {N a b k c g : Nat} {G : D} (hL : L = P ++ (X ++ (Y ++ (Z ++ S)))) (hL' : L' = P ++ (Z ++ (Y ++ (X ++ S)))) (hN : N = L.length) (ha : a = P.length) (hb : b = P.length + X.length + Y.length) (hk : k = X.length) (hz : Z.length = X.length) (hl : N ≤ c) (hc : N ≤ 1000000) :
  MCallE Try.prog 37 [.rs (.x 1) N c, .d (.int .i64 (a : Nat)), .d (.int .i64 (b : Nat)), .d (.int .i64 (k : Nat)), .fn (.func g) [] [.ptr (.x 0) 0]] [.cells [.d G], .cells (rowN L c)] (.tuple []) [.cells [.d G], .cells (rowN L' c)] := by
 subst hL hL' hN ha hb hk
 exact swapRange_call P X Y Z S c g G hl hc hz
def L_slices_rotateCmpFunc_int_ : LCode :=
 .seq (.reg [Qc 12 2, Qc 13 1, Q 14 (.bin .sub (.t 12) (.t 13)), Qa 10 14]) (.seq (.reg [Qc 15 3, Qc 16 2, Q 17 (.bin .sub (.t 15) (.t 16)), Qa 11 17]) (.seq (.block 0 (.loop (.seq 
 (.seq (.reg [Qc 18 10, Qc 19 11, Q 20 (.bin .neq (.t 18) (.t 19))]) (.cond (.t 20) .skip (.exit 0))) (.block 1 (.seq (.reg [Qc 21 10, Qc 22 11, Q 23 (.bin .gtr (.t 21) (.t 22))]) 
 (.cond (.t 23) (.seq (.reg [Qc 24 0, Qc 25 2, Qc 26 10, Q 27 (.bin .sub (.t 25) (.t 26)), Qc 28 2, Qc 29 11, Qc 30 4, ⟨some 31, .prim .call [.k (.fn (.func 37) [] []), .t 24, .t 
 27, .t 28, .t 29, .t 30] [], none⟩]) (.reg [Qc 32 10, Qc 33 11, Q 34 (.bin .sub (.t 32) (.t 33)), Qa 10 34])) (.seq (.reg [Qc 35 0, Qc 36 2, Qc 37 10, Q 38 (.bin .sub (.t 36) (.t 
 37)), Qc 39 2, Qc 40 11, Q 41 (.bin .add (.t 39) (.t 40)), Qc 42 10, Q 43 (.bin .sub (.t 41) (.t 42)), Qc 44 10, Qc 45 4, ⟨some 46, .prim .call [.k (.fn (.func 37) [] []), .t 35, 
 .t 38, .t 43, .t 44, .t 45] [], none⟩]) (.reg [Qc 47 11, Qc 48 10, Q 49 (.bin .sub (.t 47) (.t 48)), Qa 11 49])))))))) (.reg [Qc 50 0, Qc 51 2, Qc 52 10, Q 53 (.bin .sub (.t 51) 
 (.t 52)), Qc 54 2, Qc 55 10, Qc 56 4, ⟨some 57, .prim .call [.k (.fn (.func 37) [] []), .t 50, .t 53, .t 54, .t 55, .t 56] [], none⟩])))
def R_slices_rotateCmpFunc_int_ : List LRes := []
theorem lift_slices_rotateCmpFunc_int_ : Lifts Try.prog 36 58 L_slices_rotateCmpFunc_int_ R_slices_rotateCmpFunc_int_ := ⟨_, _, Try.func36, rfl, by kernel_rfl, by kernel_rfl, rfl⟩
theorem rotate_call {L L' P U V S : List Nat} {N a m b c g : Nat} {G : D} (hL : L = P ++ (U ++ (V ++ S))) (hL' : L' = P ++ (V ++ (U ++ S))) (hN : N = L.length) (ha : a = P.length) (hm : m = P.length + U.length) (hb : b = P.length + U.length + V.length) (hU : U ≠ []) (hV : V ≠ []) (hl : N ≤ c) (hc : N ≤ 1000000) :
  MCallE Try.prog 36 [.rs (.x 1) N c, .d (.int .i64 (a : Nat)), .d (.int .i64 (m : Nat)), .d (.int .i64 (b : Nat)), .fn (.func g) [] [.ptr (.x 0) 0]] [.cells [.d G], .cells (rowN L c)] (.tuple []) [.cells [.d G], .cells (rowN L' c)] := by
 have hUl := List.length_pos_iff.2 hU
 have hVl := List.length_pos_iff.2 hV
 have hNl : N = P.length + U.length + V.length + S.length := by rw [hN, hL]; simp; omega
 refine lift_slices_rotateCmpFunc_int_.mcall (by kernel_rfl) rfl ?_
 have e1 : ((m : Int) - (a : Int)) = ((U.length : Nat) : Int) := by omega
 have e2 : ((b : Int) - (m : Int)) = ((V.length : Nat) : Int) := by omega
 simp (maxSteps := 2000000) (disch := omega) only [go_sem, ↓reduceIte, L_slices_rotateCmpFunc_int_, R_slices_rotateCmpFunc_int_, e1, e2]
 refine run_loop (fun y : List Nat × List Nat × List Nat × List Nat => ⟨[(0, .rs (.x 1) N c), (2, .d (.int .i64 (m : Nat))), (4, .fn (.func g) [] [.ptr (.x 0) 0]), (10, .d (.int .i64 (y.2.1.length : Nat))), (11, .d (.int .i64 (y.2.2.1.length : Nat)))], [], [(0, .cells [.d G]), (1, .cells (rowN (y.1 ++ (y.2.1 ++ (y.2.2.1 ++ y.2.2.2))) c))]⟩)
  (fun y => 0 < y.2.1.length ∧ 0 < y.2.2.1.length ∧ m = y.1.length + y.2.1.length ∧ L' = y.1 ++ (y.2.2.1 ++ (y.2.1 ++ y.2.2.2))) (fun y => y.2.1.length + y.2.2.1.length) (P, U, V, S) ?_ ?_ ?_
 ·subst hL
  refine Weak.mk ?_ ?_ ?_ <;> simp (maxSteps := 2000000) only [go_sem, ↓reduceIte, Sub, Int.natCast_add, Int.natCast_mul]
 ·exact ⟨hUl, hVl, hm, hL'⟩
 ·rintro ⟨P', U', V', S'⟩ ⟨h1, h2, h3, h4⟩
  simp only at h1 h2 h3 h4
  have hNl' : N = P'.length + U'.length + V'.length + S'.length := by rw [hN, show L.length = L'.length by rw [hL, hL']; simp; omega, h4]; simp; omega
  have e3 : ((m : Int) - ((U'.length : Nat) : Int)) = ((P'.length : Nat) : Int) := by omega
  simp (maxSteps := 2000000) (disch := omega) only [go_sem, ↓reduceIte, e3]
  refine ⟨fun hne => ⟨fun hgt => ?_, fun hle => ?_⟩, fun heq => ?_⟩
  ·obtain ⟨X, Y, rfl, hX⟩ : ∃ X Y, U' = X ++ Y ∧ X.length = V'.length := ⟨U'.take V'.length, U'.drop V'.length, (List.take_append_drop _ _).symm, by rw [List.length_take]; omega⟩
   rw [List.length_append] at *
   refine PrimG.mc2 (.x 0) (.x 1) rfl (swapRange_at (P := P') (X := X) (Y := Y) (Z := V') (S := S') (L' := P' ++ (V' ++ (Y ++ (X ++ S')))) (by simp) rfl (by simp; omega) rfl (by omega) hX.symm hX.symm hl hc) rfl rfl rfl rfl rfl ⟨box_row _, rowN_row _ _, box_row _, rowN_row _ _⟩ rfl ?_
   have e5 : (((X.length + Y.length : Nat) : Int) - (V'.length : Int)) = (Y.length : Int) := by omega
   simp (maxSteps := 2000000) (disch := omega) only [go_sem, ↓reduceIte, e5]
   refine ⟨(P' ++ V', Y, X, S'), ?_, ⟨by simp only; omega, by simp only; omega, by simp only [List.length_append]; omega, by rw [h4]; simp⟩, by simp only; omega⟩
   have e6 : (P' ++ V') ++ (Y ++ (X ++ S')) = P' ++ (V' ++ (Y ++ (X ++ S'))) := by simp
   refine Weak.mk ?_ ?_ ?_ <;> simp (maxSteps := 2000000) only [go_sem, ↓reduceIte, Sub, Int.natCast_add, Int.natCast_mul, e6, hX]
  ·obtain ⟨X, Y, rfl, hY⟩ : ∃ X Y, V' = X ++ Y ∧ Y.length = U'.length := ⟨V'.take (V'.length - U'.length), V'.drop (V'.length - U'.length), (List.take_append_drop _ _).symm, by rw [List.length_drop]; omega⟩
   rw [List.length_append] at *
   have e4 : ((m : Int) + ((X.length + Y.length : Nat) : Int) - (U'.length : Int)) = ((m + X.length : Nat) : Int) := by omega
   simp (maxSteps := 2000000) only [go_sem, ↓reduceIte, e4]
   refine PrimG.mc2 (.x 0) (.x 1) rfl (swapRange_at (P := P') (X := U') (Y := X) (Z := Y) (S := S') (L' := P' ++ (Y ++ (X ++ (U' ++ S')))) (by simp) rfl (by simp; omega) rfl (by omega) rfl hY hl hc) rfl rfl rfl rfl rfl ⟨box_row _, rowN_row _ _, box_row _, rowN_row _ _⟩ rfl ?_
   have e5 : (((X.length + Y.length : Nat) : Int) - (U'.length : Int)) = (X.length : Int) := by omega
   simp (maxSteps := 2000000) (disch := omega) only [go_sem, ↓reduceIte, e5]
   refine ⟨(P', Y, X, U' ++ S'), ?_, ⟨by simp only; omega, by simp only; omega, by simp only; omega, by rw [h4]; simp⟩, by simp only; omega⟩
   refine Weak.mk ?_ ?_ ?_ <;> simp (maxSteps := 2000000) only [go_sem, ↓reduceIte, Sub, Int.natCast_add, Int.natCast_mul, hY]
  ·have heq : U'.length = V'.length := by omega
   refine PrimG.mc2 (.x 0) (.x 1) rfl (swapRange_at (P := P') (X := U') (Y := []) (Z := V') (S := S') (L' := L') (by simp) (by rw [h4]; simp) (by simp; omega) rfl (by simp; omega) rfl heq.symm hl hc) rfl rfl rfl rfl rfl ⟨box_row _, rowN_row _ _, box_row _, rowN_row _ _⟩ rfl ?_
   simp (maxSteps := 2000000) only [go_sem, ↓reduceIte]
end Go.Av.Try
set_option linter.unusedSimpArgs false
set_option maxRecDepth 100000
set_option maxHeartbeats 1000000
namespace Go.Av.Try
open Go.Proofs
def CmpOK (g : Nat) (G : D) (K : Ky) (n0 : Nat) : Prop := ∀ x y : Nat, x < n0 → y < n0 → MCall Try.prog g [.d (.int .i64 (x : Nat)), .d (.int .i64 (y : Nat)), .ptr (.x 0) 0] [.cells [.d G]]
 (fun r hs => (∃ z : Int, r = .d (.int .i64 z) ∧ (z < 0 ↔ K.key x < K.key y)) ∧ hs = [.cells [.d G]])
theorem adj_set {Q R : List Nat} {x z : Nat} : ((Q ++ (z :: x :: R)).set (Q.length + 1) z).set Q.length x = Q ++ (x :: z :: R) := by
 have h1 : (Q ++ (z :: x :: R)).set (Q.length + 1) z = Q ++ (z :: z :: R) := by
  rw [List.set_append_right _ _ (by omega), show Q.length + 1 - Q.length = 1 by omega]; rfl
 rw [h1, List.set_append_right _ _ (Nat.le_refl _), Nat.sub_self]; rfl
theorem adj_get0 {Q R : List Nat} {z : Nat} : (Q ++ (z :: R))[Q.length]? = some z := by
 rw [List.getElem?_append_right (Nat.le_refl _), Nat.sub_self]; rfl
theorem adj_get1 {Q R : List Nat} {x z : Nat} : (Q ++ (z :: x :: R))[Q.length + 1]? = some x := by
 rw [List.getElem?_append_right (by omega), show Q.length + 1 - Q.length = 1 by omega]; rfl
def L_slices_insertionSortCmpFunc_int_ : LCode :=
 .seq (.reg [Qc 10 1, Q 11 (.bin .add (.t 10) (Ki 1)), Qa 8 11]) (.block 0 (.loop (.seq (.seq (.reg [Qc 12 8, Qc 13 2, Q 14 (.bin .lss (.t 12) (.t 13))]) (.cond (.t 14) .skip (.exit 
 0))) (.seq (.block 1 (.seq (.reg [Qc 17 8, Qa 9 17]) (.block 2 (.loop (.seq (.seq (.dreg [Qc 18 9, Qc 19 1, Q 20 (.bin .gtr (.t 18) (.t 19)), Qc 21 20, Qd 22 3 21 true, Qd 23 0 
 21 true, Qd 24 9 21 true, Qg 25 (.ia 1 (.t 23) (.t 24)) 21 true, Qg 26 (.ld false 1 (.t 25)) 21 true, Qd 27 0 21 true, Qd 28 9 21 true, Qg 29 (.bin .sub (.t 28) (Ki 1)) 21 true, 
 Qg 30 (.ia 1 (.t 27) (.t 29)) 21 true, Qg 31 (.ld false 1 (.t 30)) 21 true, ⟨some 32, .prim .call [.t 22, .t 26, .t 31] [], some (21, true)⟩, Qg 33 (.bin .lss (.t 32) (Ki 0)) 21 
 true, Q 34 (.pick (.t 21) (.t 33) KF)]) (.cond (.t 34) .skip (.exit 2))) (.seq (.block 3 (.dreg [Qc 37 0, Qc 38 9, Qc 39 0, Qc 40 9, Q 41 (.bin .sub (.t 40) (Ki 1)), Qc 42 0, Qc 
 43 9, Q 44 (.bin .sub (.t 43) (Ki 1)), Q 45 (.ia 1 (.t 42) (.t 44)), Q 46 (.ld false 1 (.t 45)), Qc 47 0, Qc 48 9, Q 49 (.ia 1 (.t 47) (.t 48)), Q 50 (.ld false 1 (.t 49)), Q 51 
 (.ia 1 (.t 37) (.t 38)), ⟨none, .stC 1 (.t 51) (.t 46) [(39, .cp (.t 0)), (40, .cp (.t 9)), (41, .bin .sub (.t 40) (Ki 1))], none⟩, Q 52 (.ia 1 (.t 39) (.t 41)), ⟨none, .stC 1 
 (.t 52) (.t 50) [], none⟩])) (.reg [Qc 35 9, Q 36 (.bin .sub (.t 35) (Ki 1)), Qa 9 36]))))))) (.reg [Qc 15 8, Q 16 (.bin .add (.t 15) (Ki 1)), Qa 8 16])))))
def R_slices_insertionSortCmpFunc_int_ : List LRes := []
theorem lift_slices_insertionSortCmpFunc_int_ : Lifts Try.prog 34 53 L_slices_insertionSortCmpFunc_int_ R_slices_insertionSortCmpFunc_int_ := ⟨_, _, Try.func34, rfl, by kernel_rfl, by kernel_rfl, rfl⟩
theorem insSort_call {L P A S : List Nat} {N a b c g n0 : Nat} {G : D} {K : Ky} (hg : CmpOK g G K n0) (hL : L = P ++ (A ++ S)) (hN : N = L.length) (ha : a = P.length) (hb : b = P.length + A.length) (hu : K.up A) (hel : ∀ x ∈ A, x < n0) (hl : N ≤ c) (hc : N ≤ 1000000) :
  MCallE Try.prog 34 [.rs (.x 1) N c, .d (.int .i64 (a : Nat)), .d (.int .i64 (b : Nat)), .fn (.func g) [] [.ptr (.x 0) 0]] [.cells [.d G], .cells (rowN L c)] (.tuple []) [.cells [.d G], .cells (rowN (P ++ (K.st A ++ S)) c)] := by
 have hNl : N = P.length + A.length + S.length := by rw [hN, hL]; simp; omega
 refine lift_slices_insertionSortCmpFunc_int_.mcall (by kernel_rfl) rfl ?_
 simp (maxSteps := 2000000) (disch := omega) only [go_sem, ↓reduceIte, L_slices_insertionSortCmpFunc_int_, R_slices_insertionSortCmpFunc_int_]
 cases A with
 | nil =>
  refine run_unroll ?_
  have z : ((a : Int) + 1 < (b : Int)) = False := eq_false (by simp at hb; omega)
  simp (maxSteps := 2000000) only [go_sem, ↓reduceIte, z]
  rw [hL]; rfl
 | cons x0 A0 =>
  refine run_loop (fun y : List Nat × List Nat => ⟨[(0, .rs (.x 1) N c), (1, .d (.int .i64 (a : Nat))), (2, .d (.int .i64 (b : Nat))), (3, .fn (.func g) [] [.ptr (.x 0) 0]), (8, .d (.int .i64 ((P.length + y.1.length : Nat))))], [], [(0, .cells [.d G]), (1, .cells (rowN (P ++ (y.1 ++ (y.2 ++ S))) c))]⟩)
   (fun y => ∃ k, y.1.Perm ((x0 :: A0).take k) ∧ y.2 = (x0 :: A0).drop k ∧ K.srt y.1 ∧ 1 ≤ k ∧ k ≤ (x0 :: A0).length) (fun y => y.2.length) ([x0], A0) ?_ ?_ ?_
  ·have e : ((P.length : Int) + 1) = ((P.length + 1 : Nat) : Int) := by omega
   subst ha hL
   refine Weak.mk ?_ ?_ ?_ <;> simp (maxSteps := 2000000) only [go_sem, ↓reduceIte, Sub, Int.natCast_add, Int.natCast_mul]
  ·exact ⟨1, .refl _, rfl, List.pairwise_singleton _ _, Nat.le_refl _, by simp⟩
  ·rintro ⟨B, C⟩ ⟨k, p1, p2, p3, p4, p5⟩
   simp only at p1 p2 p3 p4 p5
   simp (maxSteps := 2000000) only [go_sem, ↓reduceIte]
   have hBl : B.length = k := by rw [p1.length_eq, List.length_take]; omega
   have hCl : C.length = (x0 :: A0).length - k := by rw [p2, List.length_drop]
   refine ⟨fun hlt => ?_, fun hge => ?_⟩
   ·have hk : k < (x0 :: A0).length := by omega
    obtain ⟨x, C', hC⟩ : ∃ x C', C = x :: C' := by
     cases C with
     | nil => simp at hCl; simp at hk; omega
     | cons x C' => exact ⟨x, C', rfl⟩
    subst hC
    have hA : (x0 :: A0) = (x0 :: A0).take k ++ (x :: C') := by rw [p2]; exact (List.take_append_drop _ _).symm
    have hat : (x0 :: A0).take (k + 1) = (x0 :: A0).take k ++ [x] := by
     have : (x0 :: A0)[k]? = some x := by
      have := congrArg (fun l => l[0]?) p2
      simp only [List.getElem?_drop, Nat.add_zero] at this
      exact this.symm
     rw [List.take_add_one, this]; rfl
    have hdr : C' = (x0 :: A0).drop (k + 1) := by
     rw [← List.drop_drop, ← p2]; rfl
    have hxa : x ∈ x0 :: A0 := by rw [hA]; simp
    have hBa : ∀ y ∈ B, y ∈ x0 :: A0 := fun y hy => List.mem_of_mem_take (p1.subset hy)
    have hpos : ∀ y ∈ B, K.pos y < K.pos x := fun y hy => by
     rw [hA] at hu
     exact (Ky.up_app.1 hu).2.2 y (p1.subset hy) x (by simp)
    have hxn := hel x hxa
    have hI : P.length + B.length + C'.length + 1 + S.length = N := by simp at hCl hNl; omega
    refine run_loop (fun y : List Nat × List Nat => ⟨[(0, .rs (.x 1) N c), (1, .d (.int .i64 (a : Nat))), (2, .d (.int .i64 (b : Nat))), (3, .fn (.func g) [] [.ptr (.x 0) 0]), (8, .d (.int .i64 ((P.length + B.length : Nat)))), (9, .d (.int .i64 ((P.length + y.1.length : Nat))))], [], [(0, .cells [.d G]), (1, .cells (rowN (P ++ (y.1 ++ (x :: (y.2 ++ (C' ++ S))))) c))]⟩)
     (fun y => y.1 ++ y.2 = B ∧ ∀ z ∈ y.2, K.T x z) (fun y => y.1.length) (B, []) ?_ ?_ ?_
    ·refine Weak.mk ?_ ?_ ?_ <;> simp (maxSteps := 2000000) only [go_sem, ↓reduceIte, Sub, Int.natCast_add, Int.natCast_mul]
    ·exact ⟨by simp, by simp⟩
    ·rintro ⟨B1, B2⟩ ⟨q1, q2⟩
     simp only at q1 q2
     have hB12 : B1.length + B2.length = B.length := by rw [← q1]; simp
     have fin : (∀ z ∈ B1, K.T z x) → K.srt (B1 ++ (x :: B2)) := fun h1 => by
      rw [← q1] at p3
      obtain ⟨s1, s2, s3⟩ := List.pairwise_append.1 p3
      refine List.pairwise_append.2 ⟨s1, List.pairwise_cons.2 ⟨q2, s2⟩, fun u hu v hv => ?_⟩
      rcases List.mem_cons.1 hv with rfl | hv
      ·exact h1 u hu
      ·exact s3 u hu v hv
     have next : K.srt (B1 ++ (x :: B2)) → ∃ k1, (B1 ++ (x :: B2)).Perm ((x0 :: A0).take k1) ∧ C' = (x0 :: A0).drop k1 ∧ K.srt (B1 ++ (x :: B2)) ∧ 1 ≤ k1 ∧ k1 ≤ A0.length + 1 := fun hs => ⟨k + 1, by
      rw [hat]
      refine List.Perm.trans ?_ (p1.append_right [x])
      rw [← q1]
      refine List.perm_middle.trans ?_
      exact (List.perm_append_singleton x (B1 ++ B2)).symm, hdr, hs, by omega, by simp at hk; omega⟩
     by_cases hB1 : B1 = []
     ·have hB0 : B1.length = 0 := by rw [hB1]; rfl
      have z : ((a : Int) < ((P.length + B1.length : Nat) : Int)) = False := eq_false (by omega)
      have hs := next (fin (fun z hz => by rw [hB1] at hz; cases hz))
      simp (maxSteps := 2000000) (disch := omega) only [go_sem, ↓reduceIte, z]
      refine ⟨(B1 ++ (x :: B2), C'), ?_, hs, by simp⟩
      have e1 : P ++ ((B1 ++ (x :: B2)) ++ (C' ++ S)) = P ++ (B1 ++ (x :: (B2 ++ (C' ++ S)))) := by simp
      have e2 : ((P.length + (B1 ++ (x :: B2)).length : Nat) : Int) = ((P.length + B.length : Nat) : Int) + 1 := by rw [List.length_append, List.length_cons]; omega
      refine Weak.mk ?_ ?_ ?_ <;> simp (maxSteps := 2000000) only [go_sem, ↓reduceIte, Sub, Int.natCast_add, Int.natCast_mul, e1, e2]
     ·obtain ⟨B0, z, rfl⟩ : ∃ B0 z, B1 = B0 ++ [z] := ⟨B1.dropLast, B1.getLast hB1, (List.dropLast_concat_getLast hB1).symm⟩
      have hzB : z ∈ B := by rw [← q1]; simp
      have z1 : ((a : Int) < ((P.length + (B0 ++ [z]).length : Nat) : Int)) = True := eq_true (by simp; omega)
      have hj : P.length + (B0 ++ [z]).length = (P ++ B0).length + 1 := by rw [List.length_append, List.length_append]; simp only [List.length_cons, List.length_nil]; omega
      have hrow : P ++ ((B0 ++ [z]) ++ (x :: (B2 ++ (C' ++ S)))) = (P ++ B0) ++ (z :: x :: (B2 ++ (C' ++ S))) := by simp
      have l1 : (rowN ((P ++ B0) ++ (z :: x :: (B2 ++ (C' ++ S)))) c)[((((P ++ B0).length + 1 : Nat) : Int)).toNat * 1]? = some (.d (.int .i64 (x : Nat))) := by
       rw [show ((((P ++ B0).length + 1 : Nat) : Int)).toNat * 1 = (P ++ B0).length + 1 by omega]
       exact rowN_get adj_get1
      have l2 : (rowN ((P ++ B0) ++ (z :: x :: (B2 ++ (C' ++ S)))) c)[((((P ++ B0).length : Nat) : Int)).toNat * 1]? = some (.d (.int .i64 (z : Nat))) := by
       rw [show ((((P ++ B0).length : Nat) : Int)).toNat * 1 = (P ++ B0).length by omega]
       exact rowN_get adj_get0
      have e3 : ((((P ++ B0).length + 1 : Nat) : Int)) - 1 = (((P ++ B0).length : Nat) : Int) := by omega
      rw [hj, hrow]
      rw [hj] at z1
      have hQ : (P ++ B0).length = P.length + B0.length := List.length_append
      have hB0 : (B0 ++ [z]).length = B0.length + 1 := by simp
      simp (maxSteps := 2000000) (disch := omega) only [go_sem, ↓reduceIte, z1, e3, l1, l2]
      refine ⟨⟨by omega, by omega⟩, ⟨by omega, by omega⟩, ?_⟩
      refine PrimG.mp1 (.x 0) rfl (hg x z hxn (hel z (hBa z hzB))) rfl rfl rfl rfl (fun r hs' hr => ?_)
      obtain ⟨⟨w, rfl, hw⟩, rfl⟩ := hr
      refine ⟨⟨rfl, rfl⟩, ?_⟩
      have hpz := hpos z hzB
      by_cases hlt2 : K.key x < K.key z
      ·have z2 : (w < 0) = True := eq_true (hw.2 hlt2)
       have l3 : (rowN ((P ++ B0) ++ (z :: x :: (B2 ++ (C' ++ S)))) c).set (((((P ++ B0).length + 1 : Nat) : Int)).toNat * 1) (.d (.int .i64 (z : Nat))) = rowN (((P ++ B0) ++ (z :: x :: (B2 ++ (C' ++ S)))).set ((P ++ B0).length + 1) z) c := by
        rw [show ((((P ++ B0).length + 1 : Nat) : Int)).toNat * 1 = (P ++ B0).length + 1 by omega, rowN_set (by simp only [List.length_append, List.length_cons]; omega)]
       have l4 : (rowN (((P ++ B0) ++ (z :: x :: (B2 ++ (C' ++ S)))).set ((P ++ B0).length + 1) z) c).set (((((P ++ B0).length : Nat) : Int)).toNat * 1) (.d (.int .i64 (x : Nat))) = rowN ((P ++ B0) ++ (x :: z :: (B2 ++ (C' ++ S)))) c := by
        rw [show ((((P ++ B0).length : Nat) : Int)).toNat * 1 = (P ++ B0).length by omega, rowN_set (by rw [List.length_set]; simp only [List.length_append, List.length_cons]; omega), adj_set]
       have hlen : ((P ++ B0) ++ (z :: x :: (B2 ++ (C' ++ S)))).length = N := by simp; omega
       have l5 : (rowN (((P ++ B0) ++ (z :: x :: (B2 ++ (C' ++ S)))).set ((P ++ B0).length + 1) z) c).length = c := rowN_len (by rw [List.length_set]; omega)
       have l6 : (rowN ((P ++ B0) ++ (z :: x :: (B2 ++ (C' ++ S)))) c).length = c := rowN_len (by omega)
       simp (maxSteps := 2000000) (disch := omega) only [go_sem, ↓reduceIte, z2, e3, l1, l2, l3, l4, l5, l6]
       refine ⟨⟨by omega, by omega⟩, ⟨by omega, by omega⟩, ⟨by omega, by omega⟩, by omega, ⟨by omega, by omega⟩, by omega, (B0, z :: B2), ?_, ⟨by rw [← q1]; simp, fun u hu => ?_⟩, by simp⟩
       ·have e1 : P ++ (B0 ++ (x :: z :: (B2 ++ (C' ++ S)))) = (P ++ B0) ++ (x :: z :: (B2 ++ (C' ++ S))) := by simp
        have e2 : ((P.length + B0.length : Nat) : Int) = (((P ++ B0).length : Nat) : Int) := by omega
        refine Weak.mk ?_ ?_ ?_ <;> simp (maxSteps := 2000000) only [go_sem, ↓reduceIte, Sub, Int.natCast_add, Int.natCast_mul, e1, e2]
       ·rcases List.mem_cons.1 hu with rfl | hu
        ·exact (Ky.T_late hpz).2 hlt2
        ·exact q2 u hu
      ·have z2 : (w < 0) = False := eq_false (fun h => hlt2 (hw.1 h))
       have hT : K.T z x := (Ky.T_early hpz).2 hlt2
       have hs := next (fin (fun u hu => by
        rcases List.mem_append.1 hu with hu | hu
        ·rw [← q1] at p3
         have s1 := (List.pairwise_append.1 (List.pairwise_append.1 p3).1).2.2 u hu z (by simp)
         exact Ky.T_trans s1 hT
        ·rw [List.mem_singleton.1 hu]; exact hT))
       simp (maxSteps := 2000000) (disch := omega) only [go_sem, ↓reduceIte, z2]
       refine ⟨((B0 ++ [z]) ++ (x :: B2), C'), ?_, hs, by simp⟩
       have e1 : P ++ (((B0 ++ [z]) ++ (x :: B2)) ++ (C' ++ S)) = (P ++ B0) ++ (z :: x :: (B2 ++ (C' ++ S))) := by simp
       have e2 : ((P.length + ((B0 ++ [z]) ++ (x :: B2)).length : Nat) : Int) = ((P.length + B.length : Nat) : Int) + 1 := by rw [List.length_append, List.length_cons]; omega
       refine Weak.mk ?_ ?_ ?_ <;> simp (maxSteps := 2000000) only [go_sem, ↓reduceIte, Sub, Int.natCast_add, Int.natCast_mul, e1, e2]
   ·have hk : k = (x0 :: A0).length := by omega
    have hC : C = [] := List.length_eq_zero_iff.1 (by omega)
    subst hC
    rw [hk, List.take_length] at p1
    rw [Ky.st_eq p3 p1, List.nil_append]
end Go.Av.Try
set_option linter.unusedSimpArgs false
set_option maxRecDepth 100000
set_option maxHeartbeats 2000000
namespace Go.Av.Try
open Go.Proofs
theorem half_of {i j : Nat} (h : i + j ≤ 2000000) : IntKind.i64.wrap ((IntKind.u64.wrap (((i : Nat) : Int) + ((j : Nat) : Int))).fdiv (2 ^ min 1 64)) = (((i + j) / 2 : Nat) : Int) := by
 have e1 : IntKind.u64.wrap ((i : Int) + j) = ((i + j : Nat) : Int) := by
  rw [IntWalk.u64_in] <;> omega
 have e2 : (2 : Int) ^ min 1 64 = 2 := rfl
 rw [e1, e2]
 have e3 : ((i + j : Nat) : Int).fdiv 2 = (((i + j) / 2 : Nat) : Int) := by
  rw [Int.fdiv_eq_ediv_of_nonneg _ (by omega)]; omega
 rw [e3, IntWalk.i64_in] <;> omega
theorem srt_get {K : Ky} {l : List Nat} (h : K.srt l) {i j x y : Nat} (hi : l[i]? = some x) (hj : l[j]? = some y) (hij : i < j) : K.T x y := by
 obtain ⟨h1, rfl⟩ := List.getElem?_eq_some_iff.1 hi
 obtain ⟨h2, rfl⟩ := List.getElem?_eq_some_iff.1 hj
 exact List.pairwise_iff_getElem.1 h i j h1 h2 hij
theorem adj_set2 {Q R : List Nat} {x z : Nat} : ((Q ++ (x :: z :: R)).set Q.length z).set (Q.length + 1) x = Q ++ (z :: x :: R) := by
 have h1 : (Q ++ (x :: z :: R)).set Q.length z = Q ++ (z :: z :: R) := by
  rw [List.set_append_right _ _ (Nat.le_refl _), Nat.sub_self]; rfl
 rw [h1, List.set_append_right _ _ (by omega), show Q.length + 1 - Q.length = 1 by omega]; rfl
theorem take_all {B : List Nat} {n : Nat} {p : Nat → Prop} (h : ∀ k z, B[k]? = some z → k < n → p z) : ∀ z ∈ B.take n, p z := fun z hz => by
 obtain ⟨k, hk⟩ := List.getElem?_of_mem hz
 rw [List.getElem?_take] at hk
 split at hk
 ·exact h k z hk (by assumption)
 ·cases hk
theorem drop_all {B : List Nat} {n : Nat} {p : Nat → Prop} (h : ∀ k z, B[k]? = some z → n ≤ k → p z) : ∀ z ∈ B.drop n, p z := fun z hz => by
 obtain ⟨k, hk⟩ := List.getElem?_of_mem hz
 rw [List.getElem?_drop] at hk
 exact h _ z hk (by omega)
theorem Ky.put1 {K : Ky} {B : List Nat} {x n : Nat} (hB : K.srt B) (h1 : ∀ z ∈ B.take n, K.T z x) (h2 : ∀ z ∈ B.drop n, K.T x z) : K.srt (B.take n ++ (x :: B.drop n)) := by
 have hB' : K.srt (B.take n ++ B.drop n) := by rw [List.take_append_drop]; exact hB
 obtain ⟨s1, s2, s3⟩ := List.pairwise_append.1 hB'
 refine List.pairwise_append.2 ⟨s1, List.pairwise_cons.2 ⟨h2, s2⟩, fun u hu v hv => ?_⟩
 rcases List.mem_cons.1 hv with rfl | hv
 ·exact h1 u hu
 ·exact s3 u hu v hv
theorem put1_perm {B : List Nat} {x n : Nat} : (B.take n ++ (x :: B.drop n)).Perm (x :: B) := by
 refine List.perm_middle.trans ?_
 rw [List.take_append_drop]
theorem take_last {l : List Nat} {k x : Nat} (hk : k ≤ l.length) (h : x ∈ (l.take k).getLast?) : 0 < k ∧ l[k - 1]? = some x := by
 have hl : (l.take k).length = k := by rw [List.length_take]; omega
 rw [Option.mem_def, List.getLast?_eq_getElem?, hl, List.getElem?_take] at h
 split at h
 ·exact ⟨by omega, h⟩
 ·cases h
theorem drop_head {l : List Nat} {k x : Nat} (h : x ∈ (l.drop k).head?) : l[k]? = some x := by
 rw [Option.mem_def, List.head?_drop] at h
 exact h
def L_slices_symMergeCmpFunc_int_ : LCode :=
 .seq (.seq (.reg [Qc 25 2, Qc 26 1, Q 27 (.bin .sub (.t 25) (.t 26)), Q 28 (.bin .eql (.t 27) (Ki 1))]) (.cond (.t 28) (.seq (.reg [Qc 29 2, Qa 10 29]) (.seq (.reg [Qc 30 3, Qa 11 
 30]) (.seq (.block 0 (.loop (.seq (.seq (.reg [Qc 31 10, Qc 32 11, Q 33 (.bin .lss (.t 31) (.t 32))]) (.cond (.t 33) .skip (.exit 0))) (.block 1 (.seq (.reg [Qc 34 10, Qc 35 11, 
 Q 36 (.bin .add (.t 34) (.t 35)), Q 37 (.cvI .u64 (.t 36)), Q 38 (.bin .shr (.t 37) (.k (.d (.int .u64 1)))), Q 39 (.cvI .i64 (.t 38)), Qa 12 39]) (.seq (.dreg [Qc 40 4, Qc 41 0, 
 Qc 42 12, Q 43 (.ia 1 (.t 41) (.t 42)), Q 44 (.ld false 1 (.t 43)), Qc 45 0, Qc 46 1, Q 47 (.ia 1 (.t 45) (.t 46)), Q 48 (.ld false 1 (.t 47)), ⟨some 49, .prim .call [.t 40, .t 
 44, .t 48] [], none⟩, Q 50 (.bin .lss (.t 49) (Ki 0))]) (.cond (.t 50) (.reg [Qc 51 12, Q 52 (.bin .add (.t 51) (Ki 1)), Qa 10 52]) (.reg [Qc 53 12, Qa 11 53])))))))) (.seq (.seq 
 (.reg [Qc 54 1, Qa 13 54]) (.block 2 (.loop (.seq (.seq (.reg [Qc 55 13, Qc 56 10, Q 57 (.bin .sub (.t 56) (Ki 1)), Q 58 (.bin .lss (.t 55) (.t 57))]) (.cond (.t 58) .skip (.exit 
 2))) (.seq (.block 3 (.dreg [Qc 61 0, Qc 62 13, Qc 63 0, Qc 64 13, Q 65 (.bin .add (.t 64) (Ki 1)), Qc 66 0, Qc 67 13, Q 68 (.bin .add (.t 67) (Ki 1)), Q 69 (.ia 1 (.t 66) (.t 
 68)), Q 70 (.ld false 1 (.t 69)), Qc 71 0, Qc 72 13, Q 73 (.ia 1 (.t 71) (.t 72)), Q 74 (.ld false 1 (.t 73)), Q 75 (.ia 1 (.t 61) (.t 62)), ⟨none, .stC 1 (.t 75) (.t 70) [(63, 
 .cp (.t 0)), (64, .cp (.t 13)), (65, .bin .add (.t 64) (Ki 1))], none⟩, Q 76 (.ia 1 (.t 63) (.t 65)), ⟨none, .stC 1 (.t 76) (.t 74) [], none⟩])) (.reg [Qc 59 13, Q 60 (.bin .add 
 (.t 59) (Ki 1)), Qa 13 60])))))) .ret)))) .skip)) (.seq (.seq (.reg [Qc 77 3, Qc 78 2, Q 79 (.bin .sub (.t 77) (.t 78)), Q 80 (.bin .eql (.t 79) (Ki 1))]) (.cond (.t 80) (.seq 
 (.reg [Qc 81 1, Qa 14 81]) (.seq (.reg [Qc 82 2, Qa 15 82]) (.seq (.block 4 (.loop (.seq (.seq (.reg [Qc 83 14, Qc 84 15, Q 85 (.bin .lss (.t 83) (.t 84))]) (.cond (.t 85) .skip 
 (.exit 4))) (.block 5 (.seq (.reg [Qc 86 14, Qc 87 15, Q 88 (.bin .add (.t 86) (.t 87)), Q 89 (.cvI .u64 (.t 88)), Q 90 (.bin .shr (.t 89) (.k (.d (.int .u64 1)))), Q 91 (.cvI 
 .i64 (.t 90)), Qa 16 91]) (.seq (.dreg [Qc 92 4, Qc 93 0, Qc 94 2, Q 95 (.ia 1 (.t 93) (.t 94)), Q 96 (.ld false 1 (.t 95)), Qc 97 0, Qc 98 16, Q 99 (.ia 1 (.t 97) (.t 98)), Q 
 100 (.ld false 1 (.t 99)), ⟨some 101, .prim .call [.t 92, .t 96, .t 100] [], none⟩, Q 102 (.bin .lss (.t 101) (Ki 0)), Q 103 (.not (.t 102))]) (.cond (.t 103) (.reg [Qc 104 16, Q 
 105 (.bin .add (.t 104) (Ki 1)), Qa 14 105]) (.reg [Qc 106 16, Qa 15 106])))))))) (.seq (.seq (.reg [Qc 107 2, Qa 17 107]) (.block 6 (.loop (.seq (.seq (.reg [Qc 108 17, Qc 109 
 14, Q 110 (.bin .gtr (.t 108) (.t 109))]) (.cond (.t 110) .skip (.exit 6))) (.seq (.block 7 (.dreg [Qc 113 0, Qc 114 17, Qc 115 0, Qc 116 17, Q 117 (.bin .sub (.t 116) (Ki 1)), 
 Qc 118 0, Qc 119 17, Q 120 (.bin .sub (.t 119) (Ki 1)), Q 121 (.ia 1 (.t 118) (.t 120)), Q 122 (.ld false 1 (.t 121)), Qc 123 0, Qc 124 17, Q 125 (.ia 1 (.t 123) (.t 124)), Q 126 
 (.ld false 1 (.t 125)), Q 127 (.ia 1 (.t 113) (.t 114)), ⟨none, .stC 1 (.t 127) (.t 122) [(115, .cp (.t 0)), (116, .cp (.t 17)), (117, .bin .sub (.t 116) (Ki 1))], none⟩, Q 128 
 (.ia 1 (.t 115) (.t 117)), ⟨none, .stC 1 (.t 128) (.t 126) [], none⟩])) (.reg [Qc 111 17, Q 112 (.bin .sub (.t 111) (Ki 1)), Qa 17 112])))))) .ret)))) .skip)) (.seq (.reg [Qc 129 
 1, Qc 130 3, Q 131 (.bin .add (.t 129) (.t 130)), Q 132 (.cvI .u64 (.t 131)), Q 133 (.bin .shr (.t 132) (.k (.d (.int .u64 1)))), Q 134 (.cvI .i64 (.t 133)), Qa 18 134]) (.seq 
 (.reg [Qc 135 18, Qc 136 2, Q 137 (.bin .add (.t 135) (.t 136)), Qa 19 137]) (.seq (.reg [Qx 20 (Ki 0), Qx 21 (Ki 0)]) (.seq (.join (.seq (.reg [Qc 138 2, Qc 139 18, Q 140 (.bin 
 .gtr (.t 138) (.t 139))]) (.cond (.t 140) (.seq (.reg [Qc 141 19, Qc 142 3, Q 143 (.bin .sub (.t 141) (.t 142)), Qa 20 143]) (.reg [Qc 144 18, Qa 21 144])) (.seq (.reg [Qc 145 1, 
 Qa 20 145]) (.reg [Qc 146 2, Qa 21 146]))))) (.seq (.reg [Qc 147 19, Q 148 (.bin .sub (.t 147) (Ki 1)), Qa 22 148]) (.seq (.block 8 (.loop (.seq (.seq (.reg [Qc 149 20, Qc 150 
 21, Q 151 (.bin .lss (.t 149) (.t 150))]) (.cond (.t 151) .skip (.exit 8))) (.block 9 (.seq (.reg [Qc 152 20, Qc 153 21, Q 154 (.bin .add (.t 152) (.t 153)), Q 155 (.cvI .u64 (.t 
 154)), Q 156 (.bin .shr (.t 155) (.k (.d (.int .u64 1)))), Q 157 (.cvI .i64 (.t 156)), Qa 23 157]) (.seq (.dreg [Qc 158 4, Qc 159 0, Qc 160 22, Qc 161 23, Q 162 (.bin .sub (.t 
 160) (.t 161)), Q 163 (.ia 1 (.t 159) (.t 162)), Q 164 (.ld false 1 (.t 163)), Qc 165 0, Qc 166 23, Q 167 (.ia 1 (.t 165) (.t 166)), Q 168 (.ld false 1 (.t 167)), ⟨some 169, 
 .prim .call [.t 158, .t 164, .t 168] [], none⟩, Q 170 (.bin .lss (.t 169) (Ki 0)), Q 171 (.not (.t 170))]) (.cond (.t 171) (.reg [Qc 172 23, Q 173 (.bin .add (.t 172) (Ki 1)), Qa 
 20 173]) (.reg [Qc 174 23, Qa 21 174])))))))) (.seq (.reg [Qc 175 19, Qc 176 20, Q 177 (.bin .sub (.t 175) (.t 176)), Qa 24 177]) (.seq (.join (.seq (.reg [Qc 178 20, Qc 179 2, Q 
 180 (.bin .lss (.t 178) (.t 179)), Qc 181 180, Qd 182 2 181 true, Qd 183 24 181 true, Qg 184 (.bin .lss (.t 182) (.t 183)) 181 true, Q 185 (.pick (.t 181) (.t 184) KF)]) (.cond 
 (.t 185) (.reg [Qc 186 0, Qc 187 20, Qc 188 2, Qc 189 24, Qc 190 4, ⟨some 191, .prim .call [.k (.fn (.func 36) [] []), .t 186, .t 187, .t 188, .t 189, .t 190] [], none⟩]) 
 .skip))) (.seq (.join (.seq (.reg [Qc 192 1, Qc 193 20, Q 194 (.bin .lss (.t 192) (.t 193)), Qc 195 194, Qd 196 20 195 true, Qd 197 18 195 true, Qg 198 (.bin .lss (.t 196) (.t 
 197)) 195 true, Q 199 (.pick (.t 195) (.t 198) KF)]) (.cond (.t 199) (.reg [Qc 200 0, Qc 201 1, Qc 202 20, Qc 203 18, Qc 204 4, ⟨some 205, .prim .call [.k (.fn (.func 35) [] []), 
 .t 200, .t 201, .t 202, .t 203, .t 204] [], none⟩]) .skip))) (.seq (.reg [Qc 206 18, Qc 207 24, Q 208 (.bin .lss (.t 206) (.t 207)), Qc 209 208, Qd 210 24 209 true, Qd 211 3 209 
 true, Qg 212 (.bin .lss (.t 210) (.t 211)) 209 true, Q 213 (.pick (.t 209) (.t 212) KF)]) (.cond (.t 213) (.reg [Qc 214 0, Qc 215 18, Qc 216 24, Qc 217 3, Qc 218 4, ⟨some 219, 
 .prim .call [.k (.fn (.func 35) [] []), .t 214, .t 215, .t 216, .t 217, .t 218] [], none⟩]) .skip))))))))))))
def R_slices_symMergeCmpFunc_int_ : List LRes := []
theorem lift_slices_symMergeCmpFunc_int_ : Lifts Try.prog 35 220 L_slices_symMergeCmpFunc_int_ R_slices_symMergeCmpFunc_int_ := ⟨_, _, Try.func35, rfl, by kernel_rfl, by kernel_rfl, rfl⟩
theorem symMerge_call {c g n0 N : Nat} {G : D} {K : Ky} (hg : CmpOK g G K n0) (hc : N ≤ 1000000) : ∀ (f : Nat) {L P A B S : List Nat} {a m b : Nat}, A.length + B.length ≤ f → L = P ++ (A ++ (B ++ S)) → N = L.length → a = P.length → m = P.length + A.length → b = P.length + A.length + B.length → K.srt A → K.srt B → K.ahead A B → A ≠ [] → B ≠ [] → (∀ x ∈ A, x < n0) → (∀ x ∈ B, x < n0) → N ≤ c →
  MCallE Try.prog 35 [.rs (.x 1) N c, .d (.int .i64 (a : Nat)), .d (.int .i64 (m : Nat)), .d (.int .i64 (b : Nat)), .fn (.func g) [] [.ptr (.x 0) 0]] [.cells [.d G], .cells (rowN L c)] (.tuple []) [.cells [.d G], .cells (rowN (P ++ (K.st (A ++ B) ++ S)) c)]
 | 0, L, P, A, B, S, a, m, b, hf, _, _, _, _, _, _, _, _, hA, _, _, _, _ => by
  have := List.length_pos_iff.2 hA
  omega
 | f + 1, L, P, A, B, S, a, m, b, hf, hL, hN, ha, hm, hb, sA, sB, hah, hA, hB, eA, eB, hl => by
  have hNl : N = P.length + A.length + B.length + S.length := by rw [hN, hL]; simp; omega
  have pA := List.length_pos_iff.2 hA
  have pB := List.length_pos_iff.2 hB
  refine lift_slices_symMergeCmpFunc_int_.mcall (by kernel_rfl) rfl ?_
  by_cases h1 : A.length = 1
  ·obtain ⟨x, rfl⟩ : ∃ x, A = [x] := List.length_eq_one_iff.1 h1
   have z1 : ((m : Int) - (a : Int)) = 1 := by simp at hm; omega
   simp (maxSteps := 2000000) (disch := omega) only [go_sem, ↓reduceIte, L_slices_symMergeCmpFunc_int_, R_slices_symMergeCmpFunc_int_, z1]
   refine run_loop (fun y : Nat × Nat => ⟨[(0, .rs (.x 1) N c), (1, .d (.int .i64 (a : Nat))), (2, .d (.int .i64 (m : Nat))), (3, .d (.int .i64 (b : Nat))), (4, .fn (.func g) [] [.ptr (.x 0) 0]), (10, .d (.int .i64 (y.1 : Nat))), (11, .d (.int .i64 (y.2 : Nat)))], [], [(0, .cells [.d G]), (1, .cells (rowN L c))]⟩)
    (fun y => m ≤ y.1 ∧ y.1 ≤ y.2 ∧ y.2 ≤ b ∧ ∀ k z, B[k]? = some z → (m + k < y.1 → K.T z x) ∧ (y.2 ≤ m + k → K.T x z)) (fun y => y.2 - y.1) (m, b) ?_ ?_ ?_
   ·refine Weak.mk ?_ ?_ ?_ <;> simp (maxSteps := 2000000) only [go_sem, ↓reduceIte, Sub, Int.natCast_add, Int.natCast_mul]
   ·refine ⟨Nat.le_refl _, by simp only; omega, Nat.le_refl _, fun k z hz => ⟨fun h => by simp only at h; omega, fun h => ?_⟩⟩
    have := (List.getElem?_eq_some_iff.1 hz).1
    simp only at h
    simp at hm hb
    omega
   ·rintro ⟨i, j⟩ ⟨q1, q2, q3, q4⟩
    simp only at q1 q2 q3 q4
    simp only [List.length_cons, List.length_nil] at hm hb hNl
    simp (maxSteps := 2000000) only [go_sem, ↓reduceIte]
    refine ⟨fun hlt => ?_, fun hge => ?_⟩
    ·have hlt : i < j := by omega
     obtain ⟨z, hz⟩ := get_some (l := B) (i := (i + j) / 2 - m) (by omega)
     have hzB := List.mem_of_getElem? hz
     have g1 : L[(i + j) / 2]? = some z := by
      rw [hL, List.getElem?_append_right (by omega), List.getElem?_append_right (by simp; omega), List.getElem?_append_left (by simp; omega), ← hz]
      congr 1
      simp; omega
     have g2 : L[a]? = some x := by rw [hL, ha]; exact adj_get0
     have l1 : (rowN L c)[((((i + j) / 2 : Nat) : Int)).toNat * 1]? = some (.d (.int .i64 (z : Nat))) := by
      rw [show ((((i + j) / 2 : Nat) : Int)).toNat * 1 = (i + j) / 2 by omega]; exact rowN_get g1
     have l2 : (rowN L c)[((a : Nat) : Int).toNat * 1]? = some (.d (.int .i64 (x : Nat))) := by
      rw [show ((a : Nat) : Int).toNat * 1 = a by omega]; exact rowN_get g2
     simp (maxSteps := 2000000) (disch := omega) only [go_sem, ↓reduceIte, half_of, l1, l2]
     refine ⟨⟨by omega, by omega⟩, ⟨by omega, by omega⟩, ?_⟩
     refine PrimG.mp1 (.x 0) rfl (hg z x (eB z hzB) (eA x (by simp))) rfl rfl rfl rfl (fun r hs' hr => ?_)
     obtain ⟨⟨w, rfl, hw⟩, rfl⟩ := hr
     refine ⟨⟨rfl, rfl⟩, ?_⟩
     have hpz : K.pos x < K.pos z := hah x (by simp) z hzB
     simp (maxSteps := 2000000) (disch := omega) only [go_sem, ↓reduceIte]
     refine ⟨fun hneg => ⟨((i + j) / 2 + 1, j), ?_, ⟨by simp only; omega, by simp only; omega, q3, fun k u hu => ⟨fun h => ?_, (q4 k u hu).2⟩⟩, by simp only; omega⟩, fun hpos => ⟨(i, (i + j) / 2), ?_, ⟨q1, by simp only; omega, by simp only; omega, fun k u hu => ⟨(q4 k u hu).1, fun h => ?_⟩⟩, by simp only; omega⟩⟩
     ·refine Weak.mk ?_ ?_ ?_ <;> simp (maxSteps := 2000000) only [go_sem, ↓reduceIte, Sub, Int.natCast_add, Int.natCast_mul]
     ·have hT := (Ky.T_late hpz).2 (hw.1 hneg)
      simp only at h
      by_cases e : k = (i + j) / 2 - m
      ·rw [e, hz] at hu; cases hu; exact hT
      ·exact Ky.T_trans (srt_get sB hu hz (by omega)) hT
     ·refine Weak.mk ?_ ?_ ?_ <;> simp (maxSteps := 2000000) only [go_sem, ↓reduceIte, Sub, Int.natCast_add, Int.natCast_mul]
     ·have hT := (Ky.T_early hpz).2 (fun h => hpos (hw.2 h))
      simp only at h
      by_cases e : k = (i + j) / 2 - m
      ·rw [e, hz] at hu; cases hu; exact hT
      ·exact Ky.T_trans hT (srt_get sB hz hu (by omega))
    ·have hij : j = i := by omega
     subst hij
     have t1 : ∀ z ∈ B.take (j - m), K.T z x := take_all fun k z hz hk => (q4 k z hz).1 (by omega)
     have t2 : ∀ z ∈ B.drop (j - m), K.T x z := drop_all fun k z hz hk => (q4 k z hz).2 (by omega)
     have hB1 : (B.take (j - m)).length = j - m := by rw [List.length_take]; omega
     have hBB : B.take (j - m) ++ B.drop (j - m) = B := List.take_append_drop _ _
     have hfin := K.put1 sB t1 t2
     have hprm := put1_perm (B := B) (x := x) (n := j - m)
     generalize B.take (j - m) = B1 at *
     generalize B.drop (j - m) = B3 at *
     have hLl : P.length + 1 + B1.length + B3.length + S.length = N := by rw [← hBB] at hNl; simp at hNl; omega
     refine run_loop (fun y : List Nat × List Nat => ⟨[(0, .rs (.x 1) N c), (10, .d (.int .i64 (j : Nat))), (13, .d (.int .i64 ((P.length + y.1.length : Nat))))], [], [(0, .cells [.d G]), (1, .cells (rowN (P ++ (y.1 ++ (x :: (y.2 ++ (B3 ++ S))))) c))]⟩)
      (fun y => y.1 ++ y.2 = B1) (fun y => y.2.length) ([], B1) ?_ rfl ?_
     ·have e1 : L = P ++ (x :: (B1 ++ (B3 ++ S))) := by rw [hL, ← hBB]; simp
      subst e1 ha
      refine Weak.mk ?_ ?_ ?_ <;> simp (maxSteps := 2000000) only [go_sem, ↓reduceIte, Sub, Int.natCast_add, Int.natCast_mul, Nat.add_zero]
     ·rintro ⟨C, D⟩ hCD
      simp only at hCD
      have hCl : C.length + D.length = B1.length := by rw [← hCD]; simp
      have e4 : ((j : Nat) : Int) - 1 = ((P.length + B1.length : Nat) : Int) := by omega
      simp (maxSteps := 2000000) (disch := omega) only [go_sem, ↓reduceIte, e4]
      refine ⟨fun hlt => ?_, fun hge => ?_⟩
      ·obtain ⟨z, D', rfl⟩ : ∃ z D', D = z :: D' := by
        cases D with
        | nil => simp at hCl; omega
        | cons z D' => exact ⟨z, D', rfl⟩
       have hQ : (P ++ C).length = P.length + C.length := List.length_append
       have hrow : P ++ (C ++ (x :: ((z :: D') ++ (B3 ++ S)))) = (P ++ C) ++ (x :: z :: (D' ++ (B3 ++ S))) := by simp
       rw [hrow, ← hQ]
       have l1 : (rowN ((P ++ C) ++ (x :: z :: (D' ++ (B3 ++ S)))) c)[((((P ++ C).length : Nat) : Int) + 1).toNat * 1]? = some (.d (.int .i64 (z : Nat))) := by
        rw [show ((((P ++ C).length : Nat) : Int) + 1).toNat * 1 = (P ++ C).length + 1 by omega]
        exact rowN_get adj_get1
       have l2 : (rowN ((P ++ C) ++ (x :: z :: (D' ++ (B3 ++ S)))) c)[((((P ++ C).length : Nat) : Int)).toNat * 1]? = some (.d (.int .i64 (x : Nat))) := by
        rw [show ((((P ++ C).length : Nat) : Int)).toNat * 1 = (P ++ C).length by omega]
        exact rowN_get adj_get0
       have hlen : ((P ++ C) ++ (x :: z :: (D' ++ (B3 ++ S)))).length = N := by simp only [List.length_append, List.length_cons] at *; omega
       have l3 : (rowN ((P ++ C) ++ (x :: z :: (D' ++ (B3 ++ S)))) c).set (((((P ++ C).length : Nat) : Int)).toNat * 1) (.d (.int .i64 (z : Nat))) = rowN (((P ++ C) ++ (x :: z :: (D' ++ (B3 ++ S)))).set (P ++ C).length z) c := by
        rw [show ((((P ++ C).length : Nat) : Int)).toNat * 1 = (P ++ C).length by omega, rowN_set (by simp only [List.length_append, List.length_cons]; omega)]
       have l4 : (rowN (((P ++ C) ++ (x :: z :: (D' ++ (B3 ++ S)))).set (P ++ C).length z) c).set (((((P ++ C).length : Nat) : Int) + 1).toNat * 1) (.d (.int .i64 (x : Nat))) = rowN ((P ++ C) ++ (z :: x :: (D' ++ (B3 ++ S)))) c := by
        rw [show ((((P ++ C).length : Nat) : Int) + 1).toNat * 1 = (P ++ C).length + 1 by omega, rowN_set (by rw [List.length_set]; simp only [List.length_append, List.length_cons]; omega), adj_set2]
       have l5 : (rowN (((P ++ C) ++ (x :: z :: (D' ++ (B3 ++ S)))).set (P ++ C).length z) c).length = c := rowN_len (by rw [List.length_set]; omega)
       have l6 : (rowN ((P ++ C) ++ (x :: z :: (D' ++ (B3 ++ S)))) c).length = c := rowN_len (by omega)
       simp (maxSteps := 2000000) (disch := omega) only [go_sem, ↓reduceIte, l1, l2, l3, l4, l5, l6]
       simp only [List.length_cons] at hCl
       refine ⟨⟨by omega, by omega⟩, ⟨by omega, by omega⟩, ⟨by omega, by omega⟩, by omega, ⟨by omega, by omega⟩, by omega, (C ++ [z], D'), ?_, by rw [← hCD]; simp, by simp⟩
       have e1 : P ++ ((C ++ [z]) ++ (x :: (D' ++ (B3 ++ S)))) = (P ++ C) ++ (z :: x :: (D' ++ (B3 ++ S))) := by simp
       have e2 : ((P.length + (C ++ [z]).length : Nat) : Int) = (((P ++ C).length : Nat) : Int) + 1 := by simp only [List.length_append, List.length_cons, List.length_nil]; omega
       refine Weak.mk ?_ ?_ ?_ <;> simp (maxSteps := 2000000) only [go_sem, ↓reduceIte, Sub, Int.natCast_add, Int.natCast_mul, e1, e2]
      ·have hD : D = [] := List.length_eq_zero_iff.1 (by omega)
       subst hD
       rw [List.append_nil] at hCD
       subst hCD
       rw [← Ky.st_eq hfin hprm]
       simp
  ·have z1 : ((m : Int) - (a : Int) = 1) = False := eq_false (by omega)
   by_cases h2 : B.length = 1
   ·obtain ⟨x, rfl⟩ : ∃ x, B = [x] := List.length_eq_one_iff.1 h2
    have z2 : ((b : Int) - (m : Int)) = 1 := by simp at hb; omega
    simp (maxSteps := 2000000) (disch := omega) only [go_sem, ↓reduceIte, L_slices_symMergeCmpFunc_int_, R_slices_symMergeCmpFunc_int_, z1, z2]
    refine run_loop (fun y : Nat × Nat => ⟨[(0, .rs (.x 1) N c), (1, .d (.int .i64 (a : Nat))), (2, .d (.int .i64 (m : Nat))), (3, .d (.int .i64 (b : Nat))), (4, .fn (.func g) [] [.ptr (.x 0) 0]), (14, .d (.int .i64 (y.1 : Nat))), (15, .d (.int .i64 (y.2 : Nat)))], [], [(0, .cells [.d G]), (1, .cells (rowN L c))]⟩)
     (fun y => a ≤ y.1 ∧ y.1 ≤ y.2 ∧ y.2 ≤ m ∧ ∀ k z, A[k]? = some z → (a + k < y.1 → K.T z x) ∧ (y.2 ≤ a + k → K.T x z)) (fun y => y.2 - y.1) (a, m) ?_ ?_ ?_
    ·refine Weak.mk ?_ ?_ ?_ <;> simp (maxSteps := 2000000) only [go_sem, ↓reduceIte, Sub, Int.natCast_add, Int.natCast_mul]
    ·refine ⟨Nat.le_refl _, by simp only; omega, Nat.le_refl _, fun k z hz => ⟨fun h => by simp only at h; omega, fun h => ?_⟩⟩
     have := (List.getElem?_eq_some_iff.1 hz).1
     simp only at h
     omega
    ·rintro ⟨i, j⟩ ⟨q1, q2, q3, q4⟩
     simp only at q1 q2 q3 q4
     simp only [List.length_cons, List.length_nil] at hb hNl
     simp (maxSteps := 2000000) only [go_sem, ↓reduceIte]
     refine ⟨fun hlt => ?_, fun hge => ?_⟩
     ·have hlt : i < j := by omega
      obtain ⟨z, hz⟩ := get_some (l := A) (i := (i + j) / 2 - a) (by omega)
      have hzA := List.mem_of_getElem? hz
      have g1 : L[(i + j) / 2]? = some z := by
       rw [hL, List.getElem?_append_right (by omega), List.getElem?_append_left (by omega), ← hz, ha]
      have g2 : L[m]? = some x := by
       rw [hL, List.getElem?_append_right (by omega), List.getElem?_append_right (by omega), show m - P.length - A.length = 0 by omega]; rfl
      have l1 : (rowN L c)[((((i + j) / 2 : Nat) : Int)).toNat * 1]? = some (.d (.int .i64 (z : Nat))) := by
       rw [show ((((i + j) / 2 : Nat) : Int)).toNat * 1 = (i + j) / 2 by omega]; exact rowN_get g1
      have l2 : (rowN L c)[((m : Nat) : Int).toNat * 1]? = some (.d (.int .i64 (x : Nat))) := by
       rw [show ((m : Nat) : Int).toNat * 1 = m by omega]; exact rowN_get g2
      simp (maxSteps := 2000000) (disch := omega) only [go_sem, ↓reduceIte, half_of, l1, l2]
      refine ⟨⟨by omega, by omega⟩, ⟨by omega, by omega⟩, ?_⟩
      refine PrimG.mp1 (.x 0) rfl (hg x z (eB x (by simp)) (eA z hzA)) rfl rfl rfl rfl (fun r hs' hr => ?_)
      obtain ⟨⟨w, rfl, hw⟩, rfl⟩ := hr
      refine ⟨⟨rfl, rfl⟩, ?_⟩
      have hpz : K.pos z < K.pos x := hah z hzA x (by simp)
      simp (maxSteps := 2000000) (disch := omega) only [go_sem, ↓reduceIte]
      refine ⟨fun hpos => ⟨((i + j) / 2 + 1, j), ?_, ⟨by simp only; omega, by simp only; omega, q3, fun k u hu => ⟨fun h => ?_, (q4 k u hu).2⟩⟩, by simp only; omega⟩, fun hneg => ⟨(i, (i + j) / 2), ?_, ⟨q1, by simp only; omega, by simp only; omega, fun k u hu => ⟨(q4 k u hu).1, fun h => ?_⟩⟩, by simp only; omega⟩⟩
      ·refine Weak.mk ?_ ?_ ?_ <;> simp (maxSteps := 2000000) only [go_sem, ↓reduceIte, Sub, Int.natCast_add, Int.natCast_mul]
      ·have hT := (Ky.T_early hpz).2 (fun h => hpos (hw.2 h))
       simp only at h
       by_cases e : k = (i + j) / 2 - a
       ·rw [e, hz] at hu; cases hu; exact hT
       ·exact Ky.T_trans (srt_get sA hu hz (by omega)) hT
      ·refine Weak.mk ?_ ?_ ?_ <;> simp (maxSteps := 2000000) only [go_sem, ↓reduceIte, Sub, Int.natCast_add, Int.natCast_mul]
      ·have hT := (Ky.T_late hpz).2 (hw.1 hneg)
       simp only at h
       by_cases e : k = (i + j) / 2 - a
       ·rw [e, hz] at hu; cases hu; exact hT
       ·exact Ky.T_trans hT (srt_get sA hz hu (by omega))
     ·have hij : j = i := by omega
      subst hij
      have t1 : ∀ z ∈ A.take (j - a), K.T z x := take_all fun k z hz hk => (q4 k z hz).1 (by omega)
      have t2 : ∀ z ∈ A.drop (j - a), K.T x z := drop_all fun k z hz hk => (q4 k z hz).2 (by omega)
      have hA1 : (A.take (j - a)).length = j - a := by rw [List.length_take]; omega
      have hAA : A.take (j - a) ++ A.drop (j - a) = A := List.take_append_drop _ _
      have hfin := K.put1 sA t1 t2
      have hprm := (put1_perm (B := A) (x := x) (n := j - a)).trans (List.perm_append_comm (l₁ := [x]) (l₂ := A))
      generalize A.take (j - a) = A1 at *
      generalize A.drop (j - a) = A3 at *
      have hLl : P.length + A1.length + A3.length + 1 + S.length = N := by rw [← hAA] at hNl; simp at hNl; omega
      have hml : m = P.length + A1.length + A3.length := by rw [hm, ← hAA]; simp; omega
      refine run_loop (fun y : List Nat × List Nat => ⟨[(0, .rs (.x 1) N c), (14, .d (.int .i64 (j : Nat))), (17, .d (.int .i64 ((P.length + A1.length + y.1.length : Nat))))], [], [(0, .cells [.d G]), (1, .cells (rowN (P ++ (A1 ++ (y.1 ++ (x :: (y.2 ++ S))))) c))]⟩)
       (fun y => y.1 ++ y.2 = A3) (fun y => y.1.length) (A3, []) ?_ (by simp) ?_
      ·have e1 : L = P ++ (A1 ++ (A3 ++ (x :: S))) := by rw [hL, ← hAA]; simp
       subst e1
       refine Weak.mk ?_ ?_ ?_ <;> simp (maxSteps := 2000000) only [go_sem, ↓reduceIte, Sub, Int.natCast_add, Int.natCast_mul, hml]
      ·rintro ⟨C, D⟩ hCD
       simp only at hCD
       have hCl : C.length + D.length = A3.length := by rw [← hCD]; simp
       simp (maxSteps := 2000000) (disch := omega) only [go_sem, ↓reduceIte]
       refine ⟨fun hgt => ?_, fun hle => ?_⟩
       ·obtain ⟨C', z, rfl⟩ : ∃ C' z, C = C' ++ [z] := by
         have hC : C ≠ [] := fun e => by rw [e] at hgt; simp at hgt; omega
         exact ⟨C.dropLast, C.getLast hC, (List.dropLast_concat_getLast hC).symm⟩
        generalize hQQ : P ++ (A1 ++ C') = Q
        have hQ : Q.length = P.length + A1.length + C'.length := by rw [← hQQ]; simp only [List.length_append]; omega
        have hrow : P ++ (A1 ++ ((C' ++ [z]) ++ (x :: (D ++ S)))) = Q ++ (z :: x :: (D ++ S)) := by rw [← hQQ]; simp
        have hj : P.length + A1.length + (C' ++ [z]).length = Q.length + 1 := by rw [hQ]; simp only [List.length_append, List.length_cons, List.length_nil]; omega
        rw [hrow, hj]
        rw [hj] at hgt
        simp only [List.length_append, List.length_cons, List.length_nil] at hCl
        have l1 : (rowN (Q ++ (z :: x :: (D ++ S))) c)[((((Q.length + 1 : Nat) : Int))).toNat * 1]? = some (.d (.int .i64 (x : Nat))) := by
         rw [show ((((Q.length + 1 : Nat) : Int))).toNat * 1 = Q.length + 1 by omega]
         exact rowN_get adj_get1
        have l2 : (rowN (Q ++ (z :: x :: (D ++ S))) c)[((((Q.length : Nat) : Int))).toNat * 1]? = some (.d (.int .i64 (z : Nat))) := by
         rw [show ((((Q.length : Nat) : Int))).toNat * 1 = Q.length by omega]
         exact rowN_get adj_get0
        have e3 : (((Q.length + 1 : Nat) : Int)) - 1 = ((Q.length : Nat) : Int) := by omega
        have hlen : (Q ++ (z :: x :: (D ++ S))).length = N := by simp only [List.length_append, List.length_cons] at *; omega
        have l3 : (rowN (Q ++ (z :: x :: (D ++ S))) c).set (((((Q.length + 1 : Nat) : Int))).toNat * 1) (.d (.int .i64 (z : Nat))) = rowN ((Q ++ (z :: x :: (D ++ S))).set (Q.length + 1) z) c := by
         rw [show ((((Q.length + 1 : Nat) : Int))).toNat * 1 = Q.length + 1 by omega, rowN_set (by simp only [List.length_append, List.length_cons]; omega)]
        have l4 : (rowN ((Q ++ (z :: x :: (D ++ S))).set (Q.length + 1) z) c).set (((((Q.length : Nat) : Int))).toNat * 1) (.d (.int .i64 (x : Nat))) = rowN (Q ++ (x :: z :: (D ++ S))) c := by
         rw [show ((((Q.length : Nat) : Int))).toNat * 1 = Q.length by omega, rowN_set (by rw [List.length_set]; simp only [List.length_append, List.length_cons]; omega), adj_set]
        have l5 : (rowN ((Q ++ (z :: x :: (D ++ S))).set (Q.length + 1) z) c).length = c := rowN_len (by rw [List.length_set]; omega)
        have l6 : (rowN (Q ++ (z :: x :: (D ++ S))) c).length = c := rowN_len (by omega)
        simp (maxSteps := 2000000) (disch := omega) only [go_sem, ↓reduceIte, e3, l1, l2, l3, l4, l5, l6]
        refine ⟨⟨by omega, by omega⟩, ⟨by omega, by omega⟩, ⟨by omega, by omega⟩, by omega, ⟨by omega, by omega⟩, by omega, (C', z :: D), ?_, by rw [← hCD]; simp, by simp⟩
        have e1 : P ++ (A1 ++ (C' ++ (x :: z :: (D ++ S)))) = Q ++ (x :: z :: (D ++ S)) := by rw [← hQQ]; simp
        have e2 : ((P.length + A1.length + C'.length : Nat) : Int) = ((Q.length : Nat) : Int) := by omega
        refine Weak.mk ?_ ?_ ?_ <;> simp (maxSteps := 2000000) only [go_sem, ↓reduceIte, Sub, Int.natCast_add, Int.natCast_mul, e1, e2]
       ·have hC : C = [] := List.length_eq_zero_iff.1 (by omega)
        subst hC
        rw [List.nil_append] at hCD
        subst hCD
        rw [← Ky.st_eq hfin hprm]
        simp
   ·have z2 : ((b : Int) - (m : Int) = 1) = False := eq_false (by omega)
    obtain ⟨mid, hmid⟩ : ∃ mid, mid = (a + b) / 2 := ⟨_, rfl⟩
    obtain ⟨n, hn⟩ : ∃ n, n = mid + m := ⟨_, rfl⟩
    obtain ⟨pp, hpp⟩ : ∃ pp, pp = n - 1 := ⟨_, rfl⟩
    have e1 : ((mid : Int) + (m : Int)) = ((n : Nat) : Int) := by omega
    have e2 : ((n : Int) - 1) = ((pp : Nat) : Int) := by omega
    obtain ⟨lo, hi, w1, w2, w3, w4, w5, w6, w7, hcase⟩ : ∃ lo hi : Nat, a ≤ lo ∧ lo ≤ hi ∧ hi ≤ mid ∧ hi ≤ m ∧ mid + m ≤ lo + b ∧ (lo = a ∨ lo + b = mid + m) ∧ (hi = m ∨ hi = mid) ∧ ((mid < m ∧ lo + b = n ∧ hi = mid) ∨ (¬ mid < m ∧ lo = a ∧ hi = m)) := by
     by_cases hmm : mid < m
     ·exact ⟨n - b, mid, by omega, by omega, by omega, by omega, by omega, by omega, by omega, .inl ⟨hmm, by omega, rfl⟩⟩
     ·exact ⟨a, m, by omega, by omega, by omega, by omega, by omega, by omega, by omega, .inr ⟨hmm, rfl, rfl⟩⟩
    simp (maxSteps := 2000000) (disch := omega) only [go_sem, ↓reduceIte, L_slices_symMergeCmpFunc_int_, R_slices_symMergeCmpFunc_int_, z1, z2, half_of, ← hmid, e1]
    refine run_join ⟨[(0, .rs (.x 1) N c), (1, .d (.int .i64 (a : Nat))), (2, .d (.int .i64 (m : Nat))), (3, .d (.int .i64 (b : Nat))), (4, .fn (.func g) [] [.ptr (.x 0) 0]), (18, .d (.int .i64 (mid : Nat))), (19, .d (.int .i64 (n : Nat))), (20, .d (.int .i64 (lo : Nat))), (21, .d (.int .i64 (hi : Nat)))], [], [(0, .cells [.d G]), (1, .cells (rowN L c))]⟩ ?_ ?_
    ·rcases hcase with ⟨c1, c2, c3⟩ | ⟨c1, c2, c3⟩
     ·have z3 : ((mid : Int) < (m : Int)) = True := eq_true (by omega)
      have e3 : ((n : Int) - (b : Int)) = ((lo : Nat) : Int) := by omega
      simp (maxSteps := 2000000) (disch := omega) only [go_sem, ↓reduceIte, z3, e3]
      refine Gho.wk ?_
      refine Weak.mk ?_ ?_ ?_ <;> simp (maxSteps := 2000000) only [go_sem, ↓reduceIte, Sub, Int.natCast_add, Int.natCast_mul, c3]
     ·have z3 : ((mid : Int) < (m : Int)) = False := eq_false (by omega)
      simp (maxSteps := 2000000) (disch := omega) only [go_sem, ↓reduceIte, z3]
      refine Gho.wk ?_
      refine Weak.mk ?_ ?_ ?_ <;> simp (maxSteps := 2000000) only [go_sem, ↓reduceIte, Sub, Int.natCast_add, Int.natCast_mul, c2, c3]
    simp (maxSteps := 2000000) (disch := omega) only [go_sem, ↓reduceIte, e2]
    refine run_loop (fun y : Nat × Nat => ⟨[(0, .rs (.x 1) N c), (1, .d (.int .i64 (a : Nat))), (2, .d (.int .i64 (m : Nat))), (3, .d (.int .i64 (b : Nat))), (4, .fn (.func g) [] [.ptr (.x 0) 0]), (18, .d (.int .i64 (mid : Nat))), (19, .d (.int .i64 (n : Nat))), (20, .d (.int .i64 (y.1 : Nat))), (21, .d (.int .i64 (y.2 : Nat))), (22, .d (.int .i64 (pp : Nat)))], [], [(0, .cells [.d G]), (1, .cells (rowN L c))]⟩)
     (fun y => lo ≤ y.1 ∧ y.1 ≤ y.2 ∧ y.2 ≤ hi ∧ (y.1 = lo ∨ ∃ u v, A[y.1 - 1 - a]? = some u ∧ B[mid - y.1]? = some v ∧ K.T u v) ∧ (y.2 = hi ∨ ∃ u v, A[y.2 - a]? = some u ∧ B[mid - 1 - y.2]? = some v ∧ K.T v u)) (fun y => y.2 - y.1) (lo, hi) ?_ ?_ ?_
    ·refine Weak.mk ?_ ?_ ?_ <;> simp (maxSteps := 2000000) only [go_sem, ↓reduceIte, Sub, Int.natCast_add, Int.natCast_mul]
    ·exact ⟨Nat.le_refl _, w2, Nat.le_refl _, .inl rfl, .inl rfl⟩
    ·rintro ⟨s, r⟩ ⟨q1, q2, q3, q4, q5⟩
     simp only at q1 q2 q3 q4 q5
     simp (maxSteps := 2000000) only [go_sem, ↓reduceIte]
     refine ⟨fun hlt => ?_, fun hge => ?_⟩
     ·have hlt : s < r := by omega
      obtain ⟨d, hd⟩ : ∃ d, d = (s + r) / 2 := ⟨_, rfl⟩
      obtain ⟨u, hu⟩ := get_some (l := A) (i := d - a) (by omega)
      obtain ⟨v, hv⟩ := get_some (l := B) (i := mid - 1 - d) (by omega)
      have huA := List.mem_of_getElem? hu
      have hvB := List.mem_of_getElem? hv
      have g1 : L[pp - d]? = some v := by
       rw [hL, List.getElem?_append_right (by omega), List.getElem?_append_right (by omega), List.getElem?_append_left (by omega), ← hv]
       congr 1
       omega
      have g2 : L[d]? = some u := by
       rw [hL, List.getElem?_append_right (by omega), List.getElem?_append_left (by omega), ← hu, ha]
      have e3 : ((pp : Int) - ((d : Nat) : Int)) = ((pp - d : Nat) : Int) := by omega
      have l1 : (rowN L c)[(((pp - d : Nat) : Int)).toNat * 1]? = some (.d (.int .i64 (v : Nat))) := by
       rw [show (((pp - d : Nat) : Int)).toNat * 1 = pp - d by omega]; exact rowN_get g1
      have l2 : (rowN L c)[((d : Nat) : Int).toNat * 1]? = some (.d (.int .i64 (u : Nat))) := by
       rw [show ((d : Nat) : Int).toNat * 1 = d by omega]; exact rowN_get g2
      simp (maxSteps := 2000000) (disch := omega) only [go_sem, ↓reduceIte, half_of, ← hd, e3, l1, l2]
      refine ⟨⟨by omega, by omega⟩, ⟨by omega, by omega⟩, ?_⟩
      refine PrimG.mp1 (.x 0) rfl (hg v u (eB v hvB) (eA u huA)) rfl rfl rfl rfl (fun r hs' hr => ?_)
      obtain ⟨⟨w, rfl, hw⟩, rfl⟩ := hr
      refine ⟨⟨rfl, rfl⟩, ?_⟩
      have hpz : K.pos u < K.pos v := hah u huA v hvB
      simp (maxSteps := 2000000) (disch := omega) only [go_sem, ↓reduceIte]
      refine ⟨fun hpos => ⟨(d + 1, r), ?_, ⟨by simp only; omega, by simp only; omega, q3, .inr ⟨u, v, by simpa using hu, by rw [← hv]; congr 1; simp only; omega, (Ky.T_early hpz).2 (fun h => hpos (hw.2 h))⟩, q5⟩, by simp only; omega⟩, fun hneg => ⟨(s, d), ?_, ⟨q1, by simp only; omega, by simp only; omega, q4, .inr ⟨u, v, hu, hv, (Ky.T_late hpz).2 (hw.1 hneg)⟩⟩, by simp only; omega⟩⟩
      ·refine Weak.mk ?_ ?_ ?_ <;> simp (maxSteps := 2000000) only [go_sem, ↓reduceIte, Sub, Int.natCast_add, Int.natCast_mul]
      ·refine Weak.mk ?_ ?_ ?_ <;> simp (maxSteps := 2000000) only [go_sem, ↓reduceIte, Sub, Int.natCast_add, Int.natCast_mul]
     ·have hsr : r = s := by omega
      subst hsr
      obtain ⟨en, hen⟩ : ∃ en, en = n - r := ⟨_, rfl⟩
      have e4 : ((n : Int) - (r : Int)) = ((en : Nat) : Int) := by omega
      have k1 : (A.take (r - a)).length = r - a := by rw [List.length_take]; omega
      have k2 : (B.take (mid - r)).length = mid - r := by rw [List.length_take]; omega
      have k3 : (A.drop (r - a)).length = m - r := by rw [List.length_drop]; omega
      have k4 : (B.drop (mid - r)).length = b - en := by rw [List.length_drop]; omega
      have hAA : A = A.take (r - a) ++ A.drop (r - a) := (List.take_append_drop _ _).symm
      have hBB : B = B.take (mid - r) ++ B.drop (mid - r) := (List.take_append_drop _ _).symm
      have j1 : ∀ x ∈ (A.take (r - a)).getLast?, ∀ y ∈ (B.drop (mid - r)).head?, K.T x y := fun x hx y hy => by
       obtain ⟨x1, x2⟩ := take_last (by omega) hx
       have y2 := drop_head hy
       rcases q4 with q4 | ⟨u, v, o1, o2, o3⟩
       ·exfalso
        rcases w6 with w6 | w6
        ·omega
        ·have := (List.getElem?_eq_some_iff.1 y2).1
         omega
       ·rw [show r - a - 1 = r - 1 - a by omega, o1] at x2
        rw [o2] at y2
        cases x2; cases y2; exact o3
      have j2 : ∀ y ∈ (B.take (mid - r)).getLast?, ∀ x ∈ (A.drop (r - a)).head?, K.T y x := fun y hy x hx => by
       obtain ⟨y1, y2⟩ := take_last (by omega) hy
       have x2 := drop_head hx
       rcases q5 with q5 | ⟨u, v, o1, o2, o3⟩
       ·exfalso
        rcases w7 with w7 | w7
        ·have := (List.getElem?_eq_some_iff.1 x2).1
         omega
        ·omega
       ·rw [show mid - r - 1 = mid - 1 - r by omega, o2] at y2
        rw [o1] at x2
        cases x2; cases y2; exact o3
      generalize A.take (r - a) = A1 at *
      generalize A.drop (r - a) = A2 at *
      generalize B.take (mid - r) = B1 at *
      generalize B.drop (mid - r) = B2 at *
      subst hAA hBB
      simp only [List.length_append] at hf hm hb hNl pA pB h1 h2
      obtain ⟨sA1, sA2, _⟩ := List.pairwise_append.1 sA
      obtain ⟨sB1, sB2, _⟩ := List.pairwise_append.1 sB
      obtain ⟨ah1, ah2⟩ := app_ahead.1 hah
      have ah1 := (ahead_app.1 ah1).1
      have ah2 := (ahead_app.1 ah2).2
      have hL2 : (P ++ (A1 ++ (B1 ++ (A2 ++ (B2 ++ S))))).length = N := by simp only [List.length_append]; omega
      simp (maxSteps := 2000000) (disch := omega) only [go_sem, ↓reduceIte, e4]
      refine run_join ⟨[(0, .rs (.x 1) N c), (1, .d (.int .i64 (a : Nat))), (3, .d (.int .i64 (b : Nat))), (4, .fn (.func g) [] [.ptr (.x 0) 0]), (18, .d (.int .i64 (mid : Nat))), (20, .d (.int .i64 (r : Nat))), (24, .d (.int .i64 (en : Nat)))], [], [(0, .cells [.d G]), (1, .cells (rowN (P ++ (A1 ++ (B1 ++ (A2 ++ (B2 ++ S))))) c))]⟩ ?_ ?_
      ·by_cases c1 : r < m
       ·have z3 : ((r : Int) < (m : Int)) = True := eq_true (by omega)
        by_cases c2 : m < en
        ·have z4 : ((m : Int) < (en : Int)) = True := eq_true (by omega)
         simp (maxSteps := 2000000) (disch := omega) only [go_sem, ↓reduceIte, z3, z4]
         refine PrimG.mc2 (.x 0) (.x 1) rfl (rotate_call (P := P ++ A1) (U := A2) (V := B1) (S := B2 ++ S) (L' := P ++ (A1 ++ (B1 ++ (A2 ++ (B2 ++ S))))) (by rw [hL]; simp) (by simp) hN (by rw [List.length_append]; omega) (by rw [List.length_append]; omega) (by rw [List.length_append]; omega) (by intro e; rw [e] at k3; simp at k3; omega) (by intro e; rw [e] at k2; simp at k2; omega) hl hc) rfl rfl rfl rfl rfl ⟨box_row _, rowN_row _ _, box_row _, rowN_row _ _⟩ rfl ?_
         simp (maxSteps := 2000000) only [go_sem, ↓reduceIte]
         refine Gho.wk ?_
         refine Weak.mk ?_ ?_ ?_ <;> simp (maxSteps := 2000000) only [go_sem, ↓reduceIte, Sub, Int.natCast_add, Int.natCast_mul]
        ·have z4 : ((m : Int) < (en : Int)) = False := eq_false (by omega)
         have hB1 : B1 = [] := List.length_eq_zero_iff.1 (by omega)
         simp (maxSteps := 2000000) (disch := omega) only [go_sem, ↓reduceIte, z3, z4]
         refine Gho.wk ?_
         have e5 : P ++ (A1 ++ (B1 ++ (A2 ++ (B2 ++ S)))) = L := by rw [hL, hB1]; simp
         refine Weak.mk ?_ ?_ ?_ <;> simp (maxSteps := 2000000) only [go_sem, ↓reduceIte, Sub, Int.natCast_add, Int.natCast_mul, e5]
       ·have z3 : ((r : Int) < (m : Int)) = False := eq_false (by omega)
        have hA2 : A2 = [] := List.length_eq_zero_iff.1 (by omega)
        simp (maxSteps := 2000000) (disch := omega) only [go_sem, ↓reduceIte, z3]
        refine Gho.wk ?_
        have e5 : P ++ (A1 ++ (B1 ++ (A2 ++ (B2 ++ S)))) = L := by rw [hL, hA2]; simp
        refine Weak.mk ?_ ?_ ?_ <;> simp (maxSteps := 2000000) only [go_sem, ↓reduceIte, Sub, Int.natCast_add, Int.natCast_mul, e5]
      ·have mM := K.st_mrg sA1 sB1 ah1
       have mN := K.st_mrg sA2 sB2 ah2
       have hlM : (K.st (A1 ++ B1)).length = A1.length + B1.length := by rw [mM.1.length_eq, List.length_append]
       have hlN : (K.st (A2 ++ B2)).length = A2.length + B2.length := by rw [mN.1.length_eq, List.length_append]
       have hfin := (Ky.halves sA sB j1 j2 mM mN)
       have hst := Ky.mrg_st hfin
       have one : ∀ {X Y : List Nat}, (X = [] ∨ Y = []) → K.srt X → K.srt Y → X ++ Y = K.st (X ++ Y) := fun {X Y} h hX hY => by
        refine Ky.st_eq ?_ (.refl _)
        rcases h with rfl | rfl
        ·exact hY
        ·rw [List.append_nil]; exact hX
       simp (maxSteps := 2000000) only [go_sem, ↓reduceIte]
       refine run_join ⟨[(0, .rs (.x 1) N c), (3, .d (.int .i64 (b : Nat))), (4, .fn (.func g) [] [.ptr (.x 0) 0]), (18, .d (.int .i64 (mid : Nat))), (24, .d (.int .i64 (en : Nat)))], [], [(0, .cells [.d G]), (1, .cells (rowN (P ++ (K.st (A1 ++ B1) ++ (A2 ++ (B2 ++ S)))) c))]⟩ ?_ ?_
       ·by_cases c1 : a < r
        ·have z3 : ((a : Int) < (r : Int)) = True := eq_true (by omega)
         by_cases c2 : r < mid
         ·have z4 : ((r : Int) < (mid : Int)) = True := eq_true (by omega)
          simp (maxSteps := 2000000) (disch := omega) only [go_sem, ↓reduceIte, z3, z4]
          refine PrimG.mc2 (.x 0) (.x 1) rfl (symMerge_call hg hc f (P := P) (A := A1) (B := B1) (S := A2 ++ (B2 ++ S)) (by omega) rfl hL2.symm ha (by omega) (by omega) sA1 sB1 ah1 (by intro e; rw [e] at k1; simp at k1; omega) (by intro e; rw [e] at k2; simp at k2; omega) (fun x hx => eA x (by simp [hx])) (fun x hx => eB x (by simp [hx])) hl) rfl rfl rfl rfl rfl ⟨box_row _, rowN_row _ _, box_row _, rowN_row _ _⟩ rfl ?_
          simp (maxSteps := 2000000) only [go_sem, ↓reduceIte]
          refine Gho.wk ?_
          refine Weak.mk ?_ ?_ ?_ <;> simp (maxSteps := 2000000) only [go_sem, ↓reduceIte, Sub, Int.natCast_add, Int.natCast_mul]
         ·have z4 : ((r : Int) < (mid : Int)) = False := eq_false (by omega)
          have hB1 : B1 = [] := List.length_eq_zero_iff.1 (by omega)
          simp (maxSteps := 2000000) (disch := omega) only [go_sem, ↓reduceIte, z3, z4]
          refine Gho.wk ?_
          have e5 : P ++ (A1 ++ (B1 ++ (A2 ++ (B2 ++ S)))) = P ++ (K.st (A1 ++ B1) ++ (A2 ++ (B2 ++ S))) := by rw [← one (.inr hB1) sA1 sB1]; simp
          rw [e5]
          refine Weak.mk ?_ ?_ ?_ <;> simp (maxSteps := 2000000) only [go_sem, ↓reduceIte, Sub, Int.natCast_add, Int.natCast_mul]
        ·have z3 : ((a : Int) < (r : Int)) = False := eq_false (by omega)
         have hA1 : A1 = [] := List.length_eq_zero_iff.1 (by omega)
         simp (maxSteps := 2000000) (disch := omega) only [go_sem, ↓reduceIte, z3]
         refine Gho.wk ?_
         have e5 : P ++ (A1 ++ (B1 ++ (A2 ++ (B2 ++ S)))) = P ++ (K.st (A1 ++ B1) ++ (A2 ++ (B2 ++ S))) := by rw [← one (.inl hA1) sA1 sB1]; simp
         rw [e5]
         refine Weak.mk ?_ ?_ ?_ <;> simp (maxSteps := 2000000) only [go_sem, ↓reduceIte, Sub, Int.natCast_add, Int.natCast_mul]
       ·have hL3 : P ++ (K.st (A1 ++ A2 ++ (B1 ++ B2)) ++ S) = (P ++ K.st (A1 ++ B1)) ++ (K.st (A2 ++ B2) ++ S) := by rw [← hst]; simp
        have hL4 : P ++ (K.st (A1 ++ B1) ++ (A2 ++ (B2 ++ S))) = (P ++ K.st (A1 ++ B1)) ++ (A2 ++ (B2 ++ S)) := by simp
        rw [hL3, hL4]
        by_cases c1 : mid < en
        ·have z3 : ((mid : Int) < (en : Int)) = True := eq_true (by omega)
         by_cases c2 : en < b
         ·have z4 : ((en : Int) < (b : Int)) = True := eq_true (by omega)
          simp (maxSteps := 2000000) (disch := omega) only [go_sem, ↓reduceIte, z3, z4]
          refine PrimG.mc2 (.x 0) (.x 1) rfl (symMerge_call hg hc f (P := P ++ K.st (A1 ++ B1)) (A := A2) (B := B2) (S := S) (by omega) rfl (by simp only [List.length_append, hlM]; omega) (by rw [List.length_append, hlM]; omega) (by rw [List.length_append, hlM]; omega) (by rw [List.length_append, hlM]; omega) sA2 sB2 ah2 (by intro e; rw [e] at k3; simp at k3; omega) (by intro e; rw [e] at k4; simp at k4; omega) (fun x hx => eA x (by simp [hx])) (fun x hx => eB x (by simp [hx])) hl) rfl rfl rfl rfl rfl ⟨box_row _, rowN_row _ _, box_row _, rowN_row _ _⟩ rfl ?_
          simp (maxSteps := 2000000) only [go_sem, ↓reduceIte]
         ·have z4 : ((en : Int) < (b : Int)) = False := eq_false (by omega)
          have hB2 : B2 = [] := List.length_eq_zero_iff.1 (by omega)
          rw [← one (.inr hB2) sA2 sB2]
          simp (maxSteps := 2000000) (disch := omega) only [go_sem, ↓reduceIte, z3, z4]
          try simp
        ·have z3 : ((mid : Int) < (en : Int)) = False := eq_false (by omega)
         have hA2 : A2 = [] := List.length_eq_zero_iff.1 (by omega)
         rw [← one (.inl hA2) sA2 sB2]
         simp (maxSteps := 2000000) (disch := omega) only [go_sem, ↓reduceIte, z3]
         try simp
end Go.Av.Try
set_option linter.unusedSimpArgs false
set_option maxRecDepth 100000
set_option maxHeartbeats 2000000
namespace Go.Av.Try
open Go.Proofs
inductive Ky.full (K : Ky) (s : Nat) : List Nat → Prop
 | nil : Ky.full K s []
 | cons (A B : List Nat) (h : A.length = s) (hs : K.srt A) (ha : K.ahead A B) (hB : Ky.full K s B) : Ky.full K s (A ++ B)
theorem Ky.full_snoc {K : Ky} {s : Nat} {l B : List Nat} (h : K.full s l) (hB : B.length = s) (hs : K.srt B) (ha : K.ahead l B) : K.full s (l ++ B) := by
 induction h with
 | nil =>
  have := Ky.full.cons (K := K) (s := s) B [] hB hs (fun x _ y hy => by cases hy) .nil
  rw [List.append_nil] at this
  exact this
 | cons A C h1 h2 h3 h4 ih =>
  obtain ⟨g1, g2⟩ := app_ahead.1 ha
  rw [List.append_assoc]
  exact .cons A (C ++ B) h1 h2 (ahead_app.2 ⟨h3, g1⟩) (ih g2)
theorem Ky.full_peel {K : Ky} {s : Nat} {l : List Nat} (h : K.full s l) (hl : 0 < l.length) : ∃ A B, l = A ++ B ∧ A.length = s ∧ K.srt A ∧ K.ahead A B ∧ K.full s B := by
 cases h with
 | nil => simp at hl
 | cons A B h1 h2 h3 h4 => exact ⟨A, B, rfl, h1, h2, h3, h4⟩
theorem Ky.full_len {K : Ky} {s : Nat} {l : List Nat} (h : K.full s l) (h0 : 0 < l.length) : s ≤ l.length := by
 obtain ⟨A, B, rfl, h1, _⟩ := Ky.full_peel h h0
 simp; omega
theorem ahead_nil_l {K : Ky} {B : List Nat} : K.ahead [] B := fun x hx => by cases hx
def L_slices_stableCmpFunc_int_ : LCode :=
 .seq (.reg [Qx 6 (Ki 20)]) (.seq (.reg [Qc 10 6, Qx 7 (Ki 0), Qa 8 10]) (.seq (.block 0 (.loop (.seq (.seq (.reg [Qc 11 8, Qc 12 1, Q 13 (.bin .leq (.t 11) (.t 12))]) (.cond (.t 
 13) .skip (.exit 0))) (.block 1 (.seq (.reg [Qc 14 0, Qc 15 7, Qc 16 8, Qc 17 2, ⟨some 18, .prim .call [.k (.fn (.func 34) [] []), .t 14, .t 15, .t 16, .t 17] [], none⟩]) (.seq 
 (.reg [Qc 19 8, Qa 7 19]) (.reg [Qc 20 8, Qc 21 6, Q 22 (.bin .add (.t 20) (.t 21)), Qa 8 22]))))))) (.seq (.reg [Qc 23 0, Qc 24 7, Qc 25 1, Qc 26 2, ⟨some 27, .prim .call [.k 
 (.fn (.func 34) [] []), .t 23, .t 24, .t 25, .t 26] [], none⟩]) (.block 2 (.loop (.seq (.seq (.reg [Qc 28 6, Qc 29 1, Q 30 (.bin .lss (.t 28) (.t 29))]) (.cond (.t 30) .skip 
 (.exit 2))) (.block 3 (.seq (.reg [Qc 31 6, Q 32 (.bin .mul (Ki 2) (.t 31)), Qx 7 (Ki 0), Qa 8 32]) (.seq (.block 4 (.loop (.seq (.seq (.reg [Qc 33 8, Qc 34 1, Q 35 (.bin .leq 
 (.t 33) (.t 34))]) (.cond (.t 35) .skip (.exit 4))) (.block 5 (.seq (.reg [Qc 36 0, Qc 37 7, Qc 38 7, Qc 39 6, Q 40 (.bin .add (.t 38) (.t 39)), Qc 41 8, Qc 42 2, ⟨some 43, .prim 
 .call [.k (.fn (.func 35) [] []), .t 36, .t 37, .t 40, .t 41, .t 42] [], none⟩]) (.seq (.reg [Qc 44 8, Qa 7 44]) (.reg [Qc 45 8, Qc 46 6, Q 47 (.bin .mul (Ki 2) (.t 46)), Q 48 
 (.bin .add (.t 45) (.t 47)), Qa 8 48]))))))) (.seq (.seq (.reg [Qc 49 7, Qc 50 6, Q 51 (.bin .add (.t 49) (.t 50)), Qa 9 51]) (.join (.seq (.reg [Qc 52 9, Qc 53 1, Q 54 (.bin 
 .lss (.t 52) (.t 53))]) (.cond (.t 54) (.reg [Qc 55 0, Qc 56 7, Qc 57 9, Qc 58 1, Qc 59 2, ⟨some 60, .prim .call [.k (.fn (.func 35) [] []), .t 55, .t 56, .t 57, .t 58, .t 59] 
 [], none⟩]) .skip)))) (.reg [Qc 61 6, Q 62 (.bin .mul (.t 61) (Ki 2)), Qa 6 62])))))))))))
def R_slices_stableCmpFunc_int_ : List LRes := []
theorem lift_slices_stableCmpFunc_int_ : Lifts Try.prog 32 63 L_slices_stableCmpFunc_int_ R_slices_stableCmpFunc_int_ := ⟨_, _, Try.func32, rfl, by kernel_rfl, by kernel_rfl, rfl⟩
theorem stable_call {d : List Nat} {n c g n0 : Nat} {G : D} {K : Ky} (hg : CmpOK g G K n0) (hn : n = d.length) (hu : K.up d) (hel : ∀ x ∈ d, x < n0) (hl : n ≤ c) (hc : n ≤ 1000000) :
  MCallE Try.prog 32 [.rs (.x 1) n c, .d (.int .i64 (n : Nat)), .fn (.func g) [] [.ptr (.x 0) 0]] [.cells [.d G], .cells (rowN d c)] (.tuple []) [.cells [.d G], .cells (rowN (K.st d) c)] := by
 refine lift_slices_stableCmpFunc_int_.mcall (by kernel_rfl) rfl ?_
 simp (maxSteps := 2000000) (disch := omega) only [go_sem, ↓reduceIte, L_slices_stableCmpFunc_int_, R_slices_stableCmpFunc_int_]
 refine run_loop (fun y : List Nat × List Nat => ⟨[(0, .rs (.x 1) n c), (1, .d (.int .i64 (n : Nat))), (2, .fn (.func g) [] [.ptr (.x 0) 0]), (6, .d (.int .i64 20)), (7, .d (.int .i64 (y.1.length : Nat))), (8, .d (.int .i64 ((y.1.length + 20 : Nat))))], [], [(0, .cells [.d G]), (1, .cells (rowN (y.1 ++ y.2) c))]⟩)
  (fun y => K.full 20 y.1 ∧ K.up y.2 ∧ K.ahead y.1 y.2 ∧ (y.1 ++ y.2).Perm d) (fun y => y.2.length) ([], d) ?_ ?_ ?_
 ·refine Weak.mk ?_ ?_ ?_ <;> simp (maxSteps := 2000000) only [go_sem, ↓reduceIte, Sub, Int.natCast_add, Int.natCast_mul, List.nil_append]
 ·exact ⟨.nil, hu, ahead_nil_l, .refl _⟩
 ·rintro ⟨F, R⟩ ⟨p1, p2, p3, p4⟩
  simp only at p1 p2 p3 p4
  have hFR : F.length + R.length = n := by rw [hn, ← p4.length_eq, List.length_append]
  have hRe : ∀ x ∈ R, x < n0 := fun x hx => hel x (p4.subset (by simp [hx]))
  simp (maxSteps := 2000000) (disch := omega) only [go_sem, ↓reduceIte]
  refine ⟨fun hle => ?_, fun hgt => ?_⟩
  ·obtain ⟨A, B, rfl, hA⟩ : ∃ A B, R = A ++ B ∧ A.length = 20 := ⟨R.take 20, R.drop 20, (List.take_append_drop _ _).symm, by rw [List.length_take]; omega⟩
   obtain ⟨u1, u2, u3⟩ := Ky.up_app.1 p2
   refine PrimG.mc2 (.x 0) (.x 1) rfl (insSort_call hg (P := F) (A := A) (S := B) rfl (by rw [List.length_append, hFR]) rfl (by omega) u1 (fun x hx => hRe x (by simp [hx])) hl hc) rfl rfl rfl rfl rfl ⟨box_row _, rowN_row _ _, box_row _, rowN_row _ _⟩ rfl ?_
   have hst := Ky.st_perm (K := K) A
   have hsl : (K.st A).length = 20 := by rw [hst.length_eq, hA]
   simp (maxSteps := 2000000) (disch := omega) only [go_sem, ↓reduceIte]
   refine ⟨(F ++ K.st A, B), ?_, ⟨Ky.full_snoc p1 hsl (Ky.st_srt (Ky.up_tot u1)) (ahead_perm (.refl _) hst (ahead_app.1 p3).1), u2, app_ahead.2 ⟨(ahead_app.1 p3).2, ahead_perm hst (.refl _) u3⟩, ?_⟩, by simp; omega⟩
   ·have e1 : (F ++ K.st A) ++ B = F ++ (K.st A ++ B) := by simp
    have e2 : (((F ++ K.st A).length : Nat) : Int) = ((F.length + 20 : Nat) : Int) := by rw [List.length_append, hsl]
    have e3 : (((F ++ K.st A).length + 20 : Nat) : Int) = ((F.length + 20 : Nat) : Int) + 20 := by rw [List.length_append, hsl]; omega
    refine Weak.mk ?_ ?_ ?_ <;> simp (maxSteps := 2000000) only [go_sem, ↓reduceIte, Sub, Int.natCast_add, Int.natCast_mul, e1, e2, e3]
   ·refine List.Perm.trans ?_ p4
    rw [List.append_assoc]
    exact (hst.append_right B).append_left F
  ·refine PrimG.mc2 (.x 0) (.x 1) rfl (insSort_call hg (P := F) (A := R) (S := []) (by simp) (by rw [List.length_append, hFR]) rfl (by omega) p2 hRe hl hc) rfl rfl rfl rfl rfl ⟨box_row _, rowN_row _ _, box_row _, rowN_row _ _⟩ rfl ?_
   have hst := Ky.st_perm (K := K) R
   have hsl : (K.st R).length = R.length := hst.length_eq
   simp (maxSteps := 2000000) only [go_sem, ↓reduceIte]
   have hstR : K.srt (K.st R) := Ky.st_srt (Ky.up_tot p2)
   have hahR : K.ahead F (K.st R) := ahead_perm (.refl _) hst p3
   have hpR : (F ++ K.st R).Perm d := (hst.append_left F).trans p4
   have hR20 : (K.st R).length < 20 := by omega
   generalize K.st R = R0 at *
   refine run_loop (fun y : Nat × List Nat × List Nat => ⟨[(0, .rs (.x 1) n c), (1, .d (.int .i64 (n : Nat))), (2, .fn (.func g) [] [.ptr (.x 0) 0]), (6, .d (.int .i64 (y.1 : Nat)))], [], [(0, .cells [.d G]), (1, .cells (rowN (y.2.1 ++ y.2.2) c))]⟩)
    (fun y => 0 < y.1 ∧ y.1 ≤ 2 * n + 20 ∧ K.full y.1 y.2.1 ∧ K.srt y.2.2 ∧ K.ahead y.2.1 y.2.2 ∧ y.2.2.length < y.1 ∧ (y.2.1 ++ y.2.2).Perm d) (fun y => n - y.1) (20, F, R0) ?_ ?_ ?_
   ·refine Weak.mk ?_ ?_ ?_ <;> simp (maxSteps := 2000000) only [go_sem, ↓reduceIte, Sub, Int.natCast_add, Int.natCast_mul]
   ·exact ⟨by omega, by simp only; omega, p1, hstR, hahR, hR20, hpR⟩
   ·clear p1 p2 p3 p4 hFR hRe hgt hst hsl hstR hahR hpR hR20 F R R0
    rintro ⟨s, F, R⟩ ⟨q0, q1, q2, q3, q4, q5, q6⟩
    simp only at q0 q1 q2 q3 q4 q5 q6
    have hFR : F.length + R.length = n := by rw [hn, ← q6.length_eq, List.length_append]
    simp (maxSteps := 2000000) only [go_sem, ↓reduceIte]
    refine ⟨fun hlt => ?_, fun hge => ?_⟩
    ·have e1 : (2 : Int) * (s : Int) = ((2 * s : Nat) : Int) := by omega
     simp (maxSteps := 2000000) (disch := omega) only [go_sem, ↓reduceIte, e1]
     refine run_loop (fun y : List Nat × List Nat => ⟨[(0, .rs (.x 1) n c), (1, .d (.int .i64 (n : Nat))), (2, .fn (.func g) [] [.ptr (.x 0) 0]), (6, .d (.int .i64 (s : Nat))), (7, .d (.int .i64 (y.1.length : Nat))), (8, .d (.int .i64 ((y.1.length + 2 * s : Nat))))], [], [(0, .cells [.d G]), (1, .cells (rowN (y.1 ++ (y.2 ++ R)) c))]⟩)
      (fun y => K.full (2 * s) y.1 ∧ K.full s y.2 ∧ K.ahead y.1 y.2 ∧ K.ahead y.1 R ∧ K.ahead y.2 R ∧ (y.1 ++ (y.2 ++ R)).Perm d) (fun y => y.2.length) ([], F) ?_ ?_ ?_
     ·refine Weak.mk ?_ ?_ ?_ <;> simp (maxSteps := 2000000) only [go_sem, ↓reduceIte, Sub, Int.natCast_add, Int.natCast_mul, List.nil_append, Nat.zero_add]
     ·exact ⟨.nil, q2, ahead_nil_l, ahead_nil_l, q4, q6⟩
     ·rintro ⟨D1, H⟩ ⟨r1, r2, r3, r4, r5, r6⟩
      simp only at r1 r2 r3 r4 r5 r6
      have hDl : D1.length + H.length + R.length = n := by rw [hn, ← r6.length_eq]; simp only [List.length_append]; omega
      have hHe : ∀ x ∈ H, x < n0 := fun x hx => hel x (r6.subset (by simp [hx]))
      have hRe : ∀ x ∈ R, x < n0 := fun x hx => hel x (r6.subset (by simp [hx]))
      simp (maxSteps := 2000000) (disch := omega) only [go_sem, ↓reduceIte]
      refine ⟨fun hle => ?_, fun hgt => ?_⟩
      ·obtain ⟨A, H1, rfl, a1, a2, a3, a4⟩ := Ky.full_peel r2 (by omega)
       simp only [List.length_append] at hDl
       obtain ⟨B, H2, rfl, b1, b2, b3, b4⟩ := Ky.full_peel a4 (by omega)
       simp only [List.length_append] at hDl
       have aB := (ahead_app.1 a3).1
       have mM := K.st_mrg a2 b2 aB
       have hlM : (K.st (A ++ B)).length = 2 * s := by rw [mM.1.length_eq, List.length_append]; omega
       have e2 : ((D1.length : Int) + (s : Int)) = ((D1.length + s : Nat) : Int) := by omega
       simp (maxSteps := 2000000) (disch := omega) only [go_sem, ↓reduceIte, e2]
       refine PrimG.mc2 (.x 0) (.x 1) rfl (symMerge_call hg hc (A.length + B.length) (P := D1) (A := A) (B := B) (S := H2 ++ R) (Nat.le_refl _) (by simp) (by simp only [List.length_append]; omega) rfl (by omega) (by omega) a2 b2 aB (by intro e; rw [e] at a1; simp at a1; omega) (by intro e; rw [e] at b1; simp at b1; omega) (fun x hx => hHe x (by simp [hx])) (fun x hx => hHe x (by simp [hx])) hl) rfl rfl rfl rfl rfl ⟨box_row _, rowN_row _ _, box_row _, rowN_row _ _⟩ rfl ?_
       simp (maxSteps := 2000000) (disch := omega) only [go_sem, ↓reduceIte, e1]
       have r3' := ahead_app.1 r3
       have r3'' := ahead_app.1 r3'.2
       have r5' := app_ahead.1 r5
       have r5'' := app_ahead.1 r5'.2
       refine ⟨(D1 ++ K.st (A ++ B), H2), ?_, ⟨Ky.full_snoc r1 hlM mM.2 (ahead_perm (.refl _) mM.1 (ahead_app.2 ⟨r3'.1, r3''.1⟩)), b4, app_ahead.2 ⟨r3''.2, ahead_perm mM.1 (.refl _) (app_ahead.2 ⟨(ahead_app.1 a3).2, b3⟩)⟩, app_ahead.2 ⟨r4, ahead_perm mM.1 (.refl _) (app_ahead.2 ⟨r5'.1, r5''.1⟩)⟩, r5''.2, ?_⟩, by simp only [List.length_append]; omega⟩
       ·have e3 : (D1 ++ K.st (A ++ B)) ++ (H2 ++ R) = D1 ++ (K.st (A ++ B) ++ (H2 ++ R)) := by simp
        have e4 : (((D1 ++ K.st (A ++ B)).length : Nat) : Int) = ((D1.length + 2 * s : Nat) : Int) := by rw [List.length_append, hlM]
        have e5 : (((D1 ++ K.st (A ++ B)).length + 2 * s : Nat) : Int) = ((D1.length + 2 * s : Nat) : Int) + ((2 * s : Nat) : Int) := by rw [List.length_append, hlM]; omega
        refine Weak.mk ?_ ?_ ?_ <;> simp (maxSteps := 2000000) only [go_sem, ↓reduceIte, Sub, Int.natCast_add, Int.natCast_mul, e3, e4, e5]
       ·refine List.Perm.trans ?_ r6
        rw [List.append_assoc]
        refine List.Perm.append_left D1 ?_
        refine (mM.1.append_right _).trans ?_
        simp
      ·have hHR : H.length + R.length < 2 * s := by omega
       have hH : H = [] ∨ (H.length = s ∧ K.srt H) := by
        by_cases h0 : H.length = 0
        ·exact .inl (List.length_eq_zero_iff.1 h0)
        ·obtain ⟨A, H1, rfl, a1, a2, a3, a4⟩ := Ky.full_peel r2 (by omega)
         have : H1 = [] := by
          by_cases h1 : H1.length = 0
          ·exact List.length_eq_zero_iff.1 h1
          ·have := Ky.full_len a4 (by omega)
           simp only [List.length_append] at hHR
           omega
         subst this
         rw [List.append_nil]
         exact .inr ⟨a1, a2⟩
       have hHs : K.srt H := by
        rcases hH with rfl | h
        ·exact .nil
        ·exact h.2
       have mM := K.st_mrg hHs q3 r5
       have hlM : (K.st (H ++ R)).length = H.length + R.length := by rw [mM.1.length_eq, List.length_append]
       refine run_join ⟨[(0, .rs (.x 1) n c), (1, .d (.int .i64 (n : Nat))), (2, .fn (.func g) [] [.ptr (.x 0) 0]), (6, .d (.int .i64 (s : Nat)))], [], [(0, .cells [.d G]), (1, .cells (rowN (D1 ++ K.st (H ++ R)) c))]⟩ ?_ ?_
       ·have e2 : ((D1.length : Int) + (s : Int)) = ((D1.length + s : Nat) : Int) := by omega
        by_cases c1 : D1.length + s < n
        ·have z3 : (((D1.length + s : Nat) : Int) < (n : Int)) = True := eq_true (by omega)
         have hHl : H.length = s := by
          rcases hH with rfl | h
          ·simp at hDl; omega
          ·exact h.1
         simp (maxSteps := 2000000) (disch := omega) only [go_sem, ↓reduceIte, e2, z3]
         refine PrimG.mc2 (.x 0) (.x 1) rfl (symMerge_call hg hc (H.length + R.length) (P := D1) (A := H) (B := R) (S := []) (Nat.le_refl _) (by simp) (by simp only [List.length_append]; omega) rfl (by omega) (by omega) hHs q3 r5 (by intro e; rw [e] at hHl; simp at hHl; omega) (by intro e; rw [e] at hDl; simp at hDl; omega) hHe hRe hl) rfl rfl rfl rfl rfl ⟨box_row _, rowN_row _ _, box_row _, rowN_row _ _⟩ rfl ?_
         simp (maxSteps := 2000000) only [go_sem, ↓reduceIte]
         refine Gho.wk ?_
         refine Weak.mk ?_ ?_ ?_ <;> simp (maxSteps := 2000000) only [go_sem, ↓reduceIte, Sub, Int.natCast_add, Int.natCast_mul]
        ·have z3 : (((D1.length + s : Nat) : Int) < (n : Int)) = False := eq_false (by omega)
         have hes : H ++ R = K.st (H ++ R) := by
          refine Ky.st_eq ?_ (.refl _)
          rcases hH with rfl | h
          ·exact q3
          ·have : R = [] := List.length_eq_zero_iff.1 (by omega)
           rw [this, List.append_nil]; exact hHs
         simp (maxSteps := 2000000) (disch := omega) only [go_sem, ↓reduceIte, e2, z3]
         refine Gho.wk ?_
         rw [← hes]
         refine Weak.mk ?_ ?_ ?_ <;> simp (maxSteps := 2000000) only [go_sem, ↓reduceIte, Sub, Int.natCast_add, Int.natCast_mul]
       ·have e2 : ((s : Int) * 2) = ((2 * s : Nat) : Int) := by omega
        simp (maxSteps := 2000000) (disch := omega) only [go_sem, ↓reduceIte, e2]
        refine ⟨(2 * s, D1, K.st (H ++ R)), ?_, ⟨by simp only; omega, by simp only; omega, r1, mM.2, ahead_perm (.refl _) mM.1 (ahead_app.2 ⟨r3, r4⟩), by simp only; omega, (mM.1.append_left D1).trans r6⟩, by simp only; omega⟩
        refine Weak.mk ?_ ?_ ?_ <;> simp (maxSteps := 2000000) only [go_sem, ↓reduceIte, Sub, Int.natCast_add, Int.natCast_mul]
    ·have hes : F ++ R = K.st d := by
      refine Ky.st_eq ?_ q6
      by_cases h0 : F.length = 0
      ·rw [List.length_eq_zero_iff.1 h0]; exact q3
      ·obtain ⟨A, H1, rfl, a1, a2, a3, a4⟩ := Ky.full_peel q2 (by omega)
       simp only [List.length_append] at hFR
       have hR : R = [] := List.length_eq_zero_iff.1 (by omega)
       have hH : H1 = [] := List.length_eq_zero_iff.1 (by omega)
       rw [hR, hH, List.append_nil, List.append_nil]; exact a2
     rw [hes]
def L_slices_SortStableFunc___int_int_ : LCode :=
 .reg [Qc 4 0, Qc 5 0, Q 6 (.len false (.t 5)), Qc 7 1, ⟨some 8, .prim .call [.k (.fn (.func 32) [] []), .t 4, .t 6, .t 7] [], none⟩]
def R_slices_SortStableFunc___int_int_ : List LRes := []
theorem lift_slices_SortStableFunc___int_int_ : Lifts Try.prog 25 9 L_slices_SortStableFunc___int_int_ R_slices_SortStableFunc___int_int_ := ⟨_, _, Try.func25, rfl, by kernel_rfl, by kernel_rfl, rfl⟩
theorem sortStable_call {d : List Nat} {n c g n0 : Nat} {G : D} {K : Ky} (hg : CmpOK g G K n0) (hn : n = d.length) (hu : K.up d) (hel : ∀ x ∈ d, x < n0) (hl : n ≤ c) (hc : n ≤ 1000000) :
  MCallE Try.prog 25 [.rs (.x 1) n c, .fn (.func g) [] [.ptr (.x 0) 0]] [.cells [.d G], .cells (rowN d c)] (.tuple []) [.cells [.d G], .cells (rowN (K.st d) c)] := by
 refine lift_slices_SortStableFunc___int_int_.mcall (by kernel_rfl) rfl ?_
 simp (maxSteps := 2000000) only [go_sem, ↓reduceIte, L_slices_SortStableFunc___int_int_, R_slices_SortStableFunc___int_int_]
 refine PrimG.mc2 (.x 0) (.x 1) rfl (stable_call hg hn hu hel hl hc) rfl rfl rfl rfl rfl ⟨box_row _, rowN_row _ _, box_row _, rowN_row _ _⟩ rfl ?_
 simp (maxSteps := 2000000) only [go_sem, ↓reduceIte]
/-! ### Of nothing -/
theorem insSort_none (g : Nat) (G : D) : MCallE Try.prog 34 [.ns, .d (.int .i64 0), .d (.int .i64 0), .fn (.func g) [] [.ptr (.x 0) 0]] [.cells [.d G]] (.tuple []) [.cells [.d G]] := by
 refine lift_slices_insertionSortCmpFunc_int_.mcall (by kernel_rfl) rfl ?_
 simp (maxSteps := 2000000) (disch := omega) only [go_sem, ↓reduceIte, L_slices_insertionSortCmpFunc_int_, R_slices_insertionSortCmpFunc_int_]
 refine run_unroll ?_
 simp (maxSteps := 2000000) (disch := omega) only [go_sem, ↓reduceIte]
theorem stable_none (g : Nat) (G : D) : MCallE Try.prog 32 [.ns, .d (.int .i64 0), .fn (.func g) [] [.ptr (.x 0) 0]] [.cells [.d G]] (.tuple []) [.cells [.d G]] := by
 refine lift_slices_stableCmpFunc_int_.mcall (by kernel_rfl) rfl ?_
 simp (maxSteps := 2000000) (disch := omega) only [go_sem, ↓reduceIte, L_slices_stableCmpFunc_int_, R_slices_stableCmpFunc_int_]
 refine run_unroll ?_
 simp (maxSteps := 2000000) (disch := omega) only [go_sem, ↓reduceIte]
 refine PrimG.mc1 (.x 0) rfl (insSort_none g G) rfl rfl rfl rfl ⟨rfl, rfl⟩ ?_
 simp (maxSteps := 2000000) (disch := omega) only [go_sem, ↓reduceIte]
 refine run_unroll ?_
 simp (maxSteps := 2000000) (disch := omega) only [go_sem, ↓reduceIte]
theorem sortStable_none (g : Nat) (G : D) : MCallE Try.prog 25 [.ns, .fn (.func g) [] [.ptr (.x 0) 0]] [.cells [.d G]] (.tuple []) [.cells [.d G]] := by
 refine lift_slices_SortStableFunc___int_int_.mcall (by kernel_rfl) rfl ?_
 simp (maxSteps := 2000000) only [go_sem, ↓reduceIte, L_slices_SortStableFunc___int_int_, R_slices_SortStableFunc___int_int_]
 refine PrimG.mc1 (.x 0) rfl (stable_none g G) rfl rfl rfl rfl ⟨rfl, rfl⟩ ?_
 simp (maxSteps := 2000000) only [go_sem, ↓reduceIte]
end Go.Av.Try
set_option linter.unusedSimpArgs false
set_option maxRecDepth 100000
set_option maxHeartbeats 1000000
namespace Go.Av.Try
open Go.Proofs
structure Gl where
 tx : List UInt8
 ax : Int
 ay : Int
 ex : Int
 ey : Int
 sz : Int
 b0 : Int
 b1 : Int
 b2 : Int
 b3 : Int
 deriving Inhabited
def Gl.d (g : Gl) : D := .agg [.str g.tx, .int .i64 g.ax, .int .i64 g.ay, .int .i64 g.ex, .int .i64 g.ey, .int .i64 g.sz, .int .i64 g.b0, .int .i64 g.b1, .int .i64 g.b2, .int .i64 g.b3]
def glsD (l : List Gl) : List D := l.map Gl.d
theorem glsD_length (l : List Gl) : (glsD l).length = l.length := by simp [glsD]
theorem glsD_get (l : List Gl) (j : Nat) : (glsD l)[j]? = (l[j]?).map Gl.d := by simp [glsD]
def glAt (l : List Gl) (i : Nat) : Gl := l.getD i default
theorem glAt_get {l : List Gl} {i : Nat} (h : i < l.length) : l[i]? = some (glAt l i) := by
 simp [glAt, List.getD_eq_getElem?_getD, List.getElem?_eq_getElem h]
def kyY (l : List Gl) : Ky := ⟨fun i => -(glAt l i).ay, fun i => i⟩
def kyX (l : List Gl) (row : List Nat) : Ky := ⟨fun i => (glAt l i).ax, fun i => row.idxOf i⟩
def L_cmp_isNaN_int_ : LCode :=
 .seq (.reg [Qx 2 KF]) (.seq (.reg [Qc 3 0, Qc 4 0, Q 5 (.bin .neq (.t 3) (.t 4)), Qa 2 5]) .ret)
def R_cmp_isNaN_int_ : List LRes := [.tmp 2]
theorem lift_cmp_isNaN_int_ : Lifts Try.prog 33 6 L_cmp_isNaN_int_ R_cmp_isNaN_int_ := ⟨_, _, Try.func33, rfl, by kernel_rfl, by kernel_rfl, rfl⟩
theorem isNaN_call (a : Int) : PCall Try.prog 33 [.int .i64 a] (fun r => r = .one (.bool false)) := by
 refine lift_cmp_isNaN_int_.call rfl ?_
 simp (maxSteps := 2000000) only [go_sem, ↓reduceIte, L_cmp_isNaN_int_, R_cmp_isNaN_int_]
def L_cmp_Compare_int_ : LCode :=
 .seq (.reg [Qx 4 (Ki 0)]) (.seq (.reg [Qc 7 0, ⟨some 8, .call 33 [.t 7], none⟩, Qa 5 8]) (.seq (.reg [Qc 9 1, ⟨some 10, .call 33 [.t 9], none⟩, Qa 6 10]) (.seq (.seq (.reg [Qc 11 
 5]) (.cond (.t 11) (.seq (.seq (.reg [Qc 12 6]) (.cond (.t 12) (.seq (.reg [Qx 4 (Ki 0)]) .ret) .skip)) (.seq (.reg [Qx 4 (Ki (-1))]) .ret)) .skip)) (.seq (.seq (.reg [Qc 13 6]) 
 (.cond (.t 13) (.seq (.reg [Qx 4 (Ki 1)]) .ret) .skip)) (.seq (.seq (.reg [Qc 14 0, Qc 15 1, Q 16 (.bin .lss (.t 14) (.t 15))]) (.cond (.t 16) (.seq (.reg [Qx 4 (Ki (-1))]) .ret) 
 .skip)) (.seq (.seq (.reg [Qc 17 0, Qc 18 1, Q 19 (.bin .gtr (.t 17) (.t 18))]) (.cond (.t 19) (.seq (.reg [Qx 4 (Ki 1)]) .ret) .skip)) (.seq (.reg [Qx 4 (Ki 0)]) .ret)))))))
def R_cmp_Compare_int_ : List LRes := [.tmp 4]
theorem lift_cmp_Compare_int_ : Lifts Try.prog 27 20 L_cmp_Compare_int_ R_cmp_Compare_int_ := ⟨_, _, Try.func27, rfl, by kernel_rfl, by kernel_rfl, rfl⟩
def cmpI (a b : Int) : Int := if a < b then -1 else if b < a then 1 else 0
theorem compare_call (a b : Int) : PCall Try.prog 27 [.int .i64 a, .int .i64 b] (fun r => r = .one (.int .i64 (cmpI a b))) := by
 refine lift_cmp_Compare_int_.call rfl ?_
 simp (maxSteps := 2000000) only [go_sem, ↓reduceIte, L_cmp_Compare_int_, R_cmp_Compare_int_]
 refine CallG.of (isNaN_call a) ?_
 simp (maxSteps := 2000000) only [go_sem, ↓reduceIte]
 refine CallG.of (isNaN_call b) ?_
 simp (maxSteps := 2000000) only [go_sem, ↓reduceIte]
 unfold cmpI
 by_cases h1 : a < b
 ·rw [if_pos h1]
  have z1 := eq_true h1
  simp (maxSteps := 2000000) only [go_sem, ↓reduceIte, z1]
 ·rw [if_neg h1]
  have z1 := eq_false h1
  by_cases h2 : b < a
  ·rw [if_pos h2]
   have z2 := eq_true h2
   simp (maxSteps := 2000000) only [go_sem, ↓reduceIte, z1, z2]
  ·rw [if_neg h2]
   have z2 := eq_false h2
   simp (maxSteps := 2000000) only [go_sem, ↓reduceIte, z1, z2]
theorem cmpI_neg {a b : Int} : cmpI a b < 0 ↔ a < b := by
 unfold cmpI
 split
 ·simp_all
 ·split <;> simp_all
def L_layout_lines_1 : LCode :=
 .seq (.reg [Qx 5 (Ki 0)]) (.seq (.dreg [Q 6 (.ld false 1 (.t 2)), Qc 7 1, Q 8 (.ia 10 (.t 6) (.t 7)), Q 9 (.fa 1 (.t 8)), Q 10 (.fa 1 (.t 9)), Q 11 (.ld false 1 (.t 10)), Q 12 (.ld 
 false 1 (.t 2)), Qc 13 0, Q 14 (.ia 10 (.t 12) (.t 13)), Q 15 (.fa 1 (.t 14)), Q 16 (.fa 1 (.t 15)), Q 17 (.ld false 1 (.t 16)), ⟨some 18, .call 27 [.t 11, .t 17], none⟩, Qa 5 
 18]) .ret)
def R_layout_lines_1 : List LRes := [.tmp 5]
theorem lift_layout_lines_1 : Lifts Try.prog 26 19 L_layout_lines_1 R_layout_lines_1 := ⟨_, _, Try.func26, rfl, by kernel_rfl, by kernel_rfl, rfl⟩
theorem cmpY_ok (l : List Gl) : CmpOK 26 (.list (glsD l)) (kyY l) l.length := by
 intro x y hx hy
 have g1 : (glsD l)[x]? = some (glAt l x).d := by rw [glsD_get, glAt_get hx]; rfl
 have g2 : (glsD l)[y]? = some (glAt l y).d := by rw [glsD_get, glAt_get hy]; rfl
 refine lift_layout_lines_1.mcall (by kernel_rfl) rfl ?_
 simp (maxSteps := 2000000) (disch := omega) only [go_sem, ↓reduceIte, L_layout_lines_1, R_layout_lines_1, getI_nat, g1, g2, Gl.d]
 refine CallD.of (compare_call _ _) ?_
 simp (maxSteps := 2000000) only [go_sem, ↓reduceIte]
 refine ⟨_, rfl, ?_⟩
 rw [cmpI_neg]
 show _ ↔ -(glAt l x).ay < -(glAt l y).ay
 omega
def L_layout_lines_2 : LCode :=
 .seq (.reg [Qx 5 (Ki 0)]) (.seq (.dreg [Q 6 (.ld false 1 (.t 2)), Qc 7 0, Q 8 (.ia 10 (.t 6) (.t 7)), Q 9 (.fa 1 (.t 8)), Q 10 (.fa 0 (.t 9)), Q 11 (.ld false 1 (.t 10)), Q 12 (.ld 
 false 1 (.t 2)), Qc 13 1, Q 14 (.ia 10 (.t 12) (.t 13)), Q 15 (.fa 1 (.t 14)), Q 16 (.fa 0 (.t 15)), Q 17 (.ld false 1 (.t 16)), ⟨some 18, .call 27 [.t 11, .t 17], none⟩, Qa 5 
 18]) .ret)
def R_layout_lines_2 : List LRes := [.tmp 5]
theorem lift_layout_lines_2 : Lifts Try.prog 28 19 L_layout_lines_2 R_layout_lines_2 := ⟨_, _, Try.func28, rfl, by kernel_rfl, by kernel_rfl, rfl⟩
theorem cmpX_ok (l : List Gl) (row : List Nat) : CmpOK 28 (.list (glsD l)) (kyX l row) l.length := by
 intro x y hx hy
 have g1 : (glsD l)[x]? = some (glAt l x).d := by rw [glsD_get, glAt_get hx]; rfl
 have g2 : (glsD l)[y]? = some (glAt l y).d := by rw [glsD_get, glAt_get hy]; rfl
 refine lift_layout_lines_2.mcall (by kernel_rfl) rfl ?_
 simp (maxSteps := 2000000) (disch := omega) only [go_sem, ↓reduceIte, L_layout_lines_2, R_layout_lines_2, getI_nat, g1, g2, Gl.d]
 refine CallD.of (compare_call _ _) ?_
 simp (maxSteps := 2000000) only [go_sem, ↓reduceIte]
 refine ⟨_, rfl, ?_⟩
 rw [cmpI_neg]
 exact Iff.rfl
end Go.Av.Try
set_option linter.unusedSimpArgs false
set_option maxRecDepth 100000
set_option maxHeartbeats 1000000
namespace Go.Av.Try
open Go.Proofs
def inB (n : Int) : Prop := -1000000000 ≤ n ∧ n ≤ 1000000000
def Gl.ok (g : Gl) : Prop := inB g.ax ∧ inB g.ay ∧ inB g.ex ∧ inB g.ey ∧ inB g.sz
def hasT (l : List Gl) (i : Nat) : Bool := decide ((glAt l i).tx ≠ [])
def idxT (l : List Gl) (n : Nat) : List Nat := (List.range n).filter (hasT l)
theorem idxT_succ (l : List Gl) (n : Nat) : idxT l (n + 1) = idxT l n ++ (if hasT l n = true then [n] else []) := by
 simp only [idxT, List.range_succ, List.filter_append, List.filter_cons, List.filter_nil]
theorem idxT_lt {l : List Gl} {n : Nat} : ∀ x ∈ idxT l n, x < n := fun x hx => by
 simp only [idxT, List.mem_filter, List.mem_range] at hx; exact hx.1
theorem idxT_len (l : List Gl) (n : Nat) : (idxT l n).length ≤ n := by
 have := List.length_filter_le (hasT l) (List.range n)
 rw [List.length_range] at this; exact this
theorem idxT_up (l : List Gl) (n : Nat) : (kyY l).up (idxT l n) := by
 have h := List.pairwise_lt_range (n := n)
 exact List.Pairwise.sublist List.filter_sublist h
def ordF (l : List Gl) : List Nat := (kyY l).st (idxT l l.length)
def near (l : List Gl) (f i : Nat) : Bool := decide (2 * ((glAt l f).ay - (glAt l i).ay) ≤ (glAt l f).sz)
def grp1 (l : List Gl) (rows : List (List Nat)) (i : Nat) : List (List Nat) :=
 match rows.getLast? with
 | some r => if near l (r.headD 0) i = true then rows.dropLast ++ [r ++ [i]] else rows ++ [[i]]
 | none => [[i]]
def grpF (l : List Gl) : List (List Nat) := (ordF l).foldl (grp1 l) []
def linesF (l : List Gl) : List (List Nat) := (grpF l).map (kyX l (ordF l)).st
theorem grp1_nil (l : List Gl) (i : Nat) : grp1 l [] i = [[i]] := rfl
theorem grp1_snoc (l : List Gl) (rs : List (List Nat)) (r : List Nat) (i : Nat) : grp1 l (rs ++ [r]) i = if near l (r.headD 0) i = true then rs ++ [r ++ [i]] else rs ++ [r] ++ [[i]] := by
 simp only [grp1, List.getLast?_append, List.getLast?_singleton, Option.some_or, List.dropLast_concat]
theorem grp1_flat (l : List Gl) (rows : List (List Nat)) (i : Nat) : (grp1 l rows i).flatten = rows.flatten ++ [i] := by
 rcases List.eq_nil_or_concat rows with rfl | ⟨rs, r, rfl⟩
 ·rfl
 ·rw [List.concat_eq_append, grp1_snoc]
  split <;> simp
theorem grp_flat (l : List Gl) : ∀ (O : List Nat) (rows : List (List Nat)), (O.foldl (grp1 l) rows).flatten = rows.flatten ++ O
 | [], rows => by simp
 | i :: O, rows => by rw [List.foldl_cons, grp_flat l O, grp1_flat]; simp
theorem ordF_nodup (l : List Gl) : (ordF l).Nodup := (Ky.st_perm (K := kyY l) _).nodup_iff.2 (List.nodup_range.filter _)
theorem idx_up {O : List Nat} (h : O.Nodup) : O.Pairwise fun x y => O.idxOf x < O.idxOf y :=
 List.pairwise_iff_getElem.2 fun i j hi hj hij => by
  rw [h.idxOf_getElem i hi, h.idxOf_getElem j hj]; exact hij
theorem row_up {l : List Gl} {O r : List Nat} {rows : List (List Nat)} (h : O.Nodup) (hf : rows.flatten = O) (hr : r ∈ rows) : (kyX l O).up r := by
 have hs : r.Sublist O := by rw [← hf]; exact List.sublist_flatten_of_mem hr
 exact (idx_up h).sublist hs
def famL (a : Nat) : List (List Nat × Nat) → List (Nat × AObj)
 | [] => []
 | p :: r => (a, .cells (rowN p.1 p.2)) :: famL (a + 1) r
theorem aget_famL : ∀ (a : Nat) (l : List (List Nat × Nat)) (s : Nat), aget (famL a l) s = if a ≤ s then (l[s - a]?).map (fun p => .cells (rowN p.1 p.2)) else none
 | a, [], s => by simp [famL, aget]
 | a, p :: r, s => by
  simp only [famL, aget, aget_famL (a + 1) r s]
  by_cases h : a = s
  ·subst h; simp
  ·rw [if_neg h]
   by_cases h2 : a + 1 ≤ s
   ·rw [if_pos h2, if_pos (by omega), show s - a = s - (a + 1) + 1 by omega, List.getElem?_cons_succ]
   ·rw [if_neg h2, if_neg (by omega)]
theorem famL_at {a k : Nat} {l : List (List Nat × Nat)} {p : List Nat × Nat} (h : l[k]? = some p) : aget (famL a l) (a + k) = some (.cells (rowN p.1 p.2)) := by
 rw [aget_famL, if_pos (by omega), Nat.add_sub_cancel_left, h]; rfl
theorem famL_off {a s : Nat} {l : List (List Nat × Nat)} (h : s < a) : aget (famL a l) s = none := by
 rw [aget_famL, if_neg (by omega)]
def rowsD (rows : List (List Nat × Nat)) : List (List D × Nat) := rows.map fun p => (nsD p.1, p.2)
theorem rowsD_get (rows : List (List Nat × Nat)) (k : Nat) : (rowsD rows)[k]? = (rows[k]?).map fun p => (nsD p.1, p.2) := by simp [rowsD]
theorem rowsD_len (rows : List (List Nat × Nat)) : (rowsD rows).length = rows.length := by simp [rowsD]
def outA (rows : List (List Nat × Nat)) (co : Nat) : List AV := rowA (outC 1000 (rowsD rows)) co
theorem outA_get {rows : List (List Nat × Nat)} {co k : Nat} {p : List Nat × Nat} (h : rows[k]? = some p) : (outA rows co)[k]? = some (.rs (.l (1000 + k)) p.1.length p.2) := by
 have hk := (List.getElem?_eq_some_iff.1 h).1
 rw [outA, rowA, List.getElem?_append_left (by rw [outC_len, rowsD_len]; exact hk), outC_get, rowsD_get, h]
 simp [nsD_len]
theorem outA_len {rows : List (List Nat × Nat)} {co : Nat} (h : rows.length ≤ co) : (outA rows co).length = co := rowA_len (by rw [outC_len, rowsD_len]; exact h)
theorem outA_junk {rows : List (List Nat × Nat)} {co : Nat} {p q : List Nat × Nat} : ((outA (rows ++ [p]) co).map (AV.drop (.l (1000 + rows.length)))).set rows.length (.rs (.l (1000 + rows.length)) q.1.length q.2) = outA (rows ++ [q]) co := by
 have e : ∀ p, outA (rows ++ [p]) co = outC 1000 (rowsD rows) ++ (.rs (.l (1000 + rows.length)) p.1.length p.2 :: List.replicate (co - (rows.length + 1)) .junk) := fun p => by
  simp [outA, rowA, rowsD, outC_app, outC, outC_len, nsD_len]
 have hd : (outC 1000 (rowsD rows)).map (AV.drop (.l (1000 + rows.length))) = outC 1000 (rowsD rows) := by
  refine (List.map_congr_left fun y hy => ?_).trans (List.map_id _)
  exact drop_eq (outC_has hy (.inr (by rw [rowsD_len]; omega))).2.1
 have hj : ∀ n, (List.replicate n AV.junk).map (AV.drop (.l (1000 + rows.length))) = List.replicate n .junk := fun n => by
  rw [List.map_replicate]; rfl
 rw [e p, e q, List.map_append, hd, List.map_cons, hj]
 have : (outC 1000 (rowsD rows)).length = rows.length := by rw [outC_len, rowsD_len]
 rw [List.set_append_right _ _ (by omega), this, Nat.sub_self, List.set_cons_zero]
/-! ### Looking up, writing -/
theorem amap_famL (r : Ref) : ∀ (a : Nat) (rows : List (List Nat × Nat)), amap (dropObj r) (famL a rows) = famL a rows
 | _, [] => rfl
 | a, p :: rows => by
  have : dropObj r (.cells (rowN p.1 p.2)) = .cells (rowN p.1 p.2) := congrArg AObj.cells (rowN_drop r p.1 p.2)
  rw [famL, amap, amap_famL r (a + 1) rows, this]
theorem amap_app {α : Type} (g : α → α) : ∀ (l m : List (Nat × α)), amap g (l ++ m) = amap g l ++ amap g m
 | [], _ => rfl
 | (k, v) :: l, m => by rw [List.cons_append, amap, amap_app g l m]; rfl
theorem aset_fam10 {s : Nat} {o : AObj} : ∀ {a : Nat} {rows : List (List Nat × Nat)}, s < a → aset (famL a rows) s o = famL a rows ++ [(s, o)]
 | _, [], _ => rfl
 | a, p :: rows, h => by
  rw [famL, aset, if_neg (by omega), aset_fam10 (a := a + 1) (by omega)]; rfl
theorem aset_fam_off {s : Nat} {o : AObj} {m : List (Nat × AObj)} : ∀ {a : Nat} {rows : List (List Nat × Nat)}, s < a → aset (famL a rows ++ m) s o = famL a rows ++ aset m s o
 | _, [], _ => rfl
 | a, p :: rows, h => by
  rw [famL, List.cons_append, aset, if_neg (by omega), aset_fam_off (a := a + 1) (by omega)]; rfl
theorem aset_fam_last {q : List Nat × Nat} {m : List (Nat × AObj)} : ∀ {a : Nat} {rs : List (List Nat × Nat)} {p : List Nat × Nat}, aset (famL a (rs ++ [p]) ++ m) (a + rs.length) (.cells (rowN q.1 q.2)) = famL a (rs ++ [q]) ++ m
 | a, [], p => by simp [famL, aset]
 | a, x :: rs, p => by
  have := aset_fam_last (q := q) (m := m) (a := a + 1) (rs := rs) (p := p)
  rw [show a + 1 + rs.length = a + (rs.length + 1) by omega] at this
  simp only [List.cons_append, famL, List.length_cons, aset]
  rw [if_neg (by omega), this]
theorem aset_fam_new {q : List Nat × Nat} : ∀ {a : Nat} {rows : List (List Nat × Nat)}, aset (famL a rows) (a + rows.length) (.cells (rowN q.1 q.2)) = famL a (rows ++ [q])
 | a, [] => by simp [famL, aset]
 | a, x :: rows => by
  have := aset_fam_new (q := q) (a := a + 1) (rows := rows)
  rw [show a + 1 + rows.length = a + (rows.length + 1) by omega] at this
  simp only [List.cons_append, famL, List.length_cons, aset]
  rw [if_neg (by omega), this]
theorem aset_fam_at {q : List Nat × Nat} : ∀ {a k : Nat} {rows : List (List Nat × Nat)}, k < rows.length → aset (famL a rows) (a + k) (.cells (rowN q.1 q.2)) = famL a (rows.set k q)
 | a, k, [], h => by simp at h
 | a, 0, p :: rows, _ => by simp [famL, aset]
 | a, k + 1, p :: rows, h => by
  have := aset_fam_at (q := q) (a := a + 1) (k := k) (rows := rows) (by simpa using h)
  rw [show a + 1 + k = a + (k + 1) by omega] at this
  simp only [famL, aset, List.set_cons_succ]
  rw [if_neg (by omega), this]
theorem outA_same {rows rows' : List (List Nat × Nat)} {co : Nat} (h : rows.map (fun p => (p.1.length, p.2)) = rows'.map fun p => (p.1.length, p.2)) : outA rows co = outA rows' co := by
 have e : ∀ (a : Nat) (r : List (List Nat × Nat)), outC a (rowsD r) = ((r.map fun p => (p.1.length, p.2)).zipIdx a).map fun x => .rs (.l x.2) x.1.1 x.1.2 := fun a r => by
  induction r generalizing a with
  | nil => rfl
  | cons p r ih =>
   show outC a ((nsD p.1, p.2) :: rowsD r) = _
   rw [outC, ih (a + 1), nsD_len]; rfl
 unfold outA
 rw [e, e, h]
theorem Sub.of {α : Type} : ∀ {l m : List (Nat × α)}, (∀ s x, (s, x) ∈ l → aget m s = some x) → Sub l m
 | [], _, _ => trivial
 | (s, x) :: l, m, h => ⟨h s x (by simp), Sub.of fun t y hy => h t y (by simp [hy])⟩
theorem famL_mem {s : Nat} {x : AObj} : ∀ {a : Nat} {rows : List (List Nat × Nat)}, (s, x) ∈ famL a rows → a ≤ s ∧ aget (famL a rows) s = some x
 | _, [], h => by cases h
 | a, p :: rows, h => by
  rcases List.mem_cons.1 h with h | h
  ·cases h; exact ⟨Nat.le_refl _, by simp [famL, aget]⟩
  ·obtain ⟨h1, h2⟩ := famL_mem h
   refine ⟨by omega, ?_⟩
   simp only [famL, aget]
   rw [if_neg (by omega)]; exact h2
theorem sub_fam_cons {a s : Nat} {x : AObj} {rows : List (List Nat × Nat)} {m : List (Nat × AObj)} (h : s < a) (hs : Sub (famL a rows) m) : Sub (famL a rows) ((s, x) :: m) :=
 Sub.of fun t y hy => by
  obtain ⟨h1, _⟩ := famL_mem hy
  have h3 := hs.get (famL_mem hy).2
  simp only [aget]
  rw [if_neg (by omega)]; exact h3
theorem sub_fam_app {a : Nat} {rows : List (List Nat × Nat)} {m : List (Nat × AObj)} : Sub (famL a rows) (famL a rows ++ m) :=
 Sub.of fun t y hy => by
  rw [aget_append, (famL_mem hy).2]; rfl
theorem sub_fam {a : Nat} {rows : List (List Nat × Nat)} : Sub (famL a rows) (famL a rows) := Sub.of fun t y hy => (famL_mem hy).2
theorem outA_drop {d co : Nat} (rows : List (List Nat × Nat)) (h : d < 1000) : (outA rows co).map (AV.drop (.l d)) = outA rows co := by
 refine (List.map_congr_left fun y hy => ?_).trans (List.map_id _)
 rcases List.mem_append.1 hy with hy | hy
 ·exact drop_eq (outC_has hy (.inl h)).2.1
 ·rw [(List.mem_replicate.1 hy).2]; rfl
theorem outA_dropN {co : Nat} (rows : List (List Nat × Nat)) : (outA rows co).map (AV.drop (.l (1000 + rows.length))) = outA rows co := by
 refine (List.map_congr_left fun y hy => ?_).trans (List.map_id _)
 rcases List.mem_append.1 hy with hy | hy
 ·exact drop_eq (outC_has hy (.inr (by rw [rowsD_len]; omega))).2.1
 ·rw [(List.mem_replicate.1 hy).2]; rfl
theorem one_int {n : Int} {k : IntKind} (G : Ghost) (w : World) (v : Value) (h : AVR G w (.d (.int k n)) v) : v.cells = #[v] ∧ v.oneCell' = true := by
 cases h with | d _ _ h => cases h; exact ⟨rfl, rfl⟩
theorem one_rs {r : Ref} {n c : Nat} (G : Ghost) (w : World) (v : Value) (h : AVR G w (.rs r n c) v) : v.cells = #[v] ∧ v.oneCell' = true := by
 cases h; exact ⟨rfl, rfl⟩
theorem rs_ok {a d n c : Nat} (h : a ≠ d) : okCell d (.rs (.l a) n c) := ⟨rfl, by simp [AV.has, h], fun e he => by cases he⟩
theorem outC_new {rows : List (List Nat × Nat)} {c : Nat} {q : List Nat × Nat} : rowA (outC 1000 (rowsD rows) ++ [.rs (.l (1000 + rows.length)) q.1.length q.2]) c = outA (rows ++ [q]) c := by
 simp [outA, rowsD, outC_app, outC, nsD_len]
end Go.Av.Try
