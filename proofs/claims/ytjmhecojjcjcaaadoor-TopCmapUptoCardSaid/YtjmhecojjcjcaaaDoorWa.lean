import Derived.Test.YtjmhecojjcjcaaaDoorAvG
import Derived.Test.YtjmhecojjcjcaaaDoorAvH
import Derived.Test.YtjmhecojjcjcaaaDoorProg
import Derived.Lib.LaidTab
import Derived.Lib.ItoaNum
import Derived.Shelf.Unicode.DecodeSlow
import Derived.Shelf.Strings.Search3
import Derived.Shelf.LaysM
import Derived.Test.YtjmhecojjcjcaaaDoorAvF
import Derived.Lib.Bytealg
import Derived.Lib.MapLaws
import Derived.Lib.RuneBytes
import Derived.Lib.SpaceUEq
import Derived.Lib.ValidLaws
set_option linter.unusedSimpArgs false
namespace Go.Av.Tryd
open Go.Proofs
theorem tab_lt {P : Program} {name : String} {k : IntKind} {zs : List Int} {w : World} (h : Lib.TabIs P w name k zs) (b : Nat) (hb : P.globalNamed name = some b) : b < w.heap.size := by
 unfold Lib.TabIs World.var? at h
 simp only [hb, Option.bind_some] at h
 cases hc : w.heap[b]? with
 | none => simp [hc] at h
 | some o => exact (Array.getElem?_eq_some_iff.1 hc).1
theorem tab_keep {P : Program} {name : String} {k : IntKind} {zs : List Int} {w w' : World} (hk : ∀ b, P.globalNamed name = some b → w'.heap[b]? = w.heap[b]?) (h : Lib.TabIs P w name k zs) : Lib.TabIs P w' name k zs := by
 unfold Lib.TabIs World.var? at h ⊢
 cases hg : P.globalNamed name with
 | none => simp [hg] at h
 | some g =>
  simp only [hg, Option.bind_some] at h ⊢
  rw [hk g hg]; exact h
def intAt (P : Program) (name : String) (w : World) : Prop := ∀ b, P.globalNamed name = some b → ∃ m : Int, w.cell? ⟨b, 0, none⟩ = some (.int .i64 m)
theorem cell_same {w w' : World} {b : Nat} (h : w'.heap[b]? = w.heap[b]?) : w'.cell? ⟨b, 0, none⟩ = w.cell? ⟨b, 0, none⟩ := by
 simp only [World.cell?, h]
theorem cell_lt {w : World} {b : Nat} {v : Value} (h : w.cell? ⟨b, 0, none⟩ = some v) : b < w.heap.size := by
 rcases Nat.lt_or_ge b w.heap.size with h' | h'
 ·exact h'
 ·simp [World.cell?, Array.getElem?_eq_none h'] at h
def tabAt (P : Program) (name : String) (k : IntKind) (zs : List Int) (w : World) : Prop := ∀ b, P.globalNamed name = some b → Lib.TabIs P w name k zs
def u8At (P : Program) (w : World) : Prop := ∀ g3 g4, P.globalNamed "unicode/utf8.first" = some g3 → P.globalNamed "unicode/utf8.acceptRanges" = some g4 → Lib.Utf8Tabs g3 g4 w
theorem u8_cells {g3 g4 : Nat} {w w' : World} (h3 : w'.heap[g3]? = w.heap[g3]?) (h4 : w'.heap[g4]? = w.heap[g4]?) (h : Lib.Utf8Tabs g3 g4 w) : Lib.Utf8Tabs g3 g4 w' := by
 obtain ⟨a, b⟩ := h
 refine ⟨fun c hc => ?_, fun i hi => ?_⟩
 ·have := a c hc
  simpa only [World.cell?, h3] using this
 ·have := b i hi
  simpa only [World.cell?, h4] using this
def u8Own (P : Program) (b : Nat) : Prop := P.globalNamed "unicode/utf8.first" = some b ∨ P.globalNamed "unicode/utf8.acceptRanges" = some b
theorem u8_inv {P : Program} {g3 g4 : Nat} {w : World} (h3 : P.globalNamed "unicode/utf8.first" = some g3) (h4 : P.globalNamed "unicode/utf8.acceptRanges" = some g4) (h : Lib.Utf8Tabs g3 g4 w) : u8At P w ∧ ∀ b, u8Own P b → b < w.heap.size := by
 have lt : ∀ (b o : Nat) (v : Value), w.cell? ⟨b, o, none⟩ = some v → b < w.heap.size := fun b o v hc => by
  rcases Nat.lt_or_ge b w.heap.size with h' | h'
  ·exact h'
  ·simp [World.cell?, Array.getElem?_eq_none h'] at hc
 refine ⟨fun a b ha hb => ?_, fun b hb => ?_⟩
 ·obtain rfl := Option.some.inj (h3.symm.trans ha)
  obtain rfl := Option.some.inj (h4.symm.trans hb)
  exact h
 ·obtain ⟨q1, q2⟩ := h
  rcases hb with hb | hb
  ·obtain rfl := Option.some.inj (h3.symm.trans hb)
   exact lt _ _ _ (q1 0 (by decide))
  ·obtain rfl := Option.some.inj (h4.symm.trans hb)
   exact lt _ _ _ (q2 0 (by decide)).1
instance : Inv Tryd.prog := ⟨fun _ w => tabAt Tryd.prog "internal/strconv.uint64pow10" .u64 Lib.pow10Tab w ∧ intAt Tryd.prog "internal/bytealg.MaxLen" w ∧ (u8At Tryd.prog w ∧ ∀ b, u8Own Tryd.prog b → b < w.heap.size),
 fun b => Tryd.prog.globalNamed "internal/strconv.uint64pow10" = some b ∨ Tryd.prog.globalNamed "internal/bytealg.MaxLen" = some b ∨ u8Own Tryd.prog b,
 fun h b hb => hb.elim (fun hb => tab_lt (h.1 b hb) b hb) fun hb => hb.elim (fun hb => by obtain ⟨m, hm⟩ := h.2.1 b hb; exact cell_lt hm) (h.2.2.2 b),
 fun {f w f' w'} hk h => ⟨fun b hb => tab_keep (fun b hb => (hk b (.inl hb)).1) (h.1 b hb), fun b hb => by obtain ⟨m, hm⟩ := h.2.1 b hb; exact ⟨m, (cell_same (hk b (.inr (.inl hb))).1).trans hm⟩,
  fun g3 g4 h3 h4 => u8_cells (hk g3 (.inr (.inr (.inl h3)))).1 (hk g4 (.inr (.inr (.inr h4)))).1 (h.2.2.1 g3 g4 h3 h4), fun b hb => by
   have h1 := h.2.2.2 b hb
   have h2 := (hk b (.inr (.inr hb))).1
   rw [Array.getElem?_eq_getElem h1] at h2
   exact (Array.getElem?_eq_some_iff.1 h2).1⟩⟩
def errD (n : Nat) : D := if n = 0 then .nil else .iface 65 (.int .i64 n)
theorem errD_ne {n : Nat} (h : n ≠ 0) : errD n = .iface 65 (.int .i64 n) := by simp [errD, h]
def L_parse_Blank : LCode :=
 .seq (.reg [Qx 2 KF]) (.seq (.reg [Qc 3 0, Q 4 (.bin .eql (.t 3) (Kb 0)), Qc 5 4, Qd 6 0 5 false, Qg 7 (.bin .eql (.t 6) (Kb 9)) 5 false, Q 8 (.pick (.t 5) KT (.t 7)), Qc 9 8, Qd 
 10 0 9 false, Qg 11 (.bin .eql (.t 10) (Kb 10)) 9 false, Q 12 (.pick (.t 9) KT (.t 11)), Qc 13 12, Qd 14 0 13 false, Qg 15 (.bin .eql (.t 14) (Kb 12)) 13 false, Q 16 (.pick (.t 
 13) KT (.t 15)), Qc 17 16, Qd 18 0 17 false, Qg 19 (.bin .eql (.t 18) (Kb 13)) 17 false, Q 20 (.pick (.t 17) KT (.t 19)), Qc 21 20, Qd 22 0 21 false, Qg 23 (.bin .eql (.t 22) (Kb 
 32)) 21 false, Q 24 (.pick (.t 21) KT (.t 23)), Qa 2 24]) .ret)
def R_parse_Blank : List LRes := [.tmp 2]
theorem lift_parse_Blank : Lifts Tryd.prog 72 25 L_parse_Blank R_parse_Blank := ⟨_, _, Tryd.func72, rfl, by kernel_rfl, by kernel_rfl, rfl⟩
def L_parse_Hex : LCode :=
 .seq (.reg [Qx 2 (Ki 0)]) (.seq (.block 0 (.seq (.reg [Qc 4 0, Q 5 (.bin .geq (.t 4) (Kb 48)), Qc 6 5, Qd 7 0 6 true, Qg 8 (.bin .leq (.t 7) (Kb 57)) 6 true, Q 9 (.pick (.t 6) (.t 
 8) KF), Qa 3 9]) (.cond (.t 3) (.seq (.reg [Qc 10 0, Q 11 (.bin .sub (.t 10) (Kb 48)), Q 12 (.cvI .i64 (.t 11)), Qa 2 12]) .ret) (.seq (.reg [Qc 14 0, Q 15 (.bin .geq (.t 14) (Kb 
 97)), Qc 16 15, Qd 17 0 16 true, Qg 18 (.bin .leq (.t 17) (Kb 102)) 16 true, Q 19 (.pick (.t 16) (.t 18) KF), Qa 13 19]) (.cond (.t 13) (.seq (.reg [Qc 20 0, Q 21 (.bin .sub (.t 
 20) (Kb 97)), Q 22 (.cvI .i64 (.t 21)), Q 23 (.bin .add (.t 22) (Ki 10)), Qa 2 23]) .ret) (.seq (.reg [Qc 25 0, Q 26 (.bin .geq (.t 25) (Kb 65)), Qc 27 26, Qd 28 0 27 true, Qg 29 
 (.bin .leq (.t 28) (Kb 70)) 27 true, Q 30 (.pick (.t 27) (.t 29) KF), Qa 24 30]) (.cond (.t 24) (.seq (.reg [Qc 31 0, Q 32 (.bin .sub (.t 31) (Kb 65)), Q 33 (.cvI .i64 (.t 32)), 
 Q 34 (.bin .add (.t 33) (Ki 10)), Qa 2 34]) .ret) .skip))))))) (.seq (.reg [Qx 2 (Ki (-1))]) .ret))
def R_parse_Hex : List LRes := [.tmp 2]
theorem lift_parse_Hex : Lifts Tryd.prog 75 35 L_parse_Hex R_parse_Hex := ⟨_, _, Tryd.func75, rfl, by kernel_rfl, by kernel_rfl, rfl⟩
def blankB (n : Int) : Bool := decide (n = 0) || (decide (n = 9) || (decide (n = 10) || (decide (n = 12) || (decide (n = 13) || decide (n = 32)))))
def hexI (n : Int) : Int := if 48 ≤ n ∧ n ≤ 57 then n - 48 else if 97 ≤ n ∧ n ≤ 102 then n - 87 else if 65 ≤ n ∧ n ≤ 70 then n - 55 else -1
theorem blank_call (n : Int) : PCall Tryd.prog 72 [.int .u8 n] (fun r => r = .one (.bool (blankB n))) := by
 refine lift_parse_Blank.call rfl ?_
 simp (maxSteps := 2000000) only [go_sem, ↓reduceIte, L_parse_Blank, R_parse_Blank]
 unfold blankB
 simp +contextual
theorem hex_call {n : Int} (h : 0 ≤ n ∧ n < 256) : PCall Tryd.prog 75 [.int .u8 n] (fun r => r = .one (.int .i64 (hexI n))) := by
 refine lift_parse_Hex.call rfl ?_
 simp (maxSteps := 2000000) only [go_sem, ↓reduceIte, L_parse_Hex, R_parse_Hex]
 unfold hexI
 repeat' (first | apply And.intro | intro _)
 all_goals
  congr 2
  try simp only [IntKind.wrap_i64, IntKind.wrap_u8]
  (repeat' split) <;> omega
theorem hexI_bounds (n : Int) : -1 ≤ hexI n ∧ hexI n ≤ 15 := by
 unfold hexI; (repeat' split) <;> omega
theorem dropW {α : Type} {l : List α} {i : Nat} {x : α} (h : l[i]? = some x) : l.drop i = x :: l.drop (i + 1) := by
 obtain ⟨hi, rfl⟩ := List.getElem?_eq_some_iff.1 h
 exact List.drop_eq_getElem_cons hi
/-! ### Blanks, words -/
def signs10 : List UInt8 := [40, 41, 60, 62, 91, 93, 123, 125, 47, 37]
def signB (c : UInt8) : Bool := decide (c ∈ signs10)
def skipF (note : Bool) : List UInt8 → Nat → Nat
 | [], at_ => at_
 | c :: r, at_ =>
  if note = true then skipF (decide (c.toNat ≠ 10) && decide (c.toNat ≠ 13)) r (at_ + 1)
  else if c.toNat = 37 then skipF true r (at_ + 1)
  else if blankB c.toNat = true then skipF false r (at_ + 1)
  else at_
def skipP (s : List UInt8) (at_ : Nat) : Nat := skipF false (s.drop at_) at_
def wordL (s : List UInt8) : List UInt8 := s.takeWhile fun c => !blankB c.toNat && !signB c
def wordP (s : List UInt8) (at_ : Nat) : List UInt8 := wordL (s.drop at_)
def clampP (s : List UInt8) (n : Int) : Nat := (min (max n 0) s.length).toNat
theorem skipF_le : ∀ (s : List UInt8) (b : Bool) (k : Nat), k ≤ skipF b s k ∧ skipF b s k ≤ k + s.length
 | [], b, k => by simp [skipF]
 | c :: r, b, k => by
  unfold skipF
  simp only [List.length_cons]
  split
  ·have := skipF_le r (decide (c.toNat ≠ 10) && decide (c.toNat ≠ 13)) (k + 1); omega
  ·split
   ·have := skipF_le r true (k + 1); omega
   ·split
    ·have := skipF_le r false (k + 1); omega
    ·omega
theorem skipP_le {s : List UInt8} {k : Nat} (h : k ≤ s.length) : k ≤ skipP s k ∧ skipP s k ≤ s.length := by
 have := skipF_le (s.drop k) false k
 rw [List.length_drop] at this
 unfold skipP
 omega
theorem wordP_len (s : List UInt8) (k : Nat) : (wordP s k).length ≤ s.length - k := by
 have := (List.takeWhile_sublist (fun c : UInt8 => !blankB c.toNat && !signB c) (l := s.drop k)).length_le
 rw [List.length_drop] at this
 exact this
theorem encode_asc {c : UInt8} (h : c.toNat < 128) : (Utf8.encode (c.toNat : Int)).data.toList = [c] := by
 have : ∀ n : Fin 128, (Utf8.encode ((n.val : Nat) : Int)).data.toList = [UInt8.ofNat n.val] := by decide +kernel
 have := this ⟨c.toNat, h⟩
 simp only at this
 rw [this]
 simp
open Go.Shelf
set_option maxRecDepth 100000
def containsLays_ren : Go.Shelf.Ren := ⟨fun | 144 => 84 | 143 => 89 | 219 => 92 | 217 => 74 | 225 => 93 | 224 => 94 | 267 => 95 | 266 => 85 | 314 => 96 | n => n, fun | 9 => 9 | 4 => 4 | 3 => 3 | 5 => 5 | 46 => 112 | 146 => 127 | 51 => 125 | n => n, fun | 1 => 2 | n => n⟩
theorem containsLays : Go.Proofs.LaysM.n144 Tryd.prog containsLays_ren where
 mixed := by kernel_rfl
 f143 := Tryd.func89.trans (congrArg some (by kernel_rfl))
 f144 := Tryd.func84.trans (congrArg some (by kernel_rfl))
 f217 := Tryd.func74.trans (congrArg some (by kernel_rfl))
 f219 := Tryd.func92.trans (congrArg some (by kernel_rfl))
 f224 := Tryd.func94.trans (congrArg some (by kernel_rfl))
 f225 := Tryd.func93.trans (congrArg some (by kernel_rfl))
 f266 := Tryd.func85.trans (congrArg some (by kernel_rfl))
 f267 := Tryd.func95.trans (congrArg some (by kernel_rfl))
 f314 := Tryd.func96.trans (congrArg some (by kernel_rfl))
 t3 := Tryd.underlying3
 a3 := Tryd.isAgg3
 z3 := Tryd.sizeOf3
 v3 := Tryd.zeroValue3
 t4 := Tryd.underlying4
 a4 := Tryd.isAgg4
 z4 := Tryd.sizeOf4
 v4 := Tryd.zeroValue4
 t5 := Tryd.underlying5
 a5 := Tryd.isAgg5
 z5 := Tryd.sizeOf5
 v5 := Tryd.zeroValue5
 t9 := Tryd.underlying9
 a9 := Tryd.isAgg9
 z9 := Tryd.sizeOf9
 v9 := Tryd.zeroValue9
 t46 := Tryd.underlying112
 a46 := Tryd.isAgg112
 z46 := Tryd.sizeOf112
 v46 := Tryd.zeroValue112
 t51 := Tryd.underlying125
 a51 := Tryd.isAgg125
 z51 := Tryd.sizeOf125
 v51 := Tryd.zeroValue125
 t146 := Tryd.underlying127
 a146 := Tryd.isAgg127
 z146 := Tryd.sizeOf127
 v146 := Tryd.zeroValue127
 g1 := by kernel_rfl
 i3 := by kernel_rfl
 i4 := by kernel_rfl
 i5 := by kernel_rfl
 i9 := by kernel_rfl
 i46 := by kernel_rfl
 i51 := by kernel_rfl
 i146 := by kernel_rfl
 m1 := by kernel_rfl
 s1_3 := fun w h => Go.Proofs.cell_of_shapedOpen_int (zero := #[.int .i64 0]) (t := 3) h (of_decide_eq_true (by kernel_rfl)) (by kernel_rfl) rfl (by kernel_rfl) (by kernel_rfl) Tryd.underlying3
theorem contains_call (s sub : List UInt8) (hs : s.length < 4294967281) : PCall Tryd.prog 84 [.str s, .str sub] (fun r => r = .one (.bool (Lib.contains s sub))) := by
 intro f w vs hI ht hsz hrd
 have hv : vs = #[.string ⟨s.toArray⟩, .string ⟨sub.toArray⟩] := by
  have h1 := hrd 0 _ rfl
  have h2 := hrd 1 _ rfl
  match vs, hsz with
  | ⟨[v, u]⟩, _ => cases h1; cases h2; rfl
 subst hv
 obtain ⟨m, hm⟩ := hI.2.1 2 (by kernel_rfl)
 refine (Any.strings_Contains containsLays.ton144 ⟨s.toArray⟩ ⟨sub.toArray⟩ m w (by show s.toArray.size < _; simpa using hs) hm).mono fun e w' ⟨he, hw⟩ => ?_
 subst hw
 exact ⟨_, _, f, rfl, he, .bool _, Nat.le_refl _, fun b hb => ⟨rfl, rfl⟩, ht, rfl, rfl, rfl⟩
theorem indexByte_none {l : List UInt8} {c : UInt8} : Lib.indexByte l c = -1 ↔ c ∉ l := by
 induction l with
 | nil => simp [Lib.indexByte]
 | cons b l ih =>
  have hge := Lib.indexByte_ge l c
  simp only [Lib.indexByte, List.mem_cons, not_or]
  by_cases h : b = c
  ·simp [h]
  ·rw [if_neg (by simpa using h)]
   by_cases h2 : Lib.indexByte l c = -1
   ·rw [if_pos (by simpa using h2)]
    simp only [true_iff]
    exact ⟨fun e => h e.symm, ih.1 h2⟩
   ·rw [if_neg (by simpa using h2)]
    constructor
    ·intro e; omega
    ·intro e; exact absurd (ih.2 e.2) h2
theorem indexByte_mem {l : List UInt8} {c : UInt8} : (0 ≤ Lib.indexByte l c) ↔ c ∈ l := by
 have h := indexByte_none (l := l) (c := c)
 have hge := Lib.indexByte_ge l c
 constructor
 ·intro h1
  by_cases hc : c ∈ l
  ·exact hc
  ·have := h.2 hc; omega
 ·intro h1
  by_cases hc : Lib.indexByte l c = -1
  ·exact absurd h1 (h.1 hc)
  ·omega
def L_internal_stringslite_IndexByte : LCode :=
 .seq (.reg [Qx 4 (Ki 0)]) (.seq (.reg [Qc 5 0, Qc 6 1, ⟨some 7, .prim .call [.k (.fn (.func 85) [] []), .t 5, .t 6] [], none⟩, Qa 4 7]) .ret)
def R_internal_stringslite_IndexByte : List LRes := [.tmp 4]
theorem lift_internal_stringslite_IndexByte : Lifts Tryd.prog 74 8 L_internal_stringslite_IndexByte R_internal_stringslite_IndexByte := ⟨_, _, Tryd.func74, rfl, by kernel_rfl, by kernel_rfl, rfl⟩
theorem liteIndexByte_call (s : List UInt8) (c : UInt8) : PCall Tryd.prog 74 [.str s, .int .u8 c.toNat] (fun r => r = .one (.int .i64 (Lib.indexByte s c))) := by
 refine lift_internal_stringslite_IndexByte.call rfl ?_
 simp (maxSteps := 2000000) only [go_sem, ↓reduceIte, L_internal_stringslite_IndexByte, R_internal_stringslite_IndexByte]
 refine PrimG.entry Tryd.func85 (by kernel_rfl) (by kernel_rfl) (by kernel_rfl) (e := Extern.BytealgIndexByte.indexByte) (by kernel_rfl) (.d (.int .i64 (Lib.indexByte s c))) (fun G w vs hl hv => ?_) ?_
 ·match vs, hl with
  | [v, u], _ =>
   have h0 : AVR G w (.d (.str s)) v := hv 0 _ rfl
   have h1 : AVR G w (.d (.int .u8 c.toNat)) u := hv 1 _ rfl
   have h0 := h0.dinv
   have h1 := h1.dinv
   cases h0; cases h1
   refine ⟨_, Lib.run_indexByteString _ _ w, ?_⟩
   have e : (((c.toNat : Int).toNat).toUInt8) = c := by simp
   rw [e]
   exact .d _ _ (.int _ _)
 simp (maxSteps := 2000000) only [go_sem, ↓reduceIte]
def L_strings_IndexByte : LCode :=
 .seq (.reg [Qx 4 (Ki 0)]) (.seq (.reg [Qc 5 0, Qc 6 1, ⟨some 7, .call 74 [.t 5, .t 6], none⟩, Qa 4 7]) .ret)
def R_strings_IndexByte : List LRes := [.tmp 4]
theorem lift_strings_IndexByte : Lifts Tryd.prog 57 8 L_strings_IndexByte R_strings_IndexByte := ⟨_, _, Tryd.func57, rfl, by kernel_rfl, by kernel_rfl, rfl⟩
theorem indexByte_call (s : List UInt8) (c : UInt8) : PCall Tryd.prog 57 [.str s, .int .u8 c.toNat] (fun r => r = .one (.int .i64 (Lib.indexByte s c))) := by
 refine lift_strings_IndexByte.call rfl ?_
 simp (maxSteps := 2000000) only [go_sem, ↓reduceIte, L_strings_IndexByte, R_strings_IndexByte]
 refine CallG.of (liteIndexByte_call s c) ?_
 simp (maxSteps := 2000000) only [go_sem, ↓reduceIte]
/-! ### One byte in a string -/
def L_internal_stringslite_Index : LCode :=
 .seq (.reg [Qx 4 (Ki 0)]) (.seq (.reg [Qc 14 1, Q 15 (.len true (.t 14)), Qa 5 15]) (.seq (.block 0 (.seq (.reg [Qc 17 5, Q 18 (.bin .eql (.t 17) (Ki 0)), Qc 19 18, Qd 20 1 19 
 false, Qd 21 0 19 false, Qg 22 (.bin .eql (.t 20) (.t 21)) 19 false, Q 23 (.pick (.t 19) KT (.t 22)), Qa 16 23]) (.cond (.t 16) (.seq (.reg [Qx 4 (Ki 0)]) .ret) (.seq (.reg [Qc 
 25 5, Q 26 (.bin .eql (.t 25) (Ki 1)), Qa 24 26]) (.cond (.t 24) (.seq (.reg [Qc 27 0, Qc 28 1, Q 29 (.idxS (.t 28) (Ki 0)), ⟨some 30, .call 74 [.t 27, .t 29], none⟩, Qa 4 30]) 
 .ret) (.seq (.reg [Qc 32 5, Qc 33 0, Q 34 (.len true (.t 33)), Q 35 (.bin .geq (.t 32) (.t 34)), Qa 31 35]) (.cond (.t 31) (.seq (.reg [Qx 4 (Ki (-1))]) .ret) (.seq .bad (.cond 
 (.t 36) (.seq (.reg [Qc 45 0, Qc 46 1, ⟨some 47, .prim .call [.k (.fn (.func 93) [] []), .t 45, .t 46] [], none⟩, Qa 4 47]) .ret) .skip))))))))) (.seq (.reg [Qc 48 1, Q 49 (.idxS 
 (.t 48) (Ki 0)), Qa 6 49]) (.seq (.reg [Qc 50 1, Q 51 (.idxS (.t 50) (Ki 1)), Qa 7 51]) (.seq (.reg [Qx 8 (Ki 0)]) (.seq (.reg [Qc 52 0, Q 53 (.len true (.t 52)), Qc 54 5, Q 55 
 (.bin .sub (.t 53) (.t 54)), Q 56 (.bin .add (.t 55) (Ki 1)), Qa 9 56]) (.seq (.reg [Qx 10 (Ki 0)]) (.seq (.block 1 (.loop (.seq (.seq (.reg [Qc 57 8, Qc 58 9, Q 59 (.bin .lss 
 (.t 57) (.t 58))]) (.cond (.t 59) .skip (.exit 1))) (.block 2 (.seq (.seq (.reg [Qc 60 0, Qc 61 8, Q 62 (.idxS (.t 60) (.t 61)), Qc 63 6, Q 64 (.bin .neq (.t 62) (.t 63))]) 
 (.cond (.t 64) (.seq (.reg [Qc 65 0, Qc 66 8, Q 67 (.bin .add (.t 66) (Ki 1)), Qc 68 9, Q 69 (.subS (.t 65) (some (.t 67)) (some (.t 68))), Qc 70 6, ⟨some 71, .call 74 [.t 69, .t 
 70], none⟩, Qa 11 71]) (.seq (.seq (.reg [Qc 72 11, Q 73 (.bin .lss (.t 72) (Ki 0))]) (.cond (.t 73) (.seq (.reg [Qx 4 (Ki (-1))]) .ret) .skip)) (.reg [Qc 74 8, Qc 75 11, Q 76 
 (.bin .add (.t 75) (Ki 1)), Q 77 (.bin .add (.t 74) (.t 76)), Qa 8 77]))) .skip)) (.seq (.seq (.reg [Qc 78 0, Qc 79 8, Q 80 (.bin .add (.t 79) (Ki 1)), Q 81 (.idxS (.t 78) (.t 
 80)), Qc 82 7, Q 83 (.bin .eql (.t 81) (.t 82)), Qc 84 83, Qd 85 0 84 true, Qd 86 8 84 true, Qd 87 8 84 true, Qd 88 5 84 true, Qg 89 (.bin .add (.t 87) (.t 88)) 84 true, Qg 90 
 (.subS (.t 85) (some (.t 86)) (some (.t 89))) 84 true, Qd 91 1 84 true, Qg 92 (.bin .eql (.t 90) (.t 91)) 84 true, Q 93 (.pick (.t 84) (.t 92) KF)]) (.cond (.t 93) (.seq (.reg 
 [Qc 94 8, Qa 4 94]) .ret) .skip)) (.seq (.reg [Qc 95 8, Q 96 (.bin .add (.t 95) (Ki 1)), Qa 8 96]) (.seq (.reg [Qc 97 10, Q 98 (.bin .add (.t 97) (Ki 1)), Qa 10 98]) (.seq .bad 
 (.cond (.t 107) (.seq (.reg [Qc 108 0, Qc 109 8, Q 110 (.subS (.t 108) (some (.t 109)) none), Qc 111 1, ⟨some 112, .prim .call [.k (.fn (.func 93) [] []), .t 110, .t 111] [], 
 none⟩, Qa 12 112]) (.seq (.seq (.reg [Qc 113 12, Q 114 (.bin .geq (.t 113) (Ki 0))]) (.cond (.t 114) (.seq (.reg [Qc 115 12, Qc 116 8, Q 117 (.bin .add (.t 115) (.t 116)), Qa 4 
 117]) .ret) .skip)) (.seq (.reg [Qx 4 (Ki (-1))]) .ret))) (.seq .bad (.cond (.t 132) (.seq (.reg [Qc 133 0, Qc 134 8, Q 135 (.subS (.t 133) (some (.t 134)) none), Qc 136 1, ⟨some 
 137, .call 95 [.t 135, .t 136], none⟩, Qa 13 137]) (.seq (.seq (.reg [Qc 138 13, Q 139 (.bin .lss (.t 138) (Ki 0))]) (.cond (.t 139) (.seq (.reg [Qx 4 (Ki (-1))]) .ret) .skip)) 
 (.seq (.reg [Qc 140 8, Qc 141 13, Q 142 (.bin .add (.t 140) (.t 141)), Qa 4 142]) .ret))) .skip)))))))))))) (.seq (.reg [Qx 4 (Ki (-1))]) .ret)))))))))
def R_internal_stringslite_Index : List LRes := [.tmp 4]
theorem lift_internal_stringslite_Index : Lifts Tryd.prog 92 143 L_internal_stringslite_Index R_internal_stringslite_Index := ⟨_, _, Tryd.func92, rfl, by kernel_rfl, by kernel_rfl, rfl⟩
theorem liteIndex1_call (s : List UInt8) (c : UInt8) : PCall Tryd.prog 92 [.str s, .str [c]] (fun r => r = .one (.int .i64 (Lib.indexByte s c))) := by
 refine lift_internal_stringslite_Index.call rfl ?_
 simp (maxSteps := 2000000) only [go_sem, ↓reduceIte, L_internal_stringslite_Index, R_internal_stringslite_Index]
 refine ⟨fun h => ?_, fun h => ?_⟩
 ·subst h
  simp [Lib.indexByte]
 ·have : getI [c] 0 = some c := rfl
  simp (maxSteps := 2000000) only [go_sem, ↓reduceIte, this]
  refine CallG.of (liteIndexByte_call s c) ?_
  simp (maxSteps := 2000000) only [go_sem, ↓reduceIte]
def L_strings_Index : LCode :=
 .seq (.reg [Qx 4 (Ki 0)]) (.seq (.reg [Qc 5 0, Qc 6 1, ⟨some 7, .call 92 [.t 5, .t 6], none⟩, Qa 4 7]) .ret)
def R_strings_Index : List LRes := [.tmp 4]
theorem lift_strings_Index : Lifts Tryd.prog 89 8 L_strings_Index R_strings_Index := ⟨_, _, Tryd.func89, rfl, by kernel_rfl, by kernel_rfl, rfl⟩
def L_strings_Contains : LCode :=
 .seq (.reg [Qx 4 KF]) (.seq (.reg [Qc 5 0, Qc 6 1, ⟨some 7, .call 89 [.t 5, .t 6], none⟩, Q 8 (.bin .geq (.t 7) (Ki 0)), Qa 4 8]) .ret)
def R_strings_Contains : List LRes := [.tmp 4]
theorem lift_strings_Contains : Lifts Tryd.prog 84 9 L_strings_Contains R_strings_Contains := ⟨_, _, Tryd.func84, rfl, by kernel_rfl, by kernel_rfl, rfl⟩
theorem contains1_call (s : List UInt8) (c : UInt8) : PCall Tryd.prog 84 [.str s, .str [c]] (fun r => r = .one (.bool (decide (c ∈ s)))) := by
 have h : PCall Tryd.prog 89 [.str s, .str [c]] (fun r => r = .one (.int .i64 (Lib.indexByte s c))) := by
  refine lift_strings_Index.call rfl ?_
  simp (maxSteps := 2000000) only [go_sem, ↓reduceIte, L_strings_Index, R_strings_Index]
  refine CallG.of (liteIndex1_call s c) ?_
  simp (maxSteps := 2000000) only [go_sem, ↓reduceIte]
 refine lift_strings_Contains.call rfl ?_
 simp (maxSteps := 2000000) only [go_sem, ↓reduceIte, L_strings_Contains, R_strings_Contains]
 refine CallG.of h ?_
 simp (maxSteps := 2000000) only [go_sem, ↓reduceIte]
 congr 2
 simp only [indexByte_mem]
def L_parse_sign : LCode :=
 .seq (.reg [Qx 2 KF]) (.seq (.reg [Qc 3 0, Q 4 (.cvI .i32 (.t 3)), Q 5 (.i2s (.t 4)), ⟨some 6, .call 84 [.k (.d (.str [40, 41, 60, 62, 91, 93, 123, 125, 47, 37])), .t 5], none⟩, Qc 
 7 6, Qd 8 0 7 true, Qg 9 (.bin .lss (.t 8) (Kb 128)) 7 true, Q 10 (.pick (.t 7) (.t 9) KF), Qa 2 10]) .ret)
def R_parse_sign : List LRes := [.tmp 2]
theorem lift_parse_sign : Lifts Tryd.prog 73 11 L_parse_sign R_parse_sign := ⟨_, _, Tryd.func73, rfl, by kernel_rfl, by kernel_rfl, rfl⟩
theorem sign_call (c : UInt8) : PCall Tryd.prog 73 [.int .u8 c.toNat] (fun r => r = .one (.bool (signB c))) := by
 have hc8 := u8_lt c
 refine lift_parse_sign.call rfl ?_
 simp (maxSteps := 2000000) only [go_sem, ↓reduceIte, L_parse_sign, R_parse_sign]
 rw [IntWalk.i32_in _ (by omega)]
 by_cases h : c.toNat < 128
 ·rw [encode_asc h]
  refine CallG.of (contains1_call _ c) ?_
  simp (maxSteps := 2000000) only [go_sem, ↓reduceIte]
  refine ⟨fun h1 => ?_, fun h1 => ?_⟩
  ·have h2 : signB c = true := by simpa [signB, signs10] using h1
   have h3 : ((c.toNat : Int) < 128) = True := eq_true (by omega)
   simp [h2, h3]
  ·have h2 : signB c = false := by simpa [signB, signs10] using h1
   rw [h2]
 ·have h2 : signB c = false := by
   simp only [signB, signs10, List.mem_cons, List.not_mem_nil, or_false, decide_eq_false_iff_not, ← UInt8.toNat_inj]
   have : (40 : UInt8).toNat = 40 := rfl
   rintro (e | e | e | e | e | e | e | e | e | e) <;> (rw [e] at h; exact h (by decide))
  have h3 : ((c.toNat : Int) < 128) = False := eq_false (by omega)
  rw [h2]
  refine CallG.of (contains_call _ _ (by simp)) ?_
  simp (maxSteps := 2000000) only [go_sem, ↓reduceIte, h3]
theorem clamp_eq (s : List UInt8) (n : Int) : (if (s.length : Int) < (if n < 0 then 0 else n) then (s.length : Int) else if n < 0 then 0 else n) = ((clampP s n : Nat) : Int) := by
 unfold clampP; split <;> split <;> omega
theorem clamp_le (s : List UInt8) (n : Int) : clampP s n ≤ s.length := by unfold clampP; omega
theorem clamp_in {s : List UInt8} {k : Nat} (h : k ≤ s.length) : clampP s k = k := by unfold clampP; omega
def L_parse_Skip : LCode :=
 .seq (.reg [Qx 4 (Ki 0)]) (.seq (.reg [Qc 5 1, Q 6 (.mm true (.t 5) (Ki 0)), Qc 7 0, Q 8 (.len true (.t 7)), Q 9 (.mm false (.t 6) (.t 8)), Qa 1 9]) (.seq (.block 0 (.loop (.seq 
 (.seq (.reg [Qc 10 1, Qc 11 0, Q 12 (.len true (.t 11)), Q 13 (.bin .lss (.t 10) (.t 12))]) (.cond (.t 13) .skip (.exit 0))) (.block 1 (.block 2 (.seq (.reg [Qc 16 0, Qc 17 1, Q 
 18 (.idxS (.t 16) (.t 17)), ⟨some 19, .call 72 [.t 18], none⟩, Qa 15 19]) (.cond (.t 15) (.reg [Qc 20 1, Q 21 (.bin .add (.t 20) (Ki 1)), Qa 1 21]) (.seq (.reg [Qc 23 0, Qc 24 1, 
 Q 25 (.idxS (.t 23) (.t 24)), Q 26 (.bin .eql (.t 25) (Kb 37)), Qa 22 26]) (.cond (.t 22) (.block 3 (.loop (.seq (.seq (.reg [Qc 27 1, Qc 28 0, Q 29 (.len true (.t 28)), Q 30 
 (.bin .lss (.t 27) (.t 29)), Qc 31 30, Qd 32 0 31 true, Qd 33 1 31 true, Qg 34 (.idxS (.t 32) (.t 33)) 31 true, Qg 35 (.bin .neq (.t 34) (Kb 10)) 31 true, Q 36 (.pick (.t 31) (.t 
 35) KF), Qc 37 36, Qd 38 0 37 true, Qd 39 1 37 true, Qg 40 (.idxS (.t 38) (.t 39)) 37 true, Qg 41 (.bin .neq (.t 40) (Kb 13)) 37 true, Q 42 (.pick (.t 37) (.t 41) KF)]) (.cond 
 (.t 42) .skip (.exit 3))) (.block 4 (.reg [Qc 43 1, Q 44 (.bin .add (.t 43) (Ki 1)), Qa 1 44]))))) (.seq (.reg [Qc 14 1, Qa 4 14]) .ret)))))))))) (.seq (.reg [Qc 45 1, Qa 4 45]) 
 .ret)))
def R_parse_Skip : List LRes := [.tmp 4]
theorem lift_parse_Skip : Lifts Tryd.prog 55 46 L_parse_Skip R_parse_Skip := ⟨_, _, Tryd.func55, rfl, by kernel_rfl, by kernel_rfl, rfl⟩
theorem skip_call (s : List UInt8) (n : Int) (hs : s.length ≤ 1000000000) : PCall Tryd.prog 55 [.str s, .int .i64 n] (fun r => r = .one (.int .i64 (skipP s (clampP s n)))) := by
 refine lift_parse_Skip.call rfl ?_
 have hk := clamp_le s n
 have he := clamp_eq s n
 generalize clampP s n = k at *
 generalize hR : skipP s k = R
 unfold skipP at hR
 simp (maxSteps := 2000000) only [go_sem, ↓reduceIte, L_parse_Skip, R_parse_Skip, he]
 refine run_loop (fun i : Nat => ⟨[(0, .d (.str s)), (1, .d (.int .i64 i))], [], []⟩)
  (fun i => i ≤ s.length ∧ skipF false (s.drop i) i = R) (fun i => s.length - i) k ?_ ?_ ?_
 ·refine weak_mk ?_ trivial
  simp (maxSteps := 2000000) only [go_sem, ↓reduceIte, Sub, Int.natCast_add, Int.natCast_mul, he]
 ·exact ⟨hk, hR⟩
 ·rintro i ⟨hi, hF⟩
  simp (maxSteps := 2000000) only [go_sem, ↓reduceIte]
  refine ⟨fun hlt => ?_, fun hge => ?_⟩
  ·obtain ⟨c, hc⟩ := get_some (l := s) (i := i) (by omega)
   have hc8 := u8_lt c
   rw [dropW hc, skipF, if_neg (by decide)] at hF
   simp (maxSteps := 2000000) only [go_sem, ↓reduceIte, getI_nat, hc]
   refine CallG.of (blank_call c.toNat) ?_
   simp (maxSteps := 2000000) only [go_sem, ↓reduceIte]
   refine ⟨fun h2 => ?_, fun h2 => ?_⟩
   ·rw [if_neg (by intro e; rw [e] at h2; exact absurd h2 (by decide)), if_pos h2] at hF
    simp (disch := omega) only [IntWalk.i64_in, IntWalk.u8_in]
    refine ⟨i + 1, ?_, ⟨by omega, hF⟩, by omega⟩
    refine weak_mk ?_ trivial
    simp (maxSteps := 2000000) only [go_sem, ↓reduceIte, Sub, Int.natCast_add, Int.natCast_mul]
   ·simp (maxSteps := 2000000) only [go_sem, ↓reduceIte, getI_nat, hc]
    refine ⟨fun h3 => ?_, fun h3 => ?_⟩
    ·rw [if_pos (by omega)] at hF
     have c37 : c.toNat = 37 := by omega
     refine run_loop (fun j : Nat => ⟨[(0, .d (.str s)), (1, .d (.int .i64 j))], [], []⟩)
      (fun j => i ≤ j ∧ j ≤ s.length ∧ skipF true (s.drop j) j = R) (fun j => s.length - j) i ?_ ?_ ?_
     ·refine weak_mk ?_ trivial
      simp (maxSteps := 2000000) only [go_sem, ↓reduceIte, Sub, Int.natCast_add, Int.natCast_mul]
     ·refine ⟨Nat.le_refl _, hi, ?_⟩
      rw [dropW hc, skipF, if_pos rfl, c37]
      exact hF
     ·rintro j ⟨hij, hj, hG⟩
      simp (maxSteps := 2000000) only [go_sem, ↓reduceIte]
      refine ⟨fun hlt2 => ?_, fun hge2 => ?_⟩
      ·obtain ⟨x, hx⟩ := get_some (l := s) (i := j) (by omega)
       have hx8 := u8_lt x
       rw [dropW hx, skipF, if_pos rfl] at hG
       simp (maxSteps := 2000000) only [go_sem, ↓reduceIte, getI_nat, hx]
       have end_ : (x.toNat = 10 ∨ x.toNat = 13) → i < j ∧ skipF false (s.drop j) j = R := fun h => by
        refine ⟨?_, ?_⟩
        ·rcases Nat.lt_or_ge i j with q | q
         ·exact q
         ·have : i = j := by omega
          subst this
          rw [hc] at hx; cases hx; omega
        ·rw [dropW hx, skipF, if_neg (by decide), if_neg (by omega), if_pos (by rcases h with h | h <;> rw [h] <;> rfl)]
         rcases h with h | h <;> (rw [h] at hG; exact hG)
       refine ⟨fun g1 => ⟨fun g2 => ?_, fun g2 => ?_⟩, fun g1 => ?_⟩
       ·simp (disch := omega) only [IntWalk.i64_in, IntWalk.u8_in]
        have q : (decide (x.toNat ≠ 10) && decide (x.toNat ≠ 13)) = true := by simp; omega
        rw [q] at hG
        refine ⟨j + 1, ?_, ⟨by omega, by omega, hG⟩, by omega⟩
        refine weak_mk ?_ trivial
        simp (maxSteps := 2000000) only [go_sem, ↓reduceIte, Sub, Int.natCast_add, Int.natCast_mul]
       ·obtain ⟨q1, q2⟩ := end_ (.inr (by omega))
        refine ⟨j, ?_, ⟨hj, q2⟩, by omega⟩
        refine weak_mk ?_ trivial
        simp (maxSteps := 2000000) only [go_sem, ↓reduceIte, Sub, Int.natCast_add, Int.natCast_mul]
       ·obtain ⟨q1, q2⟩ := end_ (.inl (by omega))
        refine ⟨j, ?_, ⟨hj, q2⟩, by omega⟩
        refine weak_mk ?_ trivial
        simp (maxSteps := 2000000) only [go_sem, ↓reduceIte, Sub, Int.natCast_add, Int.natCast_mul]
      ·refine ⟨j, ?_, ⟨hj, ?_⟩, by omega⟩
       ·refine weak_mk ?_ trivial
        simp (maxSteps := 2000000) only [go_sem, ↓reduceIte, Sub, Int.natCast_add, Int.natCast_mul]
       ·rw [List.drop_eq_nil_of_le (by omega), skipF] at hG
        rw [List.drop_eq_nil_of_le (by omega), skipF]; exact hG
    ·rw [if_neg (by omega), if_neg (by simp [h2])] at hF
     subst hF
     rfl
  ·rw [List.drop_eq_nil_of_le (by omega), skipF] at hF
   subst hF
   simp (maxSteps := 2000000) only [go_sem, ↓reduceIte]
/-! ### Words -/
theorem wordL_cons (c : UInt8) (r : List UInt8) : wordL (c :: r) = if blankB c.toNat = false ∧ signB c = false then c :: wordL r else [] := by
 unfold wordL
 rw [List.takeWhile_cons]
 by_cases h : blankB c.toNat = false ∧ signB c = false
 ·rw [if_pos h, if_pos (by simp [h.1, h.2])]
 ·rw [if_neg h, if_neg (by simpa using h)]
theorem word_next {s : List UInt8} {k i : Nat} {c : UInt8} (hk : k ≤ i) (hc : s[i]? = some c) (h1 : blankB c.toNat = false) (h2 : signB c = false) (h : wordL (s.drop k) = (s.drop k).take (i - k) ++ wordL (s.drop i)) :
  wordL (s.drop k) = (s.drop k).take (i + 1 - k) ++ wordL (s.drop (i + 1)) := by
 have hl : (s.drop k)[i - k]? = some c := by rw [List.getElem?_drop, show k + (i - k) = i by omega]; exact hc
 rw [h, dropW hc, wordL_cons, if_pos ⟨h1, h2⟩, show i + 1 - k = (i - k) + 1 by omega, List.take_add_one, hl]
 simp
def L_parse_Word : LCode :=
 .seq (.reg [Qx 4 (.k (.d (.str [])))]) (.seq (.reg [Qc 6 1, Q 7 (.mm true (.t 6) (Ki 0)), Qc 8 0, Q 9 (.len true (.t 8)), Q 10 (.mm false (.t 7) (.t 9)), Qa 1 10]) (.seq (.reg [Qc 
 11 1, Qa 5 11]) (.seq (.block 0 (.loop (.seq (.seq (.reg [Qc 12 5, Qc 13 0, Q 14 (.len true (.t 13)), Q 15 (.bin .lss (.t 12) (.t 14)), Qc 16 15, Qd 17 0 16 true, Qd 18 5 16 
 true, Qg 19 (.idxS (.t 17) (.t 18)) 16 true, ⟨some 20, .call 72 [.t 19], some (16, true)⟩, Qg 21 (.not (.t 20)) 16 true, Q 22 (.pick (.t 16) (.t 21) KF), Qc 23 22, Qd 24 0 23 
 true, Qd 25 5 23 true, Qg 26 (.idxS (.t 24) (.t 25)) 23 true, ⟨some 27, .call 73 [.t 26], some (23, true)⟩, Qg 28 (.not (.t 27)) 23 true, Q 29 (.pick (.t 23) (.t 28) KF)]) (.cond 
 (.t 29) .skip (.exit 0))) (.block 1 (.reg [Qc 30 5, Q 31 (.bin .add (.t 30) (Ki 1)), Qa 5 31]))))) (.seq (.reg [Qc 32 0, Qc 33 1, Qc 34 5, Q 35 (.subS (.t 32) (some (.t 33)) 
 (some (.t 34))), Qa 4 35]) .ret))))
def R_parse_Word : List LRes := [.tmp 4]
theorem lift_parse_Word : Lifts Tryd.prog 56 36 L_parse_Word R_parse_Word := ⟨_, _, Tryd.func56, rfl, by kernel_rfl, by kernel_rfl, rfl⟩
theorem word_call (s : List UInt8) (n : Int) (hs : s.length ≤ 1000000000) : PCall Tryd.prog 56 [.str s, .int .i64 n] (fun r => r = .one (.str (wordP s (clampP s n)))) := by
 refine lift_parse_Word.call rfl ?_
 have hk := clamp_le s n
 have he := clamp_eq s n
 generalize clampP s n = k at *
 unfold wordP
 simp (maxSteps := 2000000) only [go_sem, ↓reduceIte, L_parse_Word, R_parse_Word, he]
 refine run_loop (fun i : Nat => ⟨[(0, .d (.str s)), (1, .d (.int .i64 k)), (5, .d (.int .i64 i))], [], []⟩)
  (fun i => k ≤ i ∧ i ≤ s.length ∧ wordL (s.drop k) = (s.drop k).take (i - k) ++ wordL (s.drop i)) (fun i => s.length - i) k ?_ ?_ ?_
 ·refine weak_mk ?_ trivial
  simp (maxSteps := 2000000) only [go_sem, ↓reduceIte, Sub, Int.natCast_add, Int.natCast_mul, he]
 ·exact ⟨Nat.le_refl _, hk, by simp⟩
 ·rintro i ⟨hki, hi, hF⟩
  have fin : wordL (s.drop i) = [] → (s.drop k).take (i - k) = wordL (s.drop k) := fun h => by rw [hF, h, List.append_nil]
  have done : wordL (s.drop i) = [] → (0 ≤ (k : Int) ∧ (k : Int) ≤ i ∧ (i : Int) ≤ s.length) ∧ Res.one (D.str (cutI s k i)) = Res.one (D.str (wordL (s.drop k))) := fun h =>
   ⟨by omega, by rw [cutI_nat, List.drop_take, fin h]⟩
  simp (maxSteps := 2000000) only [go_sem, ↓reduceIte]
  refine ⟨fun hlt => ?_, fun hge => ?_⟩
  ·obtain ⟨c, hc⟩ := get_some (l := s) (i := i) (by omega)
   simp (maxSteps := 2000000) only [go_sem, ↓reduceIte, getI_nat, hc]
   refine CallG.of (blank_call c.toNat) ?_
   simp (maxSteps := 2000000) only [go_sem, ↓reduceIte]
   refine ⟨fun h1 => ?_, fun h1 => ?_⟩
   ·simp (maxSteps := 2000000) only [go_sem, ↓reduceIte, getI_nat, hc]
    refine CallG.of (sign_call c) ?_
    simp (maxSteps := 2000000) only [go_sem, ↓reduceIte]
    refine ⟨fun h2 => ?_, fun h2 => ?_⟩
    ·simp (disch := omega) only [IntWalk.i64_in, IntWalk.u8_in]
     refine ⟨i + 1, ?_, ⟨by omega, by omega, word_next hki hc h1 h2 hF⟩, by omega⟩
     refine weak_mk ?_ trivial
     simp (maxSteps := 2000000) only [go_sem, ↓reduceIte, Sub, Int.natCast_add, Int.natCast_mul]
    ·exact done (by rw [dropW hc, wordL_cons, if_neg (by simp [h2])])
   ·exact done (by rw [dropW hc, wordL_cons, if_neg (by simp [h1])])
  ·exact done (by rw [List.drop_eq_nil_of_le (by omega)]; rfl)
abbrev Row := Option (List D × Nat)
def Row.lv : Row → AV
 | none => .ns
 | some (fs, c) => .rs (.x 1000) fs.length c
def Row.ob : Row → Option AObj
 | none => none
 | some (fs, c) => some (.cells (rowC 3 fs c))
theorem Row.ok (r : Row) : rowM r.ob = true := by
 cases r with
 | none => rfl
 | some x => exact rowO_rowC 3 x.1 x.2
attribute [go_sem] Row.lv Row.ob rowO_rowC List.getD_nil
def crd (s : List UInt8) (k : Int) (b : Bool) (r : Row) (n : Nat) : AObj := .cells [.d (.str s), .d (.int .i64 k), .d (.bool b), r.lv, .d (errD n)]
theorem crd_0 (s : List UInt8) (k : Int) (b : Bool) (r : Row) : crd s k b r 0 = .cells [.d (.str s), .d (.int .i64 k), .d (.bool b), r.lv, .d .nil] := rfl
theorem crd_ne (s : List UInt8) (k : Int) (b : Bool) (r : Row) {n : Nat} (h : n ≠ 0) : crd s k b r n = .cells [.d (.str s), .d (.int .i64 k), .d (.bool b), r.lv, .d (.iface 65 (.int .i64 n))] := by rw [crd, errD_ne h]
def L___cmap_reader__fail : LCode :=
 .seq (.reg [Qc 4 0, Q 5 (.nck (.t 4)), Q 6 (.fa 4 (.t 5)), Q 7 (.ld false 1 (.t 6)), Q 8 (.eqN 0 false (.t 7))]) (.cond (.t 8) (.reg [Qc 9 0, Qc 10 1, Q 11 (.nck (.t 9)), Q 12 (.fa 
 4 (.t 11)), ⟨none, .st 1 (.t 12) (.t 10), none⟩]) .skip)
def R___cmap_reader__fail : List LRes := []
theorem lift___cmap_reader__fail : Lifts Tryd.prog 41 13 L___cmap_reader__fail R___cmap_reader__fail := ⟨_, _, Tryd.func41, rfl, by kernel_rfl, by kernel_rfl, rfl⟩
theorem cfail_0 (s : List UInt8) (k : Int) (b : Bool) (r : Row) (e : Nat) : MVE Tryd.prog 41 [.ptr (.x 0) 0, .d (errD e)] [crd s k b r 0] r.ob (.tuple []) [crd s k b r e] r.ob := by
 rw [crd_0]
 by_cases h : e = 0
 ·subst h
  rw [crd_0, show errD 0 = .nil from rfl]
  rcases r with _ | ⟨fs, c⟩
  ·refine lift___cmap_reader__fail.mv (by kernel_rfl) rfl rfl ?_
   simp (maxSteps := 2000000) only [go_sem, ↓reduceIte, L___cmap_reader__fail, R___cmap_reader__fail]
  ·refine lift___cmap_reader__fail.mv (by kernel_rfl) rfl rfl ?_
   simp (maxSteps := 2000000) only [go_sem, ↓reduceIte, L___cmap_reader__fail, R___cmap_reader__fail]
 ·rw [crd_ne s k b r h, errD_ne h]
  rcases r with _ | ⟨fs, c⟩
  ·refine lift___cmap_reader__fail.mv (by kernel_rfl) rfl rfl ?_
   simp (maxSteps := 2000000) only [go_sem, ↓reduceIte, L___cmap_reader__fail, R___cmap_reader__fail]
  ·refine lift___cmap_reader__fail.mv (by kernel_rfl) rfl rfl ?_
   simp (maxSteps := 2000000) only [go_sem, ↓reduceIte, L___cmap_reader__fail, R___cmap_reader__fail]
theorem cfail_ne (s : List UInt8) (k : Int) (b : Bool) (r : Row) {n : Nat} (h : n ≠ 0) (E : D) : MVE Tryd.prog 41 [.ptr (.x 0) 0, .d E] [crd s k b r n] r.ob (.tuple []) [crd s k b r n] r.ob := by
 rw [crd_ne s k b r h]
 rcases r with _ | ⟨fs, c⟩
 ·refine lift___cmap_reader__fail.mv (by kernel_rfl) rfl rfl ?_
  simp (maxSteps := 2000000) only [go_sem, ↓reduceIte, L___cmap_reader__fail, R___cmap_reader__fail]
 ·refine lift___cmap_reader__fail.mv (by kernel_rfl) rfl rfl ?_
  simp (maxSteps := 2000000) only [go_sem, ↓reduceIte, L___cmap_reader__fail, R___cmap_reader__fail]
def orE (n e : Nat) : Nat := if n = 0 then e else n
theorem cfail (s : List UInt8) (k : Int) (b : Bool) (r : Row) (n e : Nat) : MVE Tryd.prog 41 [.ptr (.x 0) 0, .d (errD e)] [crd s k b r n] r.ob (.tuple []) [crd s k b r (orE n e)] r.ob := by
 unfold orE
 by_cases h : n = 0
 ·subst h; rw [if_pos rfl]; exact cfail_0 s k b r e
 ·rw [if_neg h]; exact cfail_ne s k b r h _
def tokAt (s : List UInt8) (a : Nat) : List UInt8 × Nat × Nat :=
 if wordP s a = [] then
  match s[a]? with
  | none => ([], a, 0)
  | some c =>
   if c.toNat = 60 then (if Lib.indexByte (s.drop a) 62 < 0 then ([], a, 5) else ((s.drop a).take (Lib.indexByte (s.drop a) 62 + 1).toNat, a + (Lib.indexByte (s.drop a) 62 + 1).toNat, 0))
   else ([c], a + 1, 0)
 else (wordP s a, a + (wordP s a).length, 0)
def nextT (s : List UInt8) (k : Nat) : List UInt8 × Nat × Nat := tokAt s (skipP s k)
theorem indexByte_lt' (l : List UInt8) (c : UInt8) : Lib.indexByte l c < l.length := by
 induction l with
 | nil => simp [Lib.indexByte]
 | cons b l ih =>
  simp only [Lib.indexByte, List.length_cons]
  split
  ·omega
  ·split <;> omega
theorem tokAt_word {s : List UInt8} {q : Nat} (h : ¬ wordP s q = []) : tokAt s q = (wordP s q, q + (wordP s q).length, 0) := by unfold tokAt; rw [if_neg h]
theorem tokAt_end {s : List UInt8} {q : Nat} (h : wordP s q = []) (h1 : s[q]? = none) : tokAt s q = ([], q, 0) := by unfold tokAt; rw [if_pos h, h1]
theorem tokAt_open {s : List UInt8} {q : Nat} {c : UInt8} (h : wordP s q = []) (h1 : s[q]? = some c) (h2 : c.toNat = 60) (h3 : Lib.indexByte (s.drop q) 62 < 0) : tokAt s q = ([], q, 5) := by unfold tokAt; rw [if_pos h, h1]; simp only; rw [if_pos h2, if_pos h3]
theorem tokAt_str {s : List UInt8} {q : Nat} {c : UInt8} (h : wordP s q = []) (h1 : s[q]? = some c) (h2 : c.toNat = 60) (h3 : ¬ Lib.indexByte (s.drop q) 62 < 0) : tokAt s q = ((s.drop q).take (Lib.indexByte (s.drop q) 62 + 1).toNat, q + (Lib.indexByte (s.drop q) 62 + 1).toNat, 0) := by unfold tokAt; rw [if_pos h, h1]; simp only; rw [if_pos h2, if_neg h3]
theorem tokAt_sign {s : List UInt8} {q : Nat} {c : UInt8} (h : wordP s q = []) (h1 : s[q]? = some c) (h2 : ¬ c.toNat = 60) : tokAt s q = ([c], q + 1, 0) := by unfold tokAt; rw [if_pos h, h1]; simp only; rw [if_neg h2]
theorem orE_0 (n : Nat) : orE n 0 = n := by unfold orE; split <;> simp_all
theorem take_one {s : List UInt8} {q : Nat} {c : UInt8} (h : s[q]? = some c) : (s.take (q + 1)).drop q = [c] := by
 rw [List.drop_take, dropW h]; simp
def L___cmap_reader__next : LCode :=
 .seq (.reg [Qx 2 (.k (.d (.str [])))]) (.seq (.dreg [Qc 5 0, Qc 6 0, Q 7 (.nck (.t 6)), Q 8 (.fa 0 (.t 7)), Q 9 (.ld false 1 (.t 8)), Qc 10 0, Q 11 (.nck (.t 10)), Q 12 (.fa 1 (.t 
 11)), Q 13 (.ld false 1 (.t 12)), ⟨some 14, .call 55 [.t 9, .t 13], none⟩, Q 15 (.nck (.t 5)), Q 16 (.fa 1 (.t 15)), ⟨none, .st 1 (.t 16) (.t 14), none⟩]) (.seq (.dreg [Qc 17 0, 
 Q 18 (.nck (.t 17)), Q 19 (.fa 0 (.t 18)), Q 20 (.ld false 1 (.t 19)), Qc 21 0, Q 22 (.nck (.t 21)), Q 23 (.fa 1 (.t 22)), Q 24 (.ld false 1 (.t 23)), ⟨some 25, .call 56 [.t 20, 
 .t 24], none⟩, Qa 3 25]) (.seq (.block 0 (.seq (.reg [Qc 27 3, Q 28 (.bin .neq (.t 27) (.k (.d (.str [])))), Qa 26 28]) (.cond (.t 26) .skip (.seq (.dreg [Qc 30 0, Q 31 (.nck (.t 
 30)), Q 32 (.fa 1 (.t 31)), Q 33 (.ld false 1 (.t 32)), Qc 34 0, Q 35 (.nck (.t 34)), Q 36 (.fa 0 (.t 35)), Q 37 (.ld false 1 (.t 36)), Q 38 (.len true (.t 37)), Q 39 (.bin .lss 
 (.t 33) (.t 38)), Qc 40 39, Qd 41 0 40 true, Qg 42 (.nck (.t 41)) 40 true, Qg 43 (.fa 0 (.t 42)) 40 true, Qg 44 (.ld false 1 (.t 43)) 40 true, Qd 45 0 40 true, Qg 46 (.nck (.t 
 45)) 40 true, Qg 47 (.fa 1 (.t 46)) 40 true, Qg 48 (.ld false 1 (.t 47)) 40 true, Qg 49 (.idxS (.t 44) (.t 48)) 40 true, Qg 50 (.bin .eql (.t 49) (Kb 60)) 40 true, Q 51 (.pick 
 (.t 40) (.t 50) KF), Qa 29 51]) (.cond (.t 29) (.seq (.dreg [Qc 52 0, Q 53 (.nck (.t 52)), Q 54 (.fa 0 (.t 53)), Q 55 (.ld false 1 (.t 54)), Qc 56 0, Q 57 (.nck (.t 56)), Q 58 
 (.fa 1 (.t 57)), Q 59 (.ld false 1 (.t 58)), Q 60 (.subS (.t 55) (some (.t 59)) none), ⟨some 61, .call 57 [.t 60, .k (.d (.int .u8 62))], none⟩, Qa 4 61]) (.seq (.seq (.reg [Qc 
 62 4, Q 63 (.bin .lss (.t 62) (Ki 0))]) (.cond (.t 63) (.seq (.reg [Qc 64 0, Q 65 (.mkI 65 (Ki 5)), ⟨some 66, .prim .call [.k (.fn (.func 41) [] []), .t 64, .t 65] [], none⟩]) 
 (.seq (.reg [Qx 2 (.k (.d (.str [])))]) .ret)) .skip)) (.dreg [Qc 67 0, Q 68 (.nck (.t 67)), Q 69 (.fa 0 (.t 68)), Q 70 (.ld false 1 (.t 69)), Qc 71 0, Q 72 (.nck (.t 71)), Q 73 
 (.fa 1 (.t 72)), Q 74 (.ld false 1 (.t 73)), Qc 75 0, Q 76 (.nck (.t 75)), Q 77 (.fa 1 (.t 76)), Q 78 (.ld false 1 (.t 77)), Qc 79 4, Q 80 (.bin .add (.t 78) (.t 79)), Q 81 (.bin 
 .add (.t 80) (Ki 1)), Q 82 (.subS (.t 70) (some (.t 74)) (some (.t 81))), Qa 3 82]))) (.seq (.dreg [Qc 84 0, Q 85 (.nck (.t 84)), Q 86 (.fa 1 (.t 85)), Q 87 (.ld false 1 (.t 
 86)), Qc 88 0, Q 89 (.nck (.t 88)), Q 90 (.fa 0 (.t 89)), Q 91 (.ld false 1 (.t 90)), Q 92 (.len true (.t 91)), Q 93 (.bin .lss (.t 87) (.t 92)), Qa 83 93]) (.cond (.t 83) (.dreg 
 [Qc 94 0, Q 95 (.nck (.t 94)), Q 96 (.fa 0 (.t 95)), Q 97 (.ld false 1 (.t 96)), Qc 98 0, Q 99 (.nck (.t 98)), Q 100 (.fa 1 (.t 99)), Q 101 (.ld false 1 (.t 100)), Qc 102 0, Q 
 103 (.nck (.t 102)), Q 104 (.fa 1 (.t 103)), Q 105 (.ld false 1 (.t 104)), Q 106 (.bin .add (.t 105) (Ki 1)), Q 107 (.subS (.t 97) (some (.t 101)) (some (.t 106))), Qa 3 107]) 
 .skip))))))) (.seq (.reg [Qc 108 0, Q 109 (.nck (.t 108)), Q 110 (.fa 1 (.t 109)), Q 111 (.ld false 1 (.t 110)), Qc 112 3, Q 113 (.len true (.t 112)), Q 114 (.bin .add (.t 111) 
 (.t 113)), Q 115 (.nck (.t 108)), Q 116 (.fa 1 (.t 115)), ⟨none, .st 1 (.t 116) (.t 114), none⟩]) (.seq (.reg [Qc 117 3, Qa 2 117]) .ret)))))
def R___cmap_reader__next : List LRes := [.tmp 2]
theorem lift___cmap_reader__next : Lifts Tryd.prog 32 118 L___cmap_reader__next R___cmap_reader__next := ⟨_, _, Tryd.func32, rfl, by kernel_rfl, by kernel_rfl, rfl⟩
theorem cnext (s : List UInt8) (k : Nat) (b : Bool) (r : Row) (n : Nat) (hs : s.length ≤ 60000) (hk : k ≤ s.length) : MVE Tryd.prog 32 [.ptr (.x 0) 0] [crd s k b r n] r.ob (.d (.str (nextT s k).1)) [crd s (nextT s k).2.1 b r (orE n (nextT s k).2.2)] r.ob := by
 have hw := skip_call s ((k : Nat) : Int) (by omega)
 rw [clamp_in hk] at hw
 have hsk := skipP_le hk
 unfold nextT
 generalize skipP s k = q at *
 have hwd := word_call s ((q : Nat) : Int) (by omega)
 rw [clamp_in (by omega : q ≤ s.length)] at hwd
 have hwl := wordP_len s q
 have hf := fun k' => cfail s k' b r n 5
 have hix := indexByte_call (s.drop q) 62
 rcases r with _ | ⟨fs, c⟩
 ·refine lift___cmap_reader__next.mv (by kernel_rfl) rfl rfl ?_
  simp (maxSteps := 2000000) only [go_sem, ↓reduceIte, L___cmap_reader__next, R___cmap_reader__next, crd]
  refine CallD.of hw ?_
  simp (maxSteps := 2000000) only [go_sem, ↓reduceIte]
  refine CallD.of hwd ?_
  by_cases hw0 : wordP s q = []
  ·rw [hw0]
   simp (maxSteps := 2000000) only [go_sem, ↓reduceIte]
   refine ⟨fun h1 => ?_, fun h1 => ?_⟩
   ·obtain ⟨ch, hch⟩ := get_some (l := s) (i := q) (by omega)
    simp (maxSteps := 2000000) only [go_sem, ↓reduceIte, getI_nat, hch]
    refine ⟨fun h2 => ?_, fun h2 => ?_⟩
    ·rw [show (s.length : Int) = ((s.length : Nat) : Int) from rfl, cutI_nat, List.take_length]
     refine ⟨by omega, ?_⟩
     refine CallD.of hix ?_
     simp (maxSteps := 2000000) only [go_sem, ↓reduceIte]
     refine ⟨fun h3 => ?_, fun h3 => ?_⟩
     ·refine PrimG.mvE ([.x 0]) rfl (hf _) rfl rfl (by repeat' (first | exact trivial | exact rfl | constructor)) rfl rfl rfl rfl (Row.ok none) ⟨⟨rfl, rfl⟩, rfl⟩ ?_
      rw [tokAt_open hw0 hch (by omega) h3]
      simp (maxSteps := 2000000) only [go_sem, ↓reduceIte, crd]
     ·rw [tokAt_str hw0 hch (by omega) h3]
      have e1 : (q : Int) + Lib.indexByte (s.drop q) 62 + 1 = ((q + (Lib.indexByte (s.drop q) 62 + 1).toNat : Nat) : Int) := by omega
      have hil := indexByte_lt' (s.drop q) 62
      rw [List.length_drop] at hil
      simp (disch := omega) only [IntWalk.i64_in, IntWalk.u8_in]
      rw [e1, cutI_nat, List.drop_take, show q + (Lib.indexByte (s.drop q) 62 + 1).toNat - q = (Lib.indexByte (s.drop q) 62 + 1).toNat by omega, List.length_take, List.length_drop, orE_0]
      rw [show min (Lib.indexByte (s.drop q) 62 + 1).toNat (s.length - q) = (Lib.indexByte (s.drop q) 62 + 1).toNat by omega]
      simp (disch := omega) only [IntWalk.i64_in, IntWalk.u8_in]
      refine ⟨by omega, trivial, ?_⟩
      rw [Int.natCast_add]
    ·rw [tokAt_sign hw0 hch (by omega), orE_0]
     simp (disch := omega) only [IntWalk.i64_in, IntWalk.u8_in]
     refine ⟨fun _ => ?_, fun h3 => absurd h1 h3⟩
     rw [show (q : Int) + 1 = ((q + 1 : Nat) : Int) from rfl, cutI_nat, take_one hch, show (([ch] : List UInt8).length : Int) = 1 from rfl]
     simp (disch := omega) only [IntWalk.i64_in, IntWalk.u8_in]
     exact ⟨by omega, trivial, rfl⟩
   ·rw [tokAt_end hw0 (List.getElem?_eq_none (by omega)), orE_0]
    simp (disch := omega) only [IntWalk.i64_in, IntWalk.u8_in]
    refine ⟨fun h3 => absurd h3 h1, fun _ => ?_⟩
    rw [Int.add_zero]
    exact ⟨trivial, rfl⟩
  ·simp (maxSteps := 2000000) only [go_sem, ↓reduceIte, hw0]
   rw [tokAt_word hw0, orE_0]
   simp (disch := omega) only [IntWalk.i64_in, IntWalk.u8_in]
   exact ⟨trivial, rfl⟩
 ·refine lift___cmap_reader__next.mv (by kernel_rfl) rfl rfl ?_
  simp (maxSteps := 2000000) only [go_sem, ↓reduceIte, L___cmap_reader__next, R___cmap_reader__next, crd]
  refine CallD.of hw ?_
  simp (maxSteps := 2000000) only [go_sem, ↓reduceIte]
  refine CallD.of hwd ?_
  by_cases hw0 : wordP s q = []
  ·rw [hw0]
   simp (maxSteps := 2000000) only [go_sem, ↓reduceIte]
   refine ⟨fun h1 => ?_, fun h1 => ?_⟩
   ·obtain ⟨ch, hch⟩ := get_some (l := s) (i := q) (by omega)
    simp (maxSteps := 2000000) only [go_sem, ↓reduceIte, getI_nat, hch]
    refine ⟨fun h2 => ?_, fun h2 => ?_⟩
    ·rw [show (s.length : Int) = ((s.length : Nat) : Int) from rfl, cutI_nat, List.take_length]
     refine ⟨by omega, ?_⟩
     refine CallD.of hix ?_
     simp (maxSteps := 2000000) only [go_sem, ↓reduceIte]
     refine ⟨fun h3 => ?_, fun h3 => ?_⟩
     ·refine PrimG.mvE ([.x 0]) rfl (hf _) rfl rfl (by repeat' (first | exact trivial | exact rfl | constructor)) rfl rfl rfl rfl (Row.ok (some (fs, c))) ⟨⟨rfl, rfl⟩, rfl⟩ ?_
      rw [tokAt_open hw0 hch (by omega) h3]
      simp (maxSteps := 2000000) only [go_sem, ↓reduceIte, crd]
     ·rw [tokAt_str hw0 hch (by omega) h3]
      have e1 : (q : Int) + Lib.indexByte (s.drop q) 62 + 1 = ((q + (Lib.indexByte (s.drop q) 62 + 1).toNat : Nat) : Int) := by omega
      have hil := indexByte_lt' (s.drop q) 62
      rw [List.length_drop] at hil
      simp (disch := omega) only [IntWalk.i64_in, IntWalk.u8_in]
      rw [e1, cutI_nat, List.drop_take, show q + (Lib.indexByte (s.drop q) 62 + 1).toNat - q = (Lib.indexByte (s.drop q) 62 + 1).toNat by omega, List.length_take, List.length_drop, orE_0]
      rw [show min (Lib.indexByte (s.drop q) 62 + 1).toNat (s.length - q) = (Lib.indexByte (s.drop q) 62 + 1).toNat by omega]
      simp (disch := omega) only [IntWalk.i64_in, IntWalk.u8_in]
      refine ⟨by omega, trivial, ?_⟩
      rw [Int.natCast_add]
    ·rw [tokAt_sign hw0 hch (by omega), orE_0]
     simp (disch := omega) only [IntWalk.i64_in, IntWalk.u8_in]
     refine ⟨fun _ => ?_, fun h3 => absurd h1 h3⟩
     rw [show (q : Int) + 1 = ((q + 1 : Nat) : Int) from rfl, cutI_nat, take_one hch, show (([ch] : List UInt8).length : Int) = 1 from rfl]
     simp (disch := omega) only [IntWalk.i64_in, IntWalk.u8_in]
     exact ⟨by omega, trivial, rfl⟩
   ·rw [tokAt_end hw0 (List.getElem?_eq_none (by omega)), orE_0]
    simp (disch := omega) only [IntWalk.i64_in, IntWalk.u8_in]
    refine ⟨fun h3 => absurd h3 h1, fun _ => ?_⟩
    rw [Int.add_zero]
    exact ⟨trivial, rfl⟩
  ·simp (maxSteps := 2000000) only [go_sem, ↓reduceIte, hw0]
   rw [tokAt_word hw0, orE_0]
   simp (disch := omega) only [IntWalk.i64_in, IntWalk.u8_in]
   exact ⟨trivial, rfl⟩
def tokensF (s : List UInt8) : Nat → Nat → List (List UInt8) × Bool
 | 0, _ => ([], true)
 | f + 1, q => if q < s.length then (if (tokAt s q).1 = [] then ([], false) else ((tokAt s q).1 :: (tokensF s f (skipP s (tokAt s q).2.1)).1, (tokensF s f (skipP s (tokAt s q).2.1)).2)) else ([], true)
theorem tokAt_len {s : List UInt8} {q : Nat} (h : q < s.length) : (tokAt s q).2.1 = q + (tokAt s q).1.length ∧ (tokAt s q).2.1 ≤ s.length ∧ (tokAt s q).1.length ≤ s.length := by
 have hw := wordP_len s q
 have hx := indexByte_lt' (s.drop q) 62
 rw [List.length_drop] at hx
 unfold tokAt
 split
 ·obtain ⟨c, hc⟩ := get_some h
  rw [hc]
  simp only
  split
  ·split
   ·simp; omega
   ·simp only [List.length_take, List.length_drop]; omega
  ·simp; omega
 ·simp only
  refine ⟨trivial, ?_, ?_⟩ <;> omega
theorem tokAt_err {s : List UInt8} {q : Nat} (h : (tokAt s q).1 ≠ []) : (tokAt s q).2.2 = 0 := by
 unfold tokAt at *
 split at h
 ·rename_i hw
  rw [if_pos hw]
  cases hc : s[q]? with
  | none => rfl
  | some c =>
   rw [hc] at h
   simp only at h ⊢
   split at h
   ·rename_i h6
    rw [if_pos h6]
    split at h
    ·simp at h
    ·rename_i hx
     rw [if_neg hx]
   ·rename_i h6
    rw [if_neg h6]
 ·rename_i hw
  rw [if_neg hw]
theorem idx_yes : ∀ {l : List UInt8} {c : UInt8} {k : Nat}, l[k]? = some c → (∀ j, j < k → l[j]? ≠ some c) → Lib.indexByte l c = k
 | [], _, _, h, _ => by simp at h
 | a :: l, c, 0, h, _ => by simp at h; subst h; simp [Lib.indexByte]
 | a :: l, c, k + 1, h, hn => by
  have h0 : a ≠ c := fun e => hn 0 (by omega) (by simp [e])
  have ih := idx_yes (l := l) (c := c) (k := k) (by simpa using h) (fun j hj e => hn (j + 1) (by omega) (by simpa using e))
  simp only [Lib.indexByte]
  rw [if_neg (by simpa using h0), ih, if_neg (by simp; try omega)]
  omega
theorem tokensF_fuel (s : List UInt8) : ∀ (f f' q : Nat), q ≤ s.length → s.length + 1 - q ≤ f → s.length + 1 - q ≤ f' → tokensF s f q = tokensF s f' q
 | 0, _, _, h, h1, _ => by omega
 | _, 0, _, h, _, h2 => by omega
 | f + 1, f' + 1, q, h, h1, h2 => by
  simp only [tokensF]
  split
  ·rename_i hq
   split
   ·rfl
   ·rename_i hw
    obtain ⟨g1, g2, _⟩ := tokAt_len hq
    have g3 := skipP_le g2
    have : (tokAt s q).1.length ≠ 0 := by simpa using hw
    rw [tokensF_fuel s f f' _ g3.2 (by omega) (by omega)]
  ·rfl
def hexP : List UInt8 → Option (List UInt8)
 | a :: b :: c :: r => if hexI a.toNat < 0 ∨ hexI b.toNat < 0 then none else (hexP (c :: r)).map (byteI (16 * hexI a.toNat + hexI b.toNat) :: ·)
 | _ => some []
def cB (w : List UInt8) : Option (List UInt8) := if w.length < 2 ∨ w[0]? ≠ some 60 ∨ w.length % 2 = 1 then none else hexP (w.drop 1)
def cBe (w : List UInt8) : Nat := if cB w = none then 4 else 0
def cBl (w : List UInt8) : List UInt8 := (cB w).getD []
theorem cB_not {w : List UInt8} (h : w.length < 2 ∨ w[0]? ≠ some 60 ∨ w.length % 2 = 1) : cB w = none := by unfold cB; rw [if_pos h]
theorem cB_yes {w : List UInt8} (h : ¬ (w.length < 2 ∨ w[0]? ≠ some 60 ∨ w.length % 2 = 1)) : cB w = hexP (w.drop 1) := by unfold cB; rw [if_neg h]
theorem hexP_short {l : List UInt8} (h : l.length < 3) : hexP l = some [] := by
 match l, h with
 | [], _ => rfl
 | [_], _ => rfl
 | [_, _], _ => rfl
theorem hexP_len : ∀ (l b : List UInt8), hexP l = some b → b.length ≤ l.length
 | [], b, h => by simp [hexP] at h; subst h; simp
 | [_], b, h => by simp [hexP] at h; subst h; simp
 | [_, _], b, h => by simp [hexP] at h; subst h; simp
 | x :: y :: z :: r, b, h => by
  simp only [hexP] at h
  split at h
  ·cases h
  ·cases hh : hexP (z :: r) with
   | none => rw [hh] at h; cases h
   | some b' =>
    rw [hh] at h
    simp only [Option.map_some, Option.some.injEq] at h
    subst h
    have := hexP_len _ _ hh
    simp only [List.length_cons] at this ⊢; omega
theorem cBl_len (w : List UInt8) : (cBl w).length ≤ w.length := by
 unfold cBl cB
 split
 ·simp
 ·cases h : hexP (w.drop 1) with
  | none => simp
  | some b => have := hexP_len _ _ h; rw [List.length_drop] at this; simp; omega
def L___cmap_reader__bytes : LCode :=
 .seq (.reg [⟨some 4, .nils 5 1, none⟩]) (.seq (.seq (.reg [Qc 9 1, Q 10 (.len true (.t 9)), Q 11 (.bin .lss (.t 10) (Ki 2)), Qc 12 11, Qd 13 1 12 false, Qg 14 (.idxS (.t 13) (Ki 
 0)) 12 false, Qg 15 (.bin .neq (.t 14) (Kb 60)) 12 false, Q 16 (.pick (.t 12) KT (.t 15)), Qc 17 16, Qd 18 1 17 false, Qg 19 (.len true (.t 18)) 17 false, Qg 20 (.bin .rem (.t 
 19) (Ki 2)) 17 false, Qg 21 (.bin .gtr (.t 20) (Ki 0)) 17 false, Q 22 (.pick (.t 17) KT (.t 21))]) (.cond (.t 22) (.seq (.reg [Qc 23 0, Q 24 (.mkI 65 (Ki 4)), ⟨some 25, .prim 
 .call [.k (.fn (.func 41) [] []), .t 23, .t 24] [], none⟩]) (.seq (.reg [⟨some 4, .nils 5 1, none⟩]) .ret)) .skip)) (.seq (.reg [⟨some 5, .nils 5 1, none⟩]) (.seq (.seq (.reg [Qx 
 6 (Ki 1)]) (.block 0 (.loop (.seq (.seq (.reg [Qc 26 6, Q 27 (.bin .add (.t 26) (Ki 1)), Qc 28 1, Q 29 (.len true (.t 28)), Q 30 (.bin .sub (.t 29) (Ki 1)), Q 31 (.bin .lss (.t 
 27) (.t 30))]) (.cond (.t 31) .skip (.exit 0))) (.seq (.block 1 (.seq (.dreg [Qc 34 1, Qc 35 6, Q 36 (.idxS (.t 34) (.t 35)), ⟨some 37, .call 75 [.t 36], none⟩, Qc 38 1, Qc 39 6, 
 Q 40 (.bin .add (.t 39) (Ki 1)), Q 41 (.idxS (.t 38) (.t 40)), ⟨some 42, .call 75 [.t 41], none⟩, Qa 7 37, Qa 8 42]) (.seq (.seq (.reg [Qc 43 7, Q 44 (.bin .lss (.t 43) (Ki 0)), 
 Qc 45 44, Qd 46 8 45 false, Qg 47 (.bin .lss (.t 46) (Ki 0)) 45 false, Q 48 (.pick (.t 45) KT (.t 47))]) (.cond (.t 48) (.seq (.reg [Qc 49 0, Q 50 (.mkI 65 (Ki 4)), ⟨some 51, 
 .prim .call [.k (.fn (.func 41) [] []), .t 49, .t 50] [], none⟩]) (.seq (.reg [⟨some 4, .nils 5 1, none⟩]) .ret)) .skip)) (.reg [Qc 52 5, Qc 53 7, Q 54 (.bin .mul (Ki 16) (.t 
 53)), Qc 55 8, Q 56 (.bin .add (.t 54) (.t 55)), Q 57 (.cvI .u8 (.t 56)), ⟨some 58, .bsl 5 1 [.t 57], none⟩, ⟨some 59, .app 5 1 1 false (.t 52) (.t 58), none⟩, Qa 5 59])))) (.reg 
 [Qc 32 6, Q 33 (.bin .add (.t 32) (Ki 2)), Qa 6 33])))))) (.seq (.reg [Qc 60 5, Qa 4 60]) .ret))))
def R___cmap_reader__bytes : List LRes := [.tmp 4]
theorem lift___cmap_reader__bytes : Lifts Tryd.prog 58 61 L___cmap_reader__bytes R___cmap_reader__bytes := ⟨_, _, Tryd.func58, rfl, by kernel_rfl, by kernel_rfl, rfl⟩
theorem cbytes (s : List UInt8) (k : Int) (b : Bool) (r : Row) (n : Nat) (w : List UInt8) (hs : w.length ≤ 60000) : MVE Tryd.prog 58 [.ptr (.x 0) 0, .d (.str w)] [crd s k b r n] r.ob (.d (.list (bytesD (cBl w)))) [crd s k b r (orE n (cBe w))] r.ob := by
 have hf := cfail s k b r n 4
 rcases r with _ | ⟨fs, c⟩
 ·refine lift___cmap_reader__bytes.mv (by kernel_rfl) rfl rfl ?_
  simp (maxSteps := 2000000) only [go_sem, ↓reduceIte, L___cmap_reader__bytes, R___cmap_reader__bytes, crd]
  refine ⟨fun h1 => ?_, fun h1 => ?_⟩
  ·obtain ⟨ch, hch⟩ := get_some (l := w) (i := 0) (by omega)
   have hg : getI w 0 = some ch := by rw [show (0 : Int) = ((0 : Nat) : Int) from rfl, getI_nat]; exact hch
   have hm : (w.length : Int).tmod 2 = ((w.length % 2 : Nat) : Int) := rfl
   simp (maxSteps := 2000000) only [go_sem, ↓reduceIte, hg, hm]
   refine ⟨fun h2 => ⟨fun h3 => ?_, fun h3 => ?_⟩, fun h2 => ?_⟩
   ·refine PrimG.mvE ([.x 0]) rfl (hf) rfl rfl (by repeat' (first | exact trivial | exact rfl | constructor)) rfl rfl rfl rfl (Row.ok none) ⟨⟨rfl, rfl⟩, rfl⟩ ?_
    have e1 : cB w = none := cB_not (.inr (.inr (by omega)))
    simp (maxSteps := 2000000) only [go_sem, ↓reduceIte, crd, cBl, cBe, e1, bytesD]
   ·have e60 : w[0]? = some 60 := by rw [hch]; congr 1; rw [← UInt8.toNat_inj]; show ch.toNat = 60; omega
    have e1 : cB w = hexP (w.drop 1) := cB_yes (by rw [e60]; simp; omega)
    generalize hR : hexP (w.drop 1) = R at e1
    refine run_loop (fun y : Nat × List UInt8 => ⟨[(0, .ptr (.x 0) 0), (1, .d (.str w)), (5, .own (.t 5) 5 1 (bytesD y.2)), (6, .d (.int .i64 y.1))], [], [(0, .cells [.d (.str s), .d (.int .i64 k), .d (.bool b), .ns, .d (errD n)])]⟩)
     (fun y => 1 ≤ y.1 ∧ y.1 ≤ w.length ∧ y.2.length ≤ y.1 ∧ (hexP (w.drop y.1)).map (y.2 ++ ·) = R) (fun y => w.length - y.1) (1, []) ?_ ?_ ?_
    ·refine Weak.mk ?_ ?_ ?_ <;> simp (maxSteps := 2000000) only [go_sem, ↓reduceIte, Sub, Int.natCast_add, Int.natCast_mul, bytesD]
    ·refine ⟨Nat.le_refl _, by simp only; omega, by simp, ?_⟩
     simp only [List.nil_append]; rw [hR]; cases R <;> rfl
    ·rintro ⟨i, acc⟩ ⟨hi1, hi2, hacc, hF⟩
     simp only at hi1 hi2 hacc hF
     simp (maxSteps := 2000000) (disch := omega) only [go_sem, ↓reduceIte]
     refine ⟨fun hlt => ?_, fun hge => ?_⟩
     ·obtain ⟨x, hx⟩ := get_some (l := w) (i := i) (by omega)
      obtain ⟨y, hy⟩ := get_some (l := w) (i := i + 1) (by omega)
      obtain ⟨z, hz⟩ := get_some (l := w) (i := i + 1 + 1) (by omega)
      have hx8 := u8_lt x
      have hy8 := u8_lt y
      have bx := hexI_bounds x.toNat
      have byy := hexI_bounds y.toNat
      have hd : w.drop (i + 2) = z :: w.drop (i + 3) := dropW hz
      rw [dropW hx, dropW hy, hd, hexP, ← hd] at hF
      have gy : getI w ((i : Int) + 1) = some y := by rw [show (i : Int) + 1 = ((i + 1 : Nat) : Int) from rfl, getI_nat]; exact hy
      simp (maxSteps := 2000000) (disch := omega) only [go_sem, ↓reduceIte, getI_nat, hx, gy]
      refine CallD.of (hex_call (n := (x.toNat : Int)) (by omega)) ?_
      simp (maxSteps := 2000000) (disch := omega) only [go_sem, ↓reduceIte, getI_nat, hx, gy]
      refine CallD.of (hex_call (n := (y.toNat : Int)) (by omega)) ?_
      have bad : (hexI x.toNat < 0 ∨ hexI y.toNat < 0) → cB w = none := fun h => by rw [if_pos h] at hF; rw [e1, ← hF]; rfl
      by_cases h4 : hexI x.toNat < 0
      ·simp (maxSteps := 2000000) only [go_sem, ↓reduceIte, h4]
       refine PrimG.mvE ([.x 0]) rfl (hf) rfl rfl (by repeat' (first | exact trivial | exact rfl | constructor)) rfl rfl rfl rfl (Row.ok none) ⟨⟨rfl, rfl⟩, rfl⟩ ?_
       have e2 := bad (.inl h4)
       simp (maxSteps := 2000000) only [go_sem, ↓reduceIte, crd, cBl, cBe, e2, bytesD]
      ·by_cases h5 : hexI y.toNat < 0
       ·simp (maxSteps := 2000000) only [go_sem, ↓reduceIte, h4, h5]
        refine PrimG.mvE ([.x 0]) rfl (hf) rfl rfl (by repeat' (first | exact trivial | exact rfl | constructor)) rfl rfl rfl rfl (Row.ok none) ⟨⟨rfl, rfl⟩, rfl⟩ ?_
        have e2 := bad (.inr h5)
        simp (maxSteps := 2000000) only [go_sem, ↓reduceIte, crd, cBl, cBe, e2, bytesD]
       ·rw [if_neg (by omega)] at hF
        have hblen := bytesD_length acc
        simp (maxSteps := 2000000) (disch := omega) only [go_sem, ↓reduceIte, h4, h5, bytesD_snocI (b := acc) (n := 16 * hexI x.toNat + hexI y.toNat) (by omega) (by omega)]
        refine ⟨by omega, (i + 2, acc ++ [byteI (16 * hexI x.toNat + hexI y.toNat)]), ?_, ⟨by simp only; omega, by simp only; omega, by simp only [List.length_append, List.length_cons, List.length_nil]; omega, ?_⟩, by simp only; omega⟩
        ·refine Weak.mk ?_ ?_ ?_ <;> simp (maxSteps := 2000000) only [go_sem, ↓reduceIte, Sub, Int.natCast_add, Int.natCast_mul]
        ·simp only
         rw [← hF]
         cases hexP (w.drop (i + 2)) <;> simp
     ·rw [hexP_short (by rw [List.length_drop]; omega)] at hF
      simp only [Option.map_some, List.append_nil] at hF
      subst hF
      simp (maxSteps := 2000000) only [go_sem, ↓reduceIte, crd, cBl, cBe, e1, orE_0]
   ·refine PrimG.mvE ([.x 0]) rfl (hf) rfl rfl (by repeat' (first | exact trivial | exact rfl | constructor)) rfl rfl rfl rfl (Row.ok none) ⟨⟨rfl, rfl⟩, rfl⟩ ?_
    have e1 : cB w = none := cB_not (.inr (.inl (by rw [hch]; intro e; cases e; exact h2 rfl)))
    simp (maxSteps := 2000000) only [go_sem, ↓reduceIte, crd, cBl, cBe, e1, bytesD]
  ·refine PrimG.mvE ([.x 0]) rfl (hf) rfl rfl (by repeat' (first | exact trivial | exact rfl | constructor)) rfl rfl rfl rfl (Row.ok none) ⟨⟨rfl, rfl⟩, rfl⟩ ?_
   have e1 : cB w = none := cB_not (.inl (by omega))
   simp (maxSteps := 2000000) only [go_sem, ↓reduceIte, crd, cBl, cBe, e1, bytesD]
 ·refine lift___cmap_reader__bytes.mv (by kernel_rfl) rfl rfl ?_
  simp (maxSteps := 2000000) only [go_sem, ↓reduceIte, L___cmap_reader__bytes, R___cmap_reader__bytes, crd]
  refine ⟨fun h1 => ?_, fun h1 => ?_⟩
  ·obtain ⟨ch, hch⟩ := get_some (l := w) (i := 0) (by omega)
   have hg : getI w 0 = some ch := by rw [show (0 : Int) = ((0 : Nat) : Int) from rfl, getI_nat]; exact hch
   have hm : (w.length : Int).tmod 2 = ((w.length % 2 : Nat) : Int) := rfl
   simp (maxSteps := 2000000) only [go_sem, ↓reduceIte, hg, hm]
   refine ⟨fun h2 => ⟨fun h3 => ?_, fun h3 => ?_⟩, fun h2 => ?_⟩
   ·refine PrimG.mvE ([.x 0]) rfl (hf) rfl rfl (by repeat' (first | exact trivial | exact rfl | constructor)) rfl rfl rfl rfl (Row.ok (some (fs, c))) ⟨⟨rfl, rfl⟩, rfl⟩ ?_
    have e1 : cB w = none := cB_not (.inr (.inr (by omega)))
    simp (maxSteps := 2000000) only [go_sem, ↓reduceIte, crd, cBl, cBe, e1, bytesD]
   ·have e60 : w[0]? = some 60 := by rw [hch]; congr 1; rw [← UInt8.toNat_inj]; show ch.toNat = 60; omega
    have e1 : cB w = hexP (w.drop 1) := cB_yes (by rw [e60]; simp; omega)
    generalize hR : hexP (w.drop 1) = R at e1
    refine run_loop (fun y : Nat × List UInt8 => ⟨[(0, .ptr (.x 0) 0), (1, .d (.str w)), (5, .own (.t 5) 5 1 (bytesD y.2)), (6, .d (.int .i64 y.1))], [], [(0, .cells [.d (.str s), .d (.int .i64 k), .d (.bool b), .rs (.x 1000) fs.length c, .d (errD n)]), (1000, .cells (rowC 3 fs c))]⟩)
     (fun y => 1 ≤ y.1 ∧ y.1 ≤ w.length ∧ y.2.length ≤ y.1 ∧ (hexP (w.drop y.1)).map (y.2 ++ ·) = R) (fun y => w.length - y.1) (1, []) ?_ ?_ ?_
    ·refine Weak.mk ?_ ?_ ?_ <;> simp (maxSteps := 2000000) only [go_sem, ↓reduceIte, Sub, Int.natCast_add, Int.natCast_mul, bytesD]
    ·refine ⟨Nat.le_refl _, by simp only; omega, by simp, ?_⟩
     simp only [List.nil_append]; rw [hR]; cases R <;> rfl
    ·rintro ⟨i, acc⟩ ⟨hi1, hi2, hacc, hF⟩
     simp only at hi1 hi2 hacc hF
     simp (maxSteps := 2000000) (disch := omega) only [go_sem, ↓reduceIte]
     refine ⟨fun hlt => ?_, fun hge => ?_⟩
     ·obtain ⟨x, hx⟩ := get_some (l := w) (i := i) (by omega)
      obtain ⟨y, hy⟩ := get_some (l := w) (i := i + 1) (by omega)
      obtain ⟨z, hz⟩ := get_some (l := w) (i := i + 1 + 1) (by omega)
      have hx8 := u8_lt x
      have hy8 := u8_lt y
      have bx := hexI_bounds x.toNat
      have byy := hexI_bounds y.toNat
      have hd : w.drop (i + 2) = z :: w.drop (i + 3) := dropW hz
      rw [dropW hx, dropW hy, hd, hexP, ← hd] at hF
      have gy : getI w ((i : Int) + 1) = some y := by rw [show (i : Int) + 1 = ((i + 1 : Nat) : Int) from rfl, getI_nat]; exact hy
      simp (maxSteps := 2000000) (disch := omega) only [go_sem, ↓reduceIte, getI_nat, hx, gy]
      refine CallD.of (hex_call (n := (x.toNat : Int)) (by omega)) ?_
      simp (maxSteps := 2000000) (disch := omega) only [go_sem, ↓reduceIte, getI_nat, hx, gy]
      refine CallD.of (hex_call (n := (y.toNat : Int)) (by omega)) ?_
      have bad : (hexI x.toNat < 0 ∨ hexI y.toNat < 0) → cB w = none := fun h => by rw [if_pos h] at hF; rw [e1, ← hF]; rfl
      by_cases h4 : hexI x.toNat < 0
      ·simp (maxSteps := 2000000) only [go_sem, ↓reduceIte, h4]
       refine PrimG.mvE ([.x 0]) rfl (hf) rfl rfl (by repeat' (first | exact trivial | exact rfl | constructor)) rfl rfl rfl rfl (Row.ok (some (fs, c))) ⟨⟨rfl, rfl⟩, rfl⟩ ?_
       have e2 := bad (.inl h4)
       simp (maxSteps := 2000000) only [go_sem, ↓reduceIte, crd, cBl, cBe, e2, bytesD]
      ·by_cases h5 : hexI y.toNat < 0
       ·simp (maxSteps := 2000000) only [go_sem, ↓reduceIte, h4, h5]
        refine PrimG.mvE ([.x 0]) rfl (hf) rfl rfl (by repeat' (first | exact trivial | exact rfl | constructor)) rfl rfl rfl rfl (Row.ok (some (fs, c))) ⟨⟨rfl, rfl⟩, rfl⟩ ?_
        have e2 := bad (.inr h5)
        simp (maxSteps := 2000000) only [go_sem, ↓reduceIte, crd, cBl, cBe, e2, bytesD]
       ·rw [if_neg (by omega)] at hF
        have hblen := bytesD_length acc
        simp (maxSteps := 2000000) (disch := omega) only [go_sem, ↓reduceIte, h4, h5, bytesD_snocI (b := acc) (n := 16 * hexI x.toNat + hexI y.toNat) (by omega) (by omega)]
        refine ⟨by omega, (i + 2, acc ++ [byteI (16 * hexI x.toNat + hexI y.toNat)]), ?_, ⟨by simp only; omega, by simp only; omega, by simp only [List.length_append, List.length_cons, List.length_nil]; omega, ?_⟩, by simp only; omega⟩
        ·refine Weak.mk ?_ ?_ ?_ <;> simp (maxSteps := 2000000) only [go_sem, ↓reduceIte, Sub, Int.natCast_add, Int.natCast_mul]
        ·simp only
         rw [← hF]
         cases hexP (w.drop (i + 2)) <;> simp
     ·rw [hexP_short (by rw [List.length_drop]; omega)] at hF
      simp only [Option.map_some, List.append_nil] at hF
      subst hF
      simp (maxSteps := 2000000) only [go_sem, ↓reduceIte, crd, cBl, cBe, e1, orE_0]
   ·refine PrimG.mvE ([.x 0]) rfl (hf) rfl rfl (by repeat' (first | exact trivial | exact rfl | constructor)) rfl rfl rfl rfl (Row.ok (some (fs, c))) ⟨⟨rfl, rfl⟩, rfl⟩ ?_
    have e1 : cB w = none := cB_not (.inr (.inl (by rw [hch]; intro e; cases e; exact h2 rfl)))
    simp (maxSteps := 2000000) only [go_sem, ↓reduceIte, crd, cBl, cBe, e1, bytesD]
  ·refine PrimG.mvE ([.x 0]) rfl (hf) rfl rfl (by repeat' (first | exact trivial | exact rfl | constructor)) rfl rfl rfl rfl (Row.ok (some (fs, c))) ⟨⟨rfl, rfl⟩, rfl⟩ ?_
   have e1 : cB w = none := cB_not (.inl (by omega))
   simp (maxSteps := 2000000) only [go_sem, ↓reduceIte, crd, cBl, cBe, e1, bytesD]
theorem nextT_le {s : List UInt8} {k : Nat} (hk : k ≤ s.length) : (nextT s k).1.length ≤ s.length ∧ (nextT s k).2.1 ≤ s.length := by
 have hsk := skipP_le hk
 unfold nextT
 generalize skipP s k = q at *
 unfold tokAt
 have hw := wordP_len s q
 have hx := indexByte_lt' (s.drop q) 62
 rw [List.length_drop] at hx
 split
 ·cases h : s[q]? with
  | none => simp; omega
  | some c =>
   have hq := (List.getElem?_eq_some_iff.1 h).1
   simp only
   split
   ·split
    ·simp; omega
    ·simp only [List.length_take, List.length_drop]; omega
   ·simp; omega
 ·simp only; omega
def codeV (wide : Bool) (b : List UInt8) : Nat × Nat :=
 if wide = true then (if b.length = 2 then (256 * (b.getD 0 0).toNat + (b.getD 1 0).toNat, 0) else (0, 3))
 else (if b.length = 1 then ((b.getD 0 0).toNat, 0) else (0, 3))
def strE (s : List UInt8) (k n : Nat) : Nat := orE (orE n (nextT s k).2.2) (cBe (nextT s k).1)
def codeT (s : List UInt8) (wide : Bool) (k n : Nat) : Nat × Nat × Nat :=
 if strE s k n = 0 then ((codeV wide (cBl (nextT s k).1)).1, (nextT s k).2.1, (codeV wide (cBl (nextT s k).1)).2) else (0, (nextT s k).2.1, strE s k n)
def L___cmap_reader__code : LCode :=
 .seq (.reg [Qx 2 (Ki 0)]) (.seq (.reg [Qc 4 0, Qc 5 0, ⟨some 6, .prim .call [.k (.fn (.func 32) [] []), .t 5] [], none⟩, ⟨some 7, .prim .call [.k (.fn (.func 58) [] []), .t 4, .t 
 6] [], none⟩, Qa 3 7]) (.seq (.block 0 (.seq (.reg [Qc 9 0, Q 10 (.nck (.t 9)), Q 11 (.fa 4 (.t 10)), Q 12 (.ld false 1 (.t 11)), Q 13 (.eqN 0 true (.t 12)), Qa 8 13]) (.cond (.t 
 8) (.seq (.reg [Qx 2 (Ki 0)]) .ret) (.seq (.reg [Qc 15 0, Q 16 (.nck (.t 15)), Q 17 (.fa 2 (.t 16)), Q 18 (.ld false 1 (.t 17)), Q 19 (.not (.t 18)), Qc 20 19, Qd 21 3 20 true, 
 Qg 22 (.len false (.t 21)) 20 true, Qg 23 (.bin .eql (.t 22) (Ki 1)) 20 true, Q 24 (.pick (.t 20) (.t 23) KF), Qa 14 24]) (.cond (.t 14) (.seq (.reg [Qc 25 3, Q 26 (.ia 1 (.t 25) 
 (Ki 0)), Q 27 (.ld false 1 (.t 26)), Q 28 (.cvI .i64 (.t 27)), Qa 2 28]) .ret) (.seq (.reg [Qc 30 0, Q 31 (.nck (.t 30)), Q 32 (.fa 2 (.t 31)), Q 33 (.ld false 1 (.t 32)), Qc 34 
 33, Qd 35 3 34 true, Qg 36 (.len false (.t 35)) 34 true, Qg 37 (.bin .eql (.t 36) (Ki 2)) 34 true, Q 38 (.pick (.t 34) (.t 37) KF), Qa 29 38]) (.cond (.t 29) (.seq (.dreg [Qc 39 
 3, Q 40 (.ia 1 (.t 39) (Ki 0)), Q 41 (.ld false 1 (.t 40)), Q 42 (.cvI .i64 (.t 41)), Q 43 (.bin .mul (Ki 256) (.t 42)), Qc 44 3, Q 45 (.ia 1 (.t 44) (Ki 1)), Q 46 (.ld false 1 
 (.t 45)), Q 47 (.cvI .i64 (.t 46)), Q 48 (.bin .add (.t 43) (.t 47)), Qa 2 48]) .ret) .skip))))))) (.seq (.reg [Qc 49 0, Q 50 (.mkI 65 (Ki 3)), ⟨some 51, .prim .call [.k (.fn 
 (.func 41) [] []), .t 49, .t 50] [], none⟩]) (.seq (.reg [Qx 2 (Ki 0)]) .ret))))
def R___cmap_reader__code : List LRes := [.tmp 2]
theorem lift___cmap_reader__code : Lifts Tryd.prog 36 52 L___cmap_reader__code R___cmap_reader__code := ⟨_, _, Tryd.func36, rfl, by kernel_rfl, by kernel_rfl, rfl⟩
theorem ccode (s : List UInt8) (k : Nat) (b : Bool) (r : Row) (n : Nat) (hs : s.length ≤ 60000) (hk : k ≤ s.length) : MVE Tryd.prog 36 [.ptr (.x 0) 0] [crd s k b r n] r.ob (.d (.int .i64 (codeT s b k n).1)) [crd s (codeT s b k n).2.1 b r (codeT s b k n).2.2] r.ob := by
 have hnx := cnext s k b r n hs hk
 obtain ⟨hl1, hl2⟩ := nextT_le hk
 have hby := cbytes s (nextT s k).2.1 b r (orE n (nextT s k).2.2) (nextT s k).1 (by omega)
 have hR : codeT s b k n = if strE s k n = 0 then ((codeV b (cBl (nextT s k).1)).1, (nextT s k).2.1, (codeV b (cBl (nextT s k).1)).2) else (0, (nextT s k).2.1, strE s k n) := rfl
 have hE : orE (orE n (nextT s k).2.2) (cBe (nextT s k).1) = strE s k n := rfl
 rw [hE] at hby
 generalize hT : codeT s b k n = T at *
 generalize strE s k n = e at *
 generalize orE n (nextT s k).2.2 = e1 at *
 generalize nextT s k = X at *
 obtain ⟨w, q, e0⟩ := X
 simp only at *
 generalize cBl w = bs at *
 have hblen := bytesD_length bs
 have hf := cfail s q b r 0 3
 have z0 : errD 0 = .nil := rfl
 have hlen : ((bytesD bs).length : Int) = bs.length := by rw [hblen]
 rcases r with _ | ⟨fs, c⟩
 ·refine lift___cmap_reader__code.mv (by kernel_rfl) rfl rfl ?_
  simp (maxSteps := 2000000) only [go_sem, ↓reduceIte, L___cmap_reader__code, R___cmap_reader__code, crd]
  refine PrimG.mvE ([.x 0]) rfl (hnx) rfl rfl (by repeat' (first | exact trivial | exact rfl | constructor)) rfl rfl rfl rfl (Row.ok none) ⟨⟨rfl, rfl⟩, rfl⟩ ?_
  simp (maxSteps := 2000000) only [go_sem, ↓reduceIte, crd]
  refine PrimG.mvE ([.x 0]) rfl (hby) rfl rfl (by repeat' (first | exact trivial | exact rfl | constructor)) rfl rfl rfl rfl (Row.ok none) ⟨⟨rfl, rfl⟩, rfl⟩ ?_
  by_cases he : e = 0
  ·rw [if_pos he] at hR
   subst he
   cases b with
   | false =>
    by_cases h1 : bs.length = 1
    ·obtain ⟨x, rfl⟩ := List.length_eq_one_iff.1 h1
     have hT2 : T = (x.toNat, q, 0) := hR
     subst hT2
     have g0 : getI [D.int .u8 x.toNat] 0 = some (.int .u8 x.toNat) := rfl
     have hx8 := u8_lt x
     simp (maxSteps := 2000000) (disch := omega) only [go_sem, ↓reduceIte, crd, z0, bytesD_cons, bytesD_nil, g0]
    ·have hT2 : T = (0, q, 3) := by rw [hR]; simp [codeV, h1]
     subst hT2
     have h1' : ¬ ((bytesD bs).length : Int) = 1 := by omega
     simp (maxSteps := 2000000) only [go_sem, ↓reduceIte, crd, z0, h1']
     refine PrimG.mvE ([.x 0]) rfl (hf) rfl rfl (by repeat' (first | exact trivial | exact rfl | constructor)) rfl rfl rfl rfl (Row.ok none) ⟨⟨rfl, rfl⟩, rfl⟩ ?_
     simp (maxSteps := 2000000) only [go_sem, ↓reduceIte, crd, orE]
   | true =>
    by_cases h1 : bs.length = 2
    ·obtain ⟨x, y, rfl⟩ : ∃ x y, bs = [x, y] := by
      match bs, h1 with
      | [x, y], _ => exact ⟨x, y, rfl⟩
     have hT2 : T = (256 * x.toNat + y.toNat, q, 0) := hR
     subst hT2
     have g0 : getI [D.int .u8 x.toNat, D.int .u8 y.toNat] 0 = some (.int .u8 x.toNat) := rfl
     have g1 : getI [D.int .u8 x.toNat, D.int .u8 y.toNat] 1 = some (.int .u8 y.toNat) := rfl
     have hx8 := u8_lt x
     have hy8 := u8_lt y
     simp (maxSteps := 2000000) (disch := omega) only [go_sem, ↓reduceIte, crd, z0, bytesD_cons, bytesD_nil, g0, g1, Int.natCast_add, Int.natCast_mul]
    ·have hT2 : T = (0, q, 3) := by rw [hR]; simp [codeV, h1]
     subst hT2
     have h1' : ¬ ((bytesD bs).length : Int) = 2 := by omega
     simp (maxSteps := 2000000) only [go_sem, ↓reduceIte, crd, z0, h1']
     refine PrimG.mvE ([.x 0]) rfl (hf) rfl rfl (by repeat' (first | exact trivial | exact rfl | constructor)) rfl rfl rfl rfl (Row.ok none) ⟨⟨rfl, rfl⟩, rfl⟩ ?_
     simp (maxSteps := 2000000) only [go_sem, ↓reduceIte, crd, orE]
  ·rw [if_neg he] at hR
   subst hR
   simp (maxSteps := 2000000) only [go_sem, ↓reduceIte, crd, errD_ne he]
 ·refine lift___cmap_reader__code.mv (by kernel_rfl) rfl rfl ?_
  simp (maxSteps := 2000000) only [go_sem, ↓reduceIte, L___cmap_reader__code, R___cmap_reader__code, crd]
  refine PrimG.mvE ([.x 0]) rfl (hnx) rfl rfl (by repeat' (first | exact trivial | exact rfl | constructor)) rfl rfl rfl rfl (Row.ok (some (fs, c))) ⟨⟨rfl, rfl⟩, rfl⟩ ?_
  simp (maxSteps := 2000000) only [go_sem, ↓reduceIte, crd]
  refine PrimG.mvE ([.x 0]) rfl (hby) rfl rfl (by repeat' (first | exact trivial | exact rfl | constructor)) rfl rfl rfl rfl (Row.ok (some (fs, c))) ⟨⟨rfl, rfl⟩, rfl⟩ ?_
  by_cases he : e = 0
  ·rw [if_pos he] at hR
   subst he
   cases b with
   | false =>
    by_cases h1 : bs.length = 1
    ·obtain ⟨x, rfl⟩ := List.length_eq_one_iff.1 h1
     have hT2 : T = (x.toNat, q, 0) := hR
     subst hT2
     have g0 : getI [D.int .u8 x.toNat] 0 = some (.int .u8 x.toNat) := rfl
     have hx8 := u8_lt x
     simp (maxSteps := 2000000) (disch := omega) only [go_sem, ↓reduceIte, crd, z0, bytesD_cons, bytesD_nil, g0]
    ·have hT2 : T = (0, q, 3) := by rw [hR]; simp [codeV, h1]
     subst hT2
     have h1' : ¬ ((bytesD bs).length : Int) = 1 := by omega
     simp (maxSteps := 2000000) only [go_sem, ↓reduceIte, crd, z0, h1']
     refine PrimG.mvE ([.x 0]) rfl (hf) rfl rfl (by repeat' (first | exact trivial | exact rfl | constructor)) rfl rfl rfl rfl (Row.ok (some (fs, c))) ⟨⟨rfl, rfl⟩, rfl⟩ ?_
     simp (maxSteps := 2000000) only [go_sem, ↓reduceIte, crd, orE]
   | true =>
    by_cases h1 : bs.length = 2
    ·obtain ⟨x, y, rfl⟩ : ∃ x y, bs = [x, y] := by
      match bs, h1 with
      | [x, y], _ => exact ⟨x, y, rfl⟩
     have hT2 : T = (256 * x.toNat + y.toNat, q, 0) := hR
     subst hT2
     have g0 : getI [D.int .u8 x.toNat, D.int .u8 y.toNat] 0 = some (.int .u8 x.toNat) := rfl
     have g1 : getI [D.int .u8 x.toNat, D.int .u8 y.toNat] 1 = some (.int .u8 y.toNat) := rfl
     have hx8 := u8_lt x
     have hy8 := u8_lt y
     simp (maxSteps := 2000000) (disch := omega) only [go_sem, ↓reduceIte, crd, z0, bytesD_cons, bytesD_nil, g0, g1, Int.natCast_add, Int.natCast_mul]
    ·have hT2 : T = (0, q, 3) := by rw [hR]; simp [codeV, h1]
     subst hT2
     have h1' : ¬ ((bytesD bs).length : Int) = 2 := by omega
     simp (maxSteps := 2000000) only [go_sem, ↓reduceIte, crd, z0, h1']
     refine PrimG.mvE ([.x 0]) rfl (hf) rfl rfl (by repeat' (first | exact trivial | exact rfl | constructor)) rfl rfl rfl rfl (Row.ok (some (fs, c))) ⟨⟨rfl, rfl⟩, rfl⟩ ?_
     simp (maxSteps := 2000000) only [go_sem, ↓reduceIte, crd, orE]
  ·rw [if_neg he] at hR
   subst hR
   simp (maxSteps := 2000000) only [go_sem, ↓reduceIte, crd, errD_ne he]
def spaceT (s : List UInt8) (k n : Nat) : Bool × Nat × Nat :=
 let a := cBl (nextT s k).1
 let e := strE s k n
 let k2 := (nextT s k).2.1
 let b := cBl (nextT s k2).1
 let e2 := strE s k2 e
 (decide (a.length = 2), (nextT s k2).2.1, if e2 = 0 ∧ (a.length ≠ b.length ∨ a.length < 1 ∨ 2 < a.length) then 3 else e2)
def L___cmap_reader__space : LCode :=
 .seq (.reg [Qc 4 0, Qc 5 0, ⟨some 6, .prim .call [.k (.fn (.func 32) [] []), .t 5] [], none⟩, ⟨some 7, .prim .call [.k (.fn (.func 58) [] []), .t 4, .t 6] [], none⟩, Qa 2 7]) (.seq 
 (.reg [Qc 8 0, Qc 9 0, ⟨some 10, .prim .call [.k (.fn (.func 32) [] []), .t 9] [], none⟩, ⟨some 11, .prim .call [.k (.fn (.func 58) [] []), .t 8, .t 10] [], none⟩, Qa 3 11]) 
 (.seq (.seq (.reg [Qc 12 0, Q 13 (.nck (.t 12)), Q 14 (.fa 4 (.t 13)), Q 15 (.ld false 1 (.t 14)), Q 16 (.eqN 0 false (.t 15)), Qc 17 16, Qd 18 2 17 true, Qg 19 (.len false (.t 
 18)) 17 true, Qd 20 3 17 true, Qg 21 (.len false (.t 20)) 17 true, Qg 22 (.bin .neq (.t 19) (.t 21)) 17 true, Qd 23 22 17 true, Qd 24 2 23 false, Qg 25 (.len false (.t 24)) 23 
 false, Qg 26 (.bin .lss (.t 25) (Ki 1)) 23 false, Qg 27 (.pick (.t 23) KT (.t 26)) 17 true, Qd 28 27 17 true, Qd 29 2 28 false, Qg 30 (.len false (.t 29)) 28 false, Qg 31 (.bin 
 .gtr (.t 30) (Ki 2)) 28 false, Qg 32 (.pick (.t 28) KT (.t 31)) 17 true, Q 33 (.pick (.t 17) (.t 32) KF)]) (.cond (.t 33) (.reg [Qc 34 0, Q 35 (.mkI 65 (Ki 3)), ⟨some 36, .prim 
 .call [.k (.fn (.func 41) [] []), .t 34, .t 35] [], none⟩]) .skip)) (.reg [Qc 37 0, Qc 38 2, Q 39 (.len false (.t 38)), Q 40 (.bin .eql (.t 39) (Ki 2)), Q 41 (.nck (.t 37)), Q 42 
 (.fa 2 (.t 41)), ⟨none, .st 1 (.t 42) (.t 40), none⟩])))
def R___cmap_reader__space : List LRes := []
theorem lift___cmap_reader__space : Lifts Tryd.prog 34 43 L___cmap_reader__space R___cmap_reader__space := ⟨_, _, Tryd.func34, rfl, by kernel_rfl, by kernel_rfl, rfl⟩
theorem drop_at {α : Type} {l : List α} {i : Nat} {x : α} (h : l[i]? = some x) : l.drop i = x :: l.drop (i + 1) := by
 obtain ⟨h1, h2⟩ := List.getElem?_eq_some_iff.1 h
 rw [List.drop_eq_getElem_cons h1, h2]
open Go.Lib (decodeL decodeN decodeN_shape decodeL_N encodeRune encodeRuneZ decodeLastL validD)
def vrune (r : Nat) : Prop := r < 55296 ∨ (57344 ≤ r ∧ r ≤ 1114111)
instance (r : Nat) : Decidable (vrune r) := by unfold vrune; infer_instance
def enc (r : Nat) : List UInt8 := encodeRune (r : Int)
def bad (l : List UInt8) : Bool := decide ((decodeL l).1 = 65533) && decide ((decodeL l).2 = 1)
theorem bad_iff {l : List UInt8} : bad l = true ↔ (decodeL l).1 = 65533 ∧ (decodeL l).2 = 1 := by simp [bad]
theorem dec_facts {l : List UInt8} (hne : l ≠ []) : 1 ≤ (decodeL l).2 ∧ (decodeL l).2 ≤ 4 ∧ (decodeL l).2 ≤ l.length ∧ vrune (decodeL l).1 ∧ (bad l = false → l.take (decodeL l).2 = enc (decodeL l).1) := by
 refine ⟨?_, ?_, Lib.decodeL_le l hne, ?_, fun hb => ?_⟩
 ·have hl : 0 < l.length := List.length_pos_iff.2 hne
  rw [decodeL_N]
  rcases decodeN_shape l.length (l.getD 0 0).toNat (l.getD 1 0).toNat (l.getD 2 0).toNat (l.getD 3 0).toNat with ⟨c, e⟩ | ⟨c1, c2, c3, cv, e⟩ | ⟨c1, c2, c3, c4, cv, cs, e⟩ | ⟨c1, c2, c3, c4, c5, cv, cw, e⟩ | e
  all_goals (rw [e]; dsimp only; omega)
 ·rw [decodeL_N]
  rcases decodeN_shape l.length (l.getD 0 0).toNat (l.getD 1 0).toNat (l.getD 2 0).toNat (l.getD 3 0).toNat with ⟨c, e⟩ | ⟨c1, c2, c3, cv, e⟩ | ⟨c1, c2, c3, c4, cv, cs, e⟩ | ⟨c1, c2, c3, c4, c5, cv, cw, e⟩ | e
  all_goals (rw [e]; dsimp only; omega)
 ·have k1 := (l.getD 1 0).toNat_lt
  rw [decodeL_N]
  unfold vrune
  rcases decodeN_shape l.length (l.getD 0 0).toNat (l.getD 1 0).toNat (l.getD 2 0).toNat (l.getD 3 0).toNat with ⟨c, e⟩ | ⟨c1, c2, c3, cv, e⟩ | ⟨c1, c2, c3, c4, cv, cs, e⟩ | ⟨c1, c2, c3, c4, c5, cv, cw, e⟩ | e
  all_goals (rw [e]; dsimp only; omega)
 ·exact (Lib.encode_decode l hne (fun h => by rw [bad_iff.2 h] at hb; cases hb)).symm
/-! ### A text's signs -/
def runesF : Nat → List UInt8 → Option (List Nat)
 | 0, _ => some []
 | f + 1, l => if l = [] then some [] else if bad l = true then none else (runesF f (l.drop (decodeL l).2)).map ((decodeL l).1 :: ·)
def runesM (l : List UInt8) : Option (List Nat) := runesF l.length l
theorem runesF_nil : ∀ f, runesF f [] = some []
 | 0 => rfl
 | f + 1 => by simp [runesF]
theorem runesF_fuel : ∀ (f g : Nat) (l : List UInt8), l.length ≤ f → l.length ≤ g → runesF f l = runesF g l
 | 0, g, l, h, _ => by have : l = [] := List.length_eq_zero_iff.1 (by omega); subst this; rw [runesF_nil, runesF_nil]
 | f + 1, 0, l, _, h => by have : l = [] := List.length_eq_zero_iff.1 (by omega); subst this; rw [runesF_nil, runesF_nil]
 | f + 1, g + 1, l, h1, h2 => by
  simp only [runesF]
  by_cases hl : l = []
  ·simp [hl]
  ·have := (dec_facts hl).1
   have := List.length_pos_iff.2 hl
   rw [runesF_fuel f g (l.drop (decodeL l).2) (by simp; omega) (by simp; omega)]
theorem runesM_step {l : List UInt8} (hl : l ≠ []) : runesM l = if bad l = true then none else (runesM (l.drop (decodeL l).2)).map ((decodeL l).1 :: ·) := by
 unfold runesM
 obtain ⟨c, r, rfl⟩ : ∃ c r, l = c :: r := by cases l with | nil => exact absurd rfl hl | cons c r => exact ⟨c, r, rfl⟩
 have h1 := (dec_facts hl).1
 conv => lhs; rw [List.length_cons, runesF, if_neg hl]
 rw [runesF_fuel r.length _ (List.drop _ _) (by simp; omega) (Nat.le_refl _)]
def encM (rs : List Nat) : List UInt8 := rs.flatMap enc
theorem runesM_enc : ∀ (n : Nat) {l : List UInt8} {rs : List Nat}, l.length ≤ n → runesM l = some rs → encM rs = l ∧ ∀ r ∈ rs, vrune r
 | n, [], rs, _, h => by cases h; exact ⟨rfl, by simp⟩
 | 0, c :: l, rs, h, _ => by simp at h
 | n + 1, c :: l, rs, hn, h => by
  have hne : c :: l ≠ [] := by simp
  rw [runesM_step hne] at h
  obtain ⟨f1, f2, f3, f4, f5⟩ := dec_facts hne
  split at h
  ·cases h
  ·rename_i hb
   obtain ⟨rs', h1, rfl⟩ := Option.map_eq_some_iff.1 h
   obtain ⟨e1, e2⟩ := runesM_enc n (by simp at hn ⊢; omega) h1
   refine ⟨?_, fun r hr => ?_⟩
   ·show enc _ ++ encM rs' = _
    rw [e1, ← f5 (by simpa using hb)]; exact List.take_append_drop _ _
   ·rcases List.mem_cons.1 hr with rfl | hr
    ·exact f4
    ·exact e2 r hr
theorem validD_runes : ∀ (n : Nat) (l : List UInt8), l.length ≤ n → validD l = (runesM l).isSome
 | n, [], _ => rfl
 | 0, c :: l, h => by simp at h
 | n + 1, c :: l, hn => by
  have hne : c :: l ≠ [] := by simp
  obtain ⟨f1, f2, f3, f4, f5⟩ := dec_facts hne
  rw [Lib.validD_step _ hne, runesM_step hne]
  by_cases hb : (decodeL (c :: l)).1 = 65533 ∧ (decodeL (c :: l)).2 = 1
  ·rw [if_pos hb, if_pos (bad_iff.2 hb)]; rfl
  ·rw [if_neg hb, if_neg (fun h => hb (bad_iff.1 h)), validD_runes n _ (by simp at hn ⊢; omega)]
   cases runesM ((c :: l).drop (decodeL (c :: l)).2) <;> rfl
/-! ### A sign's bytes, read -/
theorem enc_cases {r : Nat} (h : vrune r) :
  (r < 128 ∧ enc r = [UInt8.ofNat r]) ∨ (128 ≤ r ∧ r < 2048 ∧ enc r = [UInt8.ofNat (192 + r / 64), UInt8.ofNat (128 + r % 64)]) ∨
  (2048 ≤ r ∧ r < 65536 ∧ enc r = [UInt8.ofNat (224 + r / 4096), UInt8.ofNat (128 + r / 64 % 64), UInt8.ofNat (128 + r % 64)]) ∨
  (65536 ≤ r ∧ r ≤ 1114111 ∧ enc r = [UInt8.ofNat (240 + r / 262144), UInt8.ofNat (128 + r / 4096 % 64), UInt8.ofNat (128 + r / 64 % 64), UInt8.ofNat (128 + r % 64)]) := by
 unfold vrune at h
 have t : ∀ (z : Int) (k : Nat), z = (k : Int) → z.toNat.toUInt8 = UInt8.ofNat k := fun z k e => by rw [e]; rfl
 by_cases h1 : r < 128
 ·left; refine ⟨h1, ?_⟩
  unfold enc encodeRune
  rw [Lib.encodeRuneZ_one (by omega) (by omega)]
  simp only [List.map_cons, List.map_nil]; rw [t r r rfl]
 ·by_cases h2 : r < 2048
  ·right; left; refine ⟨by omega, h2, ?_⟩
   unfold enc encodeRune
   rw [Lib.encodeRuneZ_two (by omega) (by omega)]
   simp only [List.map_cons, List.map_nil]; rw [t (192 + (r : Int) / 64) (192 + r / 64) (by omega), t (128 + (r : Int) % 64) (128 + r % 64) (by omega)]
  ·by_cases h3 : r < 65536
   ·right; right; left; refine ⟨by omega, h3, ?_⟩
    unfold enc encodeRune
    rw [Lib.encodeRuneZ_three (by omega)]
    simp only [List.map_cons, List.map_nil]; rw [t (224 + (r : Int) / 4096) (224 + r / 4096) (by omega), t (128 + (r : Int) / 64 % 64) (128 + r / 64 % 64) (by omega), t (128 + (r : Int) % 64) (128 + r % 64) (by omega)]
   ·right; right; right; refine ⟨by omega, by omega, ?_⟩
    unfold enc encodeRune
    rw [Lib.encodeRuneZ_four (by omega) (by omega)]
    simp only [List.map_cons, List.map_nil]
    rw [t (240 + (r : Int) / 262144) (240 + r / 262144) (by omega), t (128 + (r : Int) / 4096 % 64) (128 + r / 4096 % 64) (by omega), t (128 + (r : Int) / 64 % 64) (128 + r / 64 % 64) (by omega), t (128 + (r : Int) % 64) (128 + r % 64) (by omega)]
theorem ofNat_toNat {k : Nat} (h : k < 256) : (UInt8.ofNat k).toNat = k := by simp [UInt8.toNat_ofNat']; omega
theorem decode_enc {r : Nat} (h : vrune r) (t : List UInt8) : decodeL (enc r ++ t) = (r, (enc r).length) := by
 rw [decodeL_N]
 unfold vrune at h
 rcases enc_cases h with ⟨a, e⟩ | ⟨a, b, e⟩ | ⟨a, b, e⟩ | ⟨a, b, e⟩
 all_goals rw [e]
 ·simp only [List.cons_append, List.nil_append, List.getD_cons_zero, List.length_cons, List.length_nil]
  rw [ofNat_toNat (by omega), decodeN, if_pos a]
 ·simp only [List.cons_append, List.nil_append, List.getD_cons_zero, List.getD_cons_succ, List.length_cons, List.length_nil]
  rw [ofNat_toNat (by omega), ofNat_toNat (by omega), decodeN, if_neg (by omega), if_pos (by omega), if_pos (by omega)]
  congr 1; omega
 ·simp only [List.cons_append, List.nil_append, List.getD_cons_zero, List.getD_cons_succ, List.length_cons, List.length_nil]
  rw [ofNat_toNat (by omega), ofNat_toNat (by omega), ofNat_toNat (by omega), decodeN, if_neg (by omega), if_neg (by omega), if_pos (by omega), if_pos (by omega)]
  congr 1; omega
 ·simp only [List.cons_append, List.nil_append, List.getD_cons_zero, List.getD_cons_succ, List.length_cons, List.length_nil]
  rw [ofNat_toNat (by omega), ofNat_toNat (by omega), ofNat_toNat (by omega), ofNat_toNat (by omega), decodeN, if_neg (by omega), if_neg (by omega), if_neg (by omega), if_pos (by omega), if_pos (by omega)]
  congr 1; omega
theorem enc_len {r : Nat} (h : vrune r) : 1 ≤ (enc r).length ∧ (enc r).length ≤ 4 ∧ enc r ≠ [] := by
 rcases enc_cases h with ⟨a, e⟩ | ⟨a, b, e⟩ | ⟨a, b, e⟩ | ⟨a, b, e⟩ <;> (rw [e]; simp)
theorem lastStart_enc2 (t : List UInt8) {c0 c1 c2 c3 : UInt8} (h3 : 128 ≤ c3.toNat) (h2 : Lib.runeStartB c2 = false) (h1 : Lib.runeStartB c1 = false) (h0 : Lib.runeStartB c0 = true) (hd : (decodeL [c0, c1, c2, c3]).2 = 4) : decodeLastL (t ++ [c0, c1, c2, c3]) = decodeL [c0, c1, c2, c3] := by
 have g1 := Lib.getD_app_end t [c0, c1, c2, c3] 1 (by omega) (by simp)
 have g2 := Lib.getD_app_end t [c0, c1, c2, c3] 2 (by omega) (by simp)
 have g3 := Lib.getD_app_end t [c0, c1, c2, c3] 3 (by omega) (by simp)
 have g4 := Lib.getD_app_end t [c0, c1, c2, c3] 4 (by omega) (by simp)
 have hl : (t ++ [c0, c1, c2, c3]).length = t.length + 4 := by simp
 have hs : Lib.lastStart (t ++ [c0, c1, c2, c3]) = (t ++ [c0, c1, c2, c3]).length - 4 := by
  unfold Lib.lastStart
  simp only [g2, g3, g4]
  rw [if_neg (by omega)]
  simp only [List.length_cons, List.length_nil, List.getD_cons_succ, List.getD_cons_zero, Nat.reduceAdd, Nat.reduceSub, h2, h1, h0, Bool.false_eq_true, if_false, if_true]
  rw [if_neg (by omega), if_neg (by omega)]
 have hdrop := Lib.drop_app_end t [c0, c1, c2, c3]
 unfold decodeLastL
 rw [if_neg (by simp), g1, if_neg (by simp; omega), hs]
 simp only [List.length_cons, List.length_nil] at hdrop
 simp only [hdrop, hd]
 rw [if_pos (by omega)]
theorem last_enc {r : Nat} (h : vrune r) (t : List UInt8) : decodeLastL (t ++ enc r) = (r, (enc r).length) := by
 have hd := decode_enc h []
 rw [List.append_nil] at hd
 have h' := h
 unfold vrune at h'
 have st : ∀ k, k < 256 → Lib.runeStartB (UInt8.ofNat k) = (k / 64 != 2) := fun k hk => by unfold Lib.runeStartB; rw [ofNat_toNat hk]
 have nc : ∀ k : Nat, 128 ≤ k → k < 192 → Lib.runeStartB (UInt8.ofNat k) = false := by
  intro k h1 h2
  have h3 : k / 64 = 2 := by omega
  rw [st k (by omega), h3]; rfl
 have ns : ∀ k : Nat, 192 ≤ k → k < 256 → Lib.runeStartB (UInt8.ofNat k) = true := by
  intro k h1 h2
  have h3 : k / 64 = 3 := by omega
  rw [st k (by omega), h3]; rfl
 rcases enc_cases h with ⟨a, e⟩ | ⟨a, b, e⟩ | ⟨a, b, e⟩ | ⟨a, b, e⟩
 ·have g1 := Lib.getD_app_end t [UInt8.ofNat r] 1 (by omega) (by simp)
  rw [e]
  unfold decodeLastL
  rw [if_neg (by simp), g1]
  simp only [List.length_cons, List.length_nil, Nat.sub_self, List.getD_cons_zero, Nat.zero_add]
  rw [if_pos (by rw [ofNat_toNat (by omega)]; exact a), ofNat_toNat (by omega)]
 ·rw [e] at hd ⊢
  rw [Lib.last2 t _ _ (by rw [ofNat_toNat (by omega)]; omega) (ns _ (by omega) (by omega)) (by rw [hd]; rfl), hd]
 ·rw [e] at hd ⊢
  rw [Lib.last3 t _ _ _ (by rw [ofNat_toNat (by omega)]; omega) (nc _ (by omega) (by omega)) (ns _ (by omega) (by omega)) (by rw [hd]; rfl), hd]
 ·rw [e] at hd ⊢
  rw [lastStart_enc2 t (by rw [ofNat_toNat (by omega)]; omega) (nc _ (by omega) (by omega)) (nc _ (by omega) (by omega)) (ns _ (by omega) (by omega)) (by rw [hd]; rfl), hd]
theorem encode_enc {r : Nat} (h : vrune r) : (Utf8.encode (r : Int)).data.toList = enc r := by
 have hv : Utf8.valid (r : Int) = true := by unfold vrune at h; simp [Utf8.valid]; omega
 unfold Utf8.encode
 simp only [hv, if_true, Int.toNat_natCast]
 unfold vrune at h
 rcases enc_cases h with ⟨a, e⟩ | ⟨a, b, e⟩ | ⟨a, b, e⟩ | ⟨a, b, e⟩
 ·simp only [if_pos a, e]
 ·have a' : ¬ r < 128 := by omega
  simp only [if_neg a', if_pos b, e]
 ·have a' : ¬ r < 128 := by omega
  have b' : ¬ r < 2048 := by omega
  simp only [if_neg a', if_neg b', if_pos b, e]
 ·have a' : ¬ r < 128 := by omega
  have b' : ¬ r < 2048 := by omega
  have c' : ¬ r < 65536 := by omega
  simp only [if_neg a', if_neg b', if_neg c', e]
end Go.Av.Tryd
set_option linter.unusedSimpArgs false
set_option maxRecDepth 100000
namespace Go.Av.Tryd
open Go.Proofs
open Go.Lib (decodeL decodeN decodeN_shape decodeL_N)
def natsU (l : List Nat) : List D := l.map fun (n : Nat) => D.int .i64 (n : Int)
theorem natsU_length (l : List Nat) : (natsU l).length = l.length := by simp [natsU]
theorem natsU_get (l : List Nat) (j : Nat) : (natsU l)[j]? = (l[j]?).map fun (n : Nat) => D.int .i64 (n : Int) := by simp [natsU]
end Go.Av.Tryd
set_option linter.unusedSimpArgs false
set_option maxRecDepth 100000
namespace Go.Av.Tryd
open Go.Proofs
theorem encM_append (a b : List Nat) : encM (a ++ b) = encM a ++ encM b := by simp [encM]
theorem encM_len : ∀ {l : List Nat}, (∀ r ∈ l, vrune r) → (encM l).length ≤ 4 * l.length
 | [], _ => by simp [encM]
 | r :: l, h => by
  have h1 := enc_len (h r (by simp))
  have ih := encM_len fun x hx => h x (List.mem_cons_of_mem _ hx)
  have : encM (r :: l) = enc r ++ encM l := rfl
  rw [this, List.length_append, List.length_cons]; omega
end Go.Av.Tryd
set_option linter.unusedSimpArgs false
set_option maxRecDepth 100000
namespace Go.Av.Tryd
open Go.Proofs
def onM (s : List UInt8) (n : Nat) : Option (List UInt8) :=
 match runesM s with
 | none => none
 | some rs => if rs = [] then none else
  if 1114111 < rs.getLastD 0 + n ∨ (55295 < rs.getLastD 0 + n ∧ rs.getLastD 0 + n < 57344) ∨ (rs.getLastD 0 ≤ 55295 ∧ 57344 ≤ rs.getLastD 0 + n) then none
  else some (encM (rs.dropLast ++ [rs.getLastD 0 + n]))
def onRes (o : Option (List UInt8)) : Res := match o with
 | some t => .tup [.str t, .bool true]
 | none => .tup [.str [], .bool false]
theorem last_get {rs : List Nat} (h : rs ≠ []) : rs[rs.length - 1]? = some (rs.getLastD 0) := by
 rw [List.getLastD_eq_getLast?, List.getLast?_eq_getElem?]
 have : rs.length - 1 < rs.length := by have := List.length_pos_iff.2 h; omega
 rw [List.getElem?_eq_getElem this]; rfl
theorem set_last {rs : List Nat} (h : rs ≠ []) (x : Nat) : rs.set (rs.length - 1) x = rs.dropLast ++ [x] := by
 obtain ⟨a, b, rfl⟩ : ∃ a b, rs = a ++ [b] := ⟨rs.dropLast, rs.getLast h, (List.dropLast_concat_getLast h).symm⟩
 rw [List.dropLast_concat, List.length_append, List.set_append_right _ _ (by simp)]
 simp
end Go.Av.Tryd
set_option linter.unusedSimpArgs false
set_option maxRecDepth 100000
namespace Go.Av.Tryd
open Go.Proofs
structure Span where
 fr : Int
 «to» : Int
 tx : List UInt8
def Span.d (x : Span) : D := .agg [.int .i64 x.fr, .int .i64 x.to, .str x.tx]
def spansD (l : List Span) : List D := l.map Span.d
theorem spansD_length (l : List Span) : (spansD l).length = l.length := by simp [spansD]
theorem spansD_get (l : List Span) (j : Nat) : (spansD l)[j]? = (l[j]?).map Span.d := by simp [spansD]
def Span.wf (x : Span) : Prop := -9223372036854775808 ≤ x.fr ∧ x.fr ≤ 9223372036854775807 ∧ -9223372036854775808 ≤ x.to ∧ x.to ≤ 9223372036854775807 ∧ x.tx.length ≤ 1000000
def spanFault (most : Int) (prev : Option Int) (x : Span) : Nat :=
 if x.fr < 0 ∨ most < x.to then 1
 else if x.to < x.fr ∨ (∃ p, prev = some p ∧ x.fr ≤ p) ∨ runesM x.tx = none ∨ x.tx = [] ∨ 40 < x.tx.length then 3
 else if onM x.tx (x.to - x.fr).toNat = none then 3 else 0
instance (prev : Option Int) (f : Int) : Decidable (∃ p, prev = some p ∧ f ≤ p) := match prev with
 | none => .isFalse (by rintro ⟨p, h, _⟩; cases h)
 | some p => if h : f ≤ p then .isTrue ⟨p, rfl, h⟩ else .isFalse (by rintro ⟨q, h1, h2⟩; cases h1; exact h h2)
def faultsF (most : Int) : Option Int → List Span → Nat
 | _, [] => 0
 | prev, x :: r => if spanFault most prev x = 0 then faultsF most (some x.to) r else spanFault most prev x
def mostM (wide : Bool) : Int := if wide = true then 65535 else 255
def faultM (l : List Span) (wide : Bool) : Nat := if 300 < l.length then 2 else faultsF (mostM wide) none l
def prevM (l : List Span) (i : Nat) : Option Int := if i = 0 then none else (l[i - 1]?).map Span.to
def codeM : List Span → Int → Option (List UInt8)
 | [], _ => none
 | x :: r, c => if x.fr ≤ c ∧ c ≤ x.to then onM x.tx (c - x.fr).toNat else codeM r c
abbrev ROut := Option (List Span)
def ROut.v : ROut → AV
 | none => .ns
 | some l => .own (.c (.x 0) 4) 59 3 (spansD l)
def ROut.l : ROut → List Span
 | none => []
 | some l => l
attribute [go_sem] ROut.v
def rN (T : List (List UInt8)) (ends : Bool) (j n : Nat) : List UInt8 × Nat × Nat :=
 match T[j]? with
 | some w => (w, j + 1, n)
 | none => ([], j, if ends = true then n else orE n 5)
theorem rN_le {T : List (List UInt8)} {ends : Bool} {j n : Nat} (hj : j ≤ T.length) : (rN T ends j n).2.1 ≤ T.length := by
 unfold rN
 cases h : T[j]? with
 | none => exact hj
 | some w => have := (List.getElem?_eq_some_iff.1 h).1; simp only; omega
def rB (T : List (List UInt8)) (ends : Bool) (j n : Nat) : List UInt8 × Nat × Nat :=
 if (rN T ends j n).2.2 = 0 then (cBl (rN T ends j n).1, (rN T ends j n).2.1, cBe (rN T ends j n).1) else ([], (rN T ends j n).2.1, (rN T ends j n).2.2)
inductive Bld where
 | new
 | nul
 | has (s : List UInt8)
def Bld.obj : Bld → AObj
 | .new => .cells [.nt 92, .ns]
 | .nul => .cells [.ptr (.x 0) 0, .ns]
 | .has s => .cells [.ptr (.x 0) 0, .own (.c (.x 0) 1) 5 1 (bytesD s)]
def Bld.bytes : Bld → List UInt8
 | .has s => s
 | _ => []
def L___strings_Builder__copyCheck : LCode :=
 .seq (.reg [Qc 2 0, Q 3 (.nck (.t 2)), Q 4 (.fa 0 (.t 3)), Q 5 (.ld false 1 (.t 4)), Q 6 (.eqN 1 false (.t 5))]) (.cond (.t 6) (.reg [Qc 7 0, Qc 8 0, ⟨some 9, .prim (.conv 90 118) 
 [.t 8] [], none⟩, ⟨some 10, .prim .call [.k (.fn (.func 81) [] []), .t 9] [], none⟩, ⟨some 11, .prim (.conv 118 90) [.t 10] [], none⟩, Q 12 (.nck (.t 7)), Q 13 (.fa 0 (.t 12)), 
 ⟨none, .st 1 (.t 13) (.t 11), none⟩]) (.seq (.reg [Qc 14 0, Q 15 (.nck (.t 14)), Q 16 (.fa 0 (.t 15)), Q 17 (.ld false 1 (.t 16)), Qc 18 0, ⟨some 19, .prim (.eq .neq 90) [.t 17, 
 .t 18] [], none⟩]) (.cond (.t 19) .bad .skip)))
def R___strings_Builder__copyCheck : List LRes := []
theorem lift___strings_Builder__copyCheck : Lifts Tryd.prog 67 20 L___strings_Builder__copyCheck R___strings_Builder__copyCheck := ⟨_, _, Tryd.func67, rfl, by kernel_rfl, by kernel_rfl, rfl⟩
theorem copyCheck_new : MCallE Tryd.prog 67 [.ptr (.x 0) 0] [.cells [.nt 92, .ns]] (.tuple []) [.cells [.ptr (.x 0) 0, .ns]] := by
 refine lift___strings_Builder__copyCheck.mcall (by kernel_rfl) rfl ?_
 simp (maxSteps := 2000000) only [go_sem, ↓reduceIte, L___strings_Builder__copyCheck, R___strings_Builder__copyCheck, AV.den]
 refine PrimG.toUnsafe (m := 1) rfl rfl (by decide) Tryd.underlying90 Tryd.underlying118 (by kernel_rfl) ?_
 simp (maxSteps := 2000000) only [go_sem, ↓reduceIte]
 refine PrimG.entry Tryd.func81 (by kernel_rfl) (by kernel_rfl) (by kernel_rfl) (e := Extern.AbiNoEscape.same) (by kernel_rfl) (.ptr (.x 0) 0) (fun G w vs hl hv => ?_) ?_
 ·match vs, hl with
  | [v], _ => exact ⟨v, Lib.run_noEscape w v, hv 0 _ rfl⟩
 simp (maxSteps := 2000000) only [go_sem, ↓reduceIte]
 refine PrimG.fromUnsafe (i := 0) rfl rfl rfl Tryd.underlying118 Tryd.underlying90 (m := 2) (by kernel_rfl) (by kernel_rfl) ?_
 simp (maxSteps := 2000000) only [go_sem, ↓reduceIte]
theorem info147 : ∃ j, Tryd.prog.info? 92 = some j := by
 have h : (Tryd.prog.info? 92).isSome = true := by kernel_rfl
 exact Option.isSome_iff_exists.1 h
theorem copyCheck_used (x : AV) (hx : x = .ns ∨ ∃ s, x = .own (.c (.x 0) 1) 5 1 (bytesD s)) : MCallE Tryd.prog 67 [.ptr (.x 0) 0] [.cells [.ptr (.x 0) 0, x]] (.tuple []) [.cells [.ptr (.x 0) 0, x]] := by
 obtain ⟨j, hj⟩ := info147
 have done : MCallE Tryd.prog 67 [.ptr (.x 0) 0] [.cells [.ptr (.x 0) 0, x]] (.tuple []) [.cells [.ptr (.x 0) 0, x]] := by
  refine lift___strings_Builder__copyCheck.mcall (by kernel_rfl) rfl ?_
  simp (maxSteps := 2000000) only [go_sem, ↓reduceIte, L___strings_Builder__copyCheck, R___strings_Builder__copyCheck, AV.den]
  refine PrimG.samePtr rfl rfl Tryd.underlying90 hj ?_
  simp (maxSteps := 2000000) only [go_sem, ↓reduceIte]
 exact done
def L___strings_Builder__WriteByte : LCode :=
 .seq (.reg [Qx 4 (.k (.d .nil))]) (.seq (.reg [Qc 5 0, ⟨some 6, .prim .call [.k (.fn (.func 67) [] []), .t 5] [], none⟩]) (.seq (.reg [Qc 7 0, Qc 8 0, Q 9 (.nck (.t 8)), Q 10 (.fa 
 1 (.t 9)), Q 11 (.ld false 1 (.t 10)), Qc 12 1, ⟨some 13, .bsl 5 1 [.t 12], none⟩, ⟨some 14, .app 5 1 1 false (.t 11) (.t 13), none⟩, Q 15 (.nck (.t 7)), Q 16 (.fa 1 (.t 15)), 
 ⟨none, .st 1 (.t 16) (.t 14), none⟩]) (.seq (.reg [Qx 4 (.k (.d .nil))]) .ret)))
def R___strings_Builder__WriteByte : List LRes := [.tmp 4]
theorem lift___strings_Builder__WriteByte : Lifts Tryd.prog 68 17 L___strings_Builder__WriteByte R___strings_Builder__WriteByte := ⟨_, _, Tryd.func68, rfl, by kernel_rfl, by kernel_rfl, rfl⟩
def L___strings_Builder__WriteString : LCode :=
 .seq (.reg [Qx 4 (Ki 0), Qx 5 (.k (.d .nil))]) (.seq (.reg [Qc 6 0, ⟨some 7, .prim .call [.k (.fn (.func 67) [] []), .t 6] [], none⟩]) (.seq (.reg [Qc 8 0, Qc 9 0, Q 10 (.nck (.t 
 9)), Q 11 (.fa 1 (.t 10)), Q 12 (.ld false 1 (.t 11)), Qc 13 1, ⟨some 14, .app 5 1 1 true (.t 12) (.t 13), none⟩, Q 15 (.nck (.t 8)), Q 16 (.fa 1 (.t 15)), ⟨none, .st 1 (.t 16) 
 (.t 14), none⟩]) (.seq (.reg [Qc 17 1, Q 18 (.len true (.t 17)), Qa 4 18, Qx 5 (.k (.d .nil))]) .ret)))
def R___strings_Builder__WriteString : List LRes := [.tmp 4, .tmp 5]
theorem lift___strings_Builder__WriteString : Lifts Tryd.prog 48 19 L___strings_Builder__WriteString R___strings_Builder__WriteString := ⟨_, _, Tryd.func48, rfl, by kernel_rfl, by kernel_rfl, rfl⟩
theorem writeString_call (b : Bld) (t : List UInt8) (hl : (b.bytes ++ t).length ≤ 1000000000) : MCallE Tryd.prog 48 [.ptr (.x 0) 0, .d (.str t)] [b.obj] (.tuple [.d (.int .i64 t.length), .d .nil]) [Bld.obj (.has (b.bytes ++ t))] := by
 have hbl := bytesD_length t
 cases b with
 | new =>
  refine lift___strings_Builder__WriteString.mcall (by kernel_rfl) rfl ?_
  simp (maxSteps := 2000000) only [go_sem, ↓reduceIte, L___strings_Builder__WriteString, R___strings_Builder__WriteString, AV.den, Bld.obj]
  refine PrimG.mc1 (.x 0) rfl (copyCheck_new) rfl rfl rfl rfl ⟨rfl, rfl⟩ ?_
  simp only [Bld.bytes, List.nil_append] at hl
  simp (maxSteps := 2000000) only [go_sem, ↓reduceIte, Bld.bytes, AV.den, hbl]
  omega
 | nul =>
  refine lift___strings_Builder__WriteString.mcall (by kernel_rfl) rfl ?_
  simp (maxSteps := 2000000) only [go_sem, ↓reduceIte, L___strings_Builder__WriteString, R___strings_Builder__WriteString, AV.den, Bld.obj]
  refine PrimG.mc1 (.x 0) rfl (copyCheck_used _ (.inl rfl)) rfl rfl rfl rfl ⟨rfl, rfl⟩ ?_
  simp only [Bld.bytes, List.nil_append] at hl
  simp (maxSteps := 2000000) only [go_sem, ↓reduceIte, Bld.bytes, AV.den, hbl]
  omega
 | has s =>
  have hbs := bytesD_length s
  refine lift___strings_Builder__WriteString.mcall (by kernel_rfl) rfl ?_
  simp (maxSteps := 2000000) only [go_sem, ↓reduceIte, L___strings_Builder__WriteString, R___strings_Builder__WriteString, AV.den, Bld.obj]
  refine PrimG.mc1 (.x 0) rfl (copyCheck_used _ (.inr ⟨s, rfl⟩)) rfl rfl rfl rfl ⟨rfl, rfl⟩ ?_
  simp only [Bld.bytes, List.length_append] at hl
  simp (maxSteps := 2000000) only [go_sem, ↓reduceIte, Bld.bytes, AV.den, hbl, hbs, bytesD_append]
  omega
theorem writeByte_call (b : Bld) (c : UInt8) (hl : b.bytes.length + 1 ≤ 1000000000) : MCallE Tryd.prog 68 [.ptr (.x 0) 0, .d (.int .u8 c.toNat)] [b.obj] (.d .nil) [Bld.obj (.has (b.bytes ++ [c]))] := by
 cases b with
 | new =>
  refine lift___strings_Builder__WriteByte.mcall (by kernel_rfl) rfl ?_
  simp (maxSteps := 2000000) only [go_sem, ↓reduceIte, L___strings_Builder__WriteByte, R___strings_Builder__WriteByte, AV.den, Bld.obj]
  refine PrimG.mc1 (.x 0) rfl (copyCheck_new) rfl rfl rfl rfl ⟨rfl, rfl⟩ ?_
  simp (maxSteps := 2000000) only [go_sem, ↓reduceIte, Bld.bytes, AV.den, bytesD_cons, bytesD_nil]
 | nul =>
  refine lift___strings_Builder__WriteByte.mcall (by kernel_rfl) rfl ?_
  simp (maxSteps := 2000000) only [go_sem, ↓reduceIte, L___strings_Builder__WriteByte, R___strings_Builder__WriteByte, AV.den, Bld.obj]
  refine PrimG.mc1 (.x 0) rfl (copyCheck_used _ (.inl rfl)) rfl rfl rfl rfl ⟨rfl, rfl⟩ ?_
  simp (maxSteps := 2000000) only [go_sem, ↓reduceIte, Bld.bytes, AV.den, bytesD_cons, bytesD_nil]
 | has s =>
  have hbs := bytesD_length s
  refine lift___strings_Builder__WriteByte.mcall (by kernel_rfl) rfl ?_
  simp (maxSteps := 2000000) only [go_sem, ↓reduceIte, L___strings_Builder__WriteByte, R___strings_Builder__WriteByte, AV.den, Bld.obj]
  refine PrimG.mc1 (.x 0) rfl (copyCheck_used _ (.inr ⟨s, rfl⟩)) rfl rfl rfl rfl ⟨rfl, rfl⟩ ?_
  simp only [Bld.bytes] at hl
  simp (maxSteps := 2000000) only [go_sem, ↓reduceIte, Bld.bytes, AV.den, hbs, bytesD_append, bytesD_cons, bytesD_nil]
  omega
/-! ### Builders, wherever they lie -/
def Bld.at (r : Ref) : Bld → AObj
 | .new => .cells [.nt 92, .ns]
 | .nul => .cells [.ptr r 0, .ns]
 | .has s => .cells [.ptr r 0, .own (.c r 1) 5 1 (bytesD s)]
theorem Bld.obj_at (b : Bld) : b.obj = b.at (.x 0) := by cases b <;> rfl
theorem Bld.at_ren (b : Bld) (r : Ref) : (b.at (.x 0)).ren [r] = b.at r := by cases b <;> rfl
theorem Bld.at_wf (b : Bld) : (b.at (.x 0)).wf 1 = true := by cases b <;> rfl
theorem Bld.at_loc (b : Bld) (i : Nat) : (b.at (.x i)).noLoc = true := by cases b <;> rfl
theorem Bld.bytes_has (s : List UInt8) : Bld.bytes (.has s) = s := rfl
theorem bldCall {dst : Option Nat} {f : LX} {args : List LX} {K : St → Prop} {σ : St} {g : FuncId} {first cap : List AV} {xs : List AV} {ret : AV} (r : Ref) {b b' : Bld} (hf : σ.ev f = .fn (.func g) first cap) (hc : MCallE Tryd.prog g xs [b.at (.x 0)] ret [b'.at (.x 0)])
  (hx : passQ [] 0 (first ++ (evL σ args ++ cap)) = renL [r] xs) (hwx : wfAL [] 1 0 xs = true) (ho : σ.obj r = some (b.at r)) (hr : retOK 1 ret = true)
  (hK : K (retO (({ σ with ρ := amap (AV.unown [r]) σ.ρ } : St).setObj r (b'.at r)) dst [r] ret)) : PrimG Tryd.prog dst .call (f :: args) K σ := by
 refine PrimG.mcall [r] [] hf hc hx hwx ?_ ?_ ?_ ?_ ⟨hr, ?_⟩ ?_
 ·exact ⟨by rw [Bld.at_ren]; exact ho, trivial⟩
 ·show (Bld.at (.x 0) b).wf 1 && true = true
  rw [Bld.at_wf]; rfl
 ·rfl
 ·rfl
 ·show ((Bld.at (.x 0) b').wf 1 && (isLocal r || ((Bld.at (.x 0) b').ren [r]).noLoc)) && true = true
  rw [Bld.at_wf, Bld.at_ren]
  cases r with
  | l s => rfl
  | x i => rw [Bld.at_loc]; rfl
 ·show K (retO (setObjs [r] { (eraseL σ []) with ρ := amap (AV.unown [r]) (eraseL σ []).ρ } [r] [Bld.at (.x 0) b']) dst [r] ret)
  simp only [setObjs, Bld.at_ren, eraseL]
  exact hK
theorem writeString_at (b : Bld) (t : List UInt8) (hl : (b.bytes ++ t).length ≤ 1000000000) : MCallE Tryd.prog 48 [.ptr (.x 0) 0, .d (.str t)] [b.at (.x 0)] (.tuple [.d (.int .i64 t.length), .d .nil]) [Bld.at (.x 0) (.has (b.bytes ++ t))] := by
 rw [← Bld.obj_at, ← Bld.obj_at]; exact writeString_call b t hl
theorem writeByte_at (b : Bld) (c : UInt8) (hl : b.bytes.length + 1 ≤ 1000000000) : MCallE Tryd.prog 68 [.ptr (.x 0) 0, .d (.int .u8 c.toNat)] [b.at (.x 0)] (.d .nil) [Bld.at (.x 0) (.has (b.bytes ++ [c]))] := by
 rw [← Bld.obj_at, ← Bld.obj_at]; exact writeByte_call b c hl
def a63 (n : Int) : Int := IntKind.u8.wrap ((BitVec.ofInt IntKind.u8.bits n &&& BitVec.ofInt IntKind.u8.bits 63).toNat)
def oB (k n : Int) : Int := IntKind.u8.wrap ((BitVec.ofInt IntKind.u8.bits k ||| BitVec.ofInt IntKind.u8.bits n).toNat)
theorem and63 (n : Nat) (h : n < 256) : a63 (n : Int) = (n % 64 : Nat) := by
 have : ∀ n : Fin 256, a63 ((n.val : Nat) : Int) = (n.val % 64 : Nat) := by decide +kernel
 exact this ⟨n, h⟩
theorem or128 (n : Nat) (h : n < 64) : oB 128 (n : Int) = (128 + n : Nat) := by
 have : ∀ n : Fin 64, oB 128 ((n.val : Nat) : Int) = (128 + n.val : Nat) := by decide +kernel
 exact this ⟨n, h⟩
theorem or192 (n : Nat) (h : n < 32) : oB 192 (n : Int) = (192 + n : Nat) := by
 have : ∀ n : Fin 32, oB 192 ((n.val : Nat) : Int) = (192 + n.val : Nat) := by decide +kernel
 exact this ⟨n, h⟩
theorem or224 (n : Nat) (h : n < 16) : oB 224 (n : Int) = (224 + n : Nat) := by
 have : ∀ n : Fin 16, oB 224 ((n.val : Nat) : Int) = (224 + n.val : Nat) := by decide +kernel
 exact this ⟨n, h⟩
theorem or240 (n : Nat) (h : n < 8) : oB 240 (n : Int) = (240 + n : Nat) := by
 have : ∀ n : Fin 8, oB 240 ((n.val : Nat) : Int) = (240 + n.val : Nat) := by decide +kernel
 exact this ⟨n, h⟩
theorem w8 (n : Nat) : IntKind.u8.wrap (n : Int) = (n % 256 : Nat) := by rw [IntKind.wrap_u8]; omega
theorem fd6 (n : Nat) : (n : Int).fdiv (2 ^ min 6 32) = (n / 64 : Nat) := by rw [Int.fdiv_eq_ediv_of_nonneg _ (by decide)]; rfl
theorem fd12 (n : Nat) : (n : Int).fdiv (2 ^ min 12 32) = (n / 4096 : Nat) := by rw [Int.fdiv_eq_ediv_of_nonneg _ (by decide)]; rfl
theorem fd18 (n : Nat) : (n : Int).fdiv (2 ^ min 18 32) = (n / 262144 : Nat) := by rw [Int.fdiv_eq_ediv_of_nonneg _ (by decide)]; rfl
def L_unicode_utf8_appendRuneNonASCII : LCode :=
 .seq (.reg [⟨some 4, .nils 5 1, none⟩]) (.seq (.reg [Qc 6 1, Q 7 (.cvI .u32 (.t 6)), Qa 5 7]) (.block 0 (.seq (.reg [Qc 12 5, Q 13 (.bin .leq (.t 12) (.k (.d (.int .u32 2047)))), 
 Qa 11 13]) (.cond (.t 11) (.seq (.reg [Qc 14 0, Qc 15 1, Q 16 (.bin .shr (.t 15) (.k (.d (.int .u64 6)))), Q 17 (.cvI .u8 (.t 16)), Q 18 (.bin .or (Kb 192) (.t 17)), Qc 19 1, Q 
 20 (.cvI .u8 (.t 19)), Q 21 (.bin .and (.t 20) (Kb 63)), Q 22 (.bin .or (Kb 128) (.t 21)), ⟨some 23, .bsl 5 1 [.t 18, .t 22], none⟩, ⟨some 24, .app 5 1 1 false (.t 14) (.t 23), 
 none⟩, Qa 4 24]) .ret) (.seq (.seq (.reg [Qc 26 5, Q 27 (.bin .lss (.t 26) (.k (.d (.int .u32 55296)))), Qa 25 27]) (.cond (.t 25) .skip (.reg [Qc 28 5, Q 29 (.bin .lss (.k (.d 
 (.int .u32 57343))) (.t 28)), Qc 30 29, Qd 31 5 30 true, Qg 32 (.bin .leq (.t 31) (.k (.d (.int .u32 65535)))) 30 true, Q 33 (.pick (.t 30) (.t 32) KF), Qa 25 33]))) (.cond (.t 
 25) (.seq (.reg [Qc 34 0, Qc 35 1, Q 36 (.bin .shr (.t 35) (.k (.d (.int .u64 12)))), Q 37 (.cvI .u8 (.t 36)), Q 38 (.bin .or (Kb 224) (.t 37)), Qc 39 1, Q 40 (.bin .shr (.t 39) 
 (.k (.d (.int .u64 6)))), Q 41 (.cvI .u8 (.t 40)), Q 42 (.bin .and (.t 41) (Kb 63)), Q 43 (.bin .or (Kb 128) (.t 42)), Qc 44 1, Q 45 (.cvI .u8 (.t 44)), Q 46 (.bin .and (.t 45) 
 (Kb 63)), Q 47 (.bin .or (Kb 128) (.t 46)), ⟨some 48, .bsl 5 1 [.t 38, .t 43, .t 47], none⟩, ⟨some 49, .app 5 1 1 false (.t 34) (.t 48), none⟩, Qa 4 49]) .ret) (.seq (.reg [Qc 51 
 5, Q 52 (.bin .gtr (.t 51) (.k (.d (.int .u32 65535)))), Qc 53 52, Qd 54 5 53 true, Qg 55 (.bin .leq (.t 54) (.k (.d (.int .u32 1114111)))) 53 true, Q 56 (.pick (.t 53) (.t 55) 
 KF), Qa 50 56]) (.cond (.t 50) (.seq (.reg [Qc 57 0, Qc 58 1, Q 59 (.bin .shr (.t 58) (.k (.d (.int .u64 18)))), Q 60 (.cvI .u8 (.t 59)), Q 61 (.bin .or (Kb 240) (.t 60)), Qc 62 
 1, Q 63 (.bin .shr (.t 62) (.k (.d (.int .u64 12)))), Q 64 (.cvI .u8 (.t 63)), Q 65 (.bin .and (.t 64) (Kb 63)), Q 66 (.bin .or (Kb 128) (.t 65)), Qc 67 1, Q 68 (.bin .shr (.t 
 67) (.k (.d (.int .u64 6)))), Q 69 (.cvI .u8 (.t 68)), Q 70 (.bin .and (.t 69) (Kb 63)), Q 71 (.bin .or (Kb 128) (.t 70)), Qc 72 1, Q 73 (.cvI .u8 (.t 72)), Q 74 (.bin .and (.t 
 73) (Kb 63)), Q 75 (.bin .or (Kb 128) (.t 74)), ⟨some 76, .bsl 5 1 [.t 61, .t 66, .t 71, .t 75], none⟩, ⟨some 77, .app 5 1 1 false (.t 57) (.t 76), none⟩, Qa 4 77]) .ret) (.seq 
 (.reg [Qc 8 0, ⟨some 9, .bsl 5 1 [.k (.d (.int .u8 239)), .k (.d (.int .u8 191)), .k (.d (.int .u8 189))], none⟩, ⟨some 10, .app 5 1 1 false (.t 8) (.t 9), none⟩, Qa 4 10]) 
 .ret)))))))))
def R_unicode_utf8_appendRuneNonASCII : List LRes := [.tmp 4]
theorem lift_unicode_utf8_appendRuneNonASCII : Lifts Tryd.prog 91 78 L_unicode_utf8_appendRuneNonASCII R_unicode_utf8_appendRuneNonASCII := ⟨_, _, Tryd.func91, rfl, by kernel_rfl, by kernel_rfl, rfl⟩
def L_unicode_utf8_AppendRune : LCode :=
 .seq (.reg [⟨some 4, .nils 5 1, none⟩]) (.seq (.seq (.reg [Qc 5 1, Q 6 (.cvI .u32 (.t 5)), Q 7 (.bin .leq (.t 6) (.k (.d (.int .u32 127))))]) (.cond (.t 7) (.seq (.reg [Qc 8 0, Qc 
 9 1, Q 10 (.cvI .u8 (.t 9)), ⟨some 11, .bsl 5 1 [.t 10], none⟩, ⟨some 12, .app 5 1 1 false (.t 8) (.t 11), none⟩, Qa 4 12]) .ret) .skip)) (.seq (.reg [Qc 13 0, Qc 14 1, ⟨some 15, 
 .call 91 [.t 13, .t 14], none⟩, Qa 4 15]) .ret))
def R_unicode_utf8_AppendRune : List LRes := [.tmp 4]
theorem lift_unicode_utf8_AppendRune : Lifts Tryd.prog 87 16 L_unicode_utf8_AppendRune R_unicode_utf8_AppendRune := ⟨_, _, Tryd.func87, rfl, by kernel_rfl, by kernel_rfl, rfl⟩
theorem appendNon {c : Nat} (hc : vrune c) (hc2 : 128 ≤ c) (s : List UInt8) (hs : s.length ≤ 1000000000) : MCallE Tryd.prog 91 [.own (.t 0) 5 1 (bytesD s), .d (.int .i32 c)] [] (.own (.t 0) 5 1 (bytesD (s ++ enc c))) [] := by
 have hbl := bytesD_length s
 have w32 : IntKind.u32.wrap (c : Int) = c := by unfold vrune at hc; simp [IntKind.wrap, IntKind.bits]; omega
 rcases enc_cases hc with ⟨h, _⟩ | ⟨h1, h2, e⟩ | ⟨h1, h2, e⟩ | ⟨h1, h2, e⟩
 ·omega
 ·have z1 : ((c : Int) ≤ 2047) = True := eq_true (by omega)
  refine lift_unicode_utf8_appendRuneNonASCII.mcall (by kernel_rfl) rfl ?_
  simp (maxSteps := 2000000) only [go_sem, ↓reduceIte, L_unicode_utf8_appendRuneNonASCII, R_unicode_utf8_appendRuneNonASCII, w32, z1, hbl]
  have q0 : oB 192 (IntKind.u8.wrap ((c : Int).fdiv (2 ^ min 6 32))) = (192 + c / 64 : Nat) := by rw [fd6, w8, or192 _ (by omega), show c / 64 % 256 = c / 64 by omega]
  have q1 : oB 128 (a63 (IntKind.u8.wrap (c : Int))) = (128 + c % 64 : Nat) := by rw [w8, and63 _ (by omega), or128 _ (by omega), show c % 256 % 64 = c % 64 by omega]
  show _ ∧ AV.own (Lab.t 0) _ 1 (bytesD s ++ [D.int .u8 (oB 192 (IntKind.u8.wrap ((c : Int).fdiv (2 ^ min 6 32)))), D.int .u8 (oB 128 (a63 (IntKind.u8.wrap (c : Int))))]) = _
  rw [q0, q1, e, bytesD_append, bytesD_cons, bytesD_cons, bytesD_nil, ofNat_toNat (by omega), ofNat_toNat (by omega)]
  exact ⟨by omega, rfl⟩
 ·have z1 : ((c : Int) ≤ 2047) = False := eq_false (by omega)
  have z3 : ((c : Int) ≤ 65535) = True := eq_true (by omega)
  have z4 : ((c : Int) < 55296) = True ∨ ((57343 : Int) < (c : Int)) = True ∧ ((c : Int) < 55296) = False := by
   unfold vrune at hc
   rcases hc with h | h
   ·exact .inl (eq_true (by omega))
   ·exact .inr ⟨eq_true (by omega), eq_false (by omega)⟩
  rcases z4 with z2 | ⟨z2, z5⟩
  ·refine lift_unicode_utf8_appendRuneNonASCII.mcall (by kernel_rfl) rfl ?_
   simp (maxSteps := 2000000) only [go_sem, ↓reduceIte, L_unicode_utf8_appendRuneNonASCII, R_unicode_utf8_appendRuneNonASCII, w32, z1, z2, z3, hbl]
   have q0 : oB 224 (IntKind.u8.wrap ((c : Int).fdiv (2 ^ min 12 32))) = (224 + c / 4096 : Nat) := by rw [fd12, w8, or224 _ (by omega), show c / 4096 % 256 = c / 4096 by omega]
   have q1 : oB 128 (a63 (IntKind.u8.wrap ((c : Int).fdiv (2 ^ min 6 32)))) = (128 + c / 64 % 64 : Nat) := by rw [fd6, w8, and63 _ (by omega), or128 _ (by omega), show c / 64 % 256 % 64 = c / 64 % 64 by omega]
   have q2 : oB 128 (a63 (IntKind.u8.wrap (c : Int))) = (128 + c % 64 : Nat) := by rw [w8, and63 _ (by omega), or128 _ (by omega), show c % 256 % 64 = c % 64 by omega]
   show _ ∧ AV.own (Lab.t 0) _ 1 (bytesD s ++ [D.int .u8 (oB 224 (IntKind.u8.wrap ((c : Int).fdiv (2 ^ min 12 32)))), D.int .u8 (oB 128 (a63 (IntKind.u8.wrap ((c : Int).fdiv (2 ^ min 6 32))))), D.int .u8 (oB 128 (a63 (IntKind.u8.wrap (c : Int))))]) = _
   rw [q0, q1, q2, e, bytesD_append, bytesD_cons, bytesD_cons, bytesD_cons, bytesD_nil, ofNat_toNat (by omega), ofNat_toNat (by omega), ofNat_toNat (by omega)]
   exact ⟨by omega, rfl⟩
  ·refine lift_unicode_utf8_appendRuneNonASCII.mcall (by kernel_rfl) rfl ?_
   simp (maxSteps := 2000000) only [go_sem, ↓reduceIte, L_unicode_utf8_appendRuneNonASCII, R_unicode_utf8_appendRuneNonASCII, w32, z1, z2, z3, z5, hbl]
   have q0 : oB 224 (IntKind.u8.wrap ((c : Int).fdiv (2 ^ min 12 32))) = (224 + c / 4096 : Nat) := by rw [fd12, w8, or224 _ (by omega), show c / 4096 % 256 = c / 4096 by omega]
   have q1 : oB 128 (a63 (IntKind.u8.wrap ((c : Int).fdiv (2 ^ min 6 32)))) = (128 + c / 64 % 64 : Nat) := by rw [fd6, w8, and63 _ (by omega), or128 _ (by omega), show c / 64 % 256 % 64 = c / 64 % 64 by omega]
   have q2 : oB 128 (a63 (IntKind.u8.wrap (c : Int))) = (128 + c % 64 : Nat) := by rw [w8, and63 _ (by omega), or128 _ (by omega), show c % 256 % 64 = c % 64 by omega]
   show _ ∧ AV.own (Lab.t 0) _ 1 (bytesD s ++ [D.int .u8 (oB 224 (IntKind.u8.wrap ((c : Int).fdiv (2 ^ min 12 32)))), D.int .u8 (oB 128 (a63 (IntKind.u8.wrap ((c : Int).fdiv (2 ^ min 6 32))))), D.int .u8 (oB 128 (a63 (IntKind.u8.wrap (c : Int))))]) = _
   rw [q0, q1, q2, e, bytesD_append, bytesD_cons, bytesD_cons, bytesD_cons, bytesD_nil, ofNat_toNat (by omega), ofNat_toNat (by omega), ofNat_toNat (by omega)]
   exact ⟨by omega, rfl⟩
 ·have z1 : ((c : Int) ≤ 2047) = False := eq_false (by omega)
  have z2 : ((c : Int) < 55296) = False := eq_false (by omega)
  have z3 : ((c : Int) ≤ 65535) = False := eq_false (by omega)
  have z4 : ((57343 : Int) < (c : Int)) = True := eq_true (by omega)
  have z5 : ((65535 : Int) < (c : Int)) = True := eq_true (by omega)
  have z6 : ((c : Int) ≤ 1114111) = True := eq_true (by omega)
  refine lift_unicode_utf8_appendRuneNonASCII.mcall (by kernel_rfl) rfl ?_
  simp (maxSteps := 2000000) only [go_sem, ↓reduceIte, L_unicode_utf8_appendRuneNonASCII, R_unicode_utf8_appendRuneNonASCII, w32, z1, z2, z3, z4, z5, z6, hbl]
  have q0 : oB 240 (IntKind.u8.wrap ((c : Int).fdiv (2 ^ min 18 32))) = (240 + c / 262144 : Nat) := by rw [fd18, w8, or240 _ (by omega), show c / 262144 % 256 = c / 262144 by omega]
  have q1 : oB 128 (a63 (IntKind.u8.wrap ((c : Int).fdiv (2 ^ min 12 32)))) = (128 + c / 4096 % 64 : Nat) := by rw [fd12, w8, and63 _ (by omega), or128 _ (by omega), show c / 4096 % 256 % 64 = c / 4096 % 64 by omega]
  have q2 : oB 128 (a63 (IntKind.u8.wrap ((c : Int).fdiv (2 ^ min 6 32)))) = (128 + c / 64 % 64 : Nat) := by rw [fd6, w8, and63 _ (by omega), or128 _ (by omega), show c / 64 % 256 % 64 = c / 64 % 64 by omega]
  have q3 : oB 128 (a63 (IntKind.u8.wrap (c : Int))) = (128 + c % 64 : Nat) := by rw [w8, and63 _ (by omega), or128 _ (by omega), show c % 256 % 64 = c % 64 by omega]
  show _ ∧ AV.own (Lab.t 0) _ 1 (bytesD s ++ [D.int .u8 (oB 240 (IntKind.u8.wrap ((c : Int).fdiv (2 ^ min 18 32)))), D.int .u8 (oB 128 (a63 (IntKind.u8.wrap ((c : Int).fdiv (2 ^ min 12 32))))), D.int .u8 (oB 128 (a63 (IntKind.u8.wrap ((c : Int).fdiv (2 ^ min 6 32))))), D.int .u8 (oB 128 (a63 (IntKind.u8.wrap (c : Int))))]) = _
  rw [q0, q1, q2, q3, e, bytesD_append, bytesD_cons, bytesD_cons, bytesD_cons, bytesD_cons, bytesD_nil, ofNat_toNat (by omega), ofNat_toNat (by omega), ofNat_toNat (by omega), ofNat_toNat (by omega)]
  exact ⟨by omega, rfl⟩
theorem appendRune {c : Nat} (hc : vrune c) (s : List UInt8) (hs : s.length ≤ 1000000000) : MCallE Tryd.prog 87 [.own (.t 0) 5 1 (bytesD s), .d (.int .i32 c)] [] (.own (.t 0) 5 1 (bytesD (s ++ enc c))) [] := by
 have hbl := bytesD_length s
 have w32 : IntKind.u32.wrap (c : Int) = c := by unfold vrune at hc; simp [IntKind.wrap, IntKind.bits]; omega
 by_cases h : c < 128
 ·have z1 : ((c : Int) ≤ 127) = True := eq_true (by omega)
  have e : enc c = [UInt8.ofNat c] := by
   rcases enc_cases hc with ⟨_, e⟩ | ⟨h1, _⟩ | ⟨h1, _⟩ | ⟨h1, _⟩
   ·exact e
   ·omega
   ·omega
   ·omega
  refine lift_unicode_utf8_AppendRune.mcall (by kernel_rfl) rfl ?_
  simp (maxSteps := 2000000) only [go_sem, ↓reduceIte, L_unicode_utf8_AppendRune, R_unicode_utf8_AppendRune, w32, z1, hbl]
  rw [w8, e, bytesD_append, bytesD_cons, bytesD_nil, ofNat_toNat (by omega), show c % 256 = c by omega]
  exact ⟨by omega, rfl⟩
 ·have z1 : ((c : Int) ≤ 127) = False := eq_false (by omega)
  refine lift_unicode_utf8_AppendRune.mcall (by kernel_rfl) rfl ?_
  simp (maxSteps := 2000000) only [go_sem, ↓reduceIte, L_unicode_utf8_AppendRune, R_unicode_utf8_AppendRune, w32, z1, hbl]
  refine CallG.cstep (CStep.mcall [] [(0, .t 0)] (appendNon hc (by omega) s hs) rfl rfl trivial rfl rfl rfl (fun r hs' hr _ => ?_))
  obtain ⟨e1, e2⟩ := hr
  subst e1
  subst e2
  refine ⟨⟨rfl, rfl⟩, ?_⟩
  simp (maxSteps := 2000000) only [go_sem, ↓reduceIte]
theorem appendNon0 {c : Nat} (hc : vrune c) (hc2 : 128 ≤ c) : MCallE Tryd.prog 91 [.ns, .d (.int .i32 c)] [] (.own (.t 0) 5 1 (bytesD (enc c))) [] := by
 have w32 : IntKind.u32.wrap (c : Int) = c := by unfold vrune at hc; simp [IntKind.wrap, IntKind.bits]; omega
 rcases enc_cases hc with ⟨h, _⟩ | ⟨h1, h2, e⟩ | ⟨h1, h2, e⟩ | ⟨h1, h2, e⟩
 ·omega
 ·have z1 : ((c : Int) ≤ 2047) = True := eq_true (by omega)
  refine lift_unicode_utf8_appendRuneNonASCII.mcall (by kernel_rfl) rfl ?_
  simp (maxSteps := 2000000) only [go_sem, ↓reduceIte, L_unicode_utf8_appendRuneNonASCII, R_unicode_utf8_appendRuneNonASCII, w32, z1]
  have q0 : oB 192 (IntKind.u8.wrap ((c : Int).fdiv (2 ^ min 6 32))) = (192 + c / 64 : Nat) := by rw [fd6, w8, or192 _ (by omega), show c / 64 % 256 = c / 64 by omega]
  have q1 : oB 128 (a63 (IntKind.u8.wrap (c : Int))) = (128 + c % 64 : Nat) := by rw [w8, and63 _ (by omega), or128 _ (by omega), show c % 256 % 64 = c % 64 by omega]
  show AV.own (Lab.t 0) _ 1 ([D.int .u8 (oB 192 (IntKind.u8.wrap ((c : Int).fdiv (2 ^ min 6 32)))), D.int .u8 (oB 128 (a63 (IntKind.u8.wrap (c : Int))))]) = _
  rw [q0, q1, e, bytesD_cons, bytesD_cons, bytesD_nil, ofNat_toNat (by omega), ofNat_toNat (by omega)]
 ·have z1 : ((c : Int) ≤ 2047) = False := eq_false (by omega)
  have z3 : ((c : Int) ≤ 65535) = True := eq_true (by omega)
  have z4 : ((c : Int) < 55296) = True ∨ ((57343 : Int) < (c : Int)) = True ∧ ((c : Int) < 55296) = False := by
   unfold vrune at hc
   rcases hc with h | h
   ·exact .inl (eq_true (by omega))
   ·exact .inr ⟨eq_true (by omega), eq_false (by omega)⟩
  rcases z4 with z2 | ⟨z2, z5⟩
  ·refine lift_unicode_utf8_appendRuneNonASCII.mcall (by kernel_rfl) rfl ?_
   simp (maxSteps := 2000000) only [go_sem, ↓reduceIte, L_unicode_utf8_appendRuneNonASCII, R_unicode_utf8_appendRuneNonASCII, w32, z1, z2, z3]
   have q0 : oB 224 (IntKind.u8.wrap ((c : Int).fdiv (2 ^ min 12 32))) = (224 + c / 4096 : Nat) := by rw [fd12, w8, or224 _ (by omega), show c / 4096 % 256 = c / 4096 by omega]
   have q1 : oB 128 (a63 (IntKind.u8.wrap ((c : Int).fdiv (2 ^ min 6 32)))) = (128 + c / 64 % 64 : Nat) := by rw [fd6, w8, and63 _ (by omega), or128 _ (by omega), show c / 64 % 256 % 64 = c / 64 % 64 by omega]
   have q2 : oB 128 (a63 (IntKind.u8.wrap (c : Int))) = (128 + c % 64 : Nat) := by rw [w8, and63 _ (by omega), or128 _ (by omega), show c % 256 % 64 = c % 64 by omega]
   show AV.own (Lab.t 0) _ 1 ([D.int .u8 (oB 224 (IntKind.u8.wrap ((c : Int).fdiv (2 ^ min 12 32)))), D.int .u8 (oB 128 (a63 (IntKind.u8.wrap ((c : Int).fdiv (2 ^ min 6 32))))), D.int .u8 (oB 128 (a63 (IntKind.u8.wrap (c : Int))))]) = _
   rw [q0, q1, q2, e, bytesD_cons, bytesD_cons, bytesD_cons, bytesD_nil, ofNat_toNat (by omega), ofNat_toNat (by omega), ofNat_toNat (by omega)]
  ·refine lift_unicode_utf8_appendRuneNonASCII.mcall (by kernel_rfl) rfl ?_
   simp (maxSteps := 2000000) only [go_sem, ↓reduceIte, L_unicode_utf8_appendRuneNonASCII, R_unicode_utf8_appendRuneNonASCII, w32, z1, z2, z3, z5]
   have q0 : oB 224 (IntKind.u8.wrap ((c : Int).fdiv (2 ^ min 12 32))) = (224 + c / 4096 : Nat) := by rw [fd12, w8, or224 _ (by omega), show c / 4096 % 256 = c / 4096 by omega]
   have q1 : oB 128 (a63 (IntKind.u8.wrap ((c : Int).fdiv (2 ^ min 6 32)))) = (128 + c / 64 % 64 : Nat) := by rw [fd6, w8, and63 _ (by omega), or128 _ (by omega), show c / 64 % 256 % 64 = c / 64 % 64 by omega]
   have q2 : oB 128 (a63 (IntKind.u8.wrap (c : Int))) = (128 + c % 64 : Nat) := by rw [w8, and63 _ (by omega), or128 _ (by omega), show c % 256 % 64 = c % 64 by omega]
   show AV.own (Lab.t 0) _ 1 ([D.int .u8 (oB 224 (IntKind.u8.wrap ((c : Int).fdiv (2 ^ min 12 32)))), D.int .u8 (oB 128 (a63 (IntKind.u8.wrap ((c : Int).fdiv (2 ^ min 6 32))))), D.int .u8 (oB 128 (a63 (IntKind.u8.wrap (c : Int))))]) = _
   rw [q0, q1, q2, e, bytesD_cons, bytesD_cons, bytesD_cons, bytesD_nil, ofNat_toNat (by omega), ofNat_toNat (by omega), ofNat_toNat (by omega)]
 ·have z1 : ((c : Int) ≤ 2047) = False := eq_false (by omega)
  have z2 : ((c : Int) < 55296) = False := eq_false (by omega)
  have z3 : ((c : Int) ≤ 65535) = False := eq_false (by omega)
  have z4 : ((57343 : Int) < (c : Int)) = True := eq_true (by omega)
  have z5 : ((65535 : Int) < (c : Int)) = True := eq_true (by omega)
  have z6 : ((c : Int) ≤ 1114111) = True := eq_true (by omega)
  refine lift_unicode_utf8_appendRuneNonASCII.mcall (by kernel_rfl) rfl ?_
  simp (maxSteps := 2000000) only [go_sem, ↓reduceIte, L_unicode_utf8_appendRuneNonASCII, R_unicode_utf8_appendRuneNonASCII, w32, z1, z2, z3, z4, z5, z6]
  have q0 : oB 240 (IntKind.u8.wrap ((c : Int).fdiv (2 ^ min 18 32))) = (240 + c / 262144 : Nat) := by rw [fd18, w8, or240 _ (by omega), show c / 262144 % 256 = c / 262144 by omega]
  have q1 : oB 128 (a63 (IntKind.u8.wrap ((c : Int).fdiv (2 ^ min 12 32)))) = (128 + c / 4096 % 64 : Nat) := by rw [fd12, w8, and63 _ (by omega), or128 _ (by omega), show c / 4096 % 256 % 64 = c / 4096 % 64 by omega]
  have q2 : oB 128 (a63 (IntKind.u8.wrap ((c : Int).fdiv (2 ^ min 6 32)))) = (128 + c / 64 % 64 : Nat) := by rw [fd6, w8, and63 _ (by omega), or128 _ (by omega), show c / 64 % 256 % 64 = c / 64 % 64 by omega]
  have q3 : oB 128 (a63 (IntKind.u8.wrap (c : Int))) = (128 + c % 64 : Nat) := by rw [w8, and63 _ (by omega), or128 _ (by omega), show c % 256 % 64 = c % 64 by omega]
  show AV.own (Lab.t 0) _ 1 ([D.int .u8 (oB 240 (IntKind.u8.wrap ((c : Int).fdiv (2 ^ min 18 32)))), D.int .u8 (oB 128 (a63 (IntKind.u8.wrap ((c : Int).fdiv (2 ^ min 12 32))))), D.int .u8 (oB 128 (a63 (IntKind.u8.wrap ((c : Int).fdiv (2 ^ min 6 32))))), D.int .u8 (oB 128 (a63 (IntKind.u8.wrap (c : Int))))]) = _
  rw [q0, q1, q2, q3, e, bytesD_cons, bytesD_cons, bytesD_cons, bytesD_cons, bytesD_nil, ofNat_toNat (by omega), ofNat_toNat (by omega), ofNat_toNat (by omega), ofNat_toNat (by omega)]
theorem appendRune0 {c : Nat} (hc : vrune c) : MCallE Tryd.prog 87 [.ns, .d (.int .i32 c)] [] (.own (.t 0) 5 1 (bytesD (enc c))) [] := by
 have w32 : IntKind.u32.wrap (c : Int) = c := by unfold vrune at hc; simp [IntKind.wrap, IntKind.bits]; omega
 by_cases h : c < 128
 ·have z1 : ((c : Int) ≤ 127) = True := eq_true (by omega)
  have e : enc c = [UInt8.ofNat c] := by
   rcases enc_cases hc with ⟨_, e⟩ | ⟨h1, _⟩ | ⟨h1, _⟩ | ⟨h1, _⟩
   ·exact e
   ·omega
   ·omega
   ·omega
  refine lift_unicode_utf8_AppendRune.mcall (by kernel_rfl) rfl ?_
  simp (maxSteps := 2000000) only [go_sem, ↓reduceIte, L_unicode_utf8_AppendRune, R_unicode_utf8_AppendRune, w32, z1]
  rw [w8, e, bytesD_cons, bytesD_nil, ofNat_toNat (by omega), show c % 256 = c by omega]
 ·have z1 : ((c : Int) ≤ 127) = False := eq_false (by omega)
  refine lift_unicode_utf8_AppendRune.mcall (by kernel_rfl) rfl ?_
  simp (maxSteps := 2000000) only [go_sem, ↓reduceIte, L_unicode_utf8_AppendRune, R_unicode_utf8_AppendRune, w32, z1]
  refine CallG.cstep (CStep.mcall [] [] (appendNon0 hc (by omega)) rfl rfl trivial rfl rfl rfl (fun r hs' hr _ => ?_))
  obtain ⟨e1, e2⟩ := hr
  subst e1
  subst e2
  refine ⟨⟨rfl, rfl⟩, ?_⟩
  simp (maxSteps := 2000000) only [go_sem, ↓reduceIte]
def L___strings_Builder__WriteRune : LCode :=
 .seq (.reg [Qx 4 (Ki 0), Qx 5 (.k (.d .nil))]) (.seq (.reg [Qc 7 0, ⟨some 8, .prim .call [.k (.fn (.func 67) [] []), .t 7] [], none⟩]) (.seq (.reg [Qc 9 0, Q 10 (.nck (.t 9)), Q 11 
 (.fa 1 (.t 10)), Q 12 (.ld false 1 (.t 11)), Q 13 (.len false (.t 12)), Qa 6 13]) (.seq (.reg [Qc 14 0, Qc 15 0, Q 16 (.nck (.t 15)), Q 17 (.fa 1 (.t 16)), Q 18 (.ld false 1 (.t 
 17)), Qc 19 1, ⟨some 20, .call 87 [.t 18, .t 19], none⟩, Q 21 (.nck (.t 14)), Q 22 (.fa 1 (.t 21)), ⟨none, .st 1 (.t 22) (.t 20), none⟩]) (.seq (.reg [Qc 23 0, Q 24 (.nck (.t 
 23)), Q 25 (.fa 1 (.t 24)), Q 26 (.ld false 1 (.t 25)), Q 27 (.len false (.t 26)), Qc 28 6, Q 29 (.bin .sub (.t 27) (.t 28)), Qa 4 29, Qx 5 (.k (.d .nil))]) .ret))))
def R___strings_Builder__WriteRune : List LRes := [.tmp 4, .tmp 5]
theorem lift___strings_Builder__WriteRune : Lifts Tryd.prog 78 30 L___strings_Builder__WriteRune R___strings_Builder__WriteRune := ⟨_, _, Tryd.func78, rfl, by kernel_rfl, by kernel_rfl, rfl⟩
theorem writeRune_call (b : Bld) {c : Nat} (hc : vrune c) (hl : b.bytes.length ≤ 1000000000) : MCallE Tryd.prog 78 [.ptr (.x 0) 0, .d (.int .i32 c)] [b.obj] (.tuple [.d (.int .i64 (enc c).length), .d .nil]) [Bld.obj (.has (b.bytes ++ enc c))] := by
 have hel := (enc_len hc).2.1
 have hbe := bytesD_length (enc c)
 cases b with
 | new =>
  refine lift___strings_Builder__WriteRune.mcall (by kernel_rfl) rfl ?_
  simp (maxSteps := 2000000) only [go_sem, ↓reduceIte, L___strings_Builder__WriteRune, R___strings_Builder__WriteRune, AV.den, Bld.obj]
  refine PrimG.mc1 (.x 0) rfl (copyCheck_new) rfl rfl rfl rfl ⟨rfl, rfl⟩ ?_
  simp (maxSteps := 2000000) only [go_sem, ↓reduceIte, Bld.bytes, AV.den]
  refine CallG.cstep (CStep.mcall [] [] (appendRune0 hc) rfl rfl trivial rfl rfl rfl (fun r hs' hr _ => ?_))
  obtain ⟨e1, e2⟩ := hr
  subst e1
  subst e2
  refine ⟨⟨rfl, rfl⟩, ?_⟩
  simp (maxSteps := 2000000) (disch := omega) only [go_sem, ↓reduceIte, Bld.bytes, AV.den, hbe]
  rw [Int.sub_zero]
 | nul =>
  refine lift___strings_Builder__WriteRune.mcall (by kernel_rfl) rfl ?_
  simp (maxSteps := 2000000) only [go_sem, ↓reduceIte, L___strings_Builder__WriteRune, R___strings_Builder__WriteRune, AV.den, Bld.obj]
  refine PrimG.mc1 (.x 0) rfl (copyCheck_used _ (.inl rfl)) rfl rfl rfl rfl ⟨rfl, rfl⟩ ?_
  simp (maxSteps := 2000000) only [go_sem, ↓reduceIte, Bld.bytes, AV.den]
  refine CallG.cstep (CStep.mcall [] [] (appendRune0 hc) rfl rfl trivial rfl rfl rfl (fun r hs' hr _ => ?_))
  obtain ⟨e1, e2⟩ := hr
  subst e1
  subst e2
  refine ⟨⟨rfl, rfl⟩, ?_⟩
  simp (maxSteps := 2000000) (disch := omega) only [go_sem, ↓reduceIte, Bld.bytes, AV.den, hbe]
  rw [Int.sub_zero]
 | has s =>
  have hbs := bytesD_length s
  refine lift___strings_Builder__WriteRune.mcall (by kernel_rfl) rfl ?_
  simp (maxSteps := 2000000) only [go_sem, ↓reduceIte, L___strings_Builder__WriteRune, R___strings_Builder__WriteRune, AV.den, Bld.obj]
  refine PrimG.mc1 (.x 0) rfl (copyCheck_used _ (.inr ⟨s, rfl⟩)) rfl rfl rfl rfl ⟨rfl, rfl⟩ ?_
  simp only [Bld.bytes] at hl
  simp (maxSteps := 2000000) only [go_sem, ↓reduceIte, Bld.bytes, AV.den]
  refine CallG.cstep (CStep.mcall [] [(0, .c (.x 0) 1)] (appendRune hc s hl) rfl rfl trivial rfl rfl rfl (fun r hs' hr _ => ?_))
  obtain ⟨e1, e2⟩ := hr
  subst e1
  subst e2
  refine ⟨⟨rfl, rfl⟩, ?_⟩
  have hbse := bytesD_length (s ++ enc c)
  rw [List.length_append] at hbse
  simp (maxSteps := 2000000) (disch := omega) only [go_sem, ↓reduceIte, Bld.bytes, AV.den, hbe, hbse, hbs]
  rw [show (((s.length + (enc c).length : Nat) : Int) - s.length) = ((enc c).length : Int) by omega]
end Go.Av.Tryd
