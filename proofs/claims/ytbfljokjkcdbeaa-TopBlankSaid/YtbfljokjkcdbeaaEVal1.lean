import Derived.Test.YtbfljokjkcdbeaaDBase
import Derived.Test.YtbfljokjkcdbeaaAvF
import Derived.Lib.Bytealg
import Derived.Lib.UnsafeStr
/- The library's searches in strings; names of values. -/
set_option linter.unusedSimpArgs false
namespace Go.Av.Try
open Go.Proofs

theorem indexByte_none {l : List UInt8} {c : UInt8} : Lib.indexByte l c = -1 ↔ c ∉ l := by
  induction l with
  | nil => simp [Lib.indexByte]
  | cons b l ih =>
    have hge := Lib.indexByte_ge l c
    simp only [Lib.indexByte, List.mem_cons, not_or]
    by_cases h : b = c
    · simp [h]
    · rw [if_neg (by simpa using h)]
      by_cases h2 : Lib.indexByte l c = -1
      · rw [if_pos (by simpa using h2)]
        simp only [true_iff]
        exact ⟨fun e => h e.symm, ih.1 h2⟩
      · rw [if_neg (by simpa using h2)]
        constructor
        · intro e; omega
        · intro e; exact absurd (ih.2 e.2) h2

theorem indexByte_mem {l : List UInt8} {c : UInt8} : (0 ≤ Lib.indexByte l c) ↔ c ∈ l := by
  have h := indexByte_none (l := l) (c := c)
  have hge := Lib.indexByte_ge l c
  constructor
  · intro h1
    by_cases hc : c ∈ l
    · exact hc
    · have := h.2 hc; omega
  · intro h1
    by_cases hc : Lib.indexByte l c = -1
    · exact absurd h1 (h.1 hc)
    · omega

/-- internal/stringslite.IndexByte -/
def L_internal_stringslite_IndexByte : LCode :=
  .seq (.reg [⟨some 4, .asg (.k (.d (.int .i64 0))), none⟩]) (.seq (.reg [⟨some 5, .val (.cp (.t 0)), none⟩, ⟨some 6, .val (.cp (.t 1)), none⟩, ⟨some 7, .prim .call [.k (.fn (.func 
  119) [] []), .t 5, .t 6] [], none⟩, ⟨some 4, .asg (.t 7), none⟩]) .ret)
def R_internal_stringslite_IndexByte : List LRes := [.tmp 4]
theorem lift_internal_stringslite_IndexByte : Lifts Try.prog 110 8 L_internal_stringslite_IndexByte R_internal_stringslite_IndexByte := ⟨_, _, Try.func110, rfl, by kernel_rfl, by kernel_rfl, rfl⟩

theorem liteIndexByte_call (s : List UInt8) (c : UInt8) : PCall Try.prog 110 [.str s, .int .u8 c.toNat] (fun r => r = .one (.int .i64 (Lib.indexByte s c))) := by
  refine lift_internal_stringslite_IndexByte.call rfl ?_
  simp (maxSteps := 2000000) only [go_sem, ↓reduceIte, L_internal_stringslite_IndexByte, R_internal_stringslite_IndexByte]
  refine PrimG.entry Try.func119 (by kernel_rfl) (by kernel_rfl) (by kernel_rfl) (e := Extern.BytealgIndexByte.indexByte) (by kernel_rfl) (.d (.int .i64 (Lib.indexByte s c))) (fun G w vs hl hv => ?_) ?_
  · match vs, hl with
    | [v, u], _ =>
      have h0 : AVR G w (.d (.str s)) v := hv 0 _ rfl
      have h1 : AVR G w (.d (.int .u8 c.toNat)) u := hv 1 _ rfl
      have h0 := h0.dinv
      have h1 := h1.dinv
      cases h0; cases h1
      refine ⟨_, Lib.run_indexByteString _ _ w, ?_⟩
      have e : (((c.toNat : Int).toNat).toUInt8) = c := by simp
      rw [e]
      exact .d _ _ (.int _ _)
  simp (maxSteps := 2000000) only [go_sem, ↓reduceIte]

/-- strings.IndexByte -/
def L_strings_IndexByte : LCode :=
  .seq (.reg [⟨some 4, .asg (.k (.d (.int .i64 0))), none⟩]) (.seq (.reg [⟨some 5, .val (.cp (.t 0)), none⟩, ⟨some 6, .val (.cp (.t 1)), none⟩, ⟨some 7, .call 110 [.t 5, .t 6], 
  none⟩, ⟨some 4, .asg (.t 7), none⟩]) .ret)
def R_strings_IndexByte : List LRes := [.tmp 4]
theorem lift_strings_IndexByte : Lifts Try.prog 98 8 L_strings_IndexByte R_strings_IndexByte := ⟨_, _, Try.func98, rfl, by kernel_rfl, by kernel_rfl, rfl⟩

theorem indexByte_call (s : List UInt8) (c : UInt8) : PCall Try.prog 98 [.str s, .int .u8 c.toNat] (fun r => r = .one (.int .i64 (Lib.indexByte s c))) := by
  refine lift_strings_IndexByte.call rfl ?_
  simp (maxSteps := 2000000) only [go_sem, ↓reduceIte, L_strings_IndexByte, R_strings_IndexByte]
  refine CallG.of (liteIndexByte_call s c) ?_
  simp (maxSteps := 2000000) only [go_sem, ↓reduceIte]

/-- strings.IndexRune -/
def L_strings_IndexRune : LCode :=
  .seq (.reg [⟨some 4, .asg (.k (.d (.int .i64 0))), none⟩]) (.block 0 (.seq (.reg [⟨some 161, .val (.cp (.t 1)), none⟩, ⟨some 162, .val (.bin .leq (.k (.d (.int .i32 0))) (.t 161)), 
  none⟩, ⟨some 163, .val (.cp (.t 162)), none⟩, ⟨some 164, .val (.cp (.t 1)), some (163, true)⟩, ⟨some 165, .val (.bin .lss (.t 164) (.k (.d (.int .i32 128)))), some (163, true)⟩, 
  ⟨some 166, .val (.pick (.t 163) (.t 165) (.k (.d (.bool false)))), none⟩, ⟨some 160, .asg (.t 166), none⟩]) (.cond (.t 160) (.seq (.reg [⟨some 167, .val (.cp (.t 0)), none⟩, 
  ⟨some 168, .val (.cp (.t 1)), none⟩, ⟨some 169, .val (.cvI .u8 (.t 168)), none⟩, ⟨some 170, .call 98 [.t 167, .t 169], none⟩, ⟨some 4, .asg (.t 170), none⟩]) .ret) (.seq (.reg 
  [⟨some 172, .val (.cp (.t 1)), none⟩, ⟨some 173, .val (.bin .eql (.t 172) (.k (.d (.int .i32 65533)))), none⟩, ⟨some 171, .asg (.t 173), none⟩]) (.cond (.t 171) (.seq (.seq (.reg 
  [⟨some 174, .val (.cp (.t 0)), none⟩, ⟨some 175, .prim (.range 9) [.t 174] [], none⟩]) (.block 9 (.loop (.seq (.reg [⟨some 176, .prim (.next true 0) [.t 175] [], none⟩, ⟨some 
  177, .val (.ext 0 (.t 176)), none⟩]) (.seq (.cond (.t 177) .skip (.exit 9)) (.block 10 (.seq (.reg [⟨some 178, .val (.ext 1 (.t 176)), none⟩, ⟨some 179, .val (.ext 2 (.t 176)), 
  none⟩, ⟨some 5, .asg (.t 178), none⟩, ⟨some 6, .asg (.t 179), none⟩]) (.seq (.reg [⟨some 180, .val (.cp (.t 6)), none⟩, ⟨some 181, .val (.bin .eql (.t 180) (.k (.d (.int .i32 
  65533)))), none⟩]) (.cond (.t 181) (.seq (.reg [⟨some 182, .val (.cp (.t 5)), none⟩, ⟨some 4, .asg (.t 182), none⟩]) .ret) .skip))))))))) (.seq (.reg [⟨some 4, .asg (.k (.d (.int 
  .i64 (-1)))), none⟩]) .ret)) (.seq (.reg [⟨some 184, .val (.cp (.t 1)), none⟩, ⟨some 185, .call 118 [.t 184], none⟩, ⟨some 186, .val (.not (.t 185)), none⟩, ⟨some 183, .asg (.t 
  186), none⟩]) (.cond (.t 183) (.seq (.reg [⟨some 4, .asg (.k (.d (.int .i64 (-1)))), none⟩]) .ret) .bad)))))))
def R_strings_IndexRune : List LRes := [.tmp 4]
theorem lift_strings_IndexRune : Lifts Try.prog 109 187 L_strings_IndexRune R_strings_IndexRune := ⟨_, _, Try.func109, rfl, by kernel_rfl, by kernel_rfl, rfl⟩

theorem indexRune_call (s : List UInt8) (c : UInt8) (hc : c.toNat < 128) : PCall Try.prog 109 [.str s, .int .i32 c.toNat] (fun r => r = .one (.int .i64 (Lib.indexByte s c))) := by
  refine lift_strings_IndexRune.call rfl ?_
  simp (maxSteps := 2000000) only [go_sem, ↓reduceIte, L_strings_IndexRune, R_strings_IndexRune]
  refine ⟨fun _ => ⟨fun _ => ?_, fun h => ?_⟩, fun h => ?_⟩
  · simp (disch := omega) only [IntWalk.i64_in, IntWalk.u8_in]
    refine CallG.of (indexByte_call s c) ?_
    simp (maxSteps := 2000000) only [go_sem, ↓reduceIte]
  · exfalso; omega
  · exfalso; omega

/-- strings.ContainsRune -/
def L_strings_ContainsRune : LCode :=
  .seq (.reg [⟨some 4, .asg (.k (.d (.bool false))), none⟩]) (.seq (.reg [⟨some 5, .val (.cp (.t 0)), none⟩, ⟨some 6, .val (.cp (.t 1)), none⟩, ⟨some 7, .call 109 [.t 5, .t 6], 
  none⟩, ⟨some 8, .val (.bin .geq (.t 7) (.k (.d (.int .i64 0)))), none⟩, ⟨some 4, .asg (.t 8), none⟩]) .ret)
def R_strings_ContainsRune : List LRes := [.tmp 4]
theorem lift_strings_ContainsRune : Lifts Try.prog 97 9 L_strings_ContainsRune R_strings_ContainsRune := ⟨_, _, Try.func97, rfl, by kernel_rfl, by kernel_rfl, rfl⟩

theorem containsRune_call (s : List UInt8) (c : UInt8) (hc : c.toNat < 128) : PCall Try.prog 97 [.str s, .int .i32 c.toNat] (fun r => r = .one (.bool (decide (c ∈ s)))) := by
  refine lift_strings_ContainsRune.call rfl ?_
  simp (maxSteps := 2000000) only [go_sem, ↓reduceIte, L_strings_ContainsRune, R_strings_ContainsRune]
  refine CallG.of (indexRune_call s c hc) ?_
  simp (maxSteps := 2000000) only [go_sem, ↓reduceIte]
  congr 2
  simp only [indexByte_mem]

/-- What may be a name. -/
def nameMay (s : List UInt8) : Bool := decide (s ≠ []) && (decide (s.length ≤ 200) && !decide ((0 : UInt8) ∈ s))

/-- value.NameMay -/
def L_value_NameMay : LCode :=
  .seq (.reg [⟨some 2, .asg (.k (.d (.bool false))), none⟩]) (.seq (.reg [⟨some 3, .val (.cp (.t 0)), none⟩, ⟨some 4, .val (.bin .neq (.t 3) (.k (.d (.str [])))), none⟩, ⟨some 5, 
  .val (.cp (.t 4)), none⟩, ⟨some 6, .val (.cp (.t 0)), some (5, true)⟩, ⟨some 7, .val (.len true (.t 6)), some (5, true)⟩, ⟨some 8, .val (.bin .leq (.t 7) (.k (.d (.int .i64 
  200)))), some (5, true)⟩, ⟨some 9, .val (.pick (.t 5) (.t 8) (.k (.d (.bool false)))), none⟩, ⟨some 10, .val (.cp (.t 9)), none⟩, ⟨some 11, .val (.cp (.t 0)), some (10, true)⟩, 
  ⟨some 12, .call 97 [.t 11, .k (.d (.int .i32 0))], some (10, true)⟩, ⟨some 13, .val (.not (.t 12)), some (10, true)⟩, ⟨some 14, .val (.pick (.t 10) (.t 13) (.k (.d (.bool 
  false)))), none⟩, ⟨some 2, .asg (.t 14), none⟩]) .ret)
def R_value_NameMay : List LRes := [.tmp 2]
theorem lift_value_NameMay : Lifts Try.prog 81 15 L_value_NameMay R_value_NameMay := ⟨_, _, Try.func81, rfl, by kernel_rfl, by kernel_rfl, rfl⟩

theorem nameMay_call (s : List UInt8) : PCall Try.prog 81 [.str s] (fun r => r = .one (.bool (nameMay s))) := by
  refine lift_value_NameMay.call rfl ?_
  simp (maxSteps := 2000000) only [go_sem, ↓reduceIte, L_value_NameMay, R_value_NameMay]
  refine ⟨fun h1 => ⟨fun h2 => ?_, fun h2 => ?_⟩, fun h1 => ?_⟩
  · refine CallG.of (containsRune_call s 0 (by decide)) ?_
    simp (maxSteps := 2000000) only [go_sem, ↓reduceIte]
    have h3 : s.length ≤ 200 := by omega
    simp [nameMay, h1, h3]
  · have h3 : ¬ s.length ≤ 200 := by omega
    simp [nameMay, h3]
  · simp [nameMay, h1]

end Go.Av.Try
