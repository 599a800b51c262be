import Derived.Test.YtbfljokjkcdbeaaGreatDoorWa
import Derived.Shelf.Strconv.Itoa3
set_option linter.unusedSimpArgs false
namespace Go.Av.Tryz
open Go.Proofs

/-! ### Builders, wherever they lie -/
def Bld.at (r : Ref) : Bld → AObj
  | .new => .cells [.nt 59, .ns]
  | .nul => .cells [.ptr r 0, .ns]
  | .has s => .cells [.ptr r 0, .own (.c r 1) 5 1 (bytesD s)]
theorem Bld.obj_at (b : Bld) : b.obj = b.at (.x 0) := by cases b <;> rfl
theorem Bld.at_ren (b : Bld) (r : Ref) : (b.at (.x 0)).ren [r] = b.at r := by cases b <;> rfl
theorem Bld.at_wf (b : Bld) : (b.at (.x 0)).wf 1 = true := by cases b <;> rfl
theorem Bld.at_loc (b : Bld) (i : Nat) : (b.at (.x i)).noLoc = true := by cases b <;> rfl
theorem Bld.bytes_has (s : List UInt8) : Bld.bytes (.has s) = s := rfl

theorem bldCall {dst : Option Nat} {f : LX} {args : List LX} {K : St → Prop} {σ : St} {g : FuncId} {first cap : List AV} {xs : List AV} {ret : AV} (r : Ref) {b b' : Bld} (hf : σ.ev f = .fn (.func g) first cap) (hc : MCallE Tryz.prog g xs [b.at (.x 0)] ret [b'.at (.x 0)])
    (hx : passQ [] 0 (first ++ (evL σ args ++ cap)) = renL [r] xs) (hwx : wfAL [] 1 0 xs = true) (ho : σ.obj r = some (b.at r)) (hr : retOK 1 ret = true)
    (hK : K (retO (({ σ with ρ := amap (AV.unown [r]) σ.ρ } : St).setObj r (b'.at r)) dst [r] ret)) : PrimG Tryz.prog dst .call (f :: args) K σ := by
  refine PrimG.mcall [r] [] hf hc hx hwx ?_ ?_ ?_ ?_ ⟨hr, ?_⟩ ?_
  · exact ⟨by rw [Bld.at_ren]; exact ho, trivial⟩
  · show (Bld.at (.x 0) b).wf 1 && true = true
    rw [Bld.at_wf]; rfl
  · rfl
  · rfl
  · show ((Bld.at (.x 0) b').wf 1 && (isLocal r || ((Bld.at (.x 0) b').ren [r]).noLoc)) && true = true
    rw [Bld.at_wf, Bld.at_ren]
    cases r with
    | l s => rfl
    | x i => rw [Bld.at_loc]; rfl
  · show K (retO (setObjs [r] { (eraseL σ []) with ρ := amap (AV.unown [r]) (eraseL σ []).ρ } [r] [Bld.at (.x 0) b']) dst [r] ret)
    simp only [setObjs, Bld.at_ren, eraseL]
    exact hK

theorem writeString_at (b : Bld) (t : List UInt8) (hl : (b.bytes ++ t).length ≤ 1000000000) : MCallE Tryz.prog 25 [.ptr (.x 0) 0, .d (.str t)] [b.at (.x 0)] (.tuple [.d (.int .i64 t.length), .d .nil]) [Bld.at (.x 0) (.has (b.bytes ++ t))] := by
  rw [← Bld.obj_at, ← Bld.obj_at]; exact writeString_call b t hl
theorem writeByte_at (b : Bld) (c : UInt8) (hl : b.bytes.length + 1 ≤ 1000000000) : MCallE Tryz.prog 55 [.ptr (.x 0) 0, .d (.int .u8 c.toNat)] [b.at (.x 0)] (.d .nil) [Bld.at (.x 0) (.has (b.bytes ++ [c]))] := by
  rw [← Bld.obj_at, ← Bld.obj_at]; exact writeByte_call b c hl

/-! ### One byte in a string -/
/-- internal/stringslite.Index -/
def L_internal_stringslite_Index : LCode :=
  .seq (.reg [⟨some 4, .asg (.k (.d (.int .i64 0))), none⟩]) (.seq (.reg [⟨some 14, .val (.cp (.t 1)), none⟩, ⟨some 15, .val (.len true (.t 14)), none⟩, ⟨some 5, .asg (.t 15), 
  none⟩]) (.seq (.block 0 (.seq (.reg [⟨some 17, .val (.cp (.t 5)), none⟩, ⟨some 18, .val (.bin .eql (.t 17) (.k (.d (.int .i64 0)))), none⟩, ⟨some 19, .val (.cp (.t 18)), none⟩, 
  ⟨some 20, .val (.cp (.t 1)), some (19, false)⟩, ⟨some 21, .val (.cp (.t 0)), some (19, false)⟩, ⟨some 22, .val (.bin .eql (.t 20) (.t 21)), some (19, false)⟩, ⟨some 23, .val 
  (.pick (.t 19) (.k (.d (.bool true))) (.t 22)), none⟩, ⟨some 16, .asg (.t 23), none⟩]) (.cond (.t 16) (.seq (.reg [⟨some 4, .asg (.k (.d (.int .i64 0))), none⟩]) .ret) (.seq 
  (.reg [⟨some 25, .val (.cp (.t 5)), none⟩, ⟨some 26, .val (.bin .eql (.t 25) (.k (.d (.int .i64 1)))), none⟩, ⟨some 24, .asg (.t 26), none⟩]) (.cond (.t 24) (.seq (.reg [⟨some 
  27, .val (.cp (.t 0)), none⟩, ⟨some 28, .val (.cp (.t 1)), none⟩, ⟨some 29, .val (.idxS (.t 28) (.k (.d (.int .i64 0)))), none⟩, ⟨some 30, .call 114 [.t 27, .t 29], none⟩, ⟨some 
  4, .asg (.t 30), none⟩]) .ret) (.seq (.reg [⟨some 32, .val (.cp (.t 5)), none⟩, ⟨some 33, .val (.cp (.t 0)), none⟩, ⟨some 34, .val (.len true (.t 33)), none⟩, ⟨some 35, .val 
  (.bin .geq (.t 32) (.t 34)), none⟩, ⟨some 31, .asg (.t 35), none⟩]) (.cond (.t 31) (.seq (.reg [⟨some 4, .asg (.k (.d (.int .i64 (-1)))), none⟩]) .ret) (.seq .bad (.cond (.t 36) 
  (.seq (.reg [⟨some 45, .val (.cp (.t 0)), none⟩, ⟨some 46, .val (.cp (.t 1)), none⟩, ⟨some 47, .prim .call [.k (.fn (.func 118) [] []), .t 45, .t 46] [], none⟩, ⟨some 4, .asg (.t 
  47), none⟩]) .ret) .skip))))))))) (.seq (.reg [⟨some 48, .val (.cp (.t 1)), none⟩, ⟨some 49, .val (.idxS (.t 48) (.k (.d (.int .i64 0)))), none⟩, ⟨some 6, .asg (.t 49), none⟩]) 
  (.seq (.reg [⟨some 50, .val (.cp (.t 1)), none⟩, ⟨some 51, .val (.idxS (.t 50) (.k (.d (.int .i64 1)))), none⟩, ⟨some 7, .asg (.t 51), none⟩]) (.seq (.reg [⟨some 8, .asg (.k (.d 
  (.int .i64 0))), none⟩]) (.seq (.reg [⟨some 52, .val (.cp (.t 0)), none⟩, ⟨some 53, .val (.len true (.t 52)), none⟩, ⟨some 54, .val (.cp (.t 5)), none⟩, ⟨some 55, .val (.bin .sub 
  (.t 53) (.t 54)), none⟩, ⟨some 56, .val (.bin .add (.t 55) (.k (.d (.int .i64 1)))), none⟩, ⟨some 9, .asg (.t 56), none⟩]) (.seq (.reg [⟨some 10, .asg (.k (.d (.int .i64 0))), 
  none⟩]) (.seq (.block 1 (.loop (.seq (.seq (.reg [⟨some 57, .val (.cp (.t 8)), none⟩, ⟨some 58, .val (.cp (.t 9)), none⟩, ⟨some 59, .val (.bin .lss (.t 57) (.t 58)), none⟩]) 
  (.cond (.t 59) .skip (.exit 1))) (.block 2 (.seq (.seq (.reg [⟨some 60, .val (.cp (.t 0)), none⟩, ⟨some 61, .val (.cp (.t 8)), none⟩, ⟨some 62, .val (.idxS (.t 60) (.t 61)), 
  none⟩, ⟨some 63, .val (.cp (.t 6)), none⟩, ⟨some 64, .val (.bin .neq (.t 62) (.t 63)), none⟩]) (.cond (.t 64) (.seq (.reg [⟨some 65, .val (.cp (.t 0)), none⟩, ⟨some 66, .val (.cp 
  (.t 8)), none⟩, ⟨some 67, .val (.bin .add (.t 66) (.k (.d (.int .i64 1)))), none⟩, ⟨some 68, .val (.cp (.t 9)), none⟩, ⟨some 69, .val (.subS (.t 65) (some (.t 67)) (some (.t 
  68))), none⟩, ⟨some 70, .val (.cp (.t 6)), none⟩, ⟨some 71, .call 114 [.t 69, .t 70], none⟩, ⟨some 11, .asg (.t 71), none⟩]) (.seq (.seq (.reg [⟨some 72, .val (.cp (.t 11)), 
  none⟩, ⟨some 73, .val (.bin .lss (.t 72) (.k (.d (.int .i64 0)))), none⟩]) (.cond (.t 73) (.seq (.reg [⟨some 4, .asg (.k (.d (.int .i64 (-1)))), none⟩]) .ret) .skip)) (.reg 
  [⟨some 74, .val (.cp (.t 8)), none⟩, ⟨some 75, .val (.cp (.t 11)), none⟩, ⟨some 76, .val (.bin .add (.t 75) (.k (.d (.int .i64 1)))), none⟩, ⟨some 77, .val (.bin .add (.t 74) (.t 
  76)), none⟩, ⟨some 8, .asg (.t 77), none⟩]))) .skip)) (.seq (.seq (.reg [⟨some 78, .val (.cp (.t 0)), none⟩, ⟨some 79, .val (.cp (.t 8)), none⟩, ⟨some 80, .val (.bin .add (.t 79) 
  (.k (.d (.int .i64 1)))), none⟩, ⟨some 81, .val (.idxS (.t 78) (.t 80)), none⟩, ⟨some 82, .val (.cp (.t 7)), none⟩, ⟨some 83, .val (.bin .eql (.t 81) (.t 82)), none⟩, ⟨some 84, 
  .val (.cp (.t 83)), none⟩, ⟨some 85, .val (.cp (.t 0)), some (84, true)⟩, ⟨some 86, .val (.cp (.t 8)), some (84, true)⟩, ⟨some 87, .val (.cp (.t 8)), some (84, true)⟩, ⟨some 88, 
  .val (.cp (.t 5)), some (84, true)⟩, ⟨some 89, .val (.bin .add (.t 87) (.t 88)), some (84, true)⟩, ⟨some 90, .val (.subS (.t 85) (some (.t 86)) (some (.t 89))), some (84, true)⟩, 
  ⟨some 91, .val (.cp (.t 1)), some (84, true)⟩, ⟨some 92, .val (.bin .eql (.t 90) (.t 91)), some (84, true)⟩, ⟨some 93, .val (.pick (.t 84) (.t 92) (.k (.d (.bool false)))), 
  none⟩]) (.cond (.t 93) (.seq (.reg [⟨some 94, .val (.cp (.t 8)), none⟩, ⟨some 4, .asg (.t 94), none⟩]) .ret) .skip)) (.seq (.reg [⟨some 95, .val (.cp (.t 8)), none⟩, ⟨some 96, 
  .val (.bin .add (.t 95) (.k (.d (.int .i64 1)))), none⟩, ⟨some 8, .asg (.t 96), none⟩]) (.seq (.reg [⟨some 97, .val (.cp (.t 10)), none⟩, ⟨some 98, .val (.bin .add (.t 97) (.k 
  (.d (.int .i64 1)))), none⟩, ⟨some 10, .asg (.t 98), none⟩]) (.seq .bad (.cond (.t 107) (.seq (.reg [⟨some 108, .val (.cp (.t 0)), none⟩, ⟨some 109, .val (.cp (.t 8)), none⟩, 
  ⟨some 110, .val (.subS (.t 108) (some (.t 109)) none), none⟩, ⟨some 111, .val (.cp (.t 1)), none⟩, ⟨some 112, .prim .call [.k (.fn (.func 118) [] []), .t 110, .t 111] [], none⟩, 
  ⟨some 12, .asg (.t 112), none⟩]) (.seq (.seq (.reg [⟨some 113, .val (.cp (.t 12)), none⟩, ⟨some 114, .val (.bin .geq (.t 113) (.k (.d (.int .i64 0)))), none⟩]) (.cond (.t 114) 
  (.seq (.reg [⟨some 115, .val (.cp (.t 12)), none⟩, ⟨some 116, .val (.cp (.t 8)), none⟩, ⟨some 117, .val (.bin .add (.t 115) (.t 116)), none⟩, ⟨some 4, .asg (.t 117), none⟩]) 
  .ret) .skip)) (.seq (.reg [⟨some 4, .asg (.k (.d (.int .i64 (-1)))), none⟩]) .ret))) (.seq .bad (.cond (.t 132) (.seq (.reg [⟨some 133, .val (.cp (.t 0)), none⟩, ⟨some 134, .val 
  (.cp (.t 8)), none⟩, ⟨some 135, .val (.subS (.t 133) (some (.t 134)) none), none⟩, ⟨some 136, .val (.cp (.t 1)), none⟩, ⟨some 137, .call 120 [.t 135, .t 136], none⟩, ⟨some 13, 
  .asg (.t 137), none⟩]) (.seq (.seq (.reg [⟨some 138, .val (.cp (.t 13)), none⟩, ⟨some 139, .val (.bin .lss (.t 138) (.k (.d (.int .i64 0)))), none⟩]) (.cond (.t 139) (.seq (.reg 
  [⟨some 4, .asg (.k (.d (.int .i64 (-1)))), none⟩]) .ret) .skip)) (.seq (.reg [⟨some 140, .val (.cp (.t 8)), none⟩, ⟨some 141, .val (.cp (.t 13)), none⟩, ⟨some 142, .val (.bin 
  .add (.t 140) (.t 141)), none⟩, ⟨some 4, .asg (.t 142), none⟩]) .ret))) .skip)))))))))))) (.seq (.reg [⟨some 4, .asg (.k (.d (.int .i64 (-1)))), none⟩]) .ret)))))))))
def R_internal_stringslite_Index : List LRes := [.tmp 4]
theorem lift_internal_stringslite_Index : Lifts Tryz.prog 109 143 L_internal_stringslite_Index R_internal_stringslite_Index := ⟨_, _, Tryz.func109, rfl, by kernel_rfl, by kernel_rfl, rfl⟩

theorem liteIndex1_call (s : List UInt8) (c : UInt8) : PCall Tryz.prog 109 [.str s, .str [c]] (fun r => r = .one (.int .i64 (Lib.indexByte s c))) := by
  refine lift_internal_stringslite_Index.call rfl ?_
  simp (maxSteps := 2000000) only [go_sem, ↓reduceIte, L_internal_stringslite_Index, R_internal_stringslite_Index]
  refine ⟨fun h => ?_, fun h => ?_⟩
  · subst h
    simp [Lib.indexByte]
  · have : getI [c] 0 = some c := rfl
    simp (maxSteps := 2000000) only [go_sem, ↓reduceIte, this]
    refine CallG.of (liteIndexByte_call s c) ?_
    simp (maxSteps := 2000000) only [go_sem, ↓reduceIte]
/-- strings.Index -/
def L_strings_Index : LCode :=
  .seq (.reg [⟨some 4, .asg (.k (.d (.int .i64 0))), none⟩]) (.seq (.reg [⟨some 5, .val (.cp (.t 0)), none⟩, ⟨some 6, .val (.cp (.t 1)), none⟩, ⟨some 7, .call 109 [.t 5, .t 6], 
  none⟩, ⟨some 4, .asg (.t 7), none⟩]) .ret)
def R_strings_Index : List LRes := [.tmp 4]
theorem lift_strings_Index : Lifts Tryz.prog 90 8 L_strings_Index R_strings_Index := ⟨_, _, Tryz.func90, rfl, by kernel_rfl, by kernel_rfl, rfl⟩

/-- strings.Contains -/
def L_strings_Contains : LCode :=
  .seq (.reg [⟨some 4, .asg (.k (.d (.bool false))), none⟩]) (.seq (.reg [⟨some 5, .val (.cp (.t 0)), none⟩, ⟨some 6, .val (.cp (.t 1)), none⟩, ⟨some 7, .call 90 [.t 5, .t 6], none⟩, 
  ⟨some 8, .val (.bin .geq (.t 7) (.k (.d (.int .i64 0)))), none⟩, ⟨some 4, .asg (.t 8), none⟩]) .ret)
def R_strings_Contains : List LRes := [.tmp 4]
theorem lift_strings_Contains : Lifts Tryz.prog 65 9 L_strings_Contains R_strings_Contains := ⟨_, _, Tryz.func65, rfl, by kernel_rfl, by kernel_rfl, rfl⟩

theorem contains1_call (s : List UInt8) (c : UInt8) : PCall Tryz.prog 65 [.str s, .str [c]] (fun r => r = .one (.bool (decide (c ∈ s)))) := by
  have h : PCall Tryz.prog 90 [.str s, .str [c]] (fun r => r = .one (.int .i64 (Lib.indexByte s c))) := by
    refine lift_strings_Index.call rfl ?_
    simp (maxSteps := 2000000) only [go_sem, ↓reduceIte, L_strings_Index, R_strings_Index]
    refine CallG.of (liteIndex1_call s c) ?_
    simp (maxSteps := 2000000) only [go_sem, ↓reduceIte]
  refine lift_strings_Contains.call rfl ?_
  simp (maxSteps := 2000000) only [go_sem, ↓reduceIte, L_strings_Contains, R_strings_Contains]
  refine CallG.of h ?_
  simp (maxSteps := 2000000) only [go_sem, ↓reduceIte]
  congr 2
  simp only [indexByte_mem]

theorem encode_ascii {c : UInt8} (h : c.toNat < 128) : (Utf8.encode (c.toNat : Int)).data.toList = [c] := by
  have : ∀ n : Fin 128, (Utf8.encode ((n.val : Nat) : Int)).data.toList = [UInt8.ofNat n.val] := by decide +kernel
  have := this ⟨c.toNat, h⟩
  simp only at this
  rw [this]
  simp

/-- Stands a byte for itself in a name? -/
def plainB (c : UInt8) : Bool := decide (32 < c.toNat) && (decide (c.toNat ≤ 126) && !decide (c ∈ ([40, 41, 60, 62, 91, 93, 123, 125, 47, 37, 35] : List UInt8)))

/-- value.plain -/
def L_value_plain : LCode :=
  .seq (.reg [⟨some 2, .asg (.k (.d (.bool false))), none⟩]) (.seq (.reg [⟨some 3, .val (.cp (.t 0)), none⟩, ⟨some 4, .val (.bin .gtr (.t 3) (.k (.d (.int .u8 32)))), none⟩, ⟨some 5, 
  .val (.cp (.t 4)), none⟩, ⟨some 6, .val (.cp (.t 0)), some (5, true)⟩, ⟨some 7, .val (.bin .leq (.t 6) (.k (.d (.int .u8 126)))), some (5, true)⟩, ⟨some 8, .val (.pick (.t 5) (.t 
  7) (.k (.d (.bool false)))), none⟩, ⟨some 9, .val (.cp (.t 8)), none⟩, ⟨some 10, .val (.cp (.t 0)), some (9, true)⟩, ⟨some 11, .val (.cvI .i32 (.t 10)), some (9, true)⟩, ⟨some 
  12, .val (.i2s (.t 11)), some (9, true)⟩, ⟨some 13, .call 65 [.k (.d (.str [40, 41, 60, 62, 91, 93, 123, 125, 47, 37, 35])), .t 12], some (9, true)⟩, ⟨some 14, .val (.not (.t 
  13)), some (9, true)⟩, ⟨some 15, .val (.pick (.t 9) (.t 14) (.k (.d (.bool false)))), none⟩, ⟨some 2, .asg (.t 15), none⟩]) .ret)
def R_value_plain : List LRes := [.tmp 2]
theorem lift_value_plain : Lifts Tryz.prog 82 16 L_value_plain R_value_plain := ⟨_, _, Tryz.func82, rfl, by kernel_rfl, by kernel_rfl, rfl⟩

theorem plain_call (c : UInt8) : PCall Tryz.prog 82 [.int .u8 c.toNat] (fun r => r = .one (.bool (plainB c))) := by
  have hc8 := u8_lt c
  refine lift_value_plain.call rfl ?_
  simp (maxSteps := 2000000) only [go_sem, ↓reduceIte, L_value_plain, R_value_plain]
  refine ⟨fun h1 => ⟨fun h2 => ?_, fun h2 => ?_⟩, fun h1 => ?_⟩
  · rw [IntWalk.i32_in _ (by omega), encode_ascii (by omega)]
    refine CallG.of (contains1_call _ c) ?_
    simp (maxSteps := 2000000) only [go_sem, ↓reduceIte]
    have h3 : 32 < c.toNat := by omega
    have h4 : c.toNat ≤ 126 := by omega
    simp [plainB, h3, h4]
  · have h4 : ¬ c.toNat ≤ 126 := by omega
    simp [plainB, h4]
  · have h4 : ¬ 32 < c.toNat := by omega
    simp [plainB, h4]

def hexTab : List UInt8 := [48, 49, 50, 51, 52, 53, 54, 55, 56, 57, 65, 66, 67, 68, 69, 70]
theorem tab_get {n : Nat} (h : n < 16) : getI hexTab (n : Int) = some (hexTab.getD n 0) := by
  rw [getI_nat]
  have : n < hexTab.length := h
  simp [this]
def nameB (c : UInt8) : List UInt8 := if plainB c then [c] else [35, hexTab.getD (c.toNat / 16) 0, hexTab.getD (c.toNat % 16) 0]
def nameP (s : List UInt8) : List UInt8 := s.flatMap nameB
theorem nameB_length (c : UInt8) : (nameB c).length ≤ 3 := by unfold nameB; split <;> simp
theorem nameP_length (s : List UInt8) : (nameP s).length ≤ 3 * s.length := by
  induction s with
  | nil => simp [nameP]
  | cons c s ih =>
    have : nameP (c :: s) = nameB c ++ nameP s := rfl
    rw [this, List.length_append]
    have := nameB_length c
    simp only [List.length_cons]
    omega
theorem nameP_next {s : List UInt8} {i : Nat} {c : UInt8} (h : s[i]? = some c) : nameP (s.take (i + 1)) = nameP (s.take i) ++ nameB c := by
  simp [nameP, take_next h]
theorem bytesOf2 (a b : UInt8) : bytesOf [.int .u8 a.toNat, .int .u8 b.toNat] = some [a, b] := bytesOf_bytesD [a, b]
/-- value.name -/
def L_value_name : LCode :=
  .seq (.reg [⟨some 5, .val (.cp (.t 0)), none⟩, ⟨some 6, .prim .call [.k (.fn (.func 55) [] []), .t 5, .k (.d (.int .u8 47))] [], none⟩]) (.seq (.reg [⟨some 7, .val (.cp (.t 1)), 
  none⟩, ⟨some 8, .val (.len true (.t 7)), none⟩, ⟨some 9, .val (.cp (.k (.d (.int .i64 0)))), none⟩]) (.block 0 (.loop (.seq (.reg [⟨some 10, .val (.bin .lss (.t 9) (.t 8)), 
  none⟩]) (.seq (.cond (.t 10) .skip (.exit 0)) (.seq (.block 1 (.seq (.reg [⟨some 11, .val (.cp (.t 9)), none⟩, ⟨some 4, .asg (.t 11), none⟩]) (.seq (.reg [⟨some 12, .val (.cp (.t 
  1)), none⟩, ⟨some 13, .val (.cp (.t 4)), none⟩, ⟨some 14, .val (.idxS (.t 12) (.t 13)), none⟩, ⟨some 15, .call 82 [.t 14], none⟩]) (.cond (.t 15) (.reg [⟨some 16, .val (.cp (.t 
  0)), none⟩, ⟨some 17, .val (.cp (.t 1)), none⟩, ⟨some 18, .val (.cp (.t 4)), none⟩, ⟨some 19, .val (.idxS (.t 17) (.t 18)), none⟩, ⟨some 20, .prim .call [.k (.fn (.func 55) [] 
  []), .t 16, .t 19] [], none⟩]) (.dreg [⟨some 21, .val (.cp (.t 0)), none⟩, ⟨some 22, .val (.cp (.t 1)), none⟩, ⟨some 23, .val (.cp (.t 4)), none⟩, ⟨some 24, .val (.idxS (.t 22) 
  (.t 23)), none⟩, ⟨some 25, .val (.bin .shr (.t 24) (.k (.d (.int .u64 4)))), none⟩, ⟨some 26, .val (.idxS (.k (.d (.str [48, 49, 50, 51, 52, 53, 54, 55, 56, 57, 65, 66, 67, 68, 
  69, 70]))) (.t 25)), none⟩, ⟨some 27, .val (.cp (.t 1)), none⟩, ⟨some 28, .val (.cp (.t 4)), none⟩, ⟨some 29, .val (.idxS (.t 27) (.t 28)), none⟩, ⟨some 30, .val (.bin .and (.t 
  29) (.k (.d (.int .u8 15)))), none⟩, ⟨some 31, .val (.idxS (.k (.d (.str [48, 49, 50, 51, 52, 53, 54, 55, 56, 57, 65, 66, 67, 68, 69, 70]))) (.t 30)), none⟩, ⟨some 32, .bsl 5 1 
  [.t 26, .t 31], none⟩, ⟨some 33, .val (.b2s (.t 32)), none⟩, ⟨some 34, .val (.bin .add (.k (.d (.str [35]))) (.t 33)), none⟩, ⟨some 35, .prim .call [.k (.fn (.func 25) [] []), .t 
  21, .t 34] [], none⟩]))))) (.reg [⟨some 36, .val (.bin .add (.t 9) (.k (.d (.int .i64 1)))), none⟩, ⟨some 9, .val (.cp (.t 36)), none⟩])))))))
def R_value_name : List LRes := []
theorem lift_value_name : Lifts Tryz.prog 54 37 L_value_name R_value_name := ⟨_, _, Tryz.func54, rfl, by kernel_rfl, by kernel_rfl, rfl⟩

theorem name_at (b : Bld) (s : List UInt8) (hl : b.bytes.length + 3 * s.length + 1 ≤ 1000000000) : MCallE Tryz.prog 54 [.ptr (.x 0) 0, .d (.str s)] [b.at (.x 0)] (.tuple []) [Bld.at (.x 0) (.has (b.bytes ++ [47] ++ nameP s))] := by
  refine lift_value_name.mcall (by kernel_rfl) rfl ?_
  simp (maxSteps := 2000000) only [go_sem, ↓reduceIte, L_value_name, R_value_name]
  refine bldCall (.x 0) rfl (writeByte_at b 47 (by omega)) rfl rfl rfl rfl ?_
  simp (maxSteps := 2000000) only [go_sem, ↓reduceIte]
  refine run_loop (fun i : Nat => ⟨[(0, .ptr (.x 0) 0), (1, .d (.str s)), (7, .d (.str s)), (8, .d (.int .i64 s.length)), (9, .d (.int .i64 i))], [],
      [(0, Bld.at (.x 0) (.has (b.bytes ++ [47] ++ nameP (s.take i))))]⟩)
    (fun i => i ≤ s.length) (fun i => s.length - i) 0 ?_ ?_ ?_
  · refine Weak.mk ?_ ?_ ?_ <;> simp (maxSteps := 2000000) only [go_sem, ↓reduceIte, Sub, Int.natCast_add, Int.natCast_mul, List.take_zero, nameP, List.flatMap_nil]
  · omega
  · intro i hi
    have hle := nameP_length (s.take i)
    rw [List.length_take] at hle
    have ht : ([48, 49, 50, 51, 52, 53, 54, 55, 56, 57, 65, 66, 67, 68, 69, 70] : List UInt8) = hexTab := rfl
    simp (maxSteps := 2000000) only [run_skip, run_reg, run_dreg, run_seq, run_cond, run_block, run_exit, run_ret, pop_code, pop_goal, pop_blk, pop_nil, pop_ret_code, pop_ret_goal, pop_ret_blk, pop_exit_code, pop_exit_goal, pop_exit_blk, run_dead, pop_dead, pop_ret_dead, pop_exit_dead, St.dead, adelL, adel, ops_nil, ops_val, ops_asg, ops_nils, ops_box, ops_allo, ops_app, ops_bsl, ops_st, ops_sla, ops_call, ops_guard, dps_nil, dps_val, dps_asg, dps_nils, dps_box, dps_allo, dps_app, appD, dps_bsl, dps_st, dps_sla, dps_call, dps_guard, pev, St.ev, St.get, St.put, acons, St.mark, St.obj, St.setObj, aget, aset, amap, initρ, asgS, nilS, newO, newB, boxS, dnsL, appS, bslS, bspS, slaS, List.all_cons, List.all_nil, List.any_cons, List.any_nil, Bool.or_false, Bool.false_or, Bool.true_or, Bool.or_true, Bool.or_self, stS, stD, setA, St.erase, St.drop, AV.erase, AV.rename, AV.drop, AV.has, AV.isPtr, dropObj, srcL, evL, evP, evO, rdAll, rdL, allSz, fLd, fLdX, fLdA, AV.nsr, AV.rd1, rd1L, fIaR, fIaD, AV.solid, solidN, List.all, dps_primC, dps_stC, chkK_cons, chkK_nil, exists_eq_left', AV.locFree, fLdP, fFa, fIa, fIaA, fFld, fillD, lookP, setR, fExt, AV.simple, fMkI, fAsT, fNck, fEqB, fEqS, eqCs, eqC, fEqN, okN, fNil, isNil, fNot, fNeg, fCvI, fI2s, fIdxS, fSubS, fSub, loOf, hiOf, fLen, fLenK, fMm, fPick, fB, fB2s, fMkF, allSimple, hasLocal, isLocal, binD, binI, binS, AV.rd, D.cells, D.one, Res.av, putO, PutG_some, PutG_if, PutG_if', PutG_mif, StG_some, StG_if, BoolG_d, GuardG_d, GuardR_d, GuardR_u, IteG, Classical.not_not, retK_ret, retK_normal, RetG_some, resS, resL, resV, mkRes, Nat.reduceEqDiff, Nat.reduceBEq, Nat.reduceLT, Nat.reduceLeDiff, Nat.reduceAdd, Nat.reduceSub, Nat.reduceMul, Nat.zero_add, ↓reduceIte, Option.getD_some, Option.getD_none, Option.map_some, Option.map_none, Option.some.injEq, reduceCtorEq, Bool.not_true, Bool.not_false, Bool.not_eq_true', Bool.not_eq_false', decide_eq_true_eq, decide_eq_false_iff_not, decide_true, decide_false, true_implies, false_implies, true_and, and_true, and_self, implies_true, List.length_cons, List.length_nil, List.set_cons_zero, List.set_cons_succ, List.getElem?_cons_zero, List.getElem?_cons_succ, List.take_succ_cons, List.take_zero, List.drop_succ_cons, List.drop_zero, List.take_nil, List.drop_nil, List.map_cons, List.map_nil, List.cons_append, List.nil_append, List.append_nil, beq_self_eq_true, Bool.and_true, Bool.true_and, Bool.false_and, Bool.and_false, Lab.t.injEq, Lab.c.injEq, Ref.l.injEq, Ref.x.injEq, Bool.false_eq_true, Bool.true_eq_false, eq_self_iff_true, if_true, if_false, Bool.not_eq_true, Bool.not_eq_false, and_false, false_and, or_true, true_or, or_false, false_or, ne_eq, not_true_eq_false, not_false_eq_true, beq_iff_eq, Nat.reduceBNe, Nat.le_refl, Nat.reduceSubDiff, Int.reduceLT, gt_iff_lt, Int.reduceLE, Int.reduceEq, Int.reduceNeg, Int.reduceAdd, Int.reduceMul, Int.reduceSub, Int.reduceToNat, Int.toNat_zero, Int.toNat_one, Int.natCast_zero, Int.cast_ofNat_Int, Int.natCast_one, IntWalk.i64_in, IntWalk.u8_in, ops_prim, dps_prim, retM_normal, retM_ret, RetM_some, resR, resOwn, resAL, resA, okRes, mkA, objsOf, passA, amod, AV.den, AV.pub, passI, passQ, labsQ, eraseL, nsD, retO, backS, setObjs, AObj.ren, AV.ren, AV.ren1, renL, ren1L, renR, renQ, AV.unown, memR, List.getD_cons_zero, List.getD_cons_succ, initA, numO, AV.wf, AV.wf1, wfL, wf1L, wfR, Bool.and_self, decide_true]
    refine ⟨fun hlt => ?_, fun hge => ?_⟩
    · obtain ⟨c, hc⟩ := get_some (l := s) (i := i) (by omega)
      have hc8 := u8_lt c
      have e1 : Int.fdiv (c.toNat : Int) (2 ^ min 4 IntKind.u8.bits) = ((c.toNat / 16 : Nat) : Int) := shr_u8 c.toNat 4
      have e2 : IntKind.u8.wrap (((BitVec.ofInt IntKind.u8.bits (c.toNat : Int) &&& BitVec.ofInt IntKind.u8.bits 15).toNat : Nat) : Int) = ((c.toNat % 16 : Nat) : Int) := by
        rw [← and15]; exact and_u8 (m := 15) hc8 (by decide)
      have t1 : getI hexTab ((c.toNat / 16 : Nat) : Int) = some (hexTab.getD (c.toNat / 16) 0) := tab_get (by omega)
      have t2 : getI hexTab ((c.toNat % 16 : Nat) : Int) = some (hexTab.getD (c.toNat % 16) 0) := tab_get (by omega)
      simp (maxSteps := 2000000) (disch := omega) only [run_skip, run_reg, run_dreg, run_seq, run_cond, run_block, run_exit, run_ret, pop_code, pop_goal, pop_blk, pop_nil, pop_ret_code, pop_ret_goal, pop_ret_blk, pop_exit_code, pop_exit_goal, pop_exit_blk, run_dead, pop_dead, pop_ret_dead, pop_exit_dead, St.dead, adelL, adel, ops_nil, ops_val, ops_asg, ops_nils, ops_box, ops_allo, ops_app, ops_bsl, ops_st, ops_sla, ops_call, ops_guard, dps_nil, dps_val, dps_asg, dps_nils, dps_box, dps_allo, dps_app, appD, dps_bsl, dps_st, dps_sla, dps_call, dps_guard, pev, St.ev, St.get, St.put, acons, St.mark, St.obj, St.setObj, aget, aset, amap, initρ, asgS, nilS, newO, newB, boxS, dnsL, appS, bslS, bspS, slaS, List.all_cons, List.all_nil, List.any_cons, List.any_nil, Bool.or_false, Bool.false_or, Bool.true_or, Bool.or_true, Bool.or_self, stS, stD, setA, St.erase, St.drop, AV.erase, AV.rename, AV.drop, AV.has, AV.isPtr, dropObj, srcL, evL, evP, evO, rdAll, rdL, allSz, fLd, fLdX, fLdA, AV.nsr, AV.rd1, rd1L, fIaR, fIaD, AV.solid, solidN, List.all, dps_primC, dps_stC, chkK_cons, chkK_nil, exists_eq_left', AV.locFree, fLdP, fFa, fIa, fIaA, fFld, fillD, lookP, setR, fExt, AV.simple, fMkI, fAsT, fNck, fEqB, fEqS, eqCs, eqC, fEqN, okN, fNil, isNil, fNot, fNeg, fCvI, fI2s, fIdxS, fSubS, fSub, loOf, hiOf, fLen, fLenK, fMm, fPick, fB, fB2s, fMkF, allSimple, hasLocal, isLocal, binD, binI, binS, AV.rd, D.cells, D.one, Res.av, putO, PutG_some, PutG_if, PutG_if', PutG_mif, StG_some, StG_if, BoolG_d, GuardG_d, GuardR_d, GuardR_u, IteG, Classical.not_not, retK_ret, retK_normal, RetG_some, resS, resL, resV, mkRes, Nat.reduceEqDiff, Nat.reduceBEq, Nat.reduceLT, Nat.reduceLeDiff, Nat.reduceAdd, Nat.reduceSub, Nat.reduceMul, Nat.zero_add, ↓reduceIte, Option.getD_some, Option.getD_none, Option.map_some, Option.map_none, Option.some.injEq, reduceCtorEq, Bool.not_true, Bool.not_false, Bool.not_eq_true', Bool.not_eq_false', decide_eq_true_eq, decide_eq_false_iff_not, decide_true, decide_false, true_implies, false_implies, true_and, and_true, and_self, implies_true, List.length_cons, List.length_nil, List.set_cons_zero, List.set_cons_succ, List.getElem?_cons_zero, List.getElem?_cons_succ, List.take_succ_cons, List.take_zero, List.drop_succ_cons, List.drop_zero, List.take_nil, List.drop_nil, List.map_cons, List.map_nil, List.cons_append, List.nil_append, List.append_nil, beq_self_eq_true, Bool.and_true, Bool.true_and, Bool.false_and, Bool.and_false, Lab.t.injEq, Lab.c.injEq, Ref.l.injEq, Ref.x.injEq, Bool.false_eq_true, Bool.true_eq_false, eq_self_iff_true, if_true, if_false, Bool.not_eq_true, Bool.not_eq_false, and_false, false_and, or_true, true_or, or_false, false_or, ne_eq, not_true_eq_false, not_false_eq_true, beq_iff_eq, Nat.reduceBNe, Nat.le_refl, Nat.reduceSubDiff, Int.reduceLT, gt_iff_lt, Int.reduceLE, Int.reduceEq, Int.reduceNeg, Int.reduceAdd, Int.reduceMul, Int.reduceSub, Int.reduceToNat, Int.toNat_zero, Int.toNat_one, Int.natCast_zero, Int.cast_ofNat_Int, Int.natCast_one, IntWalk.i64_in, IntWalk.u8_in, ops_prim, dps_prim, retM_normal, retM_ret, RetM_some, resR, resOwn, resAL, resA, okRes, mkA, objsOf, passA, amod, AV.den, AV.pub, passI, passQ, labsQ, eraseL, nsD, retO, backS, setObjs, AObj.ren, AV.ren, AV.ren1, renL, ren1L, renR, renQ, AV.unown, memR, List.getD_cons_zero, List.getD_cons_succ, initA, numO, AV.wf, AV.wf1, wfL, wf1L, wfR, Bool.and_self, decide_true, getI_nat s, hc]
      refine CallG.of (plain_call c) ?_
      simp (maxSteps := 2000000) (disch := omega) only [run_skip, run_reg, run_dreg, run_seq, run_cond, run_block, run_exit, run_ret, pop_code, pop_goal, pop_blk, pop_nil, pop_ret_code, pop_ret_goal, pop_ret_blk, pop_exit_code, pop_exit_goal, pop_exit_blk, run_dead, pop_dead, pop_ret_dead, pop_exit_dead, St.dead, adelL, adel, ops_nil, ops_val, ops_asg, ops_nils, ops_box, ops_allo, ops_app, ops_bsl, ops_st, ops_sla, ops_call, ops_guard, dps_nil, dps_val, dps_asg, dps_nils, dps_box, dps_allo, dps_app, appD, dps_bsl, dps_st, dps_sla, dps_call, dps_guard, pev, St.ev, St.get, St.put, acons, St.mark, St.obj, St.setObj, aget, aset, amap, initρ, asgS, nilS, newO, newB, boxS, dnsL, appS, bslS, bspS, slaS, List.all_cons, List.all_nil, List.any_cons, List.any_nil, Bool.or_false, Bool.false_or, Bool.true_or, Bool.or_true, Bool.or_self, stS, stD, setA, St.erase, St.drop, AV.erase, AV.rename, AV.drop, AV.has, AV.isPtr, dropObj, srcL, evL, evP, evO, rdAll, rdL, allSz, fLd, fLdX, fLdA, AV.nsr, AV.rd1, rd1L, fIaR, fIaD, AV.solid, solidN, List.all, dps_primC, dps_stC, chkK_cons, chkK_nil, exists_eq_left', AV.locFree, fLdP, fFa, fIa, fIaA, fFld, fillD, lookP, setR, fExt, AV.simple, fMkI, fAsT, fNck, fEqB, fEqS, eqCs, eqC, fEqN, okN, fNil, isNil, fNot, fNeg, fCvI, fI2s, fIdxS, fSubS, fSub, loOf, hiOf, fLen, fLenK, fMm, fPick, fB, fB2s, fMkF, allSimple, hasLocal, isLocal, binD, binI, binS, AV.rd, D.cells, D.one, Res.av, putO, PutG_some, PutG_if, PutG_if', PutG_mif, StG_some, StG_if, BoolG_d, GuardG_d, GuardR_d, GuardR_u, IteG, Classical.not_not, retK_ret, retK_normal, RetG_some, resS, resL, resV, mkRes, Nat.reduceEqDiff, Nat.reduceBEq, Nat.reduceLT, Nat.reduceLeDiff, Nat.reduceAdd, Nat.reduceSub, Nat.reduceMul, Nat.zero_add, ↓reduceIte, Option.getD_some, Option.getD_none, Option.map_some, Option.map_none, Option.some.injEq, reduceCtorEq, Bool.not_true, Bool.not_false, Bool.not_eq_true', Bool.not_eq_false', decide_eq_true_eq, decide_eq_false_iff_not, decide_true, decide_false, true_implies, false_implies, true_and, and_true, and_self, implies_true, List.length_cons, List.length_nil, List.set_cons_zero, List.set_cons_succ, List.getElem?_cons_zero, List.getElem?_cons_succ, List.take_succ_cons, List.take_zero, List.drop_succ_cons, List.drop_zero, List.take_nil, List.drop_nil, List.map_cons, List.map_nil, List.cons_append, List.nil_append, List.append_nil, beq_self_eq_true, Bool.and_true, Bool.true_and, Bool.false_and, Bool.and_false, Lab.t.injEq, Lab.c.injEq, Ref.l.injEq, Ref.x.injEq, Bool.false_eq_true, Bool.true_eq_false, eq_self_iff_true, if_true, if_false, Bool.not_eq_true, Bool.not_eq_false, and_false, false_and, or_true, true_or, or_false, false_or, ne_eq, not_true_eq_false, not_false_eq_true, beq_iff_eq, Nat.reduceBNe, Nat.le_refl, Nat.reduceSubDiff, Int.reduceLT, gt_iff_lt, Int.reduceLE, Int.reduceEq, Int.reduceNeg, Int.reduceAdd, Int.reduceMul, Int.reduceSub, Int.reduceToNat, Int.toNat_zero, Int.toNat_one, Int.natCast_zero, Int.cast_ofNat_Int, Int.natCast_one, IntWalk.i64_in, IntWalk.u8_in, ops_prim, dps_prim, retM_normal, retM_ret, RetM_some, resR, resOwn, resAL, resA, okRes, mkA, objsOf, passA, amod, AV.den, AV.pub, passI, passQ, labsQ, eraseL, nsD, retO, backS, setObjs, AObj.ren, AV.ren, AV.ren1, renL, ren1L, renR, renQ, AV.unown, memR, List.getD_cons_zero, List.getD_cons_succ, initA, numO, AV.wf, AV.wf1, wfL, wf1L, wfR, Bool.and_self, decide_true, getI_nat s, hc]
      refine ⟨fun p1 => ?_, fun p1 => ?_⟩
      · refine bldCall (.x 0) rfl (writeByte_at (.has (b.bytes ++ [47] ++ nameP (s.take i))) c (by simp only [Bld.bytes_has, List.length_append, List.length_cons, List.length_nil]; omega)) rfl rfl rfl rfl ?_
        simp (maxSteps := 2000000) (disch := omega) only [go_sem, ↓reduceIte]
        refine ⟨i + 1, ?_, by omega, by omega⟩
        have : nameB c = [c] := by simp [nameB, p1]
        refine Weak.mk ?_ ?_ ?_ <;> simp (maxSteps := 2000000) only [go_sem, ↓reduceIte, Sub, Int.natCast_add, Int.natCast_mul, nameP_next hc, Bld.bytes_has, this, List.append_assoc]
      · simp (maxSteps := 2000000) (disch := omega) only [run_skip, run_reg, run_dreg, run_seq, run_cond, run_block, run_exit, run_ret, pop_code, pop_goal, pop_blk, pop_nil, pop_ret_code, pop_ret_goal, pop_ret_blk, pop_exit_code, pop_exit_goal, pop_exit_blk, run_dead, pop_dead, pop_ret_dead, pop_exit_dead, St.dead, adelL, adel, ops_nil, ops_val, ops_asg, ops_nils, ops_box, ops_allo, ops_app, ops_bsl, ops_st, ops_sla, ops_call, ops_guard, dps_nil, dps_val, dps_asg, dps_nils, dps_box, dps_allo, dps_app, appD, dps_bsl, dps_st, dps_sla, dps_call, dps_guard, pev, St.ev, St.get, St.put, acons, St.mark, St.obj, St.setObj, aget, aset, amap, initρ, asgS, nilS, newO, newB, boxS, dnsL, appS, bslS, bspS, slaS, List.all_cons, List.all_nil, List.any_cons, List.any_nil, Bool.or_false, Bool.false_or, Bool.true_or, Bool.or_true, Bool.or_self, stS, stD, setA, St.erase, St.drop, AV.erase, AV.rename, AV.drop, AV.has, AV.isPtr, dropObj, srcL, evL, evP, evO, rdAll, rdL, allSz, fLd, fLdX, fLdA, AV.nsr, AV.rd1, rd1L, fIaR, fIaD, AV.solid, solidN, List.all, dps_primC, dps_stC, chkK_cons, chkK_nil, exists_eq_left', AV.locFree, fLdP, fFa, fIa, fIaA, fFld, fillD, lookP, setR, fExt, AV.simple, fMkI, fAsT, fNck, fEqB, fEqS, eqCs, eqC, fEqN, okN, fNil, isNil, fNot, fNeg, fCvI, fI2s, fIdxS, fSubS, fSub, loOf, hiOf, fLen, fLenK, fMm, fPick, fB, fB2s, fMkF, allSimple, hasLocal, isLocal, binD, binI, binS, AV.rd, D.cells, D.one, Res.av, putO, PutG_some, PutG_if, PutG_if', PutG_mif, StG_some, StG_if, BoolG_d, GuardG_d, GuardR_d, GuardR_u, IteG, Classical.not_not, retK_ret, retK_normal, RetG_some, resS, resL, resV, mkRes, Nat.reduceEqDiff, Nat.reduceBEq, Nat.reduceLT, Nat.reduceLeDiff, Nat.reduceAdd, Nat.reduceSub, Nat.reduceMul, Nat.zero_add, ↓reduceIte, Option.getD_some, Option.getD_none, Option.map_some, Option.map_none, Option.some.injEq, reduceCtorEq, Bool.not_true, Bool.not_false, Bool.not_eq_true', Bool.not_eq_false', decide_eq_true_eq, decide_eq_false_iff_not, decide_true, decide_false, true_implies, false_implies, true_and, and_true, and_self, implies_true, List.length_cons, List.length_nil, List.set_cons_zero, List.set_cons_succ, List.getElem?_cons_zero, List.getElem?_cons_succ, List.take_succ_cons, List.take_zero, List.drop_succ_cons, List.drop_zero, List.take_nil, List.drop_nil, List.map_cons, List.map_nil, List.cons_append, List.nil_append, List.append_nil, beq_self_eq_true, Bool.and_true, Bool.true_and, Bool.false_and, Bool.and_false, Lab.t.injEq, Lab.c.injEq, Ref.l.injEq, Ref.x.injEq, Bool.false_eq_true, Bool.true_eq_false, eq_self_iff_true, if_true, if_false, Bool.not_eq_true, Bool.not_eq_false, and_false, false_and, or_true, true_or, or_false, false_or, ne_eq, not_true_eq_false, not_false_eq_true, beq_iff_eq, Nat.reduceBNe, Nat.le_refl, Nat.reduceSubDiff, Int.reduceLT, gt_iff_lt, Int.reduceLE, Int.reduceEq, Int.reduceNeg, Int.reduceAdd, Int.reduceMul, Int.reduceSub, Int.reduceToNat, Int.toNat_zero, Int.toNat_one, Int.natCast_zero, Int.cast_ofNat_Int, Int.natCast_one, IntWalk.i64_in, IntWalk.u8_in, ops_prim, dps_prim, retM_normal, retM_ret, RetM_some, resR, resOwn, resAL, resA, okRes, mkA, objsOf, passA, amod, AV.den, AV.pub, passI, passQ, labsQ, eraseL, nsD, retO, backS, setObjs, AObj.ren, AV.ren, AV.ren1, renL, ren1L, renR, renQ, AV.unown, memR, List.getD_cons_zero, List.getD_cons_succ, initA, numO, AV.wf, AV.wf1, wfL, wf1L, wfR, Bool.and_self, decide_true, ht, getI_nat s, hc, e1, e2, t1, t2, bytesOf2]
        refine bldCall (.x 0) rfl (writeString_at (.has (b.bytes ++ [47] ++ nameP (s.take i))) [35, hexTab.getD (c.toNat / 16) 0, hexTab.getD (c.toNat % 16) 0] (by simp only [Bld.bytes_has, List.length_append, List.length_cons, List.length_nil]; omega)) rfl rfl rfl rfl ?_
        simp (maxSteps := 2000000) (disch := omega) only [go_sem, ↓reduceIte]
        refine ⟨i + 1, ?_, by omega, by omega⟩
        have : nameB c = [35, hexTab.getD (c.toNat / 16) 0, hexTab.getD (c.toNat % 16) 0] := by simp [nameB, p1]
        refine Weak.mk ?_ ?_ ?_ <;> simp (maxSteps := 2000000) only [go_sem, ↓reduceIte, Sub, Int.natCast_add, Int.natCast_mul, nameP_next hc, Bld.bytes_has, this, List.append_assoc]
    · rw [List.take_of_length_le (by omega)]
end Go.Av.Tryz
set_option linter.unusedSimpArgs false
namespace Go.Av.Tryz
open Go.Proofs

def strB (c : UInt8) : List UInt8 := if c = 40 ∨ c = 41 ∨ c = 92 then [92, c] else if 32 ≤ c.toNat ∧ c.toNat ≤ 126 then [c] else [92, UInt8.ofNat (48 + c.toNat / 64), UInt8.ofNat (48 + c.toNat / 8 % 8), UInt8.ofNat (48 + c.toNat % 8)]
def strP (s : List UInt8) : List UInt8 := s.flatMap strB
theorem strB_length (c : UInt8) : (strB c).length ≤ 4 := by
  unfold strB
  repeat' split
  all_goals simp
theorem strP_length (s : List UInt8) : (strP s).length ≤ 4 * s.length := by
  induction s with
  | nil => simp [strP]
  | cons c s ih =>
    have : strP (c :: s) = strB c ++ strP s := rfl
    rw [this, List.length_append]
    have := strB_length c
    simp only [List.length_cons]
    omega
theorem strP_next {s : List UInt8} {i : Nat} {c : UInt8} (h : s[i]? = some c) : strP (s.take (i + 1)) = strP (s.take i) ++ strB c := by
  simp [strP, take_next h]

theorem and7 (n : Nat) : n &&& 7 = n % 8 := Nat.and_two_pow_sub_one_eq_mod n 3
theorem bytesOf3n (a b c : Nat) : bytesOf [.int .u8 (48 + (a : Int)), .int .u8 (48 + (b : Int)), .int .u8 (48 + (c : Int))] = some [UInt8.ofNat (48 + a), UInt8.ofNat (48 + b), UInt8.ofNat (48 + c)] := by
  have h : ∀ x : Nat, (48 + (x : Int)).toNat = 48 + x := fun x => by omega
  simp only [bytesOf, h, Option.map_some]
/-- value.str -/
def L_value_str : LCode :=
  .seq (.reg [⟨some 6, .val (.cp (.t 0)), none⟩, ⟨some 7, .prim .call [.k (.fn (.func 55) [] []), .t 6, .k (.d (.int .u8 40))] [], none⟩]) (.seq (.seq (.reg [⟨some 8, .val (.cp (.t 
  1)), none⟩, ⟨some 9, .val (.len true (.t 8)), none⟩, ⟨some 10, .val (.cp (.k (.d (.int .i64 0)))), none⟩]) (.block 0 (.loop (.seq (.reg [⟨some 11, .val (.bin .lss (.t 10) (.t 
  9)), none⟩]) (.seq (.cond (.t 11) .skip (.exit 0)) (.seq (.block 1 (.seq (.reg [⟨some 12, .val (.cp (.t 10)), none⟩, ⟨some 4, .asg (.t 12), none⟩]) (.seq (.reg [⟨some 13, .val 
  (.cp (.t 1)), none⟩, ⟨some 14, .val (.cp (.t 4)), none⟩, ⟨some 15, .val (.idxS (.t 13) (.t 14)), none⟩, ⟨some 5, .asg (.t 15), none⟩]) (.block 2 (.seq (.reg [⟨some 32, .val (.cp 
  (.t 5)), none⟩, ⟨some 33, .val (.bin .eql (.t 32) (.k (.d (.int .u8 40)))), none⟩, ⟨some 34, .val (.cp (.t 33)), none⟩, ⟨some 35, .val (.cp (.t 5)), some (34, false)⟩, ⟨some 36, 
  .val (.bin .eql (.t 35) (.k (.d (.int .u8 41)))), some (34, false)⟩, ⟨some 37, .val (.pick (.t 34) (.k (.d (.bool true))) (.t 36)), none⟩, ⟨some 38, .val (.cp (.t 37)), none⟩, 
  ⟨some 39, .val (.cp (.t 5)), some (38, false)⟩, ⟨some 40, .val (.bin .eql (.t 39) (.k (.d (.int .u8 92)))), some (38, false)⟩, ⟨some 41, .val (.pick (.t 38) (.k (.d (.bool 
  true))) (.t 40)), none⟩, ⟨some 31, .asg (.t 41), none⟩]) (.cond (.t 31) (.reg [⟨some 42, .val (.cp (.t 0)), none⟩, ⟨some 43, .val (.cp (.t 5)), none⟩, ⟨some 44, .val (.cvI .i32 
  (.t 43)), none⟩, ⟨some 45, .val (.i2s (.t 44)), none⟩, ⟨some 46, .val (.bin .add (.k (.d (.str [92]))) (.t 45)), none⟩, ⟨some 47, .prim .call [.k (.fn (.func 25) [] []), .t 42, 
  .t 46] [], none⟩]) (.seq (.reg [⟨some 49, .val (.cp (.t 5)), none⟩, ⟨some 50, .val (.bin .geq (.t 49) (.k (.d (.int .u8 32)))), none⟩, ⟨some 51, .val (.cp (.t 50)), none⟩, ⟨some 
  52, .val (.cp (.t 5)), some (51, true)⟩, ⟨some 53, .val (.bin .leq (.t 52) (.k (.d (.int .u8 126)))), some (51, true)⟩, ⟨some 54, .val (.pick (.t 51) (.t 53) (.k (.d (.bool 
  false)))), none⟩, ⟨some 48, .asg (.t 54), none⟩]) (.cond (.t 48) (.reg [⟨some 55, .val (.cp (.t 0)), none⟩, ⟨some 56, .val (.cp (.t 5)), none⟩, ⟨some 57, .prim .call [.k (.fn 
  (.func 55) [] []), .t 55, .t 56] [], none⟩]) (.reg [⟨some 16, .val (.cp (.t 0)), none⟩, ⟨some 17, .val (.cp (.t 5)), none⟩, ⟨some 18, .val (.bin .shr (.t 17) (.k (.d (.int .u64 
  6)))), none⟩, ⟨some 19, .val (.bin .add (.k (.d (.int .u8 48))) (.t 18)), none⟩, ⟨some 20, .val (.cp (.t 5)), none⟩, ⟨some 21, .val (.bin .shr (.t 20) (.k (.d (.int .u64 3)))), 
  none⟩, ⟨some 22, .val (.bin .and (.t 21) (.k (.d (.int .u8 7)))), none⟩, ⟨some 23, .val (.bin .add (.k (.d (.int .u8 48))) (.t 22)), none⟩, ⟨some 24, .val (.cp (.t 5)), none⟩, 
  ⟨some 25, .val (.bin .and (.t 24) (.k (.d (.int .u8 7)))), none⟩, ⟨some 26, .val (.bin .add (.k (.d (.int .u8 48))) (.t 25)), none⟩, ⟨some 27, .bsl 5 1 [.t 19, .t 23, .t 26], 
  none⟩, ⟨some 28, .val (.b2s (.t 27)), none⟩, ⟨some 29, .val (.bin .add (.k (.d (.str [92]))) (.t 28)), none⟩, ⟨some 30, .prim .call [.k (.fn (.func 25) [] []), .t 16, .t 29] [], 
  none⟩]))))))))) (.reg [⟨some 58, .val (.bin .add (.t 10) (.k (.d (.int .i64 1)))), none⟩, ⟨some 10, .val (.cp (.t 58)), none⟩]))))))) (.reg [⟨some 59, .val (.cp (.t 0)), none⟩, 
  ⟨some 60, .prim .call [.k (.fn (.func 55) [] []), .t 59, .k (.d (.int .u8 41))] [], none⟩]))
def R_value_str : List LRes := []
theorem lift_value_str : Lifts Tryz.prog 53 61 L_value_str R_value_str := ⟨_, _, Tryz.func53, rfl, by kernel_rfl, by kernel_rfl, rfl⟩

theorem str_at (b : Bld) (s : List UInt8) (hl : b.bytes.length + 4 * s.length + 2 ≤ 1000000000) : MCallE Tryz.prog 53 [.ptr (.x 0) 0, .d (.str s)] [b.at (.x 0)] (.tuple []) [Bld.at (.x 0) (.has (b.bytes ++ [40] ++ strP s ++ [41]))] := by
  refine lift_value_str.mcall (by kernel_rfl) rfl ?_
  simp (maxSteps := 2000000) only [go_sem, ↓reduceIte, L_value_str, R_value_str]
  refine bldCall (.x 0) rfl (writeByte_at b 40 (by omega)) rfl rfl rfl rfl ?_
  simp (maxSteps := 2000000) only [go_sem, ↓reduceIte]
  refine run_loop (fun i : Nat => ⟨[(0, .ptr (.x 0) 0), (1, .d (.str s)), (8, .d (.str s)), (9, .d (.int .i64 s.length)), (10, .d (.int .i64 i))], [],
      [(0, Bld.at (.x 0) (.has (b.bytes ++ [40] ++ strP (s.take i))))]⟩)
    (fun i => i ≤ s.length) (fun i => s.length - i) 0 ?_ ?_ ?_
  · refine Weak.mk ?_ ?_ ?_ <;> simp (maxSteps := 2000000) only [go_sem, ↓reduceIte, Sub, Int.natCast_add, Int.natCast_mul, List.take_zero, strP, List.flatMap_nil]
  · omega
  · intro i hi
    have hle := strP_length (s.take i)
    rw [List.length_take] at hle
    simp (maxSteps := 2000000) only [go_sem, ↓reduceIte]
    refine ⟨fun hlt => ?_, fun hge => ?_⟩
    · obtain ⟨c, hc⟩ := get_some (l := s) (i := i) (by omega)
      have hc8 := u8_lt c
      have cc : ∀ k : Nat, c.toNat = k → c = UInt8.ofNat k := fun k h => by rw [← h]; simp
      rcases (by omega : c.toNat = 40 ∨ c.toNat = 41 ∨ c.toNat = 92 ∨ (c.toNat ≠ 40 ∧ c.toNat ≠ 41 ∧ c.toNat ≠ 92 ∧ 32 ≤ c.toNat ∧ c.toNat ≤ 126) ∨ (c.toNat ≠ 40 ∧ c.toNat ≠ 41 ∧ c.toNat ≠ 92 ∧ ¬ (32 ≤ c.toNat ∧ c.toNat ≤ 126))) with q | q | q | q | q
      · have i32 : IntKind.i32.wrap (c.toNat : Int) = c.toNat := IntWalk.i32_in _ (by omega)
        have en : (Utf8.encode (c.toNat : Int)).data.toList = [c] := encode_ascii (by omega)
        have n40 : ((c.toNat : Int) = 40) = True := by simp only [eq_iff_iff, iff_true]; omega
        have n41 : ((c.toNat : Int) = 41) = False := by simp only [eq_iff_iff, iff_false]; omega
        have n92 : ((c.toNat : Int) = 92) = False := by simp only [eq_iff_iff, iff_false]; omega
        simp (maxSteps := 2000000) (disch := omega) only [go_sem, ↓reduceIte, getI_nat s, hc, n40, n41, n92, i32, en]
        refine bldCall (.x 0) rfl (writeString_at (.has (b.bytes ++ [40] ++ strP (s.take i))) [92, c] (by simp only [Bld.bytes_has, List.length_append, List.length_cons, List.length_nil]; omega)) rfl rfl rfl rfl ?_
        simp (maxSteps := 2000000) (disch := omega) only [go_sem, ↓reduceIte]
        refine ⟨i + 1, ?_, by omega, by omega⟩
        have hb : strB c = [92, c] := by rw [cc _ q]; rfl
        refine Weak.mk ?_ ?_ ?_ <;> simp (maxSteps := 2000000) only [go_sem, ↓reduceIte, Sub, Int.natCast_add, Int.natCast_mul, strP_next hc, Bld.bytes_has, hb, List.append_assoc]
      · have i32 : IntKind.i32.wrap (c.toNat : Int) = c.toNat := IntWalk.i32_in _ (by omega)
        have en : (Utf8.encode (c.toNat : Int)).data.toList = [c] := encode_ascii (by omega)
        have n40 : ((c.toNat : Int) = 40) = False := by simp only [eq_iff_iff, iff_false]; omega
        have n41 : ((c.toNat : Int) = 41) = True := by simp only [eq_iff_iff, iff_true]; omega
        have n92 : ((c.toNat : Int) = 92) = False := by simp only [eq_iff_iff, iff_false]; omega
        simp (maxSteps := 2000000) (disch := omega) only [go_sem, ↓reduceIte, getI_nat s, hc, n40, n41, n92, i32, en]
        refine bldCall (.x 0) rfl (writeString_at (.has (b.bytes ++ [40] ++ strP (s.take i))) [92, c] (by simp only [Bld.bytes_has, List.length_append, List.length_cons, List.length_nil]; omega)) rfl rfl rfl rfl ?_
        simp (maxSteps := 2000000) (disch := omega) only [go_sem, ↓reduceIte]
        refine ⟨i + 1, ?_, by omega, by omega⟩
        have hb : strB c = [92, c] := by rw [cc _ q]; rfl
        refine Weak.mk ?_ ?_ ?_ <;> simp (maxSteps := 2000000) only [go_sem, ↓reduceIte, Sub, Int.natCast_add, Int.natCast_mul, strP_next hc, Bld.bytes_has, hb, List.append_assoc]
      · have i32 : IntKind.i32.wrap (c.toNat : Int) = c.toNat := IntWalk.i32_in _ (by omega)
        have en : (Utf8.encode (c.toNat : Int)).data.toList = [c] := encode_ascii (by omega)
        have n40 : ((c.toNat : Int) = 40) = False := by simp only [eq_iff_iff, iff_false]; omega
        have n41 : ((c.toNat : Int) = 41) = False := by simp only [eq_iff_iff, iff_false]; omega
        have n92 : ((c.toNat : Int) = 92) = True := by simp only [eq_iff_iff, iff_true]; omega
        simp (maxSteps := 2000000) (disch := omega) only [go_sem, ↓reduceIte, getI_nat s, hc, n40, n41, n92, i32, en]
        refine bldCall (.x 0) rfl (writeString_at (.has (b.bytes ++ [40] ++ strP (s.take i))) [92, c] (by simp only [Bld.bytes_has, List.length_append, List.length_cons, List.length_nil]; omega)) rfl rfl rfl rfl ?_
        simp (maxSteps := 2000000) (disch := omega) only [go_sem, ↓reduceIte]
        refine ⟨i + 1, ?_, by omega, by omega⟩
        have hb : strB c = [92, c] := by rw [cc _ q]; rfl
        refine Weak.mk ?_ ?_ ?_ <;> simp (maxSteps := 2000000) only [go_sem, ↓reduceIte, Sub, Int.natCast_add, Int.natCast_mul, strP_next hc, Bld.bytes_has, hb, List.append_assoc]
      · obtain ⟨q1, q2, q3, q4, q5⟩ := q
        have n40 : ((c.toNat : Int) = 40) = False := by simp only [eq_iff_iff, iff_false]; omega
        have n41 : ((c.toNat : Int) = 41) = False := by simp only [eq_iff_iff, iff_false]; omega
        have n92 : ((c.toNat : Int) = 92) = False := by simp only [eq_iff_iff, iff_false]; omega
        have L32 : ((32 : Int) ≤ c.toNat) = True := by simp only [eq_iff_iff, iff_true]; omega
        have G126 : ((c.toNat : Int) ≤ 126) = True := by simp only [eq_iff_iff, iff_true]; omega
        simp (maxSteps := 2000000) (disch := omega) only [go_sem, ↓reduceIte, getI_nat s, hc, n40, n41, n92, L32, G126]
        refine bldCall (.x 0) rfl (writeByte_at (.has (b.bytes ++ [40] ++ strP (s.take i))) c (by simp only [Bld.bytes_has, List.length_append, List.length_cons, List.length_nil]; omega)) rfl rfl rfl rfl ?_
        simp (maxSteps := 2000000) (disch := omega) only [go_sem, ↓reduceIte]
        refine ⟨i + 1, ?_, by omega, by omega⟩
        have hb : strB c = [c] := by
          have z : ¬ (c = 40 ∨ c = 41 ∨ c = 92) := by
            rintro (rfl | rfl | rfl)
            · exact q1 rfl
            · exact q2 rfl
            · exact q3 rfl
          simp [strB, z, q4, q5]
        refine Weak.mk ?_ ?_ ?_ <;> simp (maxSteps := 2000000) only [go_sem, ↓reduceIte, Sub, Int.natCast_add, Int.natCast_mul, strP_next hc, Bld.bytes_has, hb, List.append_assoc]
      · obtain ⟨q1, q2, q3, q4⟩ := q
        have e1 : Int.fdiv (c.toNat : Int) (2 ^ min 6 IntKind.u8.bits) = ((c.toNat / 64 : Nat) : Int) := shr_u8 c.toNat 6
        have e2 : Int.fdiv (c.toNat : Int) (2 ^ min 3 IntKind.u8.bits) = ((c.toNat / 8 : Nat) : Int) := shr_u8 c.toNat 3
        have e3 : IntKind.u8.wrap (((BitVec.ofInt IntKind.u8.bits ((c.toNat / 8 : Nat) : Int) &&& BitVec.ofInt IntKind.u8.bits 7).toNat : Nat) : Int) = ((c.toNat / 8 % 8 : Nat) : Int) := by
          rw [← and7]; exact and_u8 (m := 7) (by omega) (by decide)
        have e4 : IntKind.u8.wrap (((BitVec.ofInt IntKind.u8.bits (c.toNat : Int) &&& BitVec.ofInt IntKind.u8.bits 7).toNat : Nat) : Int) = ((c.toNat % 8 : Nat) : Int) := by
          rw [← and7]; exact and_u8 (m := 7) hc8 (by decide)
        have hb : strB c = [92, UInt8.ofNat (48 + c.toNat / 64), UInt8.ofNat (48 + c.toNat / 8 % 8), UInt8.ofNat (48 + c.toNat % 8)] := by
          have z : ¬ (c = 40 ∨ c = 41 ∨ c = 92) := by
            rintro (rfl | rfl | rfl)
            · exact q1 rfl
            · exact q2 rfl
            · exact q3 rfl
          unfold strB
          rw [if_neg z, if_neg q4]
        rcases (by omega : ¬ 32 ≤ c.toNat ∨ (32 ≤ c.toNat ∧ ¬ c.toNat ≤ 126)) with r | r
        · skip
          have n40 : ((c.toNat : Int) = 40) = False := by simp only [eq_iff_iff, iff_false]; omega
          have n41 : ((c.toNat : Int) = 41) = False := by simp only [eq_iff_iff, iff_false]; omega
          have n92 : ((c.toNat : Int) = 92) = False := by simp only [eq_iff_iff, iff_false]; omega
          have L32 : ((32 : Int) ≤ c.toNat) = False := by simp only [eq_iff_iff, iff_false]; omega
          simp (maxSteps := 2000000) (disch := omega) only [run_skip, run_reg, run_dreg, run_seq, run_cond, run_block, run_exit, run_ret, pop_code, pop_goal, pop_blk, pop_nil, pop_ret_code, pop_ret_goal, pop_ret_blk, pop_exit_code, pop_exit_goal, pop_exit_blk, run_dead, pop_dead, pop_ret_dead, pop_exit_dead, St.dead, adelL, adel, ops_nil, ops_val, ops_asg, ops_nils, ops_box, ops_allo, ops_app, ops_bsl, ops_st, ops_sla, ops_call, ops_guard, dps_nil, dps_val, dps_asg, dps_nils, dps_box, dps_allo, dps_app, appD, dps_bsl, dps_st, dps_sla, dps_call, dps_guard, pev, St.ev, St.get, St.put, acons, St.mark, St.obj, St.setObj, aget, aset, amap, initρ, asgS, nilS, newO, newB, boxS, dnsL, appS, bslS, bspS, slaS, List.all_cons, List.all_nil, List.any_cons, List.any_nil, Bool.or_false, Bool.false_or, Bool.true_or, Bool.or_true, Bool.or_self, stS, stD, setA, St.erase, St.drop, AV.erase, AV.rename, AV.drop, AV.has, AV.isPtr, dropObj, srcL, evL, evP, evO, rdAll, rdL, allSz, fLd, fLdX, fLdA, AV.nsr, AV.rd1, rd1L, fIaR, fIaD, AV.solid, solidN, List.all, dps_primC, dps_stC, chkK_cons, chkK_nil, exists_eq_left', AV.locFree, fLdP, fFa, fIa, fIaA, fFld, fillD, lookP, setR, fExt, AV.simple, fMkI, fAsT, fNck, fEqB, fEqS, eqCs, eqC, fEqN, okN, fNil, isNil, fNot, fNeg, fCvI, fI2s, fIdxS, fSubS, fSub, loOf, hiOf, fLen, fLenK, fMm, fPick, fB, fB2s, fMkF, allSimple, hasLocal, isLocal, binD, binI, binS, AV.rd, D.cells, D.one, Res.av, putO, PutG_some, PutG_if, PutG_if', PutG_mif, StG_some, StG_if, BoolG_d, GuardG_d, GuardR_d, GuardR_u, IteG, Classical.not_not, retK_ret, retK_normal, RetG_some, resS, resL, resV, mkRes, Nat.reduceEqDiff, Nat.reduceBEq, Nat.reduceLT, Nat.reduceLeDiff, Nat.reduceAdd, Nat.reduceSub, Nat.reduceMul, Nat.zero_add, ↓reduceIte, Option.getD_some, Option.getD_none, Option.map_some, Option.map_none, Option.some.injEq, reduceCtorEq, Bool.not_true, Bool.not_false, Bool.not_eq_true', Bool.not_eq_false', decide_eq_true_eq, decide_eq_false_iff_not, decide_true, decide_false, true_implies, false_implies, true_and, and_true, and_self, implies_true, List.length_cons, List.length_nil, List.set_cons_zero, List.set_cons_succ, List.getElem?_cons_zero, List.getElem?_cons_succ, List.take_succ_cons, List.take_zero, List.drop_succ_cons, List.drop_zero, List.take_nil, List.drop_nil, List.map_cons, List.map_nil, List.cons_append, List.nil_append, List.append_nil, beq_self_eq_true, Bool.and_true, Bool.true_and, Bool.false_and, Bool.and_false, Lab.t.injEq, Lab.c.injEq, Ref.l.injEq, Ref.x.injEq, Bool.false_eq_true, Bool.true_eq_false, eq_self_iff_true, if_true, if_false, Bool.not_eq_true, Bool.not_eq_false, and_false, false_and, or_true, true_or, or_false, false_or, ne_eq, not_true_eq_false, not_false_eq_true, beq_iff_eq, Nat.reduceBNe, Nat.le_refl, Nat.reduceSubDiff, Int.reduceLT, gt_iff_lt, Int.reduceLE, Int.reduceEq, Int.reduceNeg, Int.reduceAdd, Int.reduceMul, Int.reduceSub, Int.reduceToNat, Int.toNat_zero, Int.toNat_one, Int.natCast_zero, Int.cast_ofNat_Int, Int.natCast_one, IntWalk.i64_in, IntWalk.u8_in, ops_prim, dps_prim, retM_normal, retM_ret, RetM_some, resR, resOwn, resAL, resA, okRes, mkA, objsOf, passA, amod, AV.den, AV.pub, passI, passQ, labsQ, eraseL, nsD, retO, backS, setObjs, AObj.ren, AV.ren, AV.ren1, renL, ren1L, renR, renQ, AV.unown, memR, List.getD_cons_zero, List.getD_cons_succ, initA, numO, AV.wf, AV.wf1, wfL, wf1L, wfR, Bool.and_self, decide_true, getI_nat s, hc, n40, n41, n92, L32, e1, e2, e3, e4, bytesOf3n]
          refine bldCall (.x 0) rfl (writeString_at (.has (b.bytes ++ [40] ++ strP (s.take i))) [92, UInt8.ofNat (48 + c.toNat / 64), UInt8.ofNat (48 + c.toNat / 8 % 8), UInt8.ofNat (48 + c.toNat % 8)] (by simp only [Bld.bytes_has, List.length_append, List.length_cons, List.length_nil]; omega)) rfl rfl rfl rfl ?_
          simp (maxSteps := 2000000) (disch := omega) only [go_sem, ↓reduceIte]
          refine ⟨i + 1, ?_, by omega, by omega⟩
          refine Weak.mk ?_ ?_ ?_ <;> simp (maxSteps := 2000000) only [go_sem, ↓reduceIte, Sub, Int.natCast_add, Int.natCast_mul, strP_next hc, Bld.bytes_has, hb, List.append_assoc]
        · skip
          have n40 : ((c.toNat : Int) = 40) = False := by simp only [eq_iff_iff, iff_false]; omega
          have n41 : ((c.toNat : Int) = 41) = False := by simp only [eq_iff_iff, iff_false]; omega
          have n92 : ((c.toNat : Int) = 92) = False := by simp only [eq_iff_iff, iff_false]; omega
          have L32 : ((32 : Int) ≤ c.toNat) = True := by simp only [eq_iff_iff, iff_true]; omega
          have G126 : ((c.toNat : Int) ≤ 126) = False := by simp only [eq_iff_iff, iff_false]; omega
          simp (maxSteps := 2000000) (disch := omega) only [run_skip, run_reg, run_dreg, run_seq, run_cond, run_block, run_exit, run_ret, pop_code, pop_goal, pop_blk, pop_nil, pop_ret_code, pop_ret_goal, pop_ret_blk, pop_exit_code, pop_exit_goal, pop_exit_blk, run_dead, pop_dead, pop_ret_dead, pop_exit_dead, St.dead, adelL, adel, ops_nil, ops_val, ops_asg, ops_nils, ops_box, ops_allo, ops_app, ops_bsl, ops_st, ops_sla, ops_call, ops_guard, dps_nil, dps_val, dps_asg, dps_nils, dps_box, dps_allo, dps_app, appD, dps_bsl, dps_st, dps_sla, dps_call, dps_guard, pev, St.ev, St.get, St.put, acons, St.mark, St.obj, St.setObj, aget, aset, amap, initρ, asgS, nilS, newO, newB, boxS, dnsL, appS, bslS, bspS, slaS, List.all_cons, List.all_nil, List.any_cons, List.any_nil, Bool.or_false, Bool.false_or, Bool.true_or, Bool.or_true, Bool.or_self, stS, stD, setA, St.erase, St.drop, AV.erase, AV.rename, AV.drop, AV.has, AV.isPtr, dropObj, srcL, evL, evP, evO, rdAll, rdL, allSz, fLd, fLdX, fLdA, AV.nsr, AV.rd1, rd1L, fIaR, fIaD, AV.solid, solidN, List.all, dps_primC, dps_stC, chkK_cons, chkK_nil, exists_eq_left', AV.locFree, fLdP, fFa, fIa, fIaA, fFld, fillD, lookP, setR, fExt, AV.simple, fMkI, fAsT, fNck, fEqB, fEqS, eqCs, eqC, fEqN, okN, fNil, isNil, fNot, fNeg, fCvI, fI2s, fIdxS, fSubS, fSub, loOf, hiOf, fLen, fLenK, fMm, fPick, fB, fB2s, fMkF, allSimple, hasLocal, isLocal, binD, binI, binS, AV.rd, D.cells, D.one, Res.av, putO, PutG_some, PutG_if, PutG_if', PutG_mif, StG_some, StG_if, BoolG_d, GuardG_d, GuardR_d, GuardR_u, IteG, Classical.not_not, retK_ret, retK_normal, RetG_some, resS, resL, resV, mkRes, Nat.reduceEqDiff, Nat.reduceBEq, Nat.reduceLT, Nat.reduceLeDiff, Nat.reduceAdd, Nat.reduceSub, Nat.reduceMul, Nat.zero_add, ↓reduceIte, Option.getD_some, Option.getD_none, Option.map_some, Option.map_none, Option.some.injEq, reduceCtorEq, Bool.not_true, Bool.not_false, Bool.not_eq_true', Bool.not_eq_false', decide_eq_true_eq, decide_eq_false_iff_not, decide_true, decide_false, true_implies, false_implies, true_and, and_true, and_self, implies_true, List.length_cons, List.length_nil, List.set_cons_zero, List.set_cons_succ, List.getElem?_cons_zero, List.getElem?_cons_succ, List.take_succ_cons, List.take_zero, List.drop_succ_cons, List.drop_zero, List.take_nil, List.drop_nil, List.map_cons, List.map_nil, List.cons_append, List.nil_append, List.append_nil, beq_self_eq_true, Bool.and_true, Bool.true_and, Bool.false_and, Bool.and_false, Lab.t.injEq, Lab.c.injEq, Ref.l.injEq, Ref.x.injEq, Bool.false_eq_true, Bool.true_eq_false, eq_self_iff_true, if_true, if_false, Bool.not_eq_true, Bool.not_eq_false, and_false, false_and, or_true, true_or, or_false, false_or, ne_eq, not_true_eq_false, not_false_eq_true, beq_iff_eq, Nat.reduceBNe, Nat.le_refl, Nat.reduceSubDiff, Int.reduceLT, gt_iff_lt, Int.reduceLE, Int.reduceEq, Int.reduceNeg, Int.reduceAdd, Int.reduceMul, Int.reduceSub, Int.reduceToNat, Int.toNat_zero, Int.toNat_one, Int.natCast_zero, Int.cast_ofNat_Int, Int.natCast_one, IntWalk.i64_in, IntWalk.u8_in, ops_prim, dps_prim, retM_normal, retM_ret, RetM_some, resR, resOwn, resAL, resA, okRes, mkA, objsOf, passA, amod, AV.den, AV.pub, passI, passQ, labsQ, eraseL, nsD, retO, backS, setObjs, AObj.ren, AV.ren, AV.ren1, renL, ren1L, renR, renQ, AV.unown, memR, List.getD_cons_zero, List.getD_cons_succ, initA, numO, AV.wf, AV.wf1, wfL, wf1L, wfR, Bool.and_self, decide_true, getI_nat s, hc, n40, n41, n92, L32, G126, e1, e2, e3, e4, bytesOf3n]
          refine bldCall (.x 0) rfl (writeString_at (.has (b.bytes ++ [40] ++ strP (s.take i))) [92, UInt8.ofNat (48 + c.toNat / 64), UInt8.ofNat (48 + c.toNat / 8 % 8), UInt8.ofNat (48 + c.toNat % 8)] (by simp only [Bld.bytes_has, List.length_append, List.length_cons, List.length_nil]; omega)) rfl rfl rfl rfl ?_
          simp (maxSteps := 2000000) (disch := omega) only [go_sem, ↓reduceIte]
          refine ⟨i + 1, ?_, by omega, by omega⟩
          refine Weak.mk ?_ ?_ ?_ <;> simp (maxSteps := 2000000) only [go_sem, ↓reduceIte, Sub, Int.natCast_add, Int.natCast_mul, strP_next hc, Bld.bytes_has, hb, List.append_assoc]
    · have hll := strP_length s
      rw [List.take_of_length_le (by omega)]
      refine bldCall (.x 0) rfl (writeByte_at (.has (b.bytes ++ [40] ++ strP s)) 41 (by simp only [Bld.bytes_has, List.length_append, List.length_cons, List.length_nil]; omega)) rfl rfl rfl rfl ?_
      simp (maxSteps := 2000000) only [go_sem, ↓reduceIte, Bld.bytes_has]

end Go.Av.Tryz
namespace Go.Av.Tryz
open Go.Proofs
open Go.Shelf

set_option maxRecDepth 100000
def itoaLays_ren : Go.Shelf.Ren := ⟨fun | 171 => 80 | 243 => 96 | 246 => 111 | 283 => 122 | 284 => 123 | 285 => 124 | 286 => 125 | 129 => 133 | 317 => 132 | 318 => 134 | 319 => 135 | 320 => 136 | 337 => 139 | 338 => 140 | n => n, fun | 3 => 3 | 9 => 9 | 2 => 2 | 4 => 4 | 171 => 137 | 0 => 0 | 53 => 138 | 37 => 57 | 5 => 5 | 173 => 141 | 212 => 147 | 51 => 143 | 20 => 20 | 213 => 148 | 46 => 106 | 232 => 157 | 233 => 158 | n => n, fun | 17 => 1 | 18 => 4 | 19 => 5 | n => n⟩
theorem itoaLays : Go.Proofs.LaysM.n171 Tryz.prog itoaLays_ren where
  mixed := by kernel_rfl
  f129 := Tryz.func133.trans (congrArg some (by kernel_rfl))
  f171 := Tryz.func80.trans (congrArg some (by kernel_rfl))
  f243 := Tryz.func96.trans (congrArg some (by kernel_rfl))
  f246 := Tryz.func111.trans (congrArg some (by kernel_rfl))
  f283 := Tryz.func122.trans (congrArg some (by kernel_rfl))
  f284 := Tryz.func123.trans (congrArg some (by kernel_rfl))
  f285 := Tryz.func124.trans (congrArg some (by kernel_rfl))
  f286 := Tryz.func125.trans (congrArg some (by kernel_rfl))
  f317 := Tryz.func132.trans (congrArg some (by kernel_rfl))
  f318 := Tryz.func134.trans (congrArg some (by kernel_rfl))
  f319 := Tryz.func135.trans (congrArg some (by kernel_rfl))
  f320 := Tryz.func136.trans (congrArg some (by kernel_rfl))
  f337 := Tryz.func139.trans (congrArg some (by kernel_rfl))
  f338 := Tryz.func140.trans (congrArg some (by kernel_rfl))
  t0 := Tryz.underlying0
  a0 := Tryz.isAgg0
  z0 := Tryz.sizeOf0
  v0 := Tryz.zeroValue0
  t2 := Tryz.underlying2
  a2 := Tryz.isAgg2
  z2 := Tryz.sizeOf2
  v2 := Tryz.zeroValue2
  t3 := Tryz.underlying3
  a3 := Tryz.isAgg3
  z3 := Tryz.sizeOf3
  v3 := Tryz.zeroValue3
  t4 := Tryz.underlying4
  a4 := Tryz.isAgg4
  z4 := Tryz.sizeOf4
  v4 := Tryz.zeroValue4
  t5 := Tryz.underlying5
  a5 := Tryz.isAgg5
  z5 := Tryz.sizeOf5
  v5 := Tryz.zeroValue5
  t9 := Tryz.underlying9
  a9 := Tryz.isAgg9
  z9 := Tryz.sizeOf9
  v9 := Tryz.zeroValue9
  t20 := Tryz.underlying20
  a20 := Tryz.isAgg20
  z20 := Tryz.sizeOf20
  v20 := Tryz.zeroValue20
  t37 := Tryz.underlying57
  a37 := Tryz.isAgg57
  z37 := Tryz.sizeOf57
  v37 := Tryz.zeroValue57
  t46 := Tryz.underlying106
  a46 := Tryz.isAgg106
  z46 := Tryz.sizeOf106
  v46 := Tryz.zeroValue106
  t51 := Tryz.underlying143
  a51 := Tryz.isAgg143
  z51 := Tryz.sizeOf143
  v51 := Tryz.zeroValue143
  t53 := Tryz.underlying138
  a53 := Tryz.isAgg138
  z53 := Tryz.sizeOf138
  v53 := Tryz.zeroValue138
  t171 := Tryz.underlying137
  a171 := Tryz.isAgg137
  z171 := Tryz.sizeOf137
  v171 := Tryz.zeroValue137
  t173 := Tryz.underlying141
  a173 := Tryz.isAgg141
  z173 := Tryz.sizeOf141
  v173 := Tryz.zeroValue141
  t212 := Tryz.underlying147
  a212 := Tryz.isAgg147
  z212 := Tryz.sizeOf147
  v212 := Tryz.zeroValue147
  t213 := Tryz.underlying148
  a213 := Tryz.isAgg148
  z213 := Tryz.sizeOf148
  t232 := Tryz.underlying157
  a232 := Tryz.isAgg157
  z232 := Tryz.sizeOf157
  v232 := Tryz.zeroValue157
  t233 := Tryz.underlying158
  a233 := Tryz.isAgg158
  z233 := Tryz.sizeOf158
  v233 := Tryz.zeroValue158
  g17 := by kernel_rfl
  g18 := by kernel_rfl
  g19 := by kernel_rfl
  i0 := by kernel_rfl
  i2 := by kernel_rfl
  i3 := by kernel_rfl
  i4 := by kernel_rfl
  i5 := by kernel_rfl
  i9 := by kernel_rfl
  i20 := by kernel_rfl
  i37 := by kernel_rfl
  i46 := by kernel_rfl
  i51 := by kernel_rfl
  i53 := by kernel_rfl
  i171 := by kernel_rfl
  i173 := by kernel_rfl
  i212 := by kernel_rfl
  i232 := by kernel_rfl
  i233 := by kernel_rfl
  m17 := by kernel_rfl
  m18 := by kernel_rfl
  m19 := by kernel_rfl

theorem drewN_heap (w : World) (k : Nat) : (w.drewN k).heap = w.heap ∧ (w.drewN k).os = w.os ∧ (w.drewN k).tape = w.tape ∧ (w.drewN k).output = w.output := by
  exact ⟨rfl, rfl, rfl, rfl⟩

theorem itoa_call (n : Int) (h0 : -9223372036854775808 ≤ n) (h1 : n ≤ 9223372036854775807) : PCall Tryz.prog 80 [.int .i64 n] (fun r => r = .one (.str (Lib.itoa n))) := by
  intro f w vs hI ht hsz hrd
  have hv : vs = #[.int .i64 n] := by
    have h2 := hrd 0 _ rfl
    match vs, hsz with
    | ⟨[v]⟩, _ => cases h2; rfl
  subst hv
  refine (Any.strconv_Itoa itoaLays n h0 h1 w (hI.1 1 (by kernel_rfl))).mono fun e w' ⟨he, k, os, hw⟩ => ?_
  subst hw
  obtain ⟨d1, d2, d3, d4⟩ := drewN_heap w k
  have hheap : (Sort.grow (w.drewN k) os).heap = w.heap ++ os := by simp [Sort.grow]
  refine ⟨_, _, f, rfl, he, .str _, ⟨?_, fun b hb => ⟨?_, rfl⟩, fun b hb => ht b ?_, d2, d3, d4⟩⟩
  · rw [hheap]; simp
  · rw [hheap, Array.getElem?_append_left hb]
  · rw [hheap] at hb; simp at hb; omega
end Go.Av.Tryz
set_option linter.unusedSimpArgs false
namespace Go.Av.Tryz
open Go.Proofs

def trimR (l : List UInt8) : List UInt8 := (l.reverse.dropWhile (· == 48)).reverse
theorem trimR_snoc (l : List UInt8) (c : UInt8) : trimR (l ++ [c]) = if c = 48 then trimR l else l ++ [c] := by
  unfold trimR
  rw [List.reverse_append, List.reverse_cons, List.reverse_nil, List.nil_append, List.cons_append, List.nil_append]
  by_cases h : c = 48
  · rw [if_pos h]; simp [h]
  · rw [if_neg h]; simp [h]

/-- strings.trimRightByte -/
def L_strings_trimRightByte : LCode :=
  .seq (.reg [⟨some 4, .asg (.k (.d (.str []))), none⟩]) (.seq (.block 0 (.loop (.seq (.seq (.reg [⟨some 5, .val (.cp (.t 0)), none⟩, ⟨some 6, .val (.len true (.t 5)), none⟩, ⟨some 
  7, .val (.bin .gtr (.t 6) (.k (.d (.int .i64 0)))), none⟩, ⟨some 8, .val (.cp (.t 7)), none⟩, ⟨some 9, .val (.cp (.t 0)), some (8, true)⟩, ⟨some 10, .val (.cp (.t 0)), some (8, 
  true)⟩, ⟨some 11, .val (.len true (.t 10)), some (8, true)⟩, ⟨some 12, .val (.bin .sub (.t 11) (.k (.d (.int .i64 1)))), some (8, true)⟩, ⟨some 13, .val (.idxS (.t 9) (.t 12)), 
  some (8, true)⟩, ⟨some 14, .val (.cp (.t 1)), some (8, true)⟩, ⟨some 15, .val (.bin .eql (.t 13) (.t 14)), some (8, true)⟩, ⟨some 16, .val (.pick (.t 8) (.t 15) (.k (.d (.bool 
  false)))), none⟩]) (.cond (.t 16) .skip (.exit 0))) (.block 1 (.reg [⟨some 17, .val (.cp (.t 0)), none⟩, ⟨some 18, .val (.cp (.t 0)), none⟩, ⟨some 19, .val (.len true (.t 18)), 
  none⟩, ⟨some 20, .val (.bin .sub (.t 19) (.k (.d (.int .i64 1)))), none⟩, ⟨some 21, .val (.subS (.t 17) none (some (.t 20))), none⟩, ⟨some 0, .asg (.t 21), none⟩]))))) (.seq 
  (.reg [⟨some 22, .val (.cp (.t 0)), none⟩, ⟨some 4, .asg (.t 22), none⟩]) .ret))
def R_strings_trimRightByte : List LRes := [.tmp 4]
theorem lift_strings_trimRightByte : Lifts Tryz.prog 97 23 L_strings_trimRightByte R_strings_trimRightByte := ⟨_, _, Tryz.func97, rfl, by kernel_rfl, by kernel_rfl, rfl⟩

theorem trimByte_call (s : List UInt8) (hs : s.length ≤ 1000000) : PCall Tryz.prog 97 [.str s, .int .u8 48] (fun r => r = .one (.str (trimR s))) := by
  refine lift_strings_trimRightByte.call rfl ?_
  simp (maxSteps := 2000000) only [go_sem, ↓reduceIte, L_strings_trimRightByte, R_strings_trimRightByte]
  refine run_loop (fun k : Nat => ⟨[(0, .d (.str (s.take k))), (1, .d (.int .u8 48))], [], []⟩)
    (fun k => k ≤ s.length ∧ trimR (s.take k) = trimR s) (fun k => k) s.length ?_ ?_ ?_
  · refine weak_mk ?_ trivial
    simp (maxSteps := 2000000) only [go_sem, ↓reduceIte, Sub, Int.natCast_add, Int.natCast_mul, List.take_length]
  · exact ⟨Nat.le_refl _, by rw [List.take_length]⟩
  · rintro k ⟨hk, hF⟩
    have hlk : (s.take k).length = k := by rw [List.length_take]; omega
    have hlI : (((s.take k).length : Nat) : Int) = (k : Int) := by rw [hlk]
    simp (maxSteps := 2000000) (disch := omega) only [go_sem, ↓reduceIte, hlI]
    refine ⟨fun q1 => ?_, fun q1 => ?_⟩
    · obtain ⟨c, hc⟩ := get_some (l := s) (i := k - 1) (by omega)
      have hsplit : s.take k = s.take (k - 1) ++ [c] := by
        rw [← take_next hc]; congr 1; omega
      have hg : getI (s.take k) ((k : Int) - 1) = some c := by
        have e : ((k : Int) - 1) = ((k - 1 : Nat) : Int) := by omega
        rw [e, getI_nat, List.getElem?_take, if_pos (by omega), hc]
      have hcut : cutI (s.take k) 0 ((k : Int) - 1) = s.take (k - 1) := by
        have e : ((k : Int) - 1) = ((k - 1 : Nat) : Int) := by omega
        rw [e]
        show cutI (s.take k) ((0 : Nat) : Int) _ = _
        rw [cutI_nat, List.take_take, List.drop_zero]; congr 1; omega
      simp (maxSteps := 2000000) (disch := omega) only [go_sem, ↓reduceIte, hg, hcut, hlI]
      refine ⟨fun q2 => ⟨⟨by omega, by omega⟩, k - 1, ?_, ⟨by omega, ?_⟩, by omega⟩, fun q2 => ?_⟩
      · refine weak_mk ?_ trivial
        simp (maxSteps := 2000000) only [go_sem, ↓reduceIte, Sub, Int.natCast_add, Int.natCast_mul]
      · rw [← hF, hsplit, trimR_snoc, if_pos (by
          have h48 : (48 : UInt8).toNat = 48 := rfl
          apply UInt8.toNat_inj.1; omega)]
      · rw [← hF, hsplit, trimR_snoc, if_neg (fun h => q2 (by rw [h]; rfl))]
    · have hk0 : k = 0 := by omega
      subst hk0
      rw [← hF]; rfl

/-- strings.TrimRight -/
def L_strings_TrimRight : LCode :=
  .seq (.reg [⟨some 4, .asg (.k (.d (.str []))), none⟩]) (.seq (.seq (.reg [⟨some 7, .val (.cp (.t 0)), none⟩, ⟨some 8, .val (.bin .eql (.t 7) (.k (.d (.str [])))), none⟩, ⟨some 9, 
  .val (.cp (.t 8)), none⟩, ⟨some 10, .val (.cp (.t 1)), some (9, false)⟩, ⟨some 11, .val (.bin .eql (.t 10) (.k (.d (.str [])))), some (9, false)⟩, ⟨some 12, .val (.pick (.t 9) 
  (.k (.d (.bool true))) (.t 11)), none⟩]) (.cond (.t 12) (.seq (.reg [⟨some 13, .val (.cp (.t 0)), none⟩, ⟨some 4, .asg (.t 13), none⟩]) .ret) .skip)) (.seq (.seq (.reg [⟨some 14, 
  .val (.cp (.t 1)), none⟩, ⟨some 15, .val (.len true (.t 14)), none⟩, ⟨some 16, .val (.bin .eql (.t 15) (.k (.d (.int .i64 1)))), none⟩, ⟨some 17, .val (.cp (.t 16)), none⟩, ⟨some 
  18, .val (.cp (.t 1)), some (17, true)⟩, ⟨some 19, .val (.idxS (.t 18) (.k (.d (.int .i64 0)))), some (17, true)⟩, ⟨some 20, .val (.bin .lss (.t 19) (.k (.d (.int .u8 128)))), 
  some (17, true)⟩, ⟨some 21, .val (.pick (.t 17) (.t 20) (.k (.d (.bool false)))), none⟩]) (.cond (.t 21) (.seq (.reg [⟨some 22, .val (.cp (.t 0)), none⟩, ⟨some 23, .val (.cp (.t 
  1)), none⟩, ⟨some 24, .val (.idxS (.t 23) (.k (.d (.int .i64 0)))), none⟩, ⟨some 25, .call 97 [.t 22, .t 24], none⟩, ⟨some 4, .asg (.t 25), none⟩]) .ret) .skip)) (.seq (.seq 
  (.reg [⟨some 27, .val (.cp (.t 1)), none⟩, ⟨some 28, .call 98 [.t 27], none⟩, ⟨some 26, .val (.cp (.t 28)), none⟩, ⟨some 29, .val (.ext 0 (.t 26)), none⟩, ⟨some 30, .val (.ext 1 
  (.t 26)), none⟩, ⟨some 5, .allo [.bool false, .bool false, .bool false, .bool false, .bool false, .bool false, .bool false, .bool false, .bool false, .bool false, .bool false, 
  .bool false, .bool false, .bool false, .bool false, .bool false, .bool false, .bool false, .bool false, .bool false, .bool false, .bool false, .bool false, .bool false, .bool 
  false, .bool false, .bool false, .bool false, .bool false, .bool false, .bool false, .bool false, .bool false, .bool false, .bool false, .bool false, .bool false, .bool false, 
  .bool false, .bool false, .bool false, .bool false, .bool false, .bool false, .bool false, .bool false, .bool false, .bool false, .bool false, .bool false, .bool false, .bool 
  false, .bool false, .bool false, .bool false, .bool false, .bool false, .bool false, .bool false, .bool false, .bool false, .bool false, .bool false, .bool false, .bool false, 
  .bool false, .bool false, .bool false, .bool false, .bool false, .bool false, .bool false, .bool false, .bool false, .bool false, .bool false, .bool false, .bool false, .bool 
  false, .bool false, .bool false, .bool false, .bool false, .bool false, .bool false, .bool false, .bool false, .bool false, .bool false, .bool false, .bool false, .bool false, 
  .bool false, .bool false, .bool false, .bool false, .bool false, .bool false, .bool false, .bool false, .bool false, .bool false, .bool false, .bool false, .bool false, .bool 
  false, .bool false, .bool false, .bool false, .bool false, .bool false, .bool false, .bool false, .bool false, .bool false, .bool false, .bool false, .bool false, .bool false, 
  .bool false, .bool false, .bool false, .bool false, .bool false, .bool false, .bool false, .bool false, .bool false, .bool false, .bool false, .bool false, .bool false, .bool 
  false, .bool false, .bool false, .bool false, .bool false, .bool false, .bool false, .bool false, .bool false, .bool false, .bool false, .bool false, .bool false, .bool false, 
  .bool false, .bool false, .bool false, .bool false, .bool false, .bool false, .bool false, .bool false, .bool false, .bool false, .bool false, .bool false, .bool false, .bool 
  false, .bool false, .bool false, .bool false, .bool false, .bool false, .bool false, .bool false, .bool false, .bool false, .bool false, .bool false, .bool false, .bool false, 
  .bool false, .bool false, .bool false, .bool false, .bool false, .bool false, .bool false, .bool false, .bool false, .bool false, .bool false, .bool false, .bool false, .bool 
  false, .bool false, .bool false, .bool false, .bool false, .bool false, .bool false, .bool false, .bool false, .bool false, .bool false, .bool false, .bool false, .bool false, 
  .bool false, .bool false, .bool false, .bool false, .bool false, .bool false, .bool false, .bool false, .bool false, .bool false, .bool false, .bool false, .bool false, .bool 
  false, .bool false, .bool false, .bool false, .bool false, .bool false, .bool false, .bool false, .bool false, .bool false, .bool false, .bool false, .bool false, .bool false, 
  .bool false, .bool false, .bool false, .bool false, .bool false, .bool false, .bool false, .bool false, .bool false, .bool false, .bool false, .bool false, .bool false, .bool 
  false, .bool false, .bool false, .bool false, .bool false, .bool false, .bool false, .bool false, .bool false, .bool false, .bool false, .bool false, .bool false, .bool false, 
  .bool false, .bool false], none⟩, ⟨none, .st 256 (.t 5) (.t 29), none⟩, ⟨some 6, .asg (.t 30), none⟩]) (.seq (.reg [⟨some 31, .val (.cp (.t 6)), none⟩]) (.cond (.t 31) (.seq 
  (.reg [⟨some 32, .val (.cp (.t 0)), none⟩, ⟨some 33, .prim .call [.k (.fn (.func 99) [] []), .t 32, .t 5] [], none⟩, ⟨some 4, .asg (.t 33), none⟩]) .ret) .skip))) (.seq (.reg 
  [⟨some 34, .val (.cp (.t 0)), none⟩, ⟨some 35, .val (.cp (.t 1)), none⟩, ⟨some 36, .call 100 [.t 34, .t 35], none⟩, ⟨some 4, .asg (.t 36), none⟩]) .ret))))
def R_strings_TrimRight : List LRes := [.tmp 4]
theorem lift_strings_TrimRight : Lifts Tryz.prog 81 37 L_strings_TrimRight R_strings_TrimRight := ⟨_, _, Tryz.func81, rfl, by kernel_rfl, by kernel_rfl, rfl⟩

set_option maxRecDepth 10000 in
theorem trim_call (s : List UInt8) (hs : s.length ≤ 1000000) : PCall Tryz.prog 81 [.str s, .str [48]] (fun r => r = .one (.str (trimR s))) := by
  refine lift_strings_TrimRight.call rfl ?_
  have hg : getI ([48] : List UInt8) 0 = some 48 := rfl
  have h48 : ((UInt8.toNat 48 : Nat) : Int) = 48 := rfl
  by_cases h : s = []
  · subst h
    simp (maxSteps := 2000000) only [go_sem, ↓reduceIte, L_strings_TrimRight, R_strings_TrimRight]
    rfl
  · have h1 : (([48] : List UInt8) = []) = False := by simp
    have h2 : (s = []) = False := eq_false h
    simp (maxSteps := 2000000) only [go_sem, ↓reduceIte, L_strings_TrimRight, R_strings_TrimRight, h1, h2, hg, h48]
    refine CallG.of (trimByte_call s hs) ?_
    simp (maxSteps := 2000000) only [go_sem, ↓reduceIte]

def fracD (r : Nat) : List UInt8 := [UInt8.ofNat (48 + r / 100), UInt8.ofNat (48 + r / 10 % 10), UInt8.ofNat (48 + r % 10)]
theorem dec1000 {r : Nat} (h : r < 1000) : Lib.decDigits (1000 + r) = 49 :: fracD r := by
  rw [Lib.decDigits, dif_neg (by omega), Lib.decDigits, dif_neg (by omega), Lib.decDigits, dif_neg (by omega), Lib.decDigits, dif_pos (by omega)]
  have e1 : (1000 + r) / 10 / 10 / 10 = 1 := by omega
  have e2 : (1000 + r) / 10 / 10 % 10 = r / 100 := by omega
  have e3 : (1000 + r) / 10 % 10 = r / 10 % 10 := by omega
  have e4 : (1000 + r) % 10 = r % 10 := by omega
  rw [e1, e2, e3, e4]; rfl

def fracT (r : Nat) : List UInt8 := if trimR (fracD r) = [] then [] else 46 :: trimR (fracD r)
def textF (n : Int) : List UInt8 := (if n < 0 then [45] else []) ++ Lib.decDigits (n.natAbs / 1000) ++ fracT (n.natAbs % 1000)
def resT (n : Int) : Res := if Lim n then .tup [.str (textF n), .nil] else .tup [.str [], err 1]

theorem nDigits_le (u k : Nat) (h : u < 10 ^ (k + 1)) : (Lib.decDigits u).length ≤ k + 1 := by
  induction k generalizing u with
  | zero => rw [Lib.decDigits, dif_pos (by simpa using h)]; simp
  | succ k ih =>
    rw [Lib.decDigits]
    split
    · simp
    · rw [List.length_append]
      have := ih (u / 10) (by rw [Nat.pow_succ] at h; omega)
      simp; omega

/-- fix.Text -/
def L_fix_Text : LCode :=
  .seq (.reg [⟨some 2, .asg (.k (.d (.str []))), none⟩, ⟨some 3, .asg (.k (.d .nil)), none⟩]) (.seq (.reg [⟨some 8, .val (.cp (.t 0)), none⟩, ⟨some 9, .call 76 [.t 8], none⟩, ⟨some 
  4, .asg (.t 9), none⟩]) (.seq (.seq (.reg [⟨some 10, .val (.cp (.t 4)), none⟩, ⟨some 11, .val (.eqN 0 true (.t 10)), none⟩]) (.cond (.t 11) (.seq (.reg [⟨some 12, .val (.cp (.t 
  4)), none⟩, ⟨some 2, .asg (.k (.d (.str []))), none⟩, ⟨some 3, .asg (.t 12), none⟩]) .ret) .skip)) (.seq (.reg [⟨some 5, .asg (.k (.d (.str []))), none⟩]) (.seq (.seq (.reg 
  [⟨some 13, .val (.cp (.t 0)), none⟩, ⟨some 14, .val (.bin .lss (.t 13) (.k (.d (.int .i64 0)))), none⟩]) (.cond (.t 14) (.reg [⟨some 15, .val (.cp (.t 0)), none⟩, ⟨some 16, .val 
  (.neg (.t 15)), none⟩, ⟨some 5, .asg (.k (.d (.str [45]))), none⟩, ⟨some 0, .asg (.t 16), none⟩]) .skip)) (.seq (.reg [⟨some 17, .val (.cp (.t 5)), none⟩, ⟨some 18, .val (.cp (.t 
  0)), none⟩, ⟨some 19, .val (.bin .quo (.t 18) (.k (.d (.int .i64 1000)))), none⟩, ⟨some 20, .call 80 [.t 19], none⟩, ⟨some 21, .val (.bin .add (.t 17) (.t 20)), none⟩, ⟨some 6, 
  .asg (.t 21), none⟩]) (.seq (.reg [⟨some 22, .val (.cp (.t 0)), none⟩, ⟨some 23, .val (.bin .rem (.t 22) (.k (.d (.int .i64 1000)))), none⟩, ⟨some 24, .val (.bin .add (.k (.d 
  (.int .i64 1000))) (.t 23)), none⟩, ⟨some 25, .call 80 [.t 24], none⟩, ⟨some 26, .val (.subS (.t 25) (some (.k (.d (.int .i64 1)))) none), none⟩, ⟨some 7, .asg (.t 26), none⟩]) 
  (.seq (.reg [⟨some 27, .val (.cp (.t 7)), none⟩, ⟨some 28, .call 81 [.t 27, .k (.d (.str [48]))], none⟩, ⟨some 7, .asg (.t 28), none⟩]) (.seq (.seq (.reg [⟨some 29, .val (.cp (.t 
  7)), none⟩, ⟨some 30, .val (.bin .neq (.t 29) (.k (.d (.str [])))), none⟩]) (.cond (.t 30) (.reg [⟨some 31, .val (.cp (.t 6)), none⟩, ⟨some 32, .val (.cp (.t 7)), none⟩, ⟨some 
  33, .val (.bin .add (.k (.d (.str [46]))) (.t 32)), none⟩, ⟨some 34, .val (.bin .add (.t 31) (.t 33)), none⟩, ⟨some 6, .asg (.t 34), none⟩]) .skip)) (.seq (.reg [⟨some 35, .val 
  (.cp (.t 6)), none⟩, ⟨some 2, .asg (.t 35), none⟩, ⟨some 3, .asg (.k (.d .nil)), none⟩]) .ret)))))))))
def R_fix_Text : List LRes := [.tmp 2, .tmp 3]
theorem lift_fix_Text : Lifts Tryz.prog 52 36 L_fix_Text R_fix_Text := ⟨_, _, Tryz.func52, rfl, by kernel_rfl, by kernel_rfl, rfl⟩

theorem text_call (n : Int) : PCall Tryz.prog 52 [.int .i64 n] (fun r => r = resT n) := by
  refine lift_fix_Text.call rfl ?_
  simp (maxSteps := 2000000) only [go_sem, ↓reduceIte, L_fix_Text, R_fix_Text]
  unfold resT
  by_cases hl : Lim n
  · rw [if_pos hl]
    refine CallG.of (check_ok hl) ?_
    unfold Lim at hl
    obtain ⟨m, hm⟩ : ∃ m : Nat, n.natAbs = m := ⟨_, rfl⟩
    have hm9 : m ≤ 1000000000 := by omega
    have hd1 : Int.tdiv (m : Int) 1000 = ((m / 1000 : Nat) : Int) := rfl
    have hd2 : Int.tmod (m : Int) 1000 = ((m % 1000 : Nat) : Int) := rfl
    have hi1 : Lib.itoa ((m / 1000 : Nat) : Int) = Lib.decDigits (m / 1000) := by unfold Lib.itoa; rw [if_neg (by omega)]; rfl
    have hi2 : Lib.itoa (1000 + ((m % 1000 : Nat) : Int)) = 49 :: fracD (m % 1000) := by
      unfold Lib.itoa; rw [if_neg (by omega), ← dec1000 (Nat.mod_lt _ (by decide))]; congr 1
    have hlen := nDigits_le (m / 1000) 6 (by omega)
    unfold textF
    rw [hm]
    generalize Lib.decDigits (m / 1000) = D1 at hi1 hlen ⊢
    have hcut : cutI (49 :: fracD (m % 1000)) 1 4 = fracD (m % 1000) := rfl
    have hfl : ((fracD (m % 1000)).length : Nat) = 3 := rfl
    have htl : (trimR (fracD (m % 1000))).length ≤ 3 := by
      unfold trimR; rw [List.length_reverse]
      exact Nat.le_trans (List.dropWhile_sublist _).length_le (by rw [List.length_reverse]; exact Nat.le_refl 3)
    by_cases hn : n < 0
    · have e : 0 - n = (m : Int) := by omega
      simp (maxSteps := 2000000) (disch := omega) only [go_sem, ↓reduceIte, hn, e, hd1, hd2]
      refine CallG.of (itoa_call _ (by omega) (by omega)) ?_
      rw [hi1]
      simp (maxSteps := 2000000) (disch := omega) only [go_sem, ↓reduceIte, e, hd1, hd2]
      refine ⟨by omega, ?_⟩
      refine CallG.of (itoa_call _ (by omega) (by omega)) ?_
      rw [hi2]
      simp (maxSteps := 2000000) (disch := omega) only [go_sem, ↓reduceIte, hcut, hfl]
      refine CallG.of (trim_call _ (by rw [hfl]; omega)) ?_
      unfold fracT
      by_cases ht : trimR (fracD (m % 1000)) = []
      · rw [if_pos ht, ht]
        simp (maxSteps := 2000000) only [go_sem, ↓reduceIte, List.append_nil]
      · rw [if_neg ht]
        have ht' : (trimR (fracD (m % 1000)) = []) = False := eq_false ht
        simp (maxSteps := 2000000) (disch := omega) only [go_sem, ↓reduceIte, ht', List.append_assoc]
        exact ⟨by omega, by omega⟩
    · have e : n = (m : Int) := by omega
      rw [e]
      have hn' : ¬ ((m : Int) < 0) := by omega
      simp (maxSteps := 2000000) (disch := omega) only [go_sem, ↓reduceIte, hn', hd1, hd2]
      refine CallG.of (itoa_call _ (by omega) (by omega)) ?_
      rw [hi1]
      simp (maxSteps := 2000000) (disch := omega) only [go_sem, ↓reduceIte, hd1, hd2]
      refine ⟨by omega, ?_⟩
      refine CallG.of (itoa_call _ (by omega) (by omega)) ?_
      rw [hi2]
      simp (maxSteps := 2000000) (disch := omega) only [go_sem, ↓reduceIte, hcut, hfl]
      refine CallG.of (trim_call _ (by rw [hfl]; omega)) ?_
      unfold fracT
      by_cases ht : trimR (fracD (m % 1000)) = []
      · rw [if_pos ht, ht]
        simp (maxSteps := 2000000) only [go_sem, ↓reduceIte, List.append_nil]
      · rw [if_neg ht]
        have ht' : (trimR (fracD (m % 1000)) = []) = False := eq_false ht
        simp (maxSteps := 2000000) (disch := omega) only [go_sem, ↓reduceIte, ht', List.append_assoc]
        exact ⟨by omega, by omega⟩
  · rw [if_neg hl]
    refine CallG.of (check_bad hl) ?_
    simp (maxSteps := 2000000) only [go_sem, ↓reduceIte, err]
end Go.Av.Tryz
set_option linter.unusedSimpArgs false
namespace Go.Av.Tryz
open Go.Proofs
end Go.Av.Tryz
set_option linter.unusedSimpArgs false
namespace Go.Av.Tryz
open Go.Proofs

mutual
/-- The text of a value that is well. -/
def textV : Val → List UInt8
  | .mk k n s l f =>
    if k = 1 then (if n = 1 then [116, 114, 117, 101] else [102, 97, 108, 115, 101])
    else if k = 2 then textF n
    else if k = 3 then [40] ++ strP s ++ [41]
    else if k = 4 then [47] ++ nameP s
    else if k = 5 then [91] ++ textL false l ++ [93]
    else if k = 6 then [60, 60] ++ textX f ++ [32, 62, 62]
    else if k = 7 then Lib.decDigits n.toNat ++ [32, 48, 32, 82]
    else [110, 117, 108, 108]
def textL (sep : Bool) : List Val → List UInt8
  | [] => []
  | v :: r => (if sep then [32] else []) ++ textV v ++ textL true r
def textX : List Fld → List UInt8
  | [] => []
  | .mk nm v :: r => [32, 47] ++ nameP nm ++ [32] ++ textV v ++ textX r
end
theorem textV_eq (v : Val) : textV v =
    if v.kind = 1 then (if v.n = 1 then [116, 114, 117, 101] else [102, 97, 108, 115, 101])
    else if v.kind = 2 then textF v.n
    else if v.kind = 3 then [40] ++ strP v.s ++ [41]
    else if v.kind = 4 then [47] ++ nameP v.s
    else if v.kind = 5 then [91] ++ textL false v.l ++ [93]
    else if v.kind = 6 then [60, 60] ++ textX v.f ++ [32, 62, 62]
    else if v.kind = 7 then Lib.decDigits v.n.toNat ++ [32, 48, 32, 82]
    else [110, 117, 108, 108] := by cases v; simp only [textV]; rfl
theorem textL_append (sep : Bool) (a b : List Val) : textL sep (a ++ b) = textL sep a ++ textL (sep || decide (a ≠ [])) b := by
  induction a generalizing sep with
  | nil => simp [textL]
  | cons v r ih => simp [textL, ih, List.append_assoc]
theorem textL_next {l : List Val} {i : Nat} {x : Val} (hx : l[i]? = some x) : textL false (l.take (i + 1)) = textL false (l.take i) ++ (if 0 < i then [32] else []) ++ textV x := by
  rw [take_snoc hx, textL_append]
  have hl : i < l.length := (List.getElem?_eq_some_iff.1 hx).1
  by_cases h : 0 < i
  · have : l.take i ≠ [] := fun e => by
      have h2 : (l.take i).length = 0 := by rw [e]; rfl
      rw [List.length_take] at h2; omega
    simp [textL, h, this]
  · obtain rfl : i = 0 := by omega
    simp [textL]
theorem textL_take_le {l : List Val} {i : Nat} : (textL false (l.take i)).length ≤ (textL false l).length := by
  have h := textL_append false (l.take i) (l.drop i)
  rw [List.take_append_drop] at h
  rw [h, List.length_append]; omega
def textG (x : Fld) : List UInt8 := [32, 47] ++ nameP x.name ++ [32] ++ textV x.v
theorem textX_append (a b : List Fld) : textX (a ++ b) = textX a ++ textX b := by
  induction a with
  | nil => simp [textX]
  | cons x r ih => cases x; simp [textX, ih, List.append_assoc]
theorem textX_next {l : List Fld} {i : Nat} {x : Fld} (hx : l[i]? = some x) : textX (l.take (i + 1)) = textX (l.take i) ++ textG x := by
  rw [take_snoc hx, textX_append]
  cases x; simp [textX, textG, Fld.name, Fld.v]
theorem textX_take_le {l : List Fld} {i : Nat} : (textX (l.take i)).length ≤ (textX l).length := by
  have h := textX_append (l.take i) (l.drop i)
  rw [List.take_append_drop] at h
  rw [h, List.length_append]; omega

/-! ### What is well, part by part -/
theorem wellV_1 {v : Val} (h : wellV v = true) (hk : v.kind = 1) : v.n = 0 ∨ v.n = 1 := by rw [wellV_eq, hk] at h; simp at h; exact h.1
theorem wellV_2 {v : Val} (h : wellV v = true) (hk : v.kind = 2) : Lim v.n := by rw [wellV_eq, hk] at h; simp at h; exact h.1
theorem wellV_5 {v x : Val} (h : wellV v = true) (hk : v.kind = 5) (hx : x ∈ v.l) : wellV x = true := by
  rw [wellV_eq, hk] at h; simp at h
  have h1 := h.2.2.1
  rw [wellL_eq] at h1
  simp only [Bool.not_eq_true'] at h1
  rw [List.any_eq_false] at h1
  simpa using h1 x hx
theorem wellF_mem : ∀ {p : Option (List UInt8)} {l : List Fld} {x : Fld}, wellF p l = true → x ∈ l → nameMay x.name = true ∧ wellV x.v = true
  | p, .mk nm v :: r, x, h, hx => by
    simp only [wellF, Bool.and_eq_true] at h
    rcases List.mem_cons.1 hx with rfl | hx
    · exact ⟨h.1.1, h.1.2.1⟩
    · exact wellF_mem h.2 hx
theorem wellV_6 {v : Val} {x : Fld} (h : wellV v = true) (hk : v.kind = 6) (hx : x ∈ v.f) : wellV x.v = true := by
  rw [wellV_eq, hk] at h; simp at h
  exact (wellF_mem h.2.2.2 hx).2
theorem wellV_7 {v : Val} (h : wellV v = true) (hk : v.kind = 7) : 1 ≤ v.n ∧ v.n ≤ 60 := by rw [wellV_eq, hk] at h; simp at h; exact h.1
theorem wellV_k {v : Val} (h : wellV v = true) : v.kind = 0 ∨ v.kind = 1 ∨ v.kind = 2 ∨ v.kind = 3 ∨ v.kind = 4 ∨ v.kind = 5 ∨ v.kind = 6 ∨ v.kind = 7 := by
  rcases kinds v.kind with k | k | k | k | k | k | k | k | ⟨k0, k1, k2, k3, k4, k5, k6, k7⟩
  · exact .inl k
  · exact .inr (.inl k)
  · exact .inr (.inr (.inl k))
  · exact .inr (.inr (.inr (.inl k)))
  · exact .inr (.inr (.inr (.inr (.inl k))))
  · exact .inr (.inr (.inr (.inr (.inr (.inl k)))))
  · exact .inr (.inr (.inr (.inr (.inr (.inr (.inl k))))))
  · exact .inr (.inr (.inr (.inr (.inr (.inr (.inr k))))))
  · rw [wellV_eq, if_neg k0, if_neg k1, if_neg k2, if_neg k3, if_neg k4, if_neg k5, if_neg k6, if_neg k7] at h; cases h

end Go.Av.Tryz
set_option linter.unusedSimpArgs false
namespace Go.Av.Tryz
open Go.Proofs

def parseL : List UInt8 → Nat → Nat → Int → Option (Nat × Nat × Int)
  | [], n, d, p => some (n, d, p)
  | c :: r, n, d, p =>
    if c.toNat = 46 ∧ p < 0 then parseL r n d 0
    else if c.toNat < 48 ∨ 57 < c.toNat then none
    else parseL r (if p < 3 ∧ n ≤ 1000000000 then 10 * n + (c.toNat - 48) else n) (d + 1) (if 0 ≤ p then p + 1 else p)
def finP (neg : Bool) : Option (Nat × Nat × Int) → Int × Nat
  | none => (0, 4)
  | some (n, d, p) => if d = 0 then (0, 4) else if 1000000000 < n * 10 ^ (3 - p.toNat) then (0, 1) else (if neg = true then -((n * 10 ^ (3 - p.toNat) : Nat) : Int) else ((n * 10 ^ (3 - p.toNat) : Nat) : Int), 0)
def signP : List UInt8 → Bool × List UInt8
  | [] => (false, [])
  | c :: r => if c.toNat = 45 then (true, r) else if c.toNat = 43 then (false, r) else (false, c :: r)
def parseF (s : List UInt8) : Int × Nat := finP (signP s).1 (parseL (signP s).2 0 0 (-1))
def resP (p : Int × Nat) : Res := .tup [.int .i64 p.1, errD p.2]

/-- fix.Parse -/
def L_fix_Parse : LCode :=
  .seq (.reg [⟨some 2, .asg (.k (.d (.int .i64 0))), none⟩, ⟨some 3, .asg (.k (.d .nil)), none⟩]) (.seq (.reg [⟨some 11, .val (.cp (.t 0)), none⟩, ⟨some 4, .asg (.t 11), none⟩]) 
  (.seq (.reg [⟨some 5, .asg (.k (.d (.bool false))), none⟩]) (.seq (.seq (.reg [⟨some 12, .val (.cp (.t 4)), none⟩, ⟨some 13, .val (.bin .neq (.t 12) (.k (.d (.str [])))), none⟩, 
  ⟨some 14, .val (.cp (.t 13)), none⟩, ⟨some 15, .val (.cp (.t 4)), some (14, true)⟩, ⟨some 16, .val (.idxS (.t 15) (.k (.d (.int .i64 0)))), some (14, true)⟩, ⟨some 17, .val (.bin 
  .eql (.t 16) (.k (.d (.int .u8 45)))), some (14, true)⟩, ⟨some 18, .val (.cp (.t 17)), some (14, true)⟩, ⟨some 19, .val (.cp (.t 4)), some (18, false)⟩, ⟨some 20, .val (.idxS (.t 
  19) (.k (.d (.int .i64 0)))), some (18, false)⟩, ⟨some 21, .val (.bin .eql (.t 20) (.k (.d (.int .u8 43)))), some (18, false)⟩, ⟨some 22, .val (.pick (.t 18) (.k (.d (.bool 
  true))) (.t 21)), some (14, true)⟩, ⟨some 23, .val (.pick (.t 14) (.t 22) (.k (.d (.bool false)))), none⟩]) (.cond (.t 23) (.dreg [⟨some 24, .val (.cp (.t 4)), none⟩, ⟨some 25, 
  .val (.idxS (.t 24) (.k (.d (.int .i64 0)))), none⟩, ⟨some 26, .val (.bin .eql (.t 25) (.k (.d (.int .u8 45)))), none⟩, ⟨some 27, .val (.cp (.t 4)), none⟩, ⟨some 28, .val (.subS 
  (.t 27) (some (.k (.d (.int .i64 1)))) none), none⟩, ⟨some 5, .val (.cp (.t 26)), none⟩, ⟨some 4, .val (.cp (.t 28)), none⟩]) .skip)) (.seq (.reg [⟨some 6, .asg (.k (.d (.int 
  .i64 0))), none⟩, ⟨some 7, .asg (.k (.d (.int .i64 0))), none⟩, ⟨some 8, .asg (.k (.d (.int .i64 (-1)))), none⟩]) (.seq (.seq (.reg [⟨some 29, .val (.cp (.t 4)), none⟩, ⟨some 30, 
  .val (.len true (.t 29)), none⟩, ⟨some 31, .val (.cp (.k (.d (.int .i64 0)))), none⟩]) (.block 0 (.loop (.seq (.reg [⟨some 32, .val (.bin .lss (.t 31) (.t 30)), none⟩]) (.seq 
  (.cond (.t 32) .skip (.exit 0)) (.seq (.block 1 (.seq (.reg [⟨some 33, .val (.cp (.t 31)), none⟩, ⟨some 9, .asg (.t 33), none⟩]) (.seq (.reg [⟨some 34, .val (.cp (.t 4)), none⟩, 
  ⟨some 35, .val (.cp (.t 9)), none⟩, ⟨some 36, .val (.idxS (.t 34) (.t 35)), none⟩, ⟨some 10, .asg (.t 36), none⟩]) (.block 2 (.seq (.reg [⟨some 56, .val (.cp (.t 10)), none⟩, 
  ⟨some 57, .val (.bin .eql (.t 56) (.k (.d (.int .u8 46)))), none⟩, ⟨some 58, .val (.cp (.t 57)), none⟩, ⟨some 59, .val (.cp (.t 8)), some (58, true)⟩, ⟨some 60, .val (.bin .lss 
  (.t 59) (.k (.d (.int .i64 0)))), some (58, true)⟩, ⟨some 61, .val (.pick (.t 58) (.t 60) (.k (.d (.bool false)))), none⟩, ⟨some 55, .asg (.t 61), none⟩]) (.cond (.t 55) (.reg 
  [⟨some 8, .asg (.k (.d (.int .i64 0))), none⟩]) (.seq (.reg [⟨some 63, .val (.cp (.t 10)), none⟩, ⟨some 64, .val (.bin .lss (.t 63) (.k (.d (.int .u8 48)))), none⟩, ⟨some 65, 
  .val (.cp (.t 64)), none⟩, ⟨some 66, .val (.cp (.t 10)), some (65, false)⟩, ⟨some 67, .val (.bin .gtr (.t 66) (.k (.d (.int .u8 57)))), some (65, false)⟩, ⟨some 68, .val (.pick 
  (.t 65) (.k (.d (.bool true))) (.t 67)), none⟩, ⟨some 62, .asg (.t 68), none⟩]) (.cond (.t 62) (.seq (.reg [⟨some 69, .val (.mkI 50 (.k (.d (.int .i64 4)))), none⟩, ⟨some 2, .asg 
  (.k (.d (.int .i64 0))), none⟩, ⟨some 3, .asg (.t 69), none⟩]) .ret) (.seq (.reg [⟨some 37, .val (.cp (.t 7)), none⟩, ⟨some 38, .val (.bin .add (.t 37) (.k (.d (.int .i64 1)))), 
  none⟩, ⟨some 7, .asg (.t 38), none⟩]) (.seq (.seq (.reg [⟨some 39, .val (.cp (.t 8)), none⟩, ⟨some 40, .val (.bin .lss (.t 39) (.k (.d (.int .i64 3)))), none⟩, ⟨some 41, .val 
  (.cp (.t 40)), none⟩, ⟨some 42, .val (.cp (.t 6)), some (41, true)⟩, ⟨some 43, .val (.bin .leq (.t 42) (.k (.d (.int .i64 1000000000)))), some (41, true)⟩, ⟨some 44, .val (.pick 
  (.t 41) (.t 43) (.k (.d (.bool false)))), none⟩]) (.cond (.t 44) (.reg [⟨some 45, .val (.cp (.t 6)), none⟩, ⟨some 46, .val (.bin .mul (.k (.d (.int .i64 10))) (.t 45)), none⟩, 
  ⟨some 47, .val (.cp (.t 10)), none⟩, ⟨some 48, .val (.bin .sub (.t 47) (.k (.d (.int .u8 48)))), none⟩, ⟨some 49, .val (.cvI .i64 (.t 48)), none⟩, ⟨some 50, .val (.bin .add (.t 
  46) (.t 49)), none⟩, ⟨some 6, .asg (.t 50), none⟩]) .skip)) (.seq (.reg [⟨some 51, .val (.cp (.t 8)), none⟩, ⟨some 52, .val (.bin .geq (.t 51) (.k (.d (.int .i64 0)))), none⟩]) 
  (.cond (.t 52) (.reg [⟨some 53, .val (.cp (.t 8)), none⟩, ⟨some 54, .val (.bin .add (.t 53) (.k (.d (.int .i64 1)))), none⟩, ⟨some 8, .asg (.t 54), none⟩]) .skip)))))))))))) 
  (.reg [⟨some 70, .val (.bin .add (.t 31) (.k (.d (.int .i64 1)))), none⟩, ⟨some 31, .val (.cp (.t 70)), none⟩]))))))) (.seq (.seq (.reg [⟨some 71, .val (.cp (.t 7)), none⟩, ⟨some 
  72, .val (.bin .eql (.t 71) (.k (.d (.int .i64 0)))), none⟩]) (.cond (.t 72) (.seq (.reg [⟨some 73, .val (.mkI 50 (.k (.d (.int .i64 4)))), none⟩, ⟨some 2, .asg (.k (.d (.int 
  .i64 0))), none⟩, ⟨some 3, .asg (.t 73), none⟩]) .ret) .skip)) (.seq (.seq (.reg [⟨some 74, .val (.cp (.t 8)), none⟩, ⟨some 75, .val (.mm true (.t 74) (.k (.d (.int .i64 0)))), 
  none⟩, ⟨some 8, .asg (.t 75), none⟩]) (.block 3 (.loop (.seq (.seq (.reg [⟨some 76, .val (.cp (.t 8)), none⟩, ⟨some 77, .val (.bin .lss (.t 76) (.k (.d (.int .i64 3)))), none⟩]) 
  (.cond (.t 77) .skip (.exit 3))) (.seq (.block 4 (.reg [⟨some 80, .val (.cp (.t 6)), none⟩, ⟨some 81, .val (.bin .mul (.t 80) (.k (.d (.int .i64 10)))), none⟩, ⟨some 6, .asg (.t 
  81), none⟩])) (.reg [⟨some 78, .val (.cp (.t 8)), none⟩, ⟨some 79, .val (.bin .add (.t 78) (.k (.d (.int .i64 1)))), none⟩, ⟨some 8, .asg (.t 79), none⟩])))))) (.seq (.seq (.reg 
  [⟨some 82, .val (.cp (.t 6)), none⟩, ⟨some 83, .val (.bin .gtr (.t 82) (.k (.d (.int .i64 1000000000)))), none⟩]) (.cond (.t 83) (.seq (.reg [⟨some 84, .val (.mkI 50 (.k (.d 
  (.int .i64 1)))), none⟩, ⟨some 2, .asg (.k (.d (.int .i64 0))), none⟩, ⟨some 3, .asg (.t 84), none⟩]) .ret) .skip)) (.seq (.seq (.reg [⟨some 85, .val (.cp (.t 5)), none⟩]) (.cond 
  (.t 85) (.reg [⟨some 86, .val (.cp (.t 6)), none⟩, ⟨some 87, .val (.neg (.t 86)), none⟩, ⟨some 6, .asg (.t 87), none⟩]) .skip)) (.seq (.reg [⟨some 88, .val (.cp (.t 6)), none⟩, 
  ⟨some 2, .asg (.t 88), none⟩, ⟨some 3, .asg (.k (.d .nil)), none⟩]) .ret))))))))))
def R_fix_Parse : List LRes := [.tmp 2, .tmp 3]
theorem lift_fix_Parse : Lifts Tryz.prog 89 89 L_fix_Parse R_fix_Parse := ⟨_, _, Tryz.func89, rfl, by kernel_rfl, by kernel_rfl, rfl⟩

theorem parse_call (s : List UInt8) (hs : s.length ≤ 1000000) : PCall Tryz.prog 89 [.str s] (fun r => r = resP (parseF s)) := by
  refine lift_fix_Parse.call rfl ?_
  unfold parseF
  cases s with
  | nil =>
    have hs0 : signP [] = (false, []) := rfl
    have hR : resP (finP false (parseL [] 0 0 (-1))) = .tup [.int .i64 0, .iface 50 (.int .i64 4)] := rfl
    rw [hs0, hR]
    simp (maxSteps := 2000000) (disch := omega) only [go_sem, ↓reduceIte, L_fix_Parse, R_fix_Parse]
    refine run_unroll ?_
    simp (maxSteps := 2000000) (disch := omega) only [go_sem, ↓reduceIte]
  | cons c r =>
    have hc8 := u8_lt c
    have hne : (c :: r = []) = False := by simp
    have hg0 : getI (c :: r) 0 = some c := rfl
    have hcut : cutI (c :: r) 1 ((r.length + 1 : Nat) : Int) = r := by
      show cutI (c :: r) ((1 : Nat) : Int) _ = r
      rw [cutI_nat]; simp
    have hlr : r.length + 1 ≤ 1000000 := by simpa using hs
    generalize hst : signP (c :: r) = st
    dsimp only [signP] at hst
    obtain ⟨R, hR⟩ : ∃ R, finP st.1 (parseL st.2 0 0 (-1)) = R := ⟨_, rfl⟩
    rw [hR]
    simp (maxSteps := 2000000) (disch := omega) only [go_sem, ↓reduceIte, L_fix_Parse, R_fix_Parse, hne, hg0, hcut]
    refine ⟨fun a1 => ⟨fun a2 => ⟨by omega, ?_⟩, fun a2 => ?_⟩, fun a1 => ⟨by omega, ?_⟩⟩
    rw [if_neg (by omega), if_pos (by omega)] at hst
    subst hst
    obtain ⟨T, hT⟩ : ∃ T, T = r := ⟨_, rfl⟩
    obtain ⟨N, hN⟩ : ∃ N, N = false := ⟨_, rfl⟩
    have hdec : decide ((c.toNat : Int) = 45) = false := by simp [a1]
    simp only [hdec]
    rw [← hT, ← hN] at hR
    have hlT : T.length ≤ 1000000 := by rw [hT]; omega
    rotate_left
    rw [if_neg (by omega), if_neg (by omega)] at hst
    subst hst
    obtain ⟨T, hT⟩ : ∃ T, T = c :: r := ⟨_, rfl⟩
    obtain ⟨N, hN⟩ : ∃ N, N = false := ⟨_, rfl⟩
    rw [← hT, ← hN] at hR
    have hlT : T.length ≤ 1000000 := by rw [hT]; exact hs
    rotate_left
    rw [if_pos (by omega)] at hst
    subst hst
    obtain ⟨T, hT⟩ : ∃ T, T = r := ⟨_, rfl⟩
    obtain ⟨N, hN⟩ : ∃ N, N = true := ⟨_, rfl⟩
    have hdec : decide ((c.toNat : Int) = 45) = true := by simp [a1]
    simp only [hdec]
    rw [← hT, ← hN] at hR
    have hlT : T.length ≤ 1000000 := by rw [hT]; omega
    rotate_left
    all_goals
      refine run_loop (fun y : Nat × Nat × Nat × Int => ⟨[(4, .d (.str T)), (5, .d (.bool N)), (6, .d (.int .i64 y.2.1)), (7, .d (.int .i64 y.2.2.1)), (8, .d (.int .i64 y.2.2.2)), (30, .d (.int .i64 (T.length : Nat))), (31, .d (.int .i64 y.1))], [], []⟩)
        (fun y => y.1 ≤ T.length ∧ y.2.1 ≤ 10000000009 ∧ y.2.2.1 ≤ y.1 ∧ -1 ≤ y.2.2.2 ∧ y.2.2.2 ≤ y.1 ∧ finP N (parseL (T.drop y.1) y.2.1 y.2.2.1 y.2.2.2) = R) (fun y => T.length - y.1) (0, 0, 0, -1) ?_ ?_ ?_
      · refine weak_mk ?_ trivial
        simp (maxSteps := 2000000) only [go_sem, ↓reduceIte, Sub, Int.natCast_add, Int.natCast_mul, hT, hN]
      · exact ⟨by simp, by simp, by simp, by simp, by simp, by simpa using hR⟩
      · rintro ⟨i, n, d, p⟩ ⟨hi, hn, hd, hp, hp2, hF⟩
        simp only at hi hn hd hp hp2 hF
        simp (maxSteps := 2000000) only [go_sem, ↓reduceIte]
        refine ⟨fun q1 => ?_, fun q1 => ?_⟩
        · obtain ⟨x, hx⟩ := get_some (l := T) (i := i) (by omega)
          have hx8 := u8_lt x
          rw [drop_cons hx] at hF
          unfold parseL at hF
          by_cases e1 : x.toNat = 46 ∧ p < 0
          · rw [if_pos e1] at hF
            have e1a : (x.toNat : Int) = 46 := by omega
            simp (maxSteps := 2000000) (disch := omega) only [go_sem, ↓reduceIte, getI_nat, hx, e1a, e1.2]
            refine ⟨(i + 1, n, d, 0), ?_, ⟨by simp only; omega, hn, by simp only; omega, by simp, by simp only; omega, hF⟩, by simp only; omega⟩
            refine weak_mk ?_ trivial
            simp (maxSteps := 2000000) only [go_sem, ↓reduceIte, Sub, Int.natCast_add, Int.natCast_mul]
          · rw [if_neg e1] at hF
            by_cases e2 : x.toNat < 48 ∨ 57 < x.toNat
            · rw [if_pos e2] at hF
              subst hF
              have hres : resP (finP N none) = .tup [.int .i64 0, .iface 50 (.int .i64 4)] := rfl
              rw [hres]
              simp (maxSteps := 2000000) only [go_sem, ↓reduceIte, getI_nat, hx]
              refine ⟨fun a => ⟨fun b => by omega, fun b => fun c => by omega⟩, fun a => fun b c => by omega⟩
            · rw [if_neg e2] at hF
              have hne46 : ¬ ((x.toNat : Int) = 46) := by omega
              have h48 : ¬ ((x.toNat : Int) < 48) := by omega
              have h57 : ¬ (57 < (x.toNat : Int)) := by omega
              obtain ⟨k, hk⟩ : ∃ k, x.toNat - 48 = k := ⟨_, rfl⟩
              have hk' : (x.toNat : Int) - 48 = (k : Int) := by omega
              rw [hk] at hF
              simp (maxSteps := 2000000) (disch := omega) only [go_sem, ↓reduceIte, getI_nat, hx, hne46, h48, h57, hk']
              refine ⟨fun b1 => ⟨fun b2 => ⟨fun b3 => ?_, fun b3 => ?_⟩, fun b2 => ⟨fun b3 => ?_, fun b3 => ?_⟩⟩, fun b1 => ⟨fun b3 => ?_, fun b3 => ?_⟩⟩
              · rw [if_pos ⟨b1, by omega⟩, if_pos b3] at hF
                refine ⟨(i + 1, 10 * n + k, d + 1, p + 1), ?_, ⟨by simp only; omega, by simp only; omega, by simp only; omega, by simp only; omega, by simp only; omega, hF⟩, by simp only; omega⟩
                refine weak_mk ?_ trivial
                simp (maxSteps := 2000000) only [go_sem, ↓reduceIte, Sub, Int.natCast_add, Int.natCast_mul]
              · rw [if_pos ⟨b1, by omega⟩, if_neg b3] at hF
                refine ⟨(i + 1, 10 * n + k, d + 1, p), ?_, ⟨by simp only; omega, by simp only; omega, by simp only; omega, by simp only; omega, by simp only; omega, hF⟩, by simp only; omega⟩
                refine weak_mk ?_ trivial
                simp (maxSteps := 2000000) only [go_sem, ↓reduceIte, Sub, Int.natCast_add, Int.natCast_mul]
              · rw [if_neg (fun h => b2 (by omega)), if_pos b3] at hF
                refine ⟨(i + 1, n, d + 1, p + 1), ?_, ⟨by simp only; omega, by simp only; omega, by simp only; omega, by simp only; omega, by simp only; omega, hF⟩, by simp only; omega⟩
                refine weak_mk ?_ trivial
                simp (maxSteps := 2000000) only [go_sem, ↓reduceIte, Sub, Int.natCast_add, Int.natCast_mul]
              · rw [if_neg (fun h => b2 (by omega)), if_neg b3] at hF
                refine ⟨(i + 1, n, d + 1, p), ?_, ⟨by simp only; omega, by simp only; omega, by simp only; omega, by simp only; omega, by simp only; omega, hF⟩, by simp only; omega⟩
                refine weak_mk ?_ trivial
                simp (maxSteps := 2000000) only [go_sem, ↓reduceIte, Sub, Int.natCast_add, Int.natCast_mul]
              · rw [if_neg (fun h => b1 h.1), if_pos b3] at hF
                refine ⟨(i + 1, n, d + 1, p + 1), ?_, ⟨by simp only; omega, by simp only; omega, by simp only; omega, by simp only; omega, by simp only; omega, hF⟩, by simp only; omega⟩
                refine weak_mk ?_ trivial
                simp (maxSteps := 2000000) only [go_sem, ↓reduceIte, Sub, Int.natCast_add, Int.natCast_mul]
              · rw [if_neg (fun h => b1 h.1), if_neg b3] at hF
                refine ⟨(i + 1, n, d + 1, p), ?_, ⟨by simp only; omega, by simp only; omega, by simp only; omega, by simp only; omega, by simp only; omega, hF⟩, by simp only; omega⟩
                refine weak_mk ?_ trivial
                simp (maxSteps := 2000000) only [go_sem, ↓reduceIte, Sub, Int.natCast_add, Int.natCast_mul]
        · rw [List.drop_eq_nil_of_le (by omega)] at hF
          unfold parseL at hF
          dsimp only [finP] at hF
          refine ⟨fun c1 => ?_, fun c1 => ?_⟩
          · rw [if_pos (by omega)] at hF
            subst hF
            simp [resP, errD]
          · rw [if_neg (by omega)] at hF
            have hmx : (if p < 0 then 0 else p) = ((p.toNat : Nat) : Int) := by split <;> omega
            rw [hmx]
            have hP9 : p.toNat ≤ 1000000 := by omega
            generalize p.toNat = P at hF hP9 ⊢
            refine run_loop (fun k : Nat => ⟨[(5, .d (.bool N)), (6, .d (.int .i64 (n * 10 ^ k : Nat))), (8, .d (.int .i64 (P + k : Nat)))], [], []⟩)
              (fun k => k ≤ 3 - P) (fun k => 3 - k) 0 ?_ ?_ ?_
            · refine weak_mk ?_ trivial
              simp (maxSteps := 2000000) only [go_sem, ↓reduceIte, Sub, Int.natCast_add, Int.natCast_mul, Nat.pow_zero, Nat.mul_one, Nat.add_zero]
            · omega
            · intro k hk
              have h10 : 10 ^ k ≤ 10 ^ 3 := Nat.pow_le_pow_right (by decide) (by omega)
              have hM : n * 10 ^ k ≤ 10000000009 * 10 ^ 3 := Nat.mul_le_mul hn h10
              simp (maxSteps := 2000000) only [go_sem, ↓reduceIte]
              refine ⟨fun c2 => ?_, fun c2 => ?_⟩
              · have hs1 : n * 10 ^ (k + 1) = n * 10 ^ k * 10 := by rw [Nat.pow_succ, Nat.mul_assoc]
                generalize hMM : n * 10 ^ k = M at hM hs1 ⊢
                simp (disch := omega) only [IntWalk.i64_in, IntWalk.u8_in]
                refine ⟨k + 1, ?_, by omega, by omega⟩
                refine weak_mk ?_ trivial
                simp (maxSteps := 2000000) only [go_sem, ↓reduceIte, Sub, Int.natCast_add, Int.natCast_mul, hs1]
                rw [Int.add_assoc]
              · have hk3 : k = 3 - P := by omega
                rw [← hk3] at hF
                generalize hMM : n * 10 ^ k = M at hM hF ⊢
                refine ⟨fun c3 => ?_, fun c3 => ?_⟩
                · rw [if_pos (by omega)] at hF
                  subst hF
                  simp [resP, errD]
                · rw [if_neg (by omega)] at hF
                  subst hF
                  cases N
                  · simp (maxSteps := 2000000) (disch := omega) only [go_sem, ↓reduceIte, resP, errD]
                  · simp (maxSteps := 2000000) (disch := omega) only [go_sem, ↓reduceIte, resP, errD, Int.zero_sub]
end Go.Av.Tryz
set_option linter.unusedSimpArgs false
namespace Go.Av.Tryz
open Go.Proofs
theorem u8_dig {k : Nat} (h : k < 10) : (UInt8.ofNat (48 + k)).toNat = 48 + k := by
  rw [UInt8.toNat_ofNat']; omega
theorem parse_digit {k n d : Nat} {p : Int} (r : List UInt8) (hk : k < 10) (hn : n ≤ 1000000000) :
    parseL (UInt8.ofNat (48 + k) :: r) n d p = parseL r (if p < 3 then 10 * n + k else n) (d + 1) (if 0 ≤ p then p + 1 else p) := by
  rw [parseL, u8_dig hk, if_neg (by omega), if_neg (by omega)]
  have e : 48 + k - 48 = k := by omega
  rw [e]
  by_cases h : p < 3
  · rw [if_pos ⟨h, hn⟩, if_pos h]
  · rw [if_neg (fun q => h q.1), if_neg h]
theorem dec_head (m : Nat) : ∃ k l, k < 10 ∧ Lib.decDigits m = UInt8.ofNat (48 + k) :: l := by
  induction m using Nat.strongRecOn with
  | _ m ih =>
    rw [Lib.decDigits]
    by_cases h : m < 10
    · rw [dif_pos h]; exact ⟨m, [], h, rfl⟩
    · rw [dif_neg h]
      obtain ⟨k, l, hk, e⟩ := ih (m / 10) (by omega)
      rw [e]
      exact ⟨k, _, hk, rfl⟩
theorem parse_dec (m : Nat) : ∀ rest, m ≤ 1000000000 → parseL (Lib.decDigits m ++ rest) 0 0 (-1) = parseL rest m (Lib.decDigits m).length (-1) := by
  induction m using Nat.strongRecOn with
  | _ m ih =>
    intro rest hm
    rw [Lib.decDigits]
    by_cases h : m < 10
    · rw [dif_pos h]
      show parseL (UInt8.ofNat (48 + m) :: rest) 0 0 (-1) = _
      rw [parse_digit rest h (by omega), if_pos (by decide), if_neg (by decide)]
      simp
    · rw [dif_neg h, List.append_assoc, ih (m / 10) (by omega) _ (by omega)]
      show parseL (UInt8.ofNat (48 + m % 10) :: rest) _ _ _ = _
      rw [parse_digit rest (by omega) (by omega), if_pos (by decide), if_neg (by decide), List.length_append]
      congr 1
      omega
theorem frac_parse (m r d : Nat) (hm : m ≤ 1000000) (hr : r < 1000) : ∃ n d' p, parseL (fracT r) m d (-1) = some (n, d', p) ∧ d ≤ d' ∧ n * 10 ^ (3 - p.toNat) = 1000 * m + r := by
  have hp : ∀ l : List UInt8, parseL (46 :: l) m d (-1) = parseL l m d 0 := fun l => by
    rw [parseL, if_pos (by decide)]
  have hz : ∀ k, k < 10 → (UInt8.ofNat (48 + k) = 48) = (k = 0) := fun k hk => by
    rw [eq_iff_iff]
    refine ⟨fun h => ?_, fun h => by rw [h]; rfl⟩
    have := congrArg UInt8.toNat h
    rw [u8_dig hk] at this
    have h48 : (48 : UInt8).toNat = 48 := rfl
    omega
  have e3 : fracD r = ([UInt8.ofNat (48 + r / 100), UInt8.ofNat (48 + r / 10 % 10)] ++ [UInt8.ofNat (48 + r % 10)] : List UInt8) := rfl
  have e2 : ([UInt8.ofNat (48 + r / 100), UInt8.ofNat (48 + r / 10 % 10)] : List UInt8) = [UInt8.ofNat (48 + r / 100)] ++ [UInt8.ofNat (48 + r / 10 % 10)] := rfl
  have e1 : ([UInt8.ofNat (48 + r / 100)] : List UInt8) = [] ++ [UInt8.ofNat (48 + r / 100)] := rfl
  unfold fracT
  by_cases h3 : r % 10 = 0
  · by_cases h2 : r / 10 % 10 = 0
    · by_cases h1 : r / 100 = 0
      · have : r = 0 := by omega
        subst this
        exact ⟨m, d, -1, rfl, Nat.le_refl _, by simp; omega⟩
      · have e : trimR (fracD r) = [UInt8.ofNat (48 + r / 100)] := by
          rw [e3, trimR_snoc, if_pos ((hz _ (by omega)).mpr h3), e2, trimR_snoc, if_pos ((hz _ (by omega)).mpr h2), e1, trimR_snoc, if_neg (fun h => h1 ((hz _ (by omega)).mp h))]
        rw [e, if_neg (by simp), hp, parse_digit _ (by omega) (by omega), if_pos (by decide), if_pos (by decide)]
        exact ⟨_, _, _, rfl, by omega, by show (10 * m + r / 100) * 100 = _; omega⟩
    · have e : trimR (fracD r) = [UInt8.ofNat (48 + r / 100), UInt8.ofNat (48 + r / 10 % 10)] := by
        rw [e3, trimR_snoc, if_pos ((hz _ (by omega)).mpr h3), e2, trimR_snoc, if_neg (fun h => h2 ((hz _ (by omega)).mp h))]
      rw [e, if_neg (by simp), hp, parse_digit _ (by omega) (by omega), if_pos (by decide), if_pos (by decide), parse_digit _ (by omega) (by omega), if_pos (by decide), if_pos (by decide)]
      exact ⟨_, _, _, rfl, by omega, by show (10 * (10 * m + r / 100) + r / 10 % 10) * 10 = _; omega⟩
  · have e : trimR (fracD r) = [UInt8.ofNat (48 + r / 100), UInt8.ofNat (48 + r / 10 % 10), UInt8.ofNat (48 + r % 10)] := by
      rw [e3, trimR_snoc, if_neg (fun h => h3 ((hz _ (by omega)).mp h))]; rfl
    rw [e, if_neg (by simp), hp, parse_digit _ (by omega) (by omega), if_pos (by decide), if_pos (by decide), parse_digit _ (by omega) (by omega), if_pos (by decide), if_pos (by decide), parse_digit _ (by omega) (by omega), if_pos (by decide), if_pos (by decide)]
    exact ⟨_, _, _, rfl, by omega, by show (10 * (10 * (10 * m + r / 100) + r / 10 % 10) + r % 10) * 1 = _; omega⟩
theorem parse_text {a : Int} (h : Lim a) : parseF (textF a) = (a, 0) := by
  unfold Lim at h
  obtain ⟨m, hm⟩ : ∃ m, a.natAbs = m := ⟨_, rfl⟩
  have hs : signP (textF a) = (decide (a < 0), Lib.decDigits (m / 1000) ++ fracT (m % 1000)) := by
    unfold textF
    rw [hm]
    by_cases hn : a < 0
    · rw [if_pos hn]
      show signP (45 :: (Lib.decDigits (m / 1000) ++ fracT (m % 1000))) = _
      rw [signP, if_pos (by decide)]; simp [hn]
    · rw [if_neg hn]
      obtain ⟨k, l, hk, e⟩ := dec_head (m / 1000)
      rw [e]
      show signP (UInt8.ofNat (48 + k) :: (l ++ _)) = _
      rw [signP, u8_dig hk, if_neg (by omega), if_neg (by omega)]
      simp [hn]
  have hd : 0 < (Lib.decDigits (m / 1000)).length := by
    obtain ⟨k, l, hk, e⟩ := dec_head (m / 1000)
    rw [e]; simp
  unfold parseF
  rw [hs, parse_dec _ _ (by omega)]
  obtain ⟨n, d', p, e, hd', hn⟩ := frac_parse (m / 1000) (m % 1000) (Lib.decDigits (m / 1000)).length (by omega) (by omega)
  rw [e]
  dsimp only [finP]
  rw [hn, if_neg (by omega), if_neg (by omega)]
  by_cases hn0 : a < 0
  · rw [if_pos (by simp [hn0])]; congr 1; omega
  · rw [if_neg (by simp [hn0])]; congr 1; omega
end Go.Av.Tryz
set_option linter.unusedSimpArgs false
namespace Go.Av.Tryz
open Go.Proofs
/-- parse.Blank -/
def L_parse_Blank : LCode :=
  .seq (.reg [⟨some 2, .asg (.k (.d (.bool false))), none⟩]) (.seq (.reg [⟨some 3, .val (.cp (.t 0)), none⟩, ⟨some 4, .val (.bin .eql (.t 3) (.k (.d (.int .u8 0)))), none⟩, ⟨some 5, 
  .val (.cp (.t 4)), none⟩, ⟨some 6, .val (.cp (.t 0)), some (5, false)⟩, ⟨some 7, .val (.bin .eql (.t 6) (.k (.d (.int .u8 9)))), some (5, false)⟩, ⟨some 8, .val (.pick (.t 5) (.k 
  (.d (.bool true))) (.t 7)), none⟩, ⟨some 9, .val (.cp (.t 8)), none⟩, ⟨some 10, .val (.cp (.t 0)), some (9, false)⟩, ⟨some 11, .val (.bin .eql (.t 10) (.k (.d (.int .u8 10)))), 
  some (9, false)⟩, ⟨some 12, .val (.pick (.t 9) (.k (.d (.bool true))) (.t 11)), none⟩, ⟨some 13, .val (.cp (.t 12)), none⟩, ⟨some 14, .val (.cp (.t 0)), some (13, false)⟩, ⟨some 
  15, .val (.bin .eql (.t 14) (.k (.d (.int .u8 12)))), some (13, false)⟩, ⟨some 16, .val (.pick (.t 13) (.k (.d (.bool true))) (.t 15)), none⟩, ⟨some 17, .val (.cp (.t 16)), 
  none⟩, ⟨some 18, .val (.cp (.t 0)), some (17, false)⟩, ⟨some 19, .val (.bin .eql (.t 18) (.k (.d (.int .u8 13)))), some (17, false)⟩, ⟨some 20, .val (.pick (.t 17) (.k (.d (.bool 
  true))) (.t 19)), none⟩, ⟨some 21, .val (.cp (.t 20)), none⟩, ⟨some 22, .val (.cp (.t 0)), some (21, false)⟩, ⟨some 23, .val (.bin .eql (.t 22) (.k (.d (.int .u8 32)))), some 
  (21, false)⟩, ⟨some 24, .val (.pick (.t 21) (.k (.d (.bool true))) (.t 23)), none⟩, ⟨some 2, .asg (.t 24), none⟩]) .ret)
def R_parse_Blank : List LRes := [.tmp 2]
theorem lift_parse_Blank : Lifts Tryz.prog 38 25 L_parse_Blank R_parse_Blank := ⟨_, _, Tryz.func38, rfl, by kernel_rfl, by kernel_rfl, rfl⟩

/-- parse.Hex -/
def L_parse_Hex : LCode :=
  .seq (.reg [⟨some 2, .asg (.k (.d (.int .i64 0))), none⟩]) (.seq (.block 0 (.seq (.reg [⟨some 4, .val (.cp (.t 0)), none⟩, ⟨some 5, .val (.bin .geq (.t 4) (.k (.d (.int .u8 48)))), 
  none⟩, ⟨some 6, .val (.cp (.t 5)), none⟩, ⟨some 7, .val (.cp (.t 0)), some (6, true)⟩, ⟨some 8, .val (.bin .leq (.t 7) (.k (.d (.int .u8 57)))), some (6, true)⟩, ⟨some 9, .val 
  (.pick (.t 6) (.t 8) (.k (.d (.bool false)))), none⟩, ⟨some 3, .asg (.t 9), none⟩]) (.cond (.t 3) (.seq (.reg [⟨some 10, .val (.cp (.t 0)), none⟩, ⟨some 11, .val (.bin .sub (.t 
  10) (.k (.d (.int .u8 48)))), none⟩, ⟨some 12, .val (.cvI .i64 (.t 11)), none⟩, ⟨some 2, .asg (.t 12), none⟩]) .ret) (.seq (.reg [⟨some 14, .val (.cp (.t 0)), none⟩, ⟨some 15, 
  .val (.bin .geq (.t 14) (.k (.d (.int .u8 97)))), none⟩, ⟨some 16, .val (.cp (.t 15)), none⟩, ⟨some 17, .val (.cp (.t 0)), some (16, true)⟩, ⟨some 18, .val (.bin .leq (.t 17) (.k 
  (.d (.int .u8 102)))), some (16, true)⟩, ⟨some 19, .val (.pick (.t 16) (.t 18) (.k (.d (.bool false)))), none⟩, ⟨some 13, .asg (.t 19), none⟩]) (.cond (.t 13) (.seq (.reg [⟨some 
  20, .val (.cp (.t 0)), none⟩, ⟨some 21, .val (.bin .sub (.t 20) (.k (.d (.int .u8 97)))), none⟩, ⟨some 22, .val (.cvI .i64 (.t 21)), none⟩, ⟨some 23, .val (.bin .add (.t 22) (.k 
  (.d (.int .i64 10)))), none⟩, ⟨some 2, .asg (.t 23), none⟩]) .ret) (.seq (.reg [⟨some 25, .val (.cp (.t 0)), none⟩, ⟨some 26, .val (.bin .geq (.t 25) (.k (.d (.int .u8 65)))), 
  none⟩, ⟨some 27, .val (.cp (.t 26)), none⟩, ⟨some 28, .val (.cp (.t 0)), some (27, true)⟩, ⟨some 29, .val (.bin .leq (.t 28) (.k (.d (.int .u8 70)))), some (27, true)⟩, ⟨some 30, 
  .val (.pick (.t 27) (.t 29) (.k (.d (.bool false)))), none⟩, ⟨some 24, .asg (.t 30), none⟩]) (.cond (.t 24) (.seq (.reg [⟨some 31, .val (.cp (.t 0)), none⟩, ⟨some 32, .val (.bin 
  .sub (.t 31) (.k (.d (.int .u8 65)))), none⟩, ⟨some 33, .val (.cvI .i64 (.t 32)), none⟩, ⟨some 34, .val (.bin .add (.t 33) (.k (.d (.int .i64 10)))), none⟩, ⟨some 2, .asg (.t 
  34), none⟩]) .ret) .skip))))))) (.seq (.reg [⟨some 2, .asg (.k (.d (.int .i64 (-1)))), none⟩]) .ret))
def R_parse_Hex : List LRes := [.tmp 2]
theorem lift_parse_Hex : Lifts Tryz.prog 83 35 L_parse_Hex R_parse_Hex := ⟨_, _, Tryz.func83, rfl, by kernel_rfl, by kernel_rfl, rfl⟩


def blankB (n : Int) : Bool := decide (n = 0) || (decide (n = 9) || (decide (n = 10) || (decide (n = 12) || (decide (n = 13) || decide (n = 32)))))
def hexI (n : Int) : Int := if 48 ≤ n ∧ n ≤ 57 then n - 48 else if 97 ≤ n ∧ n ≤ 102 then n - 87 else if 65 ≤ n ∧ n ≤ 70 then n - 55 else -1

theorem blank_call (n : Int) : PCall Tryz.prog 38 [.int .u8 n] (fun r => r = .one (.bool (blankB n))) := by
  refine lift_parse_Blank.call rfl ?_
  simp (maxSteps := 2000000) only [go_sem, ↓reduceIte, L_parse_Blank, R_parse_Blank]
  unfold blankB
  simp +contextual

theorem hex_call {n : Int} (h : 0 ≤ n ∧ n < 256) : PCall Tryz.prog 83 [.int .u8 n] (fun r => r = .one (.int .i64 (hexI n))) := by
  refine lift_parse_Hex.call rfl ?_
  simp (maxSteps := 2000000) only [go_sem, ↓reduceIte, L_parse_Hex, R_parse_Hex]
  unfold hexI
  repeat' (first | apply And.intro | intro _)
  all_goals
    congr 2
    try simp only [IntKind.wrap_i64, IntKind.wrap_u8]
    (repeat' split) <;> omega
def unhexF : List UInt8 → Int → List UInt8 → List UInt8 × Nat
  | [], _, _ => ([], 5)
  | c :: r, h, b =>
    if c.toNat = 62 then (if 0 ≤ h then b ++ [byteI (16 * h)] else b, 0)
    else if blankB c.toNat = true then unhexF r h b
    else if hexI c.toNat < 0 then ([], 4)
    else if h < 0 then unhexF r (hexI c.toNat) b
    else unhexF r (-1) (b ++ [byteI (16 * h + hexI c.toNat)])

theorem hexI_bounds (n : Int) : -1 ≤ hexI n ∧ hexI n ≤ 15 := by
  unfold hexI; (repeat' split) <;> omega

/-- the first place behind a sign that ends digits -/
def gtEnd : List UInt8 → Nat
  | [] => 0
  | c :: r => if c.toNat = 62 then 1 else gtEnd r + 1

end Go.Av.Tryz
