import Derived.Test.YtkkdhgibaimboaaDoorDBase
import Derived.Test.YtkkdhgibaimboaaDoorAvF
/- strings.Builder, walked: what it holds, what is written to it. -/
set_option linter.unusedSimpArgs false
namespace Go.Av.Tryd
open Go.Proofs

/-- A builder: new; used, nothing in it; with these bytes. -/
inductive Bld where
  | new
  | nul
  | has (s : List UInt8)
def Bld.obj : Bld → AObj
  | .new => .cells [.nt 147, .ns]
  | .nul => .cells [.ptr (.x 0) 0, .ns]
  | .has s => .cells [.ptr (.x 0) 0, .own (.c (.x 0) 1) 5 1 (bytesD s)]
def Bld.used : Bld → Bld
  | .new => .nul
  | b => b
def Bld.bytes : Bld → List UInt8
  | .has s => s
  | _ => []
theorem Bld.used_bytes (b : Bld) : b.used.bytes = b.bytes := by cases b <;> rfl

/-- (*strings.Builder).copyCheck -/
def L___strings_Builder__copyCheck : LCode :=
  .seq (.reg [⟨some 2, .val (.cp (.t 0)), none⟩, ⟨some 3, .val (.nck (.t 2)), none⟩, ⟨some 4, .val (.fa 0 (.t 3)), none⟩, ⟨some 5, .val (.ld false 1 (.t 4)), none⟩, ⟨some 6, .val 
  (.eqN 1 false (.t 5)), none⟩]) (.cond (.t 6) (.reg [⟨some 7, .val (.cp (.t 0)), none⟩, ⟨some 8, .val (.cp (.t 0)), none⟩, ⟨some 9, .prim (.conv 145 199) [.t 8] [], none⟩, ⟨some 
  10, .prim .call [.k (.fn (.func 161) [] []), .t 9] [], none⟩, ⟨some 11, .prim (.conv 199 145) [.t 10] [], none⟩, ⟨some 12, .val (.nck (.t 7)), none⟩, ⟨some 13, .val (.fa 0 (.t 
  12)), none⟩, ⟨none, .st 1 (.t 13) (.t 11), none⟩]) (.seq (.reg [⟨some 14, .val (.cp (.t 0)), none⟩, ⟨some 15, .val (.nck (.t 14)), none⟩, ⟨some 16, .val (.fa 0 (.t 15)), none⟩, 
  ⟨some 17, .val (.ld false 1 (.t 16)), none⟩, ⟨some 18, .val (.cp (.t 0)), none⟩, ⟨some 19, .prim (.eq .neq 145) [.t 17, .t 18] [], none⟩]) (.cond (.t 19) .bad .skip)))
def R___strings_Builder__copyCheck : List LRes := []
theorem lift___strings_Builder__copyCheck : Lifts Tryd.prog 137 20 L___strings_Builder__copyCheck R___strings_Builder__copyCheck := ⟨_, _, Tryd.func137, rfl, by kernel_rfl, by kernel_rfl, rfl⟩

theorem copyCheck_new : MCallE Tryd.prog 137 [.ptr (.x 0) 0] [.cells [.nt 147, .ns]] (.tuple []) [.cells [.ptr (.x 0) 0, .ns]] := by
  refine lift___strings_Builder__copyCheck.mcall (by kernel_rfl) rfl ?_
  simp (maxSteps := 2000000) only [go_sem, Nat.reduceEqDiff, Nat.reduceBEq, Nat.reduceLT, Nat.reduceLeDiff, Nat.reduceAdd, Nat.reduceSub, Nat.reduceMul, ↓reduceIte, reduceCtorEq, Nat.reduceBNe, Nat.reduceSubDiff, Int.reduceLT, Int.reduceLE, Int.reduceEq, Int.reduceNeg, Int.reduceAdd, Int.reduceMul, Int.reduceSub, Int.reduceToNat, L___strings_Builder__copyCheck, R___strings_Builder__copyCheck, AV.den]
  refine PrimG.toUnsafe (m := 1) rfl rfl (by decide) Tryd.underlying145 Tryd.underlying199 (by kernel_rfl) ?_
  simp (maxSteps := 2000000) only [go_sem, Nat.reduceEqDiff, Nat.reduceBEq, Nat.reduceLT, Nat.reduceLeDiff, Nat.reduceAdd, Nat.reduceSub, Nat.reduceMul, ↓reduceIte, reduceCtorEq, Nat.reduceBNe, Nat.reduceSubDiff, Int.reduceLT, Int.reduceLE, Int.reduceEq, Int.reduceNeg, Int.reduceAdd, Int.reduceMul, Int.reduceSub, Int.reduceToNat]
  refine PrimG.entry Tryd.func161 (by kernel_rfl) (by kernel_rfl) (by kernel_rfl) (e := Extern.AbiNoEscape.same) (by kernel_rfl) (.ptr (.x 0) 0) (fun G w vs hl hv => ?_) ?_
  · match vs, hl with
    | [v], _ => exact ⟨v, Lib.run_noEscape w v, hv 0 _ rfl⟩
  simp (maxSteps := 2000000) only [go_sem, Nat.reduceEqDiff, Nat.reduceBEq, Nat.reduceLT, Nat.reduceLeDiff, Nat.reduceAdd, Nat.reduceSub, Nat.reduceMul, ↓reduceIte, reduceCtorEq, Nat.reduceBNe, Nat.reduceSubDiff, Int.reduceLT, Int.reduceLE, Int.reduceEq, Int.reduceNeg, Int.reduceAdd, Int.reduceMul, Int.reduceSub, Int.reduceToNat]
  refine PrimG.fromUnsafe (i := 0) rfl rfl rfl Tryd.underlying199 Tryd.underlying145 (m := 2) (by kernel_rfl) (by kernel_rfl) ?_
  simp (maxSteps := 2000000) only [go_sem, Nat.reduceEqDiff, Nat.reduceBEq, Nat.reduceLT, Nat.reduceLeDiff, Nat.reduceAdd, Nat.reduceSub, Nat.reduceMul, ↓reduceIte, reduceCtorEq, Nat.reduceBNe, Nat.reduceSubDiff, Int.reduceLT, Int.reduceLE, Int.reduceEq, Int.reduceNeg, Int.reduceAdd, Int.reduceMul, Int.reduceSub, Int.reduceToNat]

theorem info147 : ∃ j, Tryd.prog.info? 147 = some j := by
  have h : (Tryd.prog.info? 147).isSome = true := by kernel_rfl
  exact Option.isSome_iff_exists.1 h

theorem copyCheck_used (x : AV) (hx : x = .ns ∨ ∃ s, x = .own (.c (.x 0) 1) 5 1 (bytesD s)) : MCallE Tryd.prog 137 [.ptr (.x 0) 0] [.cells [.ptr (.x 0) 0, x]] (.tuple []) [.cells [.ptr (.x 0) 0, x]] := by
  obtain ⟨j, hj⟩ := info147
  have done : MCallE Tryd.prog 137 [.ptr (.x 0) 0] [.cells [.ptr (.x 0) 0, x]] (.tuple []) [.cells [.ptr (.x 0) 0, x]] := by
    refine lift___strings_Builder__copyCheck.mcall (by kernel_rfl) rfl ?_
    simp (maxSteps := 2000000) only [go_sem, Nat.reduceEqDiff, Nat.reduceBEq, Nat.reduceLT, Nat.reduceLeDiff, Nat.reduceAdd, Nat.reduceSub, Nat.reduceMul, ↓reduceIte, reduceCtorEq, Nat.reduceBNe, Nat.reduceSubDiff, Int.reduceLT, Int.reduceLE, Int.reduceEq, Int.reduceNeg, Int.reduceAdd, Int.reduceMul, Int.reduceSub, Int.reduceToNat, L___strings_Builder__copyCheck, R___strings_Builder__copyCheck, AV.den]
    refine PrimG.samePtr rfl rfl Tryd.underlying145 hj ?_
    simp (maxSteps := 2000000) only [go_sem, Nat.reduceEqDiff, Nat.reduceBEq, Nat.reduceLT, Nat.reduceLeDiff, Nat.reduceAdd, Nat.reduceSub, Nat.reduceMul, ↓reduceIte, reduceCtorEq, Nat.reduceBNe, Nat.reduceSubDiff, Int.reduceLT, Int.reduceLE, Int.reduceEq, Int.reduceNeg, Int.reduceAdd, Int.reduceMul, Int.reduceSub, Int.reduceToNat]
  exact done

theorem copyCheck_call (b : Bld) : MCallE Tryd.prog 137 [.ptr (.x 0) 0] [b.obj] (.tuple []) [b.used.obj] := by
  cases b with
  | new => exact copyCheck_new
  | nul => exact copyCheck_used _ (.inl rfl)
  | has s => exact copyCheck_used _ (.inr ⟨s, rfl⟩)

/-- (*strings.Builder).WriteByte -/
def L___strings_Builder__WriteByte : LCode :=
  .seq (.reg [⟨some 4, .asg (.k (.d .nil)), none⟩]) (.seq (.reg [⟨some 5, .val (.cp (.t 0)), none⟩, ⟨some 6, .prim .call [.k (.fn (.func 137) [] []), .t 5] [], none⟩]) (.seq (.reg 
  [⟨some 7, .val (.cp (.t 0)), none⟩, ⟨some 8, .val (.cp (.t 0)), none⟩, ⟨some 9, .val (.nck (.t 8)), none⟩, ⟨some 10, .val (.fa 1 (.t 9)), none⟩, ⟨some 11, .val (.ld false 1 (.t 
  10)), none⟩, ⟨some 12, .val (.cp (.t 1)), none⟩, ⟨some 13, .bsl 5 1 [.t 12], none⟩, ⟨some 14, .app 5 1 1 false (.t 11) (.t 13), none⟩, ⟨some 15, .val (.nck (.t 7)), none⟩, ⟨some 
  16, .val (.fa 1 (.t 15)), none⟩, ⟨none, .st 1 (.t 16) (.t 14), none⟩]) (.seq (.reg [⟨some 4, .asg (.k (.d .nil)), none⟩]) .ret)))
def R___strings_Builder__WriteByte : List LRes := [.tmp 4]
theorem lift___strings_Builder__WriteByte : Lifts Tryd.prog 138 17 L___strings_Builder__WriteByte R___strings_Builder__WriteByte := ⟨_, _, Tryd.func138, rfl, by kernel_rfl, by kernel_rfl, rfl⟩

/-- (*strings.Builder).WriteString -/
def L___strings_Builder__WriteString : LCode :=
  .seq (.reg [⟨some 4, .asg (.k (.d (.int .i64 0))), none⟩, ⟨some 5, .asg (.k (.d .nil)), none⟩]) (.seq (.reg [⟨some 6, .val (.cp (.t 0)), none⟩, ⟨some 7, .prim .call [.k (.fn (.func 
  137) [] []), .t 6] [], none⟩]) (.seq (.reg [⟨some 8, .val (.cp (.t 0)), none⟩, ⟨some 9, .val (.cp (.t 0)), none⟩, ⟨some 10, .val (.nck (.t 9)), none⟩, ⟨some 11, .val (.fa 1 (.t 
  10)), none⟩, ⟨some 12, .val (.ld false 1 (.t 11)), none⟩, ⟨some 13, .val (.cp (.t 1)), none⟩, ⟨some 14, .app 5 1 1 true (.t 12) (.t 13), none⟩, ⟨some 15, .val (.nck (.t 8)), 
  none⟩, ⟨some 16, .val (.fa 1 (.t 15)), none⟩, ⟨none, .st 1 (.t 16) (.t 14), none⟩]) (.seq (.reg [⟨some 17, .val (.cp (.t 1)), none⟩, ⟨some 18, .val (.len true (.t 17)), none⟩, 
  ⟨some 4, .asg (.t 18), none⟩, ⟨some 5, .asg (.k (.d .nil)), none⟩]) .ret)))
def R___strings_Builder__WriteString : List LRes := [.tmp 4, .tmp 5]
theorem lift___strings_Builder__WriteString : Lifts Tryd.prog 97 19 L___strings_Builder__WriteString R___strings_Builder__WriteString := ⟨_, _, Tryd.func97, rfl, by kernel_rfl, by kernel_rfl, rfl⟩


theorem writeString_call (b : Bld) (t : List UInt8) (hl : (b.bytes ++ t).length ≤ 1000000000) : MCallE Tryd.prog 97 [.ptr (.x 0) 0, .d (.str t)] [b.obj] (.tuple [.d (.int .i64 t.length), .d .nil]) [Bld.obj (.has (b.bytes ++ t))] := by
  have hbl := bytesD_length t
  cases b with
  | new =>
    refine lift___strings_Builder__WriteString.mcall (by kernel_rfl) rfl ?_
    simp (maxSteps := 2000000) only [go_sem, Nat.reduceEqDiff, Nat.reduceBEq, Nat.reduceLT, Nat.reduceLeDiff, Nat.reduceAdd, Nat.reduceSub, Nat.reduceMul, ↓reduceIte, reduceCtorEq, Nat.reduceBNe, Nat.reduceSubDiff, Int.reduceLT, Int.reduceLE, Int.reduceEq, Int.reduceNeg, Int.reduceAdd, Int.reduceMul, Int.reduceSub, Int.reduceToNat, L___strings_Builder__WriteString, R___strings_Builder__WriteString, AV.den, Bld.obj]
    refine PrimG.mcall ([.x 0]) ([]) rfl (copyCheck_new) rfl rfl (by simp only [objsAt, St.obj, aget, AObj.ren, AV.ren, AV.ren1, renL, ren1L, renR, renQ, List.getD_cons_zero, List.getD_cons_succ, and_true, and_self, Nat.reduceEqDiff, ↓reduceIte, reduceCtorEq]) rfl rfl rfl ⟨rfl, rfl⟩ ?_
    simp only [Bld.bytes, List.nil_append] at hl
    simp (maxSteps := 2000000) only [go_sem, Nat.reduceEqDiff, Nat.reduceBEq, Nat.reduceLT, Nat.reduceLeDiff, Nat.reduceAdd, Nat.reduceSub, Nat.reduceMul, ↓reduceIte, reduceCtorEq, Nat.reduceBNe, Nat.reduceSubDiff, Int.reduceLT, Int.reduceLE, Int.reduceEq, Int.reduceNeg, Int.reduceAdd, Int.reduceMul, Int.reduceSub, Int.reduceToNat, Bld.bytes, AV.den, hbl]
    omega
  | nul =>
    refine lift___strings_Builder__WriteString.mcall (by kernel_rfl) rfl ?_
    simp (maxSteps := 2000000) only [go_sem, Nat.reduceEqDiff, Nat.reduceBEq, Nat.reduceLT, Nat.reduceLeDiff, Nat.reduceAdd, Nat.reduceSub, Nat.reduceMul, ↓reduceIte, reduceCtorEq, Nat.reduceBNe, Nat.reduceSubDiff, Int.reduceLT, Int.reduceLE, Int.reduceEq, Int.reduceNeg, Int.reduceAdd, Int.reduceMul, Int.reduceSub, Int.reduceToNat, L___strings_Builder__WriteString, R___strings_Builder__WriteString, AV.den, Bld.obj]
    refine PrimG.mcall ([.x 0]) ([]) rfl (copyCheck_used _ (.inl rfl)) rfl rfl (by simp only [objsAt, St.obj, aget, AObj.ren, AV.ren, AV.ren1, renL, ren1L, renR, renQ, List.getD_cons_zero, List.getD_cons_succ, and_true, and_self, Nat.reduceEqDiff, ↓reduceIte, reduceCtorEq]) rfl rfl rfl ⟨rfl, rfl⟩ ?_
    simp only [Bld.bytes, List.nil_append] at hl
    simp (maxSteps := 2000000) only [go_sem, Nat.reduceEqDiff, Nat.reduceBEq, Nat.reduceLT, Nat.reduceLeDiff, Nat.reduceAdd, Nat.reduceSub, Nat.reduceMul, ↓reduceIte, reduceCtorEq, Nat.reduceBNe, Nat.reduceSubDiff, Int.reduceLT, Int.reduceLE, Int.reduceEq, Int.reduceNeg, Int.reduceAdd, Int.reduceMul, Int.reduceSub, Int.reduceToNat, Bld.bytes, AV.den, hbl]
    omega
  | has s =>
    have hbs := bytesD_length s
    refine lift___strings_Builder__WriteString.mcall (by kernel_rfl) rfl ?_
    simp (maxSteps := 2000000) only [go_sem, Nat.reduceEqDiff, Nat.reduceBEq, Nat.reduceLT, Nat.reduceLeDiff, Nat.reduceAdd, Nat.reduceSub, Nat.reduceMul, ↓reduceIte, reduceCtorEq, Nat.reduceBNe, Nat.reduceSubDiff, Int.reduceLT, Int.reduceLE, Int.reduceEq, Int.reduceNeg, Int.reduceAdd, Int.reduceMul, Int.reduceSub, Int.reduceToNat, L___strings_Builder__WriteString, R___strings_Builder__WriteString, AV.den, Bld.obj]
    refine PrimG.mcall ([.x 0]) ([]) rfl (copyCheck_used _ (.inr ⟨s, rfl⟩)) rfl rfl (by simp only [objsAt, St.obj, aget, AObj.ren, AV.ren, AV.ren1, renL, ren1L, renR, renQ, List.getD_cons_zero, List.getD_cons_succ, and_true, and_self, Nat.reduceEqDiff, ↓reduceIte, reduceCtorEq]) rfl rfl rfl ⟨rfl, rfl⟩ ?_
    simp only [Bld.bytes, List.length_append] at hl
    simp (maxSteps := 2000000) only [go_sem, Nat.reduceEqDiff, Nat.reduceBEq, Nat.reduceLT, Nat.reduceLeDiff, Nat.reduceAdd, Nat.reduceSub, Nat.reduceMul, ↓reduceIte, reduceCtorEq, Nat.reduceBNe, Nat.reduceSubDiff, Int.reduceLT, Int.reduceLE, Int.reduceEq, Int.reduceNeg, Int.reduceAdd, Int.reduceMul, Int.reduceSub, Int.reduceToNat, Bld.bytes, AV.den, hbl, hbs, bytesD_append]
    omega

theorem writeByte_call (b : Bld) (c : UInt8) (hl : b.bytes.length + 1 ≤ 1000000000) : MCallE Tryd.prog 138 [.ptr (.x 0) 0, .d (.int .u8 c.toNat)] [b.obj] (.d .nil) [Bld.obj (.has (b.bytes ++ [c]))] := by
  cases b with
  | new =>
    refine lift___strings_Builder__WriteByte.mcall (by kernel_rfl) rfl ?_
    simp (maxSteps := 2000000) only [go_sem, Nat.reduceEqDiff, Nat.reduceBEq, Nat.reduceLT, Nat.reduceLeDiff, Nat.reduceAdd, Nat.reduceSub, Nat.reduceMul, ↓reduceIte, reduceCtorEq, Nat.reduceBNe, Nat.reduceSubDiff, Int.reduceLT, Int.reduceLE, Int.reduceEq, Int.reduceNeg, Int.reduceAdd, Int.reduceMul, Int.reduceSub, Int.reduceToNat, L___strings_Builder__WriteByte, R___strings_Builder__WriteByte, AV.den, Bld.obj]
    refine PrimG.mcall ([.x 0]) ([]) rfl (copyCheck_new) rfl rfl (by simp only [objsAt, St.obj, aget, AObj.ren, AV.ren, AV.ren1, renL, ren1L, renR, renQ, List.getD_cons_zero, List.getD_cons_succ, and_true, and_self, Nat.reduceEqDiff, ↓reduceIte, reduceCtorEq]) rfl rfl rfl ⟨rfl, rfl⟩ ?_
    simp (maxSteps := 2000000) only [go_sem, Nat.reduceEqDiff, Nat.reduceBEq, Nat.reduceLT, Nat.reduceLeDiff, Nat.reduceAdd, Nat.reduceSub, Nat.reduceMul, ↓reduceIte, reduceCtorEq, Nat.reduceBNe, Nat.reduceSubDiff, Int.reduceLT, Int.reduceLE, Int.reduceEq, Int.reduceNeg, Int.reduceAdd, Int.reduceMul, Int.reduceSub, Int.reduceToNat, Bld.bytes, AV.den, bytesD_cons, bytesD_nil]
  | nul =>
    refine lift___strings_Builder__WriteByte.mcall (by kernel_rfl) rfl ?_
    simp (maxSteps := 2000000) only [go_sem, Nat.reduceEqDiff, Nat.reduceBEq, Nat.reduceLT, Nat.reduceLeDiff, Nat.reduceAdd, Nat.reduceSub, Nat.reduceMul, ↓reduceIte, reduceCtorEq, Nat.reduceBNe, Nat.reduceSubDiff, Int.reduceLT, Int.reduceLE, Int.reduceEq, Int.reduceNeg, Int.reduceAdd, Int.reduceMul, Int.reduceSub, Int.reduceToNat, L___strings_Builder__WriteByte, R___strings_Builder__WriteByte, AV.den, Bld.obj]
    refine PrimG.mcall ([.x 0]) ([]) rfl (copyCheck_used _ (.inl rfl)) rfl rfl (by simp only [objsAt, St.obj, aget, AObj.ren, AV.ren, AV.ren1, renL, ren1L, renR, renQ, List.getD_cons_zero, List.getD_cons_succ, and_true, and_self, Nat.reduceEqDiff, ↓reduceIte, reduceCtorEq]) rfl rfl rfl ⟨rfl, rfl⟩ ?_
    simp (maxSteps := 2000000) only [go_sem, Nat.reduceEqDiff, Nat.reduceBEq, Nat.reduceLT, Nat.reduceLeDiff, Nat.reduceAdd, Nat.reduceSub, Nat.reduceMul, ↓reduceIte, reduceCtorEq, Nat.reduceBNe, Nat.reduceSubDiff, Int.reduceLT, Int.reduceLE, Int.reduceEq, Int.reduceNeg, Int.reduceAdd, Int.reduceMul, Int.reduceSub, Int.reduceToNat, Bld.bytes, AV.den, bytesD_cons, bytesD_nil]
  | has s =>
    have hbs := bytesD_length s
    refine lift___strings_Builder__WriteByte.mcall (by kernel_rfl) rfl ?_
    simp (maxSteps := 2000000) only [go_sem, Nat.reduceEqDiff, Nat.reduceBEq, Nat.reduceLT, Nat.reduceLeDiff, Nat.reduceAdd, Nat.reduceSub, Nat.reduceMul, ↓reduceIte, reduceCtorEq, Nat.reduceBNe, Nat.reduceSubDiff, Int.reduceLT, Int.reduceLE, Int.reduceEq, Int.reduceNeg, Int.reduceAdd, Int.reduceMul, Int.reduceSub, Int.reduceToNat, L___strings_Builder__WriteByte, R___strings_Builder__WriteByte, AV.den, Bld.obj]
    refine PrimG.mcall ([.x 0]) ([]) rfl (copyCheck_used _ (.inr ⟨s, rfl⟩)) rfl rfl (by simp only [objsAt, St.obj, aget, AObj.ren, AV.ren, AV.ren1, renL, ren1L, renR, renQ, List.getD_cons_zero, List.getD_cons_succ, and_true, and_self, Nat.reduceEqDiff, ↓reduceIte, reduceCtorEq]) rfl rfl rfl ⟨rfl, rfl⟩ ?_
    simp only [Bld.bytes] at hl
    simp (maxSteps := 2000000) only [go_sem, Nat.reduceEqDiff, Nat.reduceBEq, Nat.reduceLT, Nat.reduceLeDiff, Nat.reduceAdd, Nat.reduceSub, Nat.reduceMul, ↓reduceIte, reduceCtorEq, Nat.reduceBNe, Nat.reduceSubDiff, Int.reduceLT, Int.reduceLE, Int.reduceEq, Int.reduceNeg, Int.reduceAdd, Int.reduceMul, Int.reduceSub, Int.reduceToNat, Bld.bytes, AV.den, hbs, bytesD_append, bytesD_cons, bytesD_nil]
    omega
end Go.Av.Tryd
