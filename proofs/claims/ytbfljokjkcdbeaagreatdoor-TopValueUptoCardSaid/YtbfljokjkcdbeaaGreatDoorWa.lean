import Derived.Test.YtbfljokjkcdbeaaGreatDoorAvF
import Derived.Test.YtbfljokjkcdbeaaGreatDoorProg
import Derived.Lib.LaidTab
import Derived.Lib.ItoaNum
import Derived.Shelf.Strings.Builder1
import Derived.Lib.Bytealg
import Derived.Lib.UnsafeStr
import Derived.IntWalk
set_option linter.unusedSimpArgs false
namespace Go.Av.Tryz
open Go.Proofs

theorem tab_lt {P : Program} {name : String} {k : IntKind} {zs : List Int} {w : World} (h : Lib.TabIs P w name k zs) (b : Nat) (hb : P.globalNamed name = some b) : b < w.heap.size := by
  unfold Lib.TabIs World.var? at h
  simp only [hb, Option.bind_some] at h
  cases hc : w.heap[b]? with
  | none => simp [hc] at h
  | some o => exact (Array.getElem?_eq_some_iff.1 hc).1

theorem tab_keep {P : Program} {name : String} {k : IntKind} {zs : List Int} {w w' : World} (hk : ∀ b, P.globalNamed name = some b → w'.heap[b]? = w.heap[b]?) (h : Lib.TabIs P w name k zs) : Lib.TabIs P w' name k zs := by
  unfold Lib.TabIs World.var? at h ⊢
  cases hg : P.globalNamed name with
  | none => simp [hg] at h
  | some g =>
    simp only [hg, Option.bind_some] at h ⊢
    rw [hk g hg]; exact h

/-- Some integer stands in the variable of that name. -/
def intAt (P : Program) (name : String) (w : World) : Prop := ∀ b, P.globalNamed name = some b → ∃ m : Int, w.cell? ⟨b, 0, none⟩ = some (.int .i64 m)
theorem cell_same {w w' : World} {b : Nat} (h : w'.heap[b]? = w.heap[b]?) : w'.cell? ⟨b, 0, none⟩ = w.cell? ⟨b, 0, none⟩ := by
  simp only [World.cell?, h]
theorem cell_lt {w : World} {b : Nat} {v : Value} (h : w.cell? ⟨b, 0, none⟩ = some v) : b < w.heap.size := by
  rcases Nat.lt_or_ge b w.heap.size with h' | h'
  · exact h'
  · simp [World.cell?, Array.getElem?_eq_none h'] at h

/-- The table of that name, if there is one. -/
def tabAt (P : Program) (name : String) (k : IntKind) (zs : List Int) (w : World) : Prop := ∀ b, P.globalNamed name = some b → Lib.TabIs P w name k zs

/-- The table of powers of ten lies as the program lays it; the greatest length that the library's search takes is some number. -/
instance : Inv Tryz.prog := ⟨fun _ w => tabAt Tryz.prog "internal/strconv.uint64pow10" .u64 Lib.pow10Tab w ∧ intAt Tryz.prog "internal/bytealg.MaxLen" w,
  fun b => Tryz.prog.globalNamed "internal/strconv.uint64pow10" = some b ∨ Tryz.prog.globalNamed "internal/bytealg.MaxLen" = some b,
  fun h b hb => hb.elim (fun hb => tab_lt (h.1 b hb) b hb) fun hb => by obtain ⟨m, hm⟩ := h.2 b hb; exact cell_lt hm,
  fun hk h => ⟨fun b hb => tab_keep (fun b hb => (hk b (.inl hb)).1) (h.1 b hb), fun b hb => by obtain ⟨m, hm⟩ := h.2 b hb; exact ⟨m, (cell_same (hk b (.inr hb)).1).trans hm⟩⟩⟩

end Go.Av.Tryz
set_option linter.unusedSimpArgs false
namespace Go.Av.Tryz
open Go.Proofs
def errD (n : Nat) : D := if n = 0 then .nil else .iface 50 (.int .i64 n)
theorem errD_ne {n : Nat} (h : n ≠ 0) : errD n = .iface 50 (.int .i64 n) := by simp [errD, h]

end Go.Av.Tryz
set_option linter.unusedSimpArgs false
namespace Go.Av.Tryz
open Go.Proofs

/-- A builder: new; used, nothing in it; with these bytes. -/
inductive Bld where
  | new
  | nul
  | has (s : List UInt8)
def Bld.obj : Bld → AObj
  | .new => .cells [.nt 59, .ns]
  | .nul => .cells [.ptr (.x 0) 0, .ns]
  | .has s => .cells [.ptr (.x 0) 0, .own (.c (.x 0) 1) 5 1 (bytesD s)]
def Bld.bytes : Bld → List UInt8
  | .has s => s
  | _ => []
/-- (*strings.Builder).copyCheck -/
def L___strings_Builder__copyCheck : LCode :=
  .seq (.reg [⟨some 2, .val (.cp (.t 0)), none⟩, ⟨some 3, .val (.nck (.t 2)), none⟩, ⟨some 4, .val (.fa 0 (.t 3)), none⟩, ⟨some 5, .val (.ld false 1 (.t 4)), none⟩, ⟨some 6, .val 
  (.eqN 1 false (.t 5)), none⟩]) (.cond (.t 6) (.reg [⟨some 7, .val (.cp (.t 0)), none⟩, ⟨some 8, .val (.cp (.t 0)), none⟩, ⟨some 9, .prim (.conv 56 100) [.t 8] [], none⟩, ⟨some 
  10, .prim .call [.k (.fn (.func 73) [] []), .t 9] [], none⟩, ⟨some 11, .prim (.conv 100 56) [.t 10] [], none⟩, ⟨some 12, .val (.nck (.t 7)), none⟩, ⟨some 13, .val (.fa 0 (.t 
  12)), none⟩, ⟨none, .st 1 (.t 13) (.t 11), none⟩]) (.seq (.reg [⟨some 14, .val (.cp (.t 0)), none⟩, ⟨some 15, .val (.nck (.t 14)), none⟩, ⟨some 16, .val (.fa 0 (.t 15)), none⟩, 
  ⟨some 17, .val (.ld false 1 (.t 16)), none⟩, ⟨some 18, .val (.cp (.t 0)), none⟩, ⟨some 19, .prim (.eq .neq 56) [.t 17, .t 18] [], none⟩]) (.cond (.t 19) .bad .skip)))
def R___strings_Builder__copyCheck : List LRes := []
theorem lift___strings_Builder__copyCheck : Lifts Tryz.prog 43 20 L___strings_Builder__copyCheck R___strings_Builder__copyCheck := ⟨_, _, Tryz.func43, rfl, by kernel_rfl, by kernel_rfl, rfl⟩

theorem copyCheck_new : MCallE Tryz.prog 43 [.ptr (.x 0) 0] [.cells [.nt 59, .ns]] (.tuple []) [.cells [.ptr (.x 0) 0, .ns]] := by
  refine lift___strings_Builder__copyCheck.mcall (by kernel_rfl) rfl ?_
  simp (maxSteps := 2000000) only [go_sem, ↓reduceIte, L___strings_Builder__copyCheck, R___strings_Builder__copyCheck, AV.den]
  refine PrimG.toUnsafe (m := 1) rfl rfl (by decide) Tryz.underlying56 Tryz.underlying100 (by kernel_rfl) ?_
  simp (maxSteps := 2000000) only [go_sem, ↓reduceIte]
  refine PrimG.entry Tryz.func73 (by kernel_rfl) (by kernel_rfl) (by kernel_rfl) (e := Extern.AbiNoEscape.same) (by kernel_rfl) (.ptr (.x 0) 0) (fun G w vs hl hv => ?_) ?_
  · match vs, hl with
    | [v], _ => exact ⟨v, Lib.run_noEscape w v, hv 0 _ rfl⟩
  simp (maxSteps := 2000000) only [go_sem, ↓reduceIte]
  refine PrimG.fromUnsafe (i := 0) rfl rfl rfl Tryz.underlying100 Tryz.underlying56 (m := 2) (by kernel_rfl) (by kernel_rfl) ?_
  simp (maxSteps := 2000000) only [go_sem, ↓reduceIte]

theorem info147 : ∃ j, Tryz.prog.info? 59 = some j := by
  have h : (Tryz.prog.info? 59).isSome = true := by kernel_rfl
  exact Option.isSome_iff_exists.1 h

theorem copyCheck_used (x : AV) (hx : x = .ns ∨ ∃ s, x = .own (.c (.x 0) 1) 5 1 (bytesD s)) : MCallE Tryz.prog 43 [.ptr (.x 0) 0] [.cells [.ptr (.x 0) 0, x]] (.tuple []) [.cells [.ptr (.x 0) 0, x]] := by
  obtain ⟨j, hj⟩ := info147
  have done : MCallE Tryz.prog 43 [.ptr (.x 0) 0] [.cells [.ptr (.x 0) 0, x]] (.tuple []) [.cells [.ptr (.x 0) 0, x]] := by
    refine lift___strings_Builder__copyCheck.mcall (by kernel_rfl) rfl ?_
    simp (maxSteps := 2000000) only [go_sem, ↓reduceIte, L___strings_Builder__copyCheck, R___strings_Builder__copyCheck, AV.den]
    refine PrimG.samePtr rfl rfl Tryz.underlying56 hj ?_
    simp (maxSteps := 2000000) only [go_sem, ↓reduceIte]
  exact done

/-- (*strings.Builder).WriteByte -/
def L___strings_Builder__WriteByte : LCode :=
  .seq (.reg [⟨some 4, .asg (.k (.d .nil)), none⟩]) (.seq (.reg [⟨some 5, .val (.cp (.t 0)), none⟩, ⟨some 6, .prim .call [.k (.fn (.func 43) [] []), .t 5] [], none⟩]) (.seq (.reg 
  [⟨some 7, .val (.cp (.t 0)), none⟩, ⟨some 8, .val (.cp (.t 0)), none⟩, ⟨some 9, .val (.nck (.t 8)), none⟩, ⟨some 10, .val (.fa 1 (.t 9)), none⟩, ⟨some 11, .val (.ld false 1 (.t 
  10)), none⟩, ⟨some 12, .val (.cp (.t 1)), none⟩, ⟨some 13, .bsl 5 1 [.t 12], none⟩, ⟨some 14, .app 5 1 1 false (.t 11) (.t 13), none⟩, ⟨some 15, .val (.nck (.t 7)), none⟩, ⟨some 
  16, .val (.fa 1 (.t 15)), none⟩, ⟨none, .st 1 (.t 16) (.t 14), none⟩]) (.seq (.reg [⟨some 4, .asg (.k (.d .nil)), none⟩]) .ret)))
def R___strings_Builder__WriteByte : List LRes := [.tmp 4]
theorem lift___strings_Builder__WriteByte : Lifts Tryz.prog 55 17 L___strings_Builder__WriteByte R___strings_Builder__WriteByte := ⟨_, _, Tryz.func55, rfl, by kernel_rfl, by kernel_rfl, rfl⟩

/-- (*strings.Builder).WriteString -/
def L___strings_Builder__WriteString : LCode :=
  .seq (.reg [⟨some 4, .asg (.k (.d (.int .i64 0))), none⟩, ⟨some 5, .asg (.k (.d .nil)), none⟩]) (.seq (.reg [⟨some 6, .val (.cp (.t 0)), none⟩, ⟨some 7, .prim .call [.k (.fn (.func 
  43) [] []), .t 6] [], none⟩]) (.seq (.reg [⟨some 8, .val (.cp (.t 0)), none⟩, ⟨some 9, .val (.cp (.t 0)), none⟩, ⟨some 10, .val (.nck (.t 9)), none⟩, ⟨some 11, .val (.fa 1 (.t 
  10)), none⟩, ⟨some 12, .val (.ld false 1 (.t 11)), none⟩, ⟨some 13, .val (.cp (.t 1)), none⟩, ⟨some 14, .app 5 1 1 true (.t 12) (.t 13), none⟩, ⟨some 15, .val (.nck (.t 8)), 
  none⟩, ⟨some 16, .val (.fa 1 (.t 15)), none⟩, ⟨none, .st 1 (.t 16) (.t 14), none⟩]) (.seq (.reg [⟨some 17, .val (.cp (.t 1)), none⟩, ⟨some 18, .val (.len true (.t 17)), none⟩, 
  ⟨some 4, .asg (.t 18), none⟩, ⟨some 5, .asg (.k (.d .nil)), none⟩]) .ret)))
def R___strings_Builder__WriteString : List LRes := [.tmp 4, .tmp 5]
theorem lift___strings_Builder__WriteString : Lifts Tryz.prog 25 19 L___strings_Builder__WriteString R___strings_Builder__WriteString := ⟨_, _, Tryz.func25, rfl, by kernel_rfl, by kernel_rfl, rfl⟩


theorem writeString_call (b : Bld) (t : List UInt8) (hl : (b.bytes ++ t).length ≤ 1000000000) : MCallE Tryz.prog 25 [.ptr (.x 0) 0, .d (.str t)] [b.obj] (.tuple [.d (.int .i64 t.length), .d .nil]) [Bld.obj (.has (b.bytes ++ t))] := by
  have hbl := bytesD_length t
  cases b with
  | new =>
    refine lift___strings_Builder__WriteString.mcall (by kernel_rfl) rfl ?_
    simp (maxSteps := 2000000) only [go_sem, ↓reduceIte, L___strings_Builder__WriteString, R___strings_Builder__WriteString, AV.den, Bld.obj]
    refine PrimG.mcall ([.x 0]) ([]) rfl (copyCheck_new) rfl rfl (by simp only [objsAt, St.obj, aget, AObj.ren, AV.ren, AV.ren1, renL, ren1L, renR, renQ, List.getD_cons_zero, List.getD_cons_succ, and_true, and_self, Nat.reduceEqDiff, ↓reduceIte, reduceCtorEq]) rfl rfl rfl ⟨rfl, rfl⟩ ?_
    simp only [Bld.bytes, List.nil_append] at hl
    simp (maxSteps := 2000000) only [go_sem, ↓reduceIte, Bld.bytes, AV.den, hbl]
    omega
  | nul =>
    refine lift___strings_Builder__WriteString.mcall (by kernel_rfl) rfl ?_
    simp (maxSteps := 2000000) only [go_sem, ↓reduceIte, L___strings_Builder__WriteString, R___strings_Builder__WriteString, AV.den, Bld.obj]
    refine PrimG.mcall ([.x 0]) ([]) rfl (copyCheck_used _ (.inl rfl)) rfl rfl (by simp only [objsAt, St.obj, aget, AObj.ren, AV.ren, AV.ren1, renL, ren1L, renR, renQ, List.getD_cons_zero, List.getD_cons_succ, and_true, and_self, Nat.reduceEqDiff, ↓reduceIte, reduceCtorEq]) rfl rfl rfl ⟨rfl, rfl⟩ ?_
    simp only [Bld.bytes, List.nil_append] at hl
    simp (maxSteps := 2000000) only [go_sem, ↓reduceIte, Bld.bytes, AV.den, hbl]
    omega
  | has s =>
    have hbs := bytesD_length s
    refine lift___strings_Builder__WriteString.mcall (by kernel_rfl) rfl ?_
    simp (maxSteps := 2000000) only [go_sem, ↓reduceIte, L___strings_Builder__WriteString, R___strings_Builder__WriteString, AV.den, Bld.obj]
    refine PrimG.mcall ([.x 0]) ([]) rfl (copyCheck_used _ (.inr ⟨s, rfl⟩)) rfl rfl (by simp only [objsAt, St.obj, aget, AObj.ren, AV.ren, AV.ren1, renL, ren1L, renR, renQ, List.getD_cons_zero, List.getD_cons_succ, and_true, and_self, Nat.reduceEqDiff, ↓reduceIte, reduceCtorEq]) rfl rfl rfl ⟨rfl, rfl⟩ ?_
    simp only [Bld.bytes, List.length_append] at hl
    simp (maxSteps := 2000000) only [go_sem, ↓reduceIte, Bld.bytes, AV.den, hbl, hbs, bytesD_append]
    omega

theorem writeByte_call (b : Bld) (c : UInt8) (hl : b.bytes.length + 1 ≤ 1000000000) : MCallE Tryz.prog 55 [.ptr (.x 0) 0, .d (.int .u8 c.toNat)] [b.obj] (.d .nil) [Bld.obj (.has (b.bytes ++ [c]))] := by
  cases b with
  | new =>
    refine lift___strings_Builder__WriteByte.mcall (by kernel_rfl) rfl ?_
    simp (maxSteps := 2000000) only [go_sem, ↓reduceIte, L___strings_Builder__WriteByte, R___strings_Builder__WriteByte, AV.den, Bld.obj]
    refine PrimG.mcall ([.x 0]) ([]) rfl (copyCheck_new) rfl rfl (by simp only [objsAt, St.obj, aget, AObj.ren, AV.ren, AV.ren1, renL, ren1L, renR, renQ, List.getD_cons_zero, List.getD_cons_succ, and_true, and_self, Nat.reduceEqDiff, ↓reduceIte, reduceCtorEq]) rfl rfl rfl ⟨rfl, rfl⟩ ?_
    simp (maxSteps := 2000000) only [go_sem, ↓reduceIte, Bld.bytes, AV.den, bytesD_cons, bytesD_nil]
  | nul =>
    refine lift___strings_Builder__WriteByte.mcall (by kernel_rfl) rfl ?_
    simp (maxSteps := 2000000) only [go_sem, ↓reduceIte, L___strings_Builder__WriteByte, R___strings_Builder__WriteByte, AV.den, Bld.obj]
    refine PrimG.mcall ([.x 0]) ([]) rfl (copyCheck_used _ (.inl rfl)) rfl rfl (by simp only [objsAt, St.obj, aget, AObj.ren, AV.ren, AV.ren1, renL, ren1L, renR, renQ, List.getD_cons_zero, List.getD_cons_succ, and_true, and_self, Nat.reduceEqDiff, ↓reduceIte, reduceCtorEq]) rfl rfl rfl ⟨rfl, rfl⟩ ?_
    simp (maxSteps := 2000000) only [go_sem, ↓reduceIte, Bld.bytes, AV.den, bytesD_cons, bytesD_nil]
  | has s =>
    have hbs := bytesD_length s
    refine lift___strings_Builder__WriteByte.mcall (by kernel_rfl) rfl ?_
    simp (maxSteps := 2000000) only [go_sem, ↓reduceIte, L___strings_Builder__WriteByte, R___strings_Builder__WriteByte, AV.den, Bld.obj]
    refine PrimG.mcall ([.x 0]) ([]) rfl (copyCheck_used _ (.inr ⟨s, rfl⟩)) rfl rfl (by simp only [objsAt, St.obj, aget, AObj.ren, AV.ren, AV.ren1, renL, ren1L, renR, renQ, List.getD_cons_zero, List.getD_cons_succ, and_true, and_self, Nat.reduceEqDiff, ↓reduceIte, reduceCtorEq]) rfl rfl rfl ⟨rfl, rfl⟩ ?_
    simp only [Bld.bytes] at hl
    simp (maxSteps := 2000000) only [go_sem, ↓reduceIte, Bld.bytes, AV.den, hbs, bytesD_append, bytesD_cons, bytesD_nil]
    omega
end Go.Av.Tryz
set_option linter.unusedSimpArgs false
namespace Go.Av.Tryz
open Go.Proofs
section
open Go.Shelf Go.RowKit
set_option maxHeartbeats 2000000
set_option maxRecDepth 100000
theorem bstr_row (b g cap : Nat) (p : Value) (cur : Array Value) (el : TypeId) (l : List UInt8) (w : World) (hbk : w.heap[b]? = some (.cells #[p, .slice (some ⟨g, 0, none⟩) l.length cap] el (0, 0))) (h0 : l ≠ [])
    (hg : w.heap[g]? = some (.cells cur 5 (0, 0))) (hnc : l.length ≤ cap) (hcm : cap ≤ maxLen) (hcs : cur.size = cap) (hcell : ∀ (j : Nat) (x : UInt8), l[j]? = some x → w.cell? ((⟨g, 0, none⟩ : Addr).add j) = some (.int .u8 x.toNat)) :
    Calls Tryz.prog 27 #[.pointer (some ⟨b, 0, none⟩)] w fun e w' => e = .returned (.string ⟨l.toArray⟩) ∧ w' = w.drew.freeze ⟨g, 0, none⟩ l.length := by
  have hl0 : l.length ≠ 0 := by simpa using h0
  have c1 : w.drew.cell? ⟨b, 1, none⟩ = some (.slice (some ⟨g, 0, none⟩) l.length cap) := by
    have : w.drew.heap[b]? = some (.cells #[p, .slice (some ⟨g, 0, none⟩) l.length cap] el (0, 0)) := hbk
    rw [Lib.cell_of_heap this]; rfl
  have hSD : (Builtin.unsafeSliceData_ #[57] 81 #[.slice (some ⟨g, 0, none⟩) l.length cap]).run Tryz.prog w.drew = .ok (.pointer (some ⟨g, 0, none⟩)) w.drew :=
    Lib.run_unsafeSliceData_row _ _ _ _ _ _ (by omega)
  have hUS : (Builtin.unsafeString_ #[81, 3] 9 #[.pointer (some ⟨g, 0, none⟩), .int .i64 l.length]).run Tryz.prog w.drew = .ok (.string ⟨l.toArray⟩) (w.drew.freeze ⟨g, 0, none⟩ l.length) := by
    refine Lib.run_unsafeString_row w.drew 81 3 9 5 Tryz.underlying81 (by kernel_rfl) g cur.size (by have hg' : w.drew.heap[g]? = some (.cells cur 5 (0, 0)) := hg; simp [World.shape?, hg']) l h0 (by omega) (by unfold maxLen at hcm; omega) ?_
    intro j x hx
    exact hcell j x hx
  go_enter Tryz.func27, Tryz.ntmps27
  go_wp2
  go_region
  all_goals (go_wp2; go_ret; exact ⟨rfl, rfl⟩)

theorem bstr_nil (b : Nat) (p : Value) (el : TypeId) (w : World) (hbk : w.heap[b]? = some (.cells #[p, .slice none 0 0] el (0, 0))) :
    Calls Tryz.prog 27 #[.pointer (some ⟨b, 0, none⟩)] w fun e w' => e = .returned (.string ⟨#[]⟩) ∧ w' = w.drew := by
  have hUS : ∀ (W : World) (q : Option Addr), (Builtin.unsafeString_ #[81, 3] 9 #[.pointer q, .int .i64 0]).run Tryz.prog W = .ok (.string .empty) W := fun W q => Lib.run_unsafeString_none W _ _ _ q
  have c1 : w.drew.cell? ⟨b, 1, none⟩ = some (.slice none 0 0) := by
    have : w.drew.heap[b]? = some (.cells #[p, .slice none 0 0] el (0, 0)) := hbk
    rw [Lib.cell_of_heap this]; rfl
  have hSD : (Builtin.unsafeSliceData_ #[57] 81 #[.slice none 0 0]).run Tryz.prog w.drew = .ok (.pointer none) w.drew := rfl
  go_enter Tryz.func27, Tryz.ntmps27
  go_wp2
  go_region
  all_goals (go_wp2; go_ret; exact ⟨rfl, rfl⟩)

theorem bstr_room (b g cap : Nat) (p : Value) (el : TypeId) (w : World) (hc0 : cap ≠ 0) (hbk : w.heap[b]? = some (.cells #[p, .slice (some ⟨g, 0, none⟩) 0 cap] el (0, 0))) :
    Calls Tryz.prog 27 #[.pointer (some ⟨b, 0, none⟩)] w fun e w' => e = .returned (.string ⟨#[]⟩) ∧ w' = w.drew := by
  have hUS : ∀ (W : World) (q : Option Addr), (Builtin.unsafeString_ #[81, 3] 9 #[.pointer q, .int .i64 0]).run Tryz.prog W = .ok (.string .empty) W := fun W q => Lib.run_unsafeString_none W _ _ _ q
  have c1 : w.drew.cell? ⟨b, 1, none⟩ = some (.slice (some ⟨g, 0, none⟩) 0 cap) := by
    have : w.drew.heap[b]? = some (.cells #[p, .slice (some ⟨g, 0, none⟩) 0 cap] el (0, 0)) := hbk
    rw [Lib.cell_of_heap this]; rfl
  have hSD : (Builtin.unsafeSliceData_ #[57] 81 #[.slice (some ⟨g, 0, none⟩) 0 cap]).run Tryz.prog w.drew = .ok (.pointer (some ⟨g, 0, none⟩)) w.drew :=
    Lib.run_unsafeSliceData_row _ _ _ _ _ _ hc0
  clear hc0
  go_enter Tryz.func27, Tryz.ntmps27
  go_wp2
  go_region
  all_goals (go_wp2; go_ret; exact ⟨rfl, rfl⟩)

theorem bstr_noroom (b g : Nat) (p : Value) (el : TypeId) (cur : Array Value) (w : World) (hbk : w.heap[b]? = some (.cells #[p, .slice (some ⟨g, 0, none⟩) 0 0] el (0, 0))) (hg : w.heap[g]? = some (.cells cur 5 (0, 0))) :
    Calls Tryz.prog 27 #[.pointer (some ⟨b, 0, none⟩)] w fun e w' => e = .returned (.string ⟨#[]⟩) ∧ w' = w.drew.alloc (.view ⟨g, 0, none⟩ 5) := by
  have hUS : ∀ (W : World) (q : Option Addr), (Builtin.unsafeString_ #[81, 3] 9 #[.pointer q, .int .i64 0]).run Tryz.prog W = .ok (.string .empty) W := fun W q => Lib.run_unsafeString_none W _ _ _ q
  have hlt : b < w.heap.size := by
    rcases Nat.lt_or_ge b w.heap.size with h' | h'
    · exact h'
    · simp [Array.getElem?_eq_none h'] at hbk
  have c1 : w.drew.cell? ⟨b, 1, none⟩ = some (.slice (some ⟨g, 0, none⟩) 0 0) := by
    have : w.drew.heap[b]? = some (.cells #[p, .slice (some ⟨g, 0, none⟩) 0 0] el (0, 0)) := hbk
    rw [Lib.cell_of_heap this]; rfl
  have hSD : (Builtin.unsafeSliceData_ #[57] 81 #[.slice (some ⟨g, 0, none⟩) 0 0]).run Tryz.prog w.drew = .ok (.pointer (some ⟨w.drew.heap.size, 0, none⟩)) (w.drew.alloc (.view ⟨g, 0, none⟩ 5)) :=
    Lib.run_unsafeSliceData_zero w.drew _ _ 5 Tryz.underlying81 ⟨g, 0, none⟩ 0 (5, cur.size) (by have hg' : w.drew.heap[g]? = some (.cells cur 5 (0, 0)) := hg; simp [World.shape?, hg'])
  have c2 : (w.drew.alloc (.view ⟨g, 0, none⟩ 5)).cell? ⟨b, 1, none⟩ = some (.slice (some ⟨g, 0, none⟩) 0 0) := by
    have : (w.drew.alloc (.view ⟨g, 0, none⟩ 5)).heap[b]? = _ := (Lib.alloc_old w.drew _ b hlt).trans hbk
    rw [Lib.cell_of_heap this]; rfl
  have c3 : (w.alloc (.view ⟨g, 0, none⟩ 5)).drew.cell? ⟨b, 1, none⟩ = some (.slice (some ⟨g, 0, none⟩) 0 0) := c2
  have c0 : w.cell? ⟨b, 1, none⟩ = some (.slice (some ⟨g, 0, none⟩) 0 0) := c1
  go_enter Tryz.func27, Tryz.ntmps27
  go_wp2
  go_region
  all_goals (go_wp2; go_ret; exact ⟨rfl, rfl⟩)
end

theorem heap_freeze_ne (w : World) (g n b : Nat) (h : b ≠ g) : (w.freeze ⟨g, 0, none⟩ n).heap[b]? = w.heap[b]? := by
  unfold World.freeze
  split
  · rfl
  · simp only [Array.getElem?_modify]
    rw [if_neg (fun e => h e.symm)]

theorem heap_freeze_at (w : World) (g n : Nat) {cur : Array Value} {e : TypeId} {fz : Nat × Nat} (h : w.heap[g]? = some (.cells cur e fz)) : ∃ fz', (w.freeze ⟨g, 0, none⟩ n).heap[g]? = some (.cells cur e fz') := by
  unfold World.freeze
  split
  · exact ⟨fz, h⟩
  · obtain ⟨lo, hi⟩ := fz
    simp only [Array.getElem?_modify, if_true, h, Option.map_some]
    exact ⟨_, rfl⟩

theorem freeze_size (w : World) (g n : Nat) : (w.freeze ⟨g, 0, none⟩ n).heap.size = w.heap.size := by
  unfold World.freeze
  split
  · rfl
  · simp

theorem freeze_rest (w : World) (g n : Nat) : (w.freeze ⟨g, 0, none⟩ n).os = w.os ∧ (w.freeze ⟨g, 0, none⟩ n).tape = w.tape ∧ (w.freeze ⟨g, 0, none⟩ n).output = w.output := by
  unfold World.freeze
  split <;> exact ⟨rfl, rfl, rfl⟩

theorem Ext.freeze {f : Nat → Nat} {w : World} {g n : Nat} {cur : Array Value} {e : TypeId} {fz : Nat × Nat} (h : w.heap[g]? = some (.cells cur e fz)) : Ext f w f (w.freeze ⟨g, 0, none⟩ n) := by
  refine ⟨by rw [freeze_size]; exact Nat.le_refl _, fun _ => Nat.le_refl _, fun b i _ => ?_⟩
  by_cases hb : b = g
  · subst hb
    obtain ⟨fz', h'⟩ := heap_freeze_at w b n h
    simp [World.cell?, at_, h, h']
  · simp only [World.cell?, at_]
    rw [heap_freeze_ne w g n b hb]

/-- The end of a walk by hand: what is told of one object. -/
theorem one_final {E : Entry} {n : Nat} {G : Ghost} {σ : St} {ts : Array Value} {w : World} (h : SR E n G σ ts w) {x : D} {v : Value} (hr : RD G.f w x v) {o : AObj} (ho : σ.obj (.x 0) = some o) :
    ∃ G', SR E 1 G' ⟨[(0, .d x)], [], numO 0 [o]⟩ #[v] w :=
  ⟨_, h.final (q0 := none) (r := .d x) (v := v) (.d _ _ hr) (fun q hq => by simp [AV.lab?] at hq) (fun _ _ e => by cases e) (hs' := [o]) (fun i o' hi => by
    cases i with
    | zero => simp at hi; subst hi; exact ho
    | succ i => simp at hi)⟩

/-- What String leaves. -/
def Bld.said : Bld → AObj
  | .has s => .cells [.ptr (.x 0) 0, .d (.list (bytesD s))]
  | b => b.obj

theorem string_call (b : Bld) (hl : b.bytes.length ≤ 1000000000) : MCallE Tryz.prog 27 [.ptr (.x 0) 0] [b.obj] (.d (.str b.bytes)) [b.said] := by
  refine ⟨by kernel_rfl, fun G w vs hI hown hsr => ?_⟩
  have hv : vs = #[.pointer (some (at_ (G.b (.x 0)) 0))] := by
    have h1 := hsr.slot 0 (.ptr (.x 0) 0) rfl
    have h2 := hsr.size
    match vs, h2 with
    | ⟨[v]⟩, _ =>
      have h1 : AVR G w (.ptr (.x 0) 0) v := h1
      cases h1; rfl
  subst hv
  have hob : St.obj ⟨initA 0 [.ptr (.x 0) 0], [], numO 0 [b.obj]⟩ (.x 0) = some b.obj := rfl
  obtain ⟨a0, c1, hbo, hc1⟩ : ∃ a0 c1, b.obj = .cells [a0, c1] ∧ ((c1 = .ns ∧ b.bytes = [] ∧ b.said = b.obj) ∨ ∃ s, b = .has s ∧ c1 = .own (.c (.x 0) 1) 5 1 (bytesD s)) := by
    cases b with
    | new => exact ⟨_, _, rfl, .inl ⟨rfl, rfl, rfl⟩⟩
    | nul => exact ⟨_, _, rfl, .inl ⟨rfl, rfl, rfl⟩⟩
    | has s => exact ⟨_, _, rfl, .inr ⟨s, rfl, rfl⟩⟩
  have ho := hsr.obj _ _ hob
  rw [hbo] at ho
  obtain ⟨arr, el, g1, g2, g3⟩ := ho
  obtain ⟨p, v, rfl⟩ : ∃ p v, arr = #[p, v] := by
    match arr, g2 with
    | ⟨[p, v]⟩, _ => exact ⟨p, v, rfl⟩
  have hcell := (g3 1 c1 rfl).1
  have hcell : AVR G w c1 v := hcell
  rcases hc1 with ⟨rfl, hb0, hsd⟩ | ⟨s, rfl, rfl⟩
  · cases hcell
    refine (bstr_nil _ p el w g1).mono fun e w' ⟨e1, e2⟩ => ?_
    subst e2
    obtain ⟨G', h5⟩ := one_final (hsr.drew) (x := .str b.bytes) (v := .string ⟨#[]⟩) (by rw [hb0]; exact .str []) hob
    exact ⟨_, _, G', _, ⟨rfl, rfl⟩, e1, rfl, by rw [hsd]; exact h5⟩
  · cases hcell with
    | own _ _ _ _ _ hq hrd hsz =>
      have h1 := hsr.erase (.c (.x 0) 1)
      have hob1 : (St.erase ⟨initA 0 [.ptr (.x 0) 0], [], numO 0 [Bld.obj (.has s)]⟩ (.c (.x 0) 1)).obj (.x 0) = some (.cells [.ptr (.x 0) 0, .d (.list (bytesD s))]) := by
        rw [St.obj_erase, hob]
        simp [Bld.obj, eraseObj, amod, AV.erase]
      obtain ⟨k, xs, hown', hfb⟩ := hsr.lam _ _ _ _ hq
      have hk : k = s.length := by have := own_len hrd hown'; rwa [bytesD_length] at this
      subst hk
      rcases hown'.2 with ⟨rfl, h0⟩ | ⟨g, cap, cur, rfl, _, hg, hnc, hcm, hcs, htk⟩
      · have hs0 : s = [] := by simpa using h0
        subst hs0
        refine (bstr_nil _ p el w g1).mono fun e w' ⟨e1, e2⟩ => ?_
        subst e2
        obtain ⟨G', h5⟩ := one_final (h1.drew) (x := .str []) (v := .string ⟨#[]⟩) (.str []) hob1
        exact ⟨_, _, G', _, ⟨rfl, rfl⟩, e1, rfl, h5⟩
      · by_cases hs0 : s = []
        · subst hs0
          by_cases hc0 : cap = 0
          · subst hc0
            refine (bstr_noroom _ g p el cur w g1 hg).mono fun e w' ⟨e1, e2⟩ => ?_
            subst e2
            obtain ⟨G', h5⟩ := one_final ((h1.drew).alloc (.view ⟨g, 0, none⟩ 5) 0) (x := .str []) (v := .string ⟨#[]⟩) (.str []) hob1
            exact ⟨_, _, G', _, ⟨rfl, rfl⟩, e1, rfl, h5⟩
          · refine (bstr_room _ g cap p el w hc0 g1).mono fun e w' ⟨e1, e2⟩ => ?_
            subst e2
            obtain ⟨G', h5⟩ := one_final (h1.drew) (x := .str []) (v := .string ⟨#[]⟩) (.str []) hob1
            exact ⟨_, _, G', _, ⟨rfl, rfl⟩, e1, rfl, h5⟩
        · refine (bstr_row _ g cap p cur el s w g1 hs0 hg hnc hcm (by simpa using hcs) (fun j x hx => ?_)).mono fun e w' ⟨e1, e2⟩ => ?_
          · have hlt : j < s.length := (List.getElem?_eq_some_iff.1 hx).1
            have hadd : (⟨g, 0, none⟩ : Addr).add j = at_ g j := add_zero_at g j
            rw [hadd]
            generalize hL : bytesD s = L at hrd
            have hLl : L.length = s.length := by rw [← hL, bytesD_length]
            have hLj : L[j]? = some (.int .u8 x.toNat) := by rw [← hL]; simp [bytesD, hx]
            generalize hvv : Value.slice (some ⟨g, 0, none⟩) s.length cap = vv at hrd
            cases hrd with
            | nils => cases hvv
            | emp a c => simp at hLj
            | list l b o cap' sz vs hcap hsz' hb' hc' hr' =>
              simp only [Value.slice.injEq, Option.some.injEq] at hvv
              obtain ⟨e0, _, _⟩ := hvv
              simp only [at_, Addr.mk.injEq] at e0
              obtain ⟨rfl, rfl, _⟩ := e0
              have hm := List.mem_of_getElem? hLj
              have hsz1 : sz = 1 := by have := (hsz' _ hm).1; simpa [D.cells] using this.symm
              subst hsz1
              have q1 := hc' j (by omega)
              have q2 := hr' j _ 0 _ hLj rfl
              rw [Nat.zero_add] at q1
              rw [q1]
              have e3 : j * 1 + 0 = j := by omega
              rw [e3] at q2
              cases hvs : vs j <;> rw [hvs] at q2 <;> cases q2
              rfl
          · subst e2
            have hX := h1.drew.world' (w' := w.drew.freeze ⟨g, 0, none⟩ s.length) (f' := G.f) (fun b => b = g) (fun b hb => by
              subst hb
              refine ⟨fun r o hr e => ?_, fun q v' p' hq' hvb => ?_, ?_⟩
              · have hr' : ∃ o', St.obj ⟨initA 0 [.ptr (.x 0) 0], [], numO 0 [Bld.obj (.has s)]⟩ r = some o' := by
                  rw [St.obj_erase] at hr
                  cases h0 : St.obj ⟨initA 0 [.ptr (.x 0) 0], [], numO 0 [Bld.obj (.has s)]⟩ r with
                  | none => simp [h0] at hr
                  | some o' => exact ⟨o', rfl⟩
                obtain ⟨o', hr'⟩ := hr'
                exact hsr.lamObj _ _ _ _ _ hq rfl r o' hr' e
              · simp only [updf] at hq'
                split at hq'
                · cases hq'
                · rename_i hne
                  exact hne (hsr.lamInj _ _ _ _ _ _ _ hq' hq hvb rfl)
              · exact hsr.newLam _ _ _ _ _ hq rfl) (Ext.freeze (w := w.drew) hg) (fun b hb hne => ⟨heap_freeze_ne _ _ _ _ hne, rfl⟩) (fun b hb => h1.drew.top b (by rw [freeze_size] at hb; exact hb)) (freeze_rest _ _ _).1 (freeze_rest _ _ _).2.1 (freeze_rest _ _ _).2.2
            obtain ⟨G', h5⟩ := one_final hX (x := .str s) (v := .string ⟨s.toArray⟩) (.str s) hob1
            exact ⟨_, _, G', _, ⟨rfl, rfl⟩, e1, rfl, h5⟩
end Go.Av.Tryz
set_option linter.unusedSimpArgs false
namespace Go.Av.Tryz
open Go.Proofs

theorem indexByte_none {l : List UInt8} {c : UInt8} : Lib.indexByte l c = -1 ↔ c ∉ l := by
  induction l with
  | nil => simp [Lib.indexByte]
  | cons b l ih =>
    have hge := Lib.indexByte_ge l c
    simp only [Lib.indexByte, List.mem_cons, not_or]
    by_cases h : b = c
    · simp [h]
    · rw [if_neg (by simpa using h)]
      by_cases h2 : Lib.indexByte l c = -1
      · rw [if_pos (by simpa using h2)]
        simp only [true_iff]
        exact ⟨fun e => h e.symm, ih.1 h2⟩
      · rw [if_neg (by simpa using h2)]
        constructor
        · intro e; omega
        · intro e; exact absurd (ih.2 e.2) h2

theorem indexByte_mem {l : List UInt8} {c : UInt8} : (0 ≤ Lib.indexByte l c) ↔ c ∈ l := by
  have h := indexByte_none (l := l) (c := c)
  have hge := Lib.indexByte_ge l c
  constructor
  · intro h1
    by_cases hc : c ∈ l
    · exact hc
    · have := h.2 hc; omega
  · intro h1
    by_cases hc : Lib.indexByte l c = -1
    · exact absurd h1 (h.1 hc)
    · omega

/-- internal/stringslite.IndexByte -/
def L_internal_stringslite_IndexByte : LCode :=
  .seq (.reg [⟨some 4, .asg (.k (.d (.int .i64 0))), none⟩]) (.seq (.reg [⟨some 5, .val (.cp (.t 0)), none⟩, ⟨some 6, .val (.cp (.t 1)), none⟩, ⟨some 7, .prim .call [.k (.fn (.func 
  128) [] []), .t 5, .t 6] [], none⟩, ⟨some 4, .asg (.t 7), none⟩]) .ret)
def R_internal_stringslite_IndexByte : List LRes := [.tmp 4]
theorem lift_internal_stringslite_IndexByte : Lifts Tryz.prog 114 8 L_internal_stringslite_IndexByte R_internal_stringslite_IndexByte := ⟨_, _, Tryz.func114, rfl, by kernel_rfl, by kernel_rfl, rfl⟩

theorem liteIndexByte_call (s : List UInt8) (c : UInt8) : PCall Tryz.prog 114 [.str s, .int .u8 c.toNat] (fun r => r = .one (.int .i64 (Lib.indexByte s c))) := by
  refine lift_internal_stringslite_IndexByte.call rfl ?_
  simp (maxSteps := 2000000) only [go_sem, ↓reduceIte, L_internal_stringslite_IndexByte, R_internal_stringslite_IndexByte]
  refine PrimG.entry Tryz.func128 (by kernel_rfl) (by kernel_rfl) (by kernel_rfl) (e := Extern.BytealgIndexByte.indexByte) (by kernel_rfl) (.d (.int .i64 (Lib.indexByte s c))) (fun G w vs hl hv => ?_) ?_
  · match vs, hl with
    | [v, u], _ =>
      have h0 : AVR G w (.d (.str s)) v := hv 0 _ rfl
      have h1 : AVR G w (.d (.int .u8 c.toNat)) u := hv 1 _ rfl
      have h0 := h0.dinv
      have h1 := h1.dinv
      cases h0; cases h1
      refine ⟨_, Lib.run_indexByteString _ _ w, ?_⟩
      have e : (((c.toNat : Int).toNat).toUInt8) = c := by simp
      rw [e]
      exact .d _ _ (.int _ _)
  simp (maxSteps := 2000000) only [go_sem, ↓reduceIte]

/-- strings.IndexByte -/
def L_strings_IndexByte : LCode :=
  .seq (.reg [⟨some 4, .asg (.k (.d (.int .i64 0))), none⟩]) (.seq (.reg [⟨some 5, .val (.cp (.t 0)), none⟩, ⟨some 6, .val (.cp (.t 1)), none⟩, ⟨some 7, .call 114 [.t 5, .t 6], 
  none⟩, ⟨some 4, .asg (.t 7), none⟩]) .ret)
def R_strings_IndexByte : List LRes := [.tmp 4]
theorem lift_strings_IndexByte : Lifts Tryz.prog 101 8 L_strings_IndexByte R_strings_IndexByte := ⟨_, _, Tryz.func101, rfl, by kernel_rfl, by kernel_rfl, rfl⟩

theorem indexByte_call (s : List UInt8) (c : UInt8) : PCall Tryz.prog 101 [.str s, .int .u8 c.toNat] (fun r => r = .one (.int .i64 (Lib.indexByte s c))) := by
  refine lift_strings_IndexByte.call rfl ?_
  simp (maxSteps := 2000000) only [go_sem, ↓reduceIte, L_strings_IndexByte, R_strings_IndexByte]
  refine CallG.of (liteIndexByte_call s c) ?_
  simp (maxSteps := 2000000) only [go_sem, ↓reduceIte]

/-- strings.IndexRune -/
def L_strings_IndexRune : LCode :=
  .seq (.reg [⟨some 4, .asg (.k (.d (.int .i64 0))), none⟩]) (.block 0 (.seq (.reg [⟨some 161, .val (.cp (.t 1)), none⟩, ⟨some 162, .val (.bin .leq (.k (.d (.int .i32 0))) (.t 161)), 
  none⟩, ⟨some 163, .val (.cp (.t 162)), none⟩, ⟨some 164, .val (.cp (.t 1)), some (163, true)⟩, ⟨some 165, .val (.bin .lss (.t 164) (.k (.d (.int .i32 128)))), some (163, true)⟩, 
  ⟨some 166, .val (.pick (.t 163) (.t 165) (.k (.d (.bool false)))), none⟩, ⟨some 160, .asg (.t 166), none⟩]) (.cond (.t 160) (.seq (.reg [⟨some 167, .val (.cp (.t 0)), none⟩, 
  ⟨some 168, .val (.cp (.t 1)), none⟩, ⟨some 169, .val (.cvI .u8 (.t 168)), none⟩, ⟨some 170, .call 101 [.t 167, .t 169], none⟩, ⟨some 4, .asg (.t 170), none⟩]) .ret) (.seq (.reg 
  [⟨some 172, .val (.cp (.t 1)), none⟩, ⟨some 173, .val (.bin .eql (.t 172) (.k (.d (.int .i32 65533)))), none⟩, ⟨some 171, .asg (.t 173), none⟩]) (.cond (.t 171) (.seq (.seq (.reg 
  [⟨some 174, .val (.cp (.t 0)), none⟩, ⟨some 175, .prim (.range 9) [.t 174] [], none⟩]) (.block 9 (.loop (.seq (.reg [⟨some 176, .prim (.next true 0) [.t 175] [], none⟩, ⟨some 
  177, .val (.ext 0 (.t 176)), none⟩]) (.seq (.cond (.t 177) .skip (.exit 9)) (.block 10 (.seq (.reg [⟨some 178, .val (.ext 1 (.t 176)), none⟩, ⟨some 179, .val (.ext 2 (.t 176)), 
  none⟩, ⟨some 5, .asg (.t 178), none⟩, ⟨some 6, .asg (.t 179), none⟩]) (.seq (.reg [⟨some 180, .val (.cp (.t 6)), none⟩, ⟨some 181, .val (.bin .eql (.t 180) (.k (.d (.int .i32 
  65533)))), none⟩]) (.cond (.t 181) (.seq (.reg [⟨some 182, .val (.cp (.t 5)), none⟩, ⟨some 4, .asg (.t 182), none⟩]) .ret) .skip))))))))) (.seq (.reg [⟨some 4, .asg (.k (.d (.int 
  .i64 (-1)))), none⟩]) .ret)) (.seq (.reg [⟨some 184, .val (.cp (.t 1)), none⟩, ⟨some 185, .call 121 [.t 184], none⟩, ⟨some 186, .val (.not (.t 185)), none⟩, ⟨some 183, .asg (.t 
  186), none⟩]) (.cond (.t 183) (.seq (.reg [⟨some 4, .asg (.k (.d (.int .i64 (-1)))), none⟩]) .ret) .bad)))))))
def R_strings_IndexRune : List LRes := [.tmp 4]
theorem lift_strings_IndexRune : Lifts Tryz.prog 110 187 L_strings_IndexRune R_strings_IndexRune := ⟨_, _, Tryz.func110, rfl, by kernel_rfl, by kernel_rfl, rfl⟩

theorem indexRune_call (s : List UInt8) (c : UInt8) (hc : c.toNat < 128) : PCall Tryz.prog 110 [.str s, .int .i32 c.toNat] (fun r => r = .one (.int .i64 (Lib.indexByte s c))) := by
  refine lift_strings_IndexRune.call rfl ?_
  simp (maxSteps := 2000000) only [go_sem, ↓reduceIte, L_strings_IndexRune, R_strings_IndexRune]
  refine ⟨fun _ => ⟨fun _ => ?_, fun h => ?_⟩, fun h => ?_⟩
  · simp (disch := omega) only [IntWalk.i64_in, IntWalk.u8_in]
    refine CallG.of (indexByte_call s c) ?_
    simp (maxSteps := 2000000) only [go_sem, ↓reduceIte]
  · exfalso; omega
  · exfalso; omega

/-- strings.ContainsRune -/
def L_strings_ContainsRune : LCode :=
  .seq (.reg [⟨some 4, .asg (.k (.d (.bool false))), none⟩]) (.seq (.reg [⟨some 5, .val (.cp (.t 0)), none⟩, ⟨some 6, .val (.cp (.t 1)), none⟩, ⟨some 7, .call 110 [.t 5, .t 6], 
  none⟩, ⟨some 8, .val (.bin .geq (.t 7) (.k (.d (.int .i64 0)))), none⟩, ⟨some 4, .asg (.t 8), none⟩]) .ret)
def R_strings_ContainsRune : List LRes := [.tmp 4]
theorem lift_strings_ContainsRune : Lifts Tryz.prog 94 9 L_strings_ContainsRune R_strings_ContainsRune := ⟨_, _, Tryz.func94, rfl, by kernel_rfl, by kernel_rfl, rfl⟩

theorem containsRune_call (s : List UInt8) (c : UInt8) (hc : c.toNat < 128) : PCall Tryz.prog 94 [.str s, .int .i32 c.toNat] (fun r => r = .one (.bool (decide (c ∈ s)))) := by
  refine lift_strings_ContainsRune.call rfl ?_
  simp (maxSteps := 2000000) only [go_sem, ↓reduceIte, L_strings_ContainsRune, R_strings_ContainsRune]
  refine CallG.of (indexRune_call s c hc) ?_
  simp (maxSteps := 2000000) only [go_sem, ↓reduceIte]
  congr 2
  simp only [indexByte_mem]

/-- What may be a name. -/
def nameMay (s : List UInt8) : Bool := decide (s ≠ []) && (decide (s.length ≤ 200) && !decide ((0 : UInt8) ∈ s))

/-- value.NameMay -/
def L_value_NameMay : LCode :=
  .seq (.reg [⟨some 2, .asg (.k (.d (.bool false))), none⟩]) (.seq (.reg [⟨some 3, .val (.cp (.t 0)), none⟩, ⟨some 4, .val (.bin .neq (.t 3) (.k (.d (.str [])))), none⟩, ⟨some 5, 
  .val (.cp (.t 4)), none⟩, ⟨some 6, .val (.cp (.t 0)), some (5, true)⟩, ⟨some 7, .val (.len true (.t 6)), some (5, true)⟩, ⟨some 8, .val (.bin .leq (.t 7) (.k (.d (.int .i64 
  200)))), some (5, true)⟩, ⟨some 9, .val (.pick (.t 5) (.t 8) (.k (.d (.bool false)))), none⟩, ⟨some 10, .val (.cp (.t 9)), none⟩, ⟨some 11, .val (.cp (.t 0)), some (10, true)⟩, 
  ⟨some 12, .call 94 [.t 11, .k (.d (.int .i32 0))], some (10, true)⟩, ⟨some 13, .val (.not (.t 12)), some (10, true)⟩, ⟨some 14, .val (.pick (.t 10) (.t 13) (.k (.d (.bool 
  false)))), none⟩, ⟨some 2, .asg (.t 14), none⟩]) .ret)
def R_value_NameMay : List LRes := [.tmp 2]
theorem lift_value_NameMay : Lifts Tryz.prog 77 15 L_value_NameMay R_value_NameMay := ⟨_, _, Tryz.func77, rfl, by kernel_rfl, by kernel_rfl, rfl⟩

theorem nameMay_call (s : List UInt8) : PCall Tryz.prog 77 [.str s] (fun r => r = .one (.bool (nameMay s))) := by
  refine lift_value_NameMay.call rfl ?_
  simp (maxSteps := 2000000) only [go_sem, ↓reduceIte, L_value_NameMay, R_value_NameMay]
  refine ⟨fun h1 => ⟨fun h2 => ?_, fun h2 => ?_⟩, fun h1 => ?_⟩
  · refine CallG.of (containsRune_call s 0 (by decide)) ?_
    simp (maxSteps := 2000000) only [go_sem, ↓reduceIte]
    have h3 : s.length ≤ 200 := by omega
    simp [nameMay, h1, h3]
  · have h3 : ¬ s.length ≤ 200 := by omega
    simp [nameMay, h3]
  · simp [nameMay, h1]

end Go.Av.Tryz
set_option linter.unusedSimpArgs false
namespace Go.Av.Tryz
open Go.Proofs

theorem drop_at {α : Type} {l : List α} {i : Nat} {x : α} (h : l[i]? = some x) : l.drop i = x :: l.drop (i + 1) := by
  obtain ⟨hl, rfl⟩ := List.getElem?_eq_some_iff.1 h
  exact List.drop_eq_getElem_cons hl

mutual
inductive Val where
  | mk (kind n : Int) (s : List UInt8) (l : List Val) (f : List Fld)
inductive Fld where
  | mk (name : List UInt8) (v : Val)
end
def Val.kind : Val → Int
  | .mk k _ _ _ _ => k
def Val.n : Val → Int
  | .mk _ n _ _ _ => n
def Val.s : Val → List UInt8
  | .mk _ _ s _ _ => s
def Val.l : Val → List Val
  | .mk _ _ _ l _ => l
def Val.f : Val → List Fld
  | .mk _ _ _ _ f => f
def Fld.name : Fld → List UInt8
  | .mk n _ => n
def Fld.v : Fld → Val
  | .mk _ v => v

mutual
def Val.d : Val → D
  | .mk k n s l f => .agg [.int .i64 k, .int .i64 n, .str s, .list (valsD l), .list (fldsD f)]
def valsD : List Val → List D
  | [] => []
  | v :: r => v.d :: valsD r
def Fld.d : Fld → D
  | .mk nm v => .agg (.str nm :: v.d.cells)
def fldsD : List Fld → List D
  | [] => []
  | x :: r => x.d :: fldsD r
end
theorem valsD_eq (l : List Val) : valsD l = l.map Val.d := by induction l with | nil => rfl | cons v r ih => simp [valsD, ih]
theorem fldsD_eq (l : List Fld) : fldsD l = l.map Fld.d := by induction l with | nil => rfl | cons v r ih => simp [fldsD, ih]
theorem valsD_length (l : List Val) : (valsD l).length = l.length := by simp [valsD_eq]
theorem fldsD_length (l : List Fld) : (fldsD l).length = l.length := by simp [fldsD_eq]
theorem valsD_get (l : List Val) (i : Nat) : (valsD l)[i]? = (l[i]?).map Val.d := by simp [valsD_eq]
theorem fldsD_get (l : List Fld) (i : Nat) : (fldsD l)[i]? = (l[i]?).map Fld.d := by simp [fldsD_eq]
theorem Val.d_eq (v : Val) : v.d = .agg [.int .i64 v.kind, .int .i64 v.n, .str v.s, .list (valsD v.l), .list (fldsD v.f)] := by cases v; simp [Val.d, Val.kind, Val.n, Val.s, Val.l, Val.f]
theorem Fld.d_eq (x : Fld) : x.d = .agg [.str x.name, .int .i64 x.v.kind, .int .i64 x.v.n, .str x.v.s, .list (valsD x.v.l), .list (fldsD x.v.f)] := by cases x; simp [Fld.d, Fld.name, Fld.v, Val.d_eq, D.cells]

theorem size_l {v x : Val} (h : x ∈ v.l) : SizeOf.sizeOf x < SizeOf.sizeOf v := by
  cases v with
  | mk k n s l f =>
    have := List.sizeOf_lt_of_mem h
    simp only [Val.l] at this
    simp only [Val.mk.sizeOf_spec]
    omega
theorem size_f {v : Val} {x : Fld} (h : x ∈ v.f) : SizeOf.sizeOf x.v < SizeOf.sizeOf v := by
  cases v with
  | mk k n s l f =>
    have := List.sizeOf_lt_of_mem h
    simp only [Val.f] at this
    have h2 : SizeOf.sizeOf x.v < SizeOf.sizeOf x := by cases x; simp only [Fld.v, Fld.mk.sizeOf_spec]; omega
    simp only [Val.mk.sizeOf_spec]
    omega

mutual
/-- Its lists are no longer than that. -/
def Val.sm (m : Nat) : Val → Bool
  | .mk _ _ s l f => decide (s.length ≤ m) && (decide (l.length ≤ m) && (decide (f.length ≤ m) && (smL m l && smF m f)))
def smL (m : Nat) : List Val → Bool
  | [] => true
  | v :: r => v.sm m && smL m r
def Fld.sm (m : Nat) : Fld → Bool
  | .mk nm v => decide (nm.length ≤ m) && v.sm m
def smF (m : Nat) : List Fld → Bool
  | [] => true
  | x :: r => x.sm m && smF m r
end
theorem smL_iff {m : Nat} {l : List Val} : smL m l = true ↔ ∀ x ∈ l, x.sm m = true := by induction l with | nil => simp [smL] | cons v r ih => simp [smL, ih]
theorem smF_iff {m : Nat} {l : List Fld} : smF m l = true ↔ ∀ x ∈ l, x.sm m = true := by induction l with | nil => simp [smF] | cons v r ih => simp [smF, ih]
theorem Val.sm_iff {m : Nat} {v : Val} : v.sm m = true ↔ v.s.length ≤ m ∧ v.l.length ≤ m ∧ v.f.length ≤ m ∧ (∀ x ∈ v.l, x.sm m = true) ∧ ∀ x ∈ v.f, x.sm m = true := by
  cases v; simp [Val.sm, smL_iff, smF_iff, Val.s, Val.l, Val.f]
theorem Fld.sm_iff {m : Nat} {x : Fld} : x.sm m = true ↔ x.name.length ≤ m ∧ x.v.sm m = true := by
  cases x; simp [Fld.sm, Fld.name, Fld.v]

/-! ### How great -/
mutual
/-- Parts counted off; deep: how deep it stands. -/
def szV (deep : Nat) : Val → Int → Bool × Int
  | .mk _ _ _ l f, left =>
    if 8 < deep then (false, left - 1)
    else if left - 1 < 0 then (false, left - 1)
    else match szL (deep + 1) l (left - 1) with
      | (false, r) => (false, r)
      | (true, r) => szF (deep + 1) f r
def szL (deep : Nat) : List Val → Int → Bool × Int
  | [], left => (true, left)
  | v :: r, left => match szV deep v left with
    | (false, q) => (false, q)
    | (true, q) => szL deep r q
def szF (deep : Nat) : List Fld → Int → Bool × Int
  | [], left => (true, left)
  | .mk _ v :: r, left => match szV deep v left with
    | (false, q) => (false, q)
    | (true, q) => szF deep r q
end

mutual
theorem szV_bd (deep : Nat) : ∀ (v : Val) (left : Int), 0 ≤ left → -1 ≤ (szV deep v left).2 ∧ (szV deep v left).2 ≤ left ∧ ((szV deep v left).1 = true → 0 ≤ (szV deep v left).2)
  | .mk k n s l f, left, h => by
    unfold szV
    split
    · simp; omega
    · split
      · simp; omega
      · have h1 := szL_bd (deep + 1) l (left - 1) (by omega)
        split
        · rename_i r hr; rw [hr] at h1; simp at h1 ⊢; omega
        · rename_i r hr
          rw [hr] at h1
          simp at h1
          have h2 := szF_bd (deep + 1) f r h1.2.2
          refine ⟨h2.1, by omega, h2.2.2⟩
theorem szL_bd (deep : Nat) : ∀ (l : List Val) (left : Int), 0 ≤ left → -1 ≤ (szL deep l left).2 ∧ (szL deep l left).2 ≤ left ∧ ((szL deep l left).1 = true → 0 ≤ (szL deep l left).2)
  | [], left, h => by simp [szL]; omega
  | v :: r, left, h => by
    have h1 := szV_bd deep v left h
    unfold szL
    split
    · rename_i q hq; rw [hq] at h1; simp at h1 ⊢; omega
    · rename_i q hq
      rw [hq] at h1
      simp at h1
      have h2 := szL_bd deep r q h1.2.2
      exact ⟨h2.1, by omega, h2.2.2⟩
theorem szF_bd (deep : Nat) : ∀ (l : List Fld) (left : Int), 0 ≤ left → -1 ≤ (szF deep l left).2 ∧ (szF deep l left).2 ≤ left ∧ ((szF deep l left).1 = true → 0 ≤ (szF deep l left).2)
  | [], left, h => by simp [szF]; omega
  | .mk nm v :: r, left, h => by
    have h1 := szV_bd deep v left h
    unfold szF
    split
    · rename_i q hq; rw [hq] at h1; simp at h1 ⊢; omega
    · rename_i q hq
      rw [hq] at h1
      simp at h1
      have h2 := szF_bd deep r q h1.2.2
      exact ⟨h2.1, by omega, h2.2.2⟩
end

theorem szV_eq (deep : Nat) (v : Val) (left : Int) : szV deep v left = if 8 < deep then (false, left - 1) else if left - 1 < 0 then (false, left - 1) else
    match szL (deep + 1) v.l (left - 1) with
      | (false, r) => (false, r)
      | (true, r) => szF (deep + 1) v.f r := by
  cases v; simp only [szV, Val.l, Val.f]

/-- value.size -/
def L_value_size : LCode :=
  .seq (.reg [⟨some 3, .box (.t 0), none⟩, ⟨some 6, .asg (.k (.d (.bool false))), none⟩]) (.seq (.reg [⟨some 11, .val (.cp (.t 2)), none⟩, ⟨some 12, .val (.nck (.t 11)), none⟩, ⟨some 
  13, .val (.ld false 1 (.t 12)), none⟩, ⟨some 14, .val (.bin .sub (.t 13) (.k (.d (.int .i64 1)))), none⟩, ⟨some 15, .val (.nck (.t 11)), none⟩, ⟨none, .st 1 (.t 15) (.t 14), 
  none⟩]) (.seq (.seq (.reg [⟨some 16, .val (.cp (.t 1)), none⟩, ⟨some 17, .val (.bin .gtr (.t 16) (.k (.d (.int .i64 8)))), none⟩, ⟨some 18, .val (.cp (.t 17)), none⟩, ⟨some 19, 
  .val (.cp (.t 2)), some (18, false)⟩, ⟨some 20, .val (.nck (.t 19)), some (18, false)⟩, ⟨some 21, .val (.ld false 1 (.t 20)), some (18, false)⟩, ⟨some 22, .val (.bin .lss (.t 21) 
  (.k (.d (.int .i64 0)))), some (18, false)⟩, ⟨some 23, .val (.pick (.t 18) (.k (.d (.bool true))) (.t 22)), none⟩]) (.cond (.t 23) (.seq (.reg [⟨some 6, .asg (.k (.d (.bool 
  false))), none⟩]) .ret) .skip)) (.seq (.seq (.reg [⟨some 24, .val (.fa 3 (.t 3)), none⟩, ⟨some 25, .val (.ld false 1 (.t 24)), none⟩, ⟨some 26, .val (.len false (.t 25)), none⟩, 
  ⟨some 27, .val (.cp (.k (.d (.int .i64 0)))), none⟩]) (.block 0 (.loop (.seq (.reg [⟨some 28, .val (.bin .lss (.t 27) (.t 26)), none⟩]) (.seq (.cond (.t 28) .skip (.exit 0)) 
  (.seq (.block 1 (.seq (.reg [⟨some 29, .val (.ia 5 (.t 25) (.t 27)), none⟩, ⟨some 30, .val (.ld true 5 (.t 29)), none⟩, ⟨some 8, .allo [.int .i64 0, .int .i64 0, .str [], .list 
  [], .list []], none⟩, ⟨none, .st 5 (.t 8) (.t 30), none⟩]) (.seq (.reg [⟨some 31, .val (.ld true 5 (.t 8)), none⟩, ⟨some 32, .val (.cp (.t 1)), none⟩, ⟨some 33, .val (.bin .add 
  (.t 32) (.k (.d (.int .i64 1)))), none⟩, ⟨some 34, .val (.cp (.t 2)), none⟩, ⟨some 35, .prim .call [.k (.fn (.func 50) [] []), .t 31, .t 33, .t 34] [], none⟩, ⟨some 36, .val 
  (.not (.t 35)), none⟩]) (.cond (.t 36) (.seq (.reg [⟨some 6, .asg (.k (.d (.bool false))), none⟩]) .ret) .skip)))) (.reg [⟨some 37, .val (.bin .add (.t 27) (.k (.d (.int .i64 
  1)))), none⟩, ⟨some 27, .val (.cp (.t 37)), none⟩]))))))) (.seq (.seq (.reg [⟨some 38, .val (.fa 4 (.t 3)), none⟩, ⟨some 39, .val (.ld false 1 (.t 38)), none⟩, ⟨some 40, .val 
  (.len false (.t 39)), none⟩, ⟨some 41, .val (.cp (.k (.d (.int .i64 0)))), none⟩]) (.block 2 (.loop (.seq (.reg [⟨some 42, .val (.bin .lss (.t 41) (.t 40)), none⟩]) (.seq (.cond 
  (.t 42) .skip (.exit 2)) (.seq (.block 3 (.seq (.reg [⟨some 43, .val (.ia 6 (.t 39) (.t 41)), none⟩, ⟨some 44, .val (.ld true 6 (.t 43)), none⟩, ⟨some 10, .allo [.str [], .int 
  .i64 0, .int .i64 0, .str [], .list [], .list []], none⟩, ⟨none, .st 6 (.t 10) (.t 44), none⟩]) (.seq (.reg [⟨some 45, .val (.fa 1 (.t 10)), none⟩, ⟨some 46, .val (.ld true 5 (.t 
  45)), none⟩, ⟨some 47, .val (.cp (.t 1)), none⟩, ⟨some 48, .val (.bin .add (.t 47) (.k (.d (.int .i64 1)))), none⟩, ⟨some 49, .val (.cp (.t 2)), none⟩, ⟨some 50, .prim .call [.k 
  (.fn (.func 50) [] []), .t 46, .t 48, .t 49] [], none⟩, ⟨some 51, .val (.not (.t 50)), none⟩]) (.cond (.t 51) (.seq (.reg [⟨some 6, .asg (.k (.d (.bool false))), none⟩]) .ret) 
  .skip)))) (.reg [⟨some 52, .val (.bin .add (.t 41) (.k (.d (.int .i64 1)))), none⟩, ⟨some 41, .val (.cp (.t 52)), none⟩]))))))) (.seq (.reg [⟨some 6, .asg (.k (.d (.bool true))), 
  none⟩]) .ret)))))
def R_value_size : List LRes := [.tmp 6]
theorem lift_value_size : Lifts Tryz.prog 50 53 L_value_size R_value_size := ⟨_, _, Tryz.func50, rfl, by kernel_rfl, by kernel_rfl, rfl⟩

theorem size_call : ∀ (m : Nat) (v : Val), SizeOf.sizeOf v ≤ m → ∀ (deep : Nat) (left : Int), 1 ≤ deep → deep ≤ 9 → 0 ≤ left → left ≤ 300 → v.sm 1048576 = true →
    MCallE Tryz.prog 50 [.d v.d, .d (.int .i64 deep), .ptr (.x 0) 0] [.cells [.d (.int .i64 left)]] (.d (.bool (szV deep v left).1)) [.cells [.d (.int .i64 (szV deep v left).2)]] := by
  intro m
  induction m with
  | zero => intro v h; cases v; simp at h
  | succ m ih =>
    intro v hv deep left hd1 hd2 hl1 hl2 hsm
    obtain ⟨_, hll, hfl, hsl, hsf⟩ := Val.sm_iff.1 hsm
    have hvl := valsD_length v.l
    have hfl' := fldsD_length v.f
    generalize hR : szV deep v left = R
    rw [szV_eq] at hR
    rw [Val.d_eq]
    refine lift_value_size.mcall (by kernel_rfl) rfl ?_
    simp (maxSteps := 2000000) (disch := omega) only [go_sem, ↓reduceIte, L_value_size, R_value_size]
    refine ⟨fun h8 => ⟨fun h0 => ?_, fun h0 => ?_⟩, fun h8 => ?_⟩
    · rw [if_neg (by omega), if_pos (by omega)] at hR
      subst hR
      exact ⟨rfl, rfl⟩
    · rw [if_neg (by omega), if_neg (by omega)] at hR
      refine run_loop (fun y : Nat × Int => ⟨[(1, .d (.int .i64 deep)), (2, .ptr (.x 0) 0), (3, .ptr (.l 3) 0), (25, .d (.list (valsD v.l))), (26, .d (.int .i64 (valsD v.l).length)), (27, .d (.int .i64 y.1))],
          [(3, .cells [.d (.int .i64 v.kind), .d (.int .i64 v.n), .d (.str v.s), .d (.list (valsD v.l)), .d (.list (fldsD v.f))])], [(0, .cells [.d (.int .i64 y.2)])]⟩)
        (fun y => y.1 ≤ v.l.length ∧ 0 ≤ y.2 ∧ y.2 ≤ 300 ∧ (match szL (deep + 1) (v.l.drop y.1) y.2 with
          | (false, r) => (false, r)
          | (true, r) => szF (deep + 1) v.f r) = R) (fun y => v.l.length - y.1) (0, left - 1) ?_ ?_ ?_
      · refine Weak.mk ?_ ?_ ?_ <;> simp (maxSteps := 2000000) only [go_sem, ↓reduceIte, Sub, Int.natCast_add, Int.natCast_mul]
      · exact ⟨by simp, by simp only; omega, by simp only; omega, by simpa using hR⟩
      · rintro ⟨i, q⟩ ⟨hi, hq1, hq2, hF⟩
        simp only at hi hq1 hq2 hF
        simp (maxSteps := 2000000) only [go_sem, ↓reduceIte, hvl]
        refine ⟨fun hlt => ?_, fun hge => ?_⟩
        · obtain ⟨x, hx⟩ := get_some (l := v.l) (i := i) (by omega)
          rw [drop_at hx] at hF
          have hc := ih x (by have := size_l (List.mem_of_getElem? hx); omega) (deep + 1) q (by omega) (by omega) hq1 hq2 (hsl x (List.mem_of_getElem? hx))
          have hbd := szV_bd (deep + 1) x q hq1
          unfold szL at hF
          rw [Val.d_eq] at hc
          generalize hS : szV (deep + 1) x q = S at hc hbd hF
          obtain ⟨sb, sq⟩ := S
          simp only [Int.natCast_add, Int.natCast_one] at hc
          simp (maxSteps := 2000000) (disch := omega) only [go_sem, ↓reduceIte, getI_nat, valsD_get, hx, Val.d_eq]
          refine PrimG.mcall ([.x 0]) ([]) rfl (hc) rfl rfl (by simp only [objsAt, St.obj, aget, AObj.ren, AV.ren, AV.ren1, renL, ren1L, renR, renQ, List.getD_cons_zero, List.getD_cons_succ, and_true, and_self, Nat.reduceEqDiff, ↓reduceIte, reduceCtorEq]) rfl rfl rfl ⟨rfl, rfl⟩ ?_
          cases sb
          · simp only at hF
            subst hF
            simp (maxSteps := 2000000) only [go_sem, ↓reduceIte]
          · simp only at hF hbd
            simp (maxSteps := 2000000) (disch := omega) only [go_sem, ↓reduceIte]
            refine ⟨(i + 1, sq), ?_, ⟨by simp only; omega, by simp only; exact hbd.2.2 trivial, by simp only; omega, hF⟩, by simp only; omega⟩
            refine Weak.mk ?_ ?_ ?_ <;> simp (maxSteps := 2000000) only [go_sem, ↓reduceIte, Sub, Int.natCast_add, Int.natCast_mul, hvl]
        · have h0' : v.l.drop i = [] := List.drop_eq_nil_of_le (by omega)
          rw [h0'] at hF
          simp only [szL] at hF
          refine run_loop (fun y : Nat × Int => ⟨[(1, .d (.int .i64 deep)), (2, .ptr (.x 0) 0), (3, .ptr (.l 3) 0), (39, .d (.list (fldsD v.f))), (40, .d (.int .i64 (fldsD v.f).length)), (41, .d (.int .i64 y.1))],
              [(3, .cells [.d (.int .i64 v.kind), .d (.int .i64 v.n), .d (.str v.s), .d (.list (valsD v.l)), .d (.list (fldsD v.f))])], [(0, .cells [.d (.int .i64 y.2)])]⟩)
            (fun y => y.1 ≤ v.f.length ∧ 0 ≤ y.2 ∧ y.2 ≤ 300 ∧ szF (deep + 1) (v.f.drop y.1) y.2 = R) (fun y => v.f.length - y.1) (0, q) ?_ ?_ ?_
          · refine Weak.mk ?_ ?_ ?_ <;> simp (maxSteps := 2000000) only [go_sem, ↓reduceIte, Sub, Int.natCast_add, Int.natCast_mul]
          · exact ⟨by simp, hq1, hq2, by simpa using hF⟩
          · rintro ⟨j, q'⟩ ⟨hj, hr1, hr2, hG⟩
            simp only at hj hr1 hr2 hG
            simp (maxSteps := 2000000) only [go_sem, ↓reduceIte, hfl']
            refine ⟨fun hlt => ?_, fun hge => ?_⟩
            · obtain ⟨x, hx⟩ := get_some (l := v.f) (i := j) (by omega)
              rw [drop_at hx] at hG
              have hc := ih x.v (by have := size_f (List.mem_of_getElem? hx); omega) (deep + 1) q' (by omega) (by omega) hr1 hr2 (Fld.sm_iff.1 (hsf x (List.mem_of_getElem? hx))).2
              have hbd := szV_bd (deep + 1) x.v q' hr1
              have hG' : (match szV (deep + 1) x.v q' with
                  | (false, q) => (false, q)
                  | (true, q) => szF (deep + 1) (v.f.drop (j + 1)) q) = R := by
                rw [← hG]; cases x; simp only [szF, Fld.v]
              rw [Val.d_eq] at hc
              generalize hS : szV (deep + 1) x.v q' = S at hc hbd hG'
              obtain ⟨sb, sq⟩ := S
              simp only [Int.natCast_add, Int.natCast_one] at hc
              simp (maxSteps := 2000000) (disch := omega) only [go_sem, ↓reduceIte, getI_nat, fldsD_get, hx, Fld.d_eq]
              refine PrimG.mcall ([.x 0]) ([]) rfl (hc) rfl rfl (by simp only [objsAt, St.obj, aget, AObj.ren, AV.ren, AV.ren1, renL, ren1L, renR, renQ, List.getD_cons_zero, List.getD_cons_succ, and_true, and_self, Nat.reduceEqDiff, ↓reduceIte, reduceCtorEq]) rfl rfl rfl ⟨rfl, rfl⟩ ?_
              cases sb
              · simp only at hG'
                subst hG'
                simp (maxSteps := 2000000) only [go_sem, ↓reduceIte]
              · simp only at hG' hbd
                simp (maxSteps := 2000000) (disch := omega) only [go_sem, ↓reduceIte]
                refine ⟨(j + 1, sq), ?_, ⟨by simp only; omega, by simp only; exact hbd.2.2 trivial, by simp only; omega, hG'⟩, by simp only; omega⟩
                refine Weak.mk ?_ ?_ ?_ <;> simp (maxSteps := 2000000) only [go_sem, ↓reduceIte, Sub, Int.natCast_add, Int.natCast_mul, hfl']
            · have h0' : v.f.drop j = [] := List.drop_eq_nil_of_le (by omega)
              rw [h0'] at hG
              simp only [szF] at hG
              subst hG
              simp (maxSteps := 2000000) only [go_sem, ↓reduceIte]
    · rw [if_pos (by omega)] at hR
      subst hR
      exact ⟨rfl, rfl⟩
end Go.Av.Tryz
set_option linter.unusedSimpArgs false
namespace Go.Av.Tryz
open Go.Proofs

/-- fix.Check -/
def L_fix_Check : LCode :=
  .seq (.reg [⟨some 2, .asg (.k (.d .nil)), none⟩]) (.seq (.seq (.reg [⟨some 3, .val (.cp (.t 0)), none⟩, ⟨some 4, .val (.bin .lss (.t 3) (.k (.d (.int .i64 (-1000000000))))), none⟩, 
  ⟨some 5, .val (.cp (.t 4)), none⟩, ⟨some 6, .val (.cp (.t 0)), some (5, false)⟩, ⟨some 7, .val (.bin .gtr (.t 6) (.k (.d (.int .i64 1000000000)))), some (5, false)⟩, ⟨some 8, 
  .val (.pick (.t 5) (.k (.d (.bool true))) (.t 7)), none⟩]) (.cond (.t 8) (.seq (.reg [⟨some 9, .val (.mkI 50 (.k (.d (.int .i64 1)))), none⟩, ⟨some 2, .asg (.t 9), none⟩]) .ret) 
  .skip)) (.seq (.reg [⟨some 2, .asg (.k (.d .nil)), none⟩]) .ret))
def R_fix_Check : List LRes := [.tmp 2]
theorem lift_fix_Check : Lifts Tryz.prog 76 10 L_fix_Check R_fix_Check := ⟨_, _, Tryz.func76, rfl, by kernel_rfl, by kernel_rfl, rfl⟩


/-! ### What they say -/
def err (k : Int) : D := .iface 50 (.int .i64 k)
def Lim (n : Int) : Prop := -1000000000 ≤ n ∧ n ≤ 1000000000
instance (n : Int) : Decidable (Lim n) := inferInstanceAs (Decidable (_ ∧ _))
def i64 (n : Int) : Prop := -9223372036854775808 ≤ n ∧ n ≤ 9223372036854775807
theorem check_ok {n : Int} (h : Lim n) : PCall Tryz.prog 76 [.int .i64 n] (fun r => r = .one .nil) := by
  refine lift_fix_Check.call rfl ?_
  simp (maxSteps := 2000000) only [go_sem, ↓reduceIte, L_fix_Check, R_fix_Check]
  unfold Lim at h
  refine ⟨fun a b => ?_, fun a => ?_⟩ <;> exfalso <;> omega

theorem check_bad {n : Int} (h : ¬ Lim n) : PCall Tryz.prog 76 [.int .i64 n] (fun r => r = .one (err 1)) := by
  refine lift_fix_Check.call rfl ?_
  simp (maxSteps := 2000000) only [go_sem, ↓reduceIte, L_fix_Check, R_fix_Check]
  unfold Lim at h
  refine ⟨fun a => ⟨fun b => ?_, fun b => ?_⟩, fun a => ?_⟩ <;> first | rfl | (exfalso; omega)

end Go.Av.Tryz
set_option linter.unusedSimpArgs false
namespace Go.Av.Tryz
open Go.Proofs

/-- slices.IndexFunc[[]foliowright/api.Value,foliowright/api.Value] -/
def L_slices_IndexFunc___foliowright_api_Value_foliowright_api_Value_ : LCode :=
  .seq (.reg [⟨some 4, .asg (.k (.d (.int .i64 0))), none⟩]) (.seq (.seq (.reg [⟨some 6, .val (.cp (.t 0)), none⟩, ⟨some 7, .val (.len false (.t 6)), none⟩, ⟨some 8, .val (.cp (.k 
  (.d (.int .i64 0)))), none⟩]) (.block 0 (.loop (.seq (.reg [⟨some 9, .val (.bin .lss (.t 8) (.t 7)), none⟩]) (.seq (.cond (.t 9) .skip (.exit 0)) (.seq (.block 1 (.seq (.reg 
  [⟨some 10, .val (.cp (.t 8)), none⟩, ⟨some 5, .asg (.t 10), none⟩]) (.seq (.reg [⟨some 11, .val (.cp (.t 1)), none⟩, ⟨some 12, .val (.cp (.t 0)), none⟩, ⟨some 13, .val (.cp (.t 
  5)), none⟩, ⟨some 14, .val (.ia 5 (.t 12) (.t 13)), none⟩, ⟨some 15, .val (.ld true 5 (.t 14)), none⟩, ⟨some 16, .prim .call [.t 11, .t 15] [], none⟩]) (.cond (.t 16) (.seq (.reg 
  [⟨some 17, .val (.cp (.t 5)), none⟩, ⟨some 4, .asg (.t 17), none⟩]) .ret) .skip)))) (.reg [⟨some 18, .val (.bin .add (.t 8) (.k (.d (.int .i64 1)))), none⟩, ⟨some 8, .val (.cp 
  (.t 18)), none⟩]))))))) (.seq (.reg [⟨some 4, .asg (.k (.d (.int .i64 (-1)))), none⟩]) .ret))
def R_slices_IndexFunc___foliowright_api_Value_foliowright_api_Value_ : List LRes := [.tmp 4]
theorem lift_slices_IndexFunc___foliowright_api_Value_foliowright_api_Value_ : Lifts Tryz.prog 95 19 L_slices_IndexFunc___foliowright_api_Value_foliowright_api_Value_ R_slices_IndexFunc___foliowright_api_Value_foliowright_api_Value_ := ⟨_, _, Tryz.func95, rfl, by kernel_rfl, by kernel_rfl, rfl⟩

theorem indexFunc_call (g : Nat) (hg : callOk Tryz.prog g = true) (l : List Val) (hl : l.length ≤ 1000000000) (p : Val → Bool) (hp : ∀ x ∈ l, PCall Tryz.prog g [x.d] (fun r => r = .one (.bool (p x)))) :
    MCallE Tryz.prog 95 [.d (.list (valsD l)), .fn (.func g) [] []] [] (.d (.int .i64 (match l.findIdx? p with | some i => (i : Int) | none => -1))) [] := by
  have hll := valsD_length l
  refine lift_slices_IndexFunc___foliowright_api_Value_foliowright_api_Value_.mcall (by kernel_rfl) rfl ?_
  simp (maxSteps := 2000000) only [go_sem, ↓reduceIte, L_slices_IndexFunc___foliowright_api_Value_foliowright_api_Value_, R_slices_IndexFunc___foliowright_api_Value_foliowright_api_Value_]
  refine run_loop (fun i : Nat => ⟨[(0, .d (.list (valsD l))), (1, .fn (.func g) [] []), (7, .d (.int .i64 (valsD l).length)), (8, .d (.int .i64 i))], [], []⟩)
    (fun i => i ≤ l.length ∧ ∀ j, j < i → ∀ x, l[j]? = some x → p x = false) (fun i => l.length - i) 0 ?_ ?_ ?_
  · refine Weak.mk ?_ ?_ ?_ <;> simp (maxSteps := 2000000) only [go_sem, ↓reduceIte, Sub, Int.natCast_add, Int.natCast_mul]
  · exact ⟨by simp, fun j hj => absurd hj (by simp)⟩
  · rintro i ⟨hi, hn⟩
    simp (maxSteps := 2000000) only [go_sem, ↓reduceIte, hll]
    refine ⟨fun hlt => ?_, fun hge => ?_⟩
    · obtain ⟨x, hx⟩ := get_some (l := l) (i := i) (by omega)
      have hc := (hp x (List.mem_of_getElem? hx)).mcallE hg
      simp only [List.map_cons, List.map_nil, Res.av] at hc
      rw [Val.d_eq] at hc
      simp (maxSteps := 2000000) (disch := omega) only [go_sem, ↓reduceIte, getI_nat, valsD_get, hx, Val.d_eq]
      refine PrimG.mcall ([]) ([]) rfl (hc) rfl rfl (by simp only [objsAt, St.obj, aget, AObj.ren, AV.ren, AV.ren1, renL, ren1L, renR, renQ, List.getD_cons_zero, List.getD_cons_succ, and_true, and_self, Nat.reduceEqDiff, ↓reduceIte, reduceCtorEq]) rfl rfl rfl ⟨rfl, rfl⟩ ?_
      cases hpx : p x
      · simp (maxSteps := 2000000) (disch := omega) only [go_sem, ↓reduceIte]
        refine ⟨i + 1, ?_, ⟨by omega, fun j hj y hy => ?_⟩, by omega⟩
        · refine Weak.mk ?_ ?_ ?_ <;> simp (maxSteps := 2000000) only [go_sem, ↓reduceIte, Sub, Int.natCast_add, Int.natCast_mul, hll]
        · rcases Nat.lt_or_ge j i with h | h
          · exact hn j h y hy
          · have : j = i := by omega
            subst this
            rw [hx] at hy; cases hy; exact hpx
      · simp (maxSteps := 2000000) only [go_sem, ↓reduceIte]
        have : l.findIdx? p = some i := by
          rw [List.findIdx?_eq_some_iff_getElem]
          obtain ⟨h1, h2⟩ := List.getElem?_eq_some_iff.1 hx
          refine ⟨h1, by rw [h2]; exact hpx, fun j hj => ?_⟩
          have := hn j hj _ (List.getElem?_eq_getElem (by omega))
          simp [this]
        rw [this]
    · have : l.findIdx? p = none := by
        rw [List.findIdx?_eq_none_iff]
        intro x hx
        obtain ⟨j, hj⟩ := List.getElem?_of_mem hx
        exact hn j (by have := (List.getElem?_eq_some_iff.1 hj).1; omega) x hj
      rw [this]

/-- slices.ContainsFunc[[]foliowright/api.Value,foliowright/api.Value] -/
def L_slices_ContainsFunc___foliowright_api_Value_foliowright_api_Value_ : LCode :=
  .seq (.reg [⟨some 4, .asg (.k (.d (.bool false))), none⟩]) (.seq (.reg [⟨some 5, .val (.cp (.t 0)), none⟩, ⟨some 6, .val (.cp (.t 1)), none⟩, ⟨some 7, .prim .call [.k (.fn (.func 
  95) [] []), .t 5, .t 6] [], none⟩, ⟨some 8, .val (.bin .geq (.t 7) (.k (.d (.int .i64 0)))), none⟩, ⟨some 4, .asg (.t 8), none⟩]) .ret)
def R_slices_ContainsFunc___foliowright_api_Value_foliowright_api_Value_ : List LRes := [.tmp 4]
theorem lift_slices_ContainsFunc___foliowright_api_Value_foliowright_api_Value_ : Lifts Tryz.prog 78 9 L_slices_ContainsFunc___foliowright_api_Value_foliowright_api_Value_ R_slices_ContainsFunc___foliowright_api_Value_foliowright_api_Value_ := ⟨_, _, Tryz.func78, rfl, by kernel_rfl, by kernel_rfl, rfl⟩

theorem containsFunc_call (g : Nat) (hg : callOk Tryz.prog g = true) (l : List Val) (hl : l.length ≤ 1000000000) (p : Val → Bool) (hp : ∀ x ∈ l, PCall Tryz.prog g [x.d] (fun r => r = .one (.bool (p x)))) :
    MCallE Tryz.prog 78 [.d (.list (valsD l)), .fn (.func g) [] []] [] (.d (.bool (l.any p))) [] := by
  have hany : (match l.findIdx? p with | some i => decide (0 ≤ (i : Int)) | none => false) = l.any p := by
    cases h : l.findIdx? p with
    | none =>
      rw [List.findIdx?_eq_none_iff] at h
      simp only [Bool.false_eq]
      rw [List.any_eq_false]
      exact fun x hx => by simp [h x hx]
    | some i =>
      rw [List.findIdx?_eq_some_iff_getElem] at h
      obtain ⟨h1, h2, _⟩ := h
      have : l.any p = true := List.any_eq_true.2 ⟨_, List.getElem_mem h1, h2⟩
      rw [this]; simp
  refine lift_slices_ContainsFunc___foliowright_api_Value_foliowright_api_Value_.mcall (by kernel_rfl) rfl ?_
  simp (maxSteps := 2000000) only [go_sem, ↓reduceIte, L_slices_ContainsFunc___foliowright_api_Value_foliowright_api_Value_, R_slices_ContainsFunc___foliowright_api_Value_foliowright_api_Value_]
  refine PrimG.mcall ([]) ([]) rfl (indexFunc_call g hg l hl p hp) rfl rfl (by simp only [objsAt, St.obj, aget, AObj.ren, AV.ren, AV.ren1, renL, ren1L, renR, renQ, List.getD_cons_zero, List.getD_cons_succ, and_true, and_self, Nat.reduceEqDiff, ↓reduceIte, reduceCtorEq]) rfl rfl rfl ⟨rfl, rfl⟩ ?_
  simp (maxSteps := 2000000) only [go_sem, ↓reduceIte]
  rw [← hany]
  cases l.findIdx? p <;> simp
end Go.Av.Tryz
set_option linter.unusedSimpArgs false
namespace Go.Av.Tryz
open Go.Proofs

mutual
/-- Is it a value? -/
def wellV : Val → Bool
  | .mk k n s l f =>
    let n0 := decide (n = 0)
    let s0 := decide (s = [])
    let l0 := decide (l.length = 0)
    let f0 := decide (f.length = 0)
    if k = 0 then n0 && (s0 && (l0 && f0))
    else if k = 1 then (decide (n = 0) || decide (n = 1)) && (s0 && (l0 && f0))
    else if k = 2 then decide (Lim n) && (s0 && (l0 && f0))
    else if k = 3 then n0 && (decide (s.length ≤ 200) && (l0 && f0))
    else if k = 4 then n0 && (nameMay s && (l0 && f0))
    else if k = 5 then n0 && (s0 && (wellL l && f0))
    else if k = 6 then n0 && (s0 && (l0 && wellF none f))
    else if k = 7 then decide (1 ≤ n ∧ n ≤ 60) && (s0 && (l0 && f0))
    else false
def wellL : List Val → Bool
  | [] => true
  | v :: r => wellV v && wellL r
/-- Fields by rising names; the name ahead. -/
def wellF (p : Option (List UInt8)) : List Fld → Bool
  | [] => true
  | .mk nm v :: r => (nameMay nm && (wellV v && (match p with | some q => Op.bytesLess q nm | none => true))) && wellF (some nm) r
end
theorem wellL_eq (l : List Val) : wellL l = !l.any (fun v => !wellV v) := by
  induction l with
  | nil => rfl
  | cons v r ih => simp [wellL, ih]
theorem wellV_eq (v : Val) : wellV v = (
    let n0 := decide (v.n = 0)
    let s0 := decide (v.s = [])
    let l0 := decide (v.l.length = 0)
    let f0 := decide (v.f.length = 0)
    if v.kind = 0 then n0 && (s0 && (l0 && f0))
    else if v.kind = 1 then (decide (v.n = 0) || decide (v.n = 1)) && (s0 && (l0 && f0))
    else if v.kind = 2 then decide (Lim v.n) && (s0 && (l0 && f0))
    else if v.kind = 3 then n0 && (decide (v.s.length ≤ 200) && (l0 && f0))
    else if v.kind = 4 then n0 && (nameMay v.s && (l0 && f0))
    else if v.kind = 5 then n0 && (s0 && (wellL v.l && f0))
    else if v.kind = 6 then n0 && (s0 && (l0 && wellF none v.f))
    else if v.kind = 7 then decide (1 ≤ v.n ∧ v.n ≤ 60) && (s0 && (l0 && f0))
    else false) := by cases v; unfold wellV; rfl

theorem wellF_snoc {p : Option (List UInt8)} {l : List Fld} {x : Fld} : wellF p (l ++ [x]) = (wellF p l && (nameMay x.name && (wellV x.v && (match (l.getLast?.map Fld.name).or p with | some q => Op.bytesLess q x.name | none => true)))) := by
  induction l generalizing p with
  | nil => cases x; simp [wellF, Fld.name, Fld.v]
  | cons y r ih =>
    cases y with
    | mk nm v =>
      simp only [List.cons_append, wellF, ih, Bool.and_assoc]
      cases r with
      | nil => simp [Fld.name]
      | cons z r =>
        have h1 : ∀ q : Option (List UInt8), ((z :: r).getLast?.map Fld.name).or q = (z :: r).getLast?.map Fld.name := fun q => by
          rw [List.getLast?_eq_some_getLast (by simp)]; rfl
        have h2 : (Fld.mk nm v :: z :: r).getLast? = (z :: r).getLast? := List.getLast?_cons_cons
        rw [h2, h1, h1]

theorem wellF_take {l : List Fld} {i : Nat} {x : Fld} (hx : l[i]? = some x) : wellF none (l.take (i + 1)) = (wellF none (l.take i) && (nameMay x.name && (wellV x.v && (match l[i - 1]? with | some y => if i = 0 then true else Op.bytesLess y.name x.name | none => true)))) := by
  have hl : i < l.length := (List.getElem?_eq_some_iff.1 hx).1
  rw [List.take_add_one, hx]
  simp only [Option.toList_some]
  rw [wellF_snoc]
  congr 3
  by_cases h0 : i = 0
  · subst h0; simp; cases l[0]? <;> rfl
  · have : (l.take i).getLast? = l[i - 1]? := by
      rw [List.getLast?_eq_getElem?, List.length_take, List.getElem?_take]
      have : min i l.length = i := by omega
      rw [this, if_pos (by omega)]
    rw [this]
    cases hy : l[i - 1]? with
    | none => rfl
    | some y => simp [h0]

theorem kinds (k : Int) : k = 0 ∨ k = 1 ∨ k = 2 ∨ k = 3 ∨ k = 4 ∨ k = 5 ∨ k = 6 ∨ k = 7 ∨ (k ≠ 0 ∧ k ≠ 1 ∧ k ≠ 2 ∧ k ≠ 3 ∧ k ≠ 4 ∧ k ≠ 5 ∧ k ≠ 6 ∧ k ≠ 7) := by omega

/-- value.well -/
def L_value_well : LCode :=
  .seq (.reg [⟨some 1, .box (.t 0), none⟩, ⟨some 2, .asg (.k (.d (.bool false))), none⟩]) (.seq (.dreg [⟨some 9, .val (.fa 1 (.t 1)), none⟩, ⟨some 10, .val (.ld false 1 (.t 9)), 
  none⟩, ⟨some 11, .val (.bin .eql (.t 10) (.k (.d (.int .i64 0)))), none⟩, ⟨some 12, .val (.fa 2 (.t 1)), none⟩, ⟨some 13, .val (.ld false 1 (.t 12)), none⟩, ⟨some 14, .val (.bin 
  .eql (.t 13) (.k (.d (.str [])))), none⟩, ⟨some 15, .val (.fa 3 (.t 1)), none⟩, ⟨some 16, .val (.ld false 1 (.t 15)), none⟩, ⟨some 17, .val (.len false (.t 16)), none⟩, ⟨some 18, 
  .val (.bin .eql (.t 17) (.k (.d (.int .i64 0)))), none⟩, ⟨some 19, .val (.fa 4 (.t 1)), none⟩, ⟨some 20, .val (.ld false 1 (.t 19)), none⟩, ⟨some 21, .val (.len false (.t 20)), 
  none⟩, ⟨some 22, .val (.bin .eql (.t 21) (.k (.d (.int .i64 0)))), none⟩, ⟨some 3, .val (.cp (.t 11)), none⟩, ⟨some 4, .val (.cp (.t 14)), none⟩, ⟨some 5, .val (.cp (.t 18)), 
  none⟩, ⟨some 6, .val (.cp (.t 22)), none⟩]) (.seq (.seq (.reg [⟨some 23, .val (.fa 0 (.t 1)), none⟩, ⟨some 24, .val (.ld false 1 (.t 23)), none⟩]) (.block 0 (.seq (.reg [⟨some 
  26, .val (.bin .eql (.t 24) (.k (.d (.int .i64 0)))), none⟩, ⟨some 25, .asg (.t 26), none⟩]) (.cond (.t 25) .skip (.seq (.reg [⟨some 28, .val (.bin .eql (.t 24) (.k (.d (.int 
  .i64 1)))), none⟩, ⟨some 27, .asg (.t 28), none⟩]) (.cond (.t 27) (.reg [⟨some 29, .val (.fa 1 (.t 1)), none⟩, ⟨some 30, .val (.ld false 1 (.t 29)), none⟩, ⟨some 31, .val (.bin 
  .eql (.t 30) (.k (.d (.int .i64 0)))), none⟩, ⟨some 32, .val (.cp (.t 31)), none⟩, ⟨some 33, .val (.fa 1 (.t 1)), some (32, false)⟩, ⟨some 34, .val (.ld false 1 (.t 33)), some 
  (32, false)⟩, ⟨some 35, .val (.bin .eql (.t 34) (.k (.d (.int .i64 1)))), some (32, false)⟩, ⟨some 36, .val (.pick (.t 32) (.k (.d (.bool true))) (.t 35)), none⟩, ⟨some 3, .asg 
  (.t 36), none⟩]) (.seq (.reg [⟨some 38, .val (.bin .eql (.t 24) (.k (.d (.int .i64 2)))), none⟩, ⟨some 37, .asg (.t 38), none⟩]) (.cond (.t 37) (.reg [⟨some 39, .val (.fa 1 (.t 
  1)), none⟩, ⟨some 40, .val (.ld false 1 (.t 39)), none⟩, ⟨some 41, .call 76 [.t 40], none⟩, ⟨some 42, .val (.eqN 0 false (.t 41)), none⟩, ⟨some 3, .asg (.t 42), none⟩]) (.seq 
  (.reg [⟨some 44, .val (.bin .eql (.t 24) (.k (.d (.int .i64 3)))), none⟩, ⟨some 43, .asg (.t 44), none⟩]) (.cond (.t 43) (.reg [⟨some 45, .val (.fa 2 (.t 1)), none⟩, ⟨some 46, 
  .val (.ld false 1 (.t 45)), none⟩, ⟨some 47, .val (.len true (.t 46)), none⟩, ⟨some 48, .val (.bin .leq (.t 47) (.k (.d (.int .i64 200)))), none⟩, ⟨some 4, .asg (.t 48), none⟩]) 
  (.seq (.reg [⟨some 50, .val (.bin .eql (.t 24) (.k (.d (.int .i64 4)))), none⟩, ⟨some 49, .asg (.t 50), none⟩]) (.cond (.t 49) (.reg [⟨some 51, .val (.fa 2 (.t 1)), none⟩, ⟨some 
  52, .val (.ld false 1 (.t 51)), none⟩, ⟨some 53, .call 77 [.t 52], none⟩, ⟨some 4, .asg (.t 53), none⟩]) (.seq (.reg [⟨some 55, .val (.bin .eql (.t 24) (.k (.d (.int .i64 5)))), 
  none⟩, ⟨some 54, .asg (.t 55), none⟩]) (.cond (.t 54) (.reg [⟨some 56, .val (.fa 3 (.t 1)), none⟩, ⟨some 57, .val (.ld false 1 (.t 56)), none⟩, ⟨some 58, .prim .call [.k (.fn 
  (.func 78) [] []), .t 57, .k (.fn (.func 79) [] [])] [], none⟩, ⟨some 59, .val (.not (.t 58)), none⟩, ⟨some 5, .asg (.t 59), none⟩]) (.seq (.reg [⟨some 61, .val (.bin .eql (.t 
  24) (.k (.d (.int .i64 6)))), none⟩, ⟨some 60, .asg (.t 61), none⟩]) (.cond (.t 60) (.seq (.reg [⟨some 62, .val (.fa 4 (.t 1)), none⟩, ⟨some 63, .val (.ld false 1 (.t 62)), 
  none⟩, ⟨some 64, .val (.len false (.t 63)), none⟩, ⟨some 65, .val (.cp (.k (.d (.int .i64 0)))), none⟩]) (.block 1 (.loop (.seq (.reg [⟨some 66, .val (.bin .lss (.t 65) (.t 64)), 
  none⟩]) (.seq (.cond (.t 66) .skip (.exit 1)) (.seq (.block 2 (.seq (.reg [⟨some 67, .val (.cp (.t 65)), none⟩, ⟨some 68, .val (.ia 6 (.t 63) (.t 65)), none⟩, ⟨some 69, .val (.ld 
  true 6 (.t 68)), none⟩, ⟨some 8, .allo [.str [], .int .i64 0, .int .i64 0, .str [], .list [], .list []], none⟩, ⟨some 7, .asg (.t 67), none⟩, ⟨none, .st 6 (.t 8) (.t 69), none⟩]) 
  (.dreg [⟨some 70, .val (.cp (.t 7)), none⟩, ⟨some 71, .val (.bin .eql (.t 70) (.k (.d (.int .i64 0)))), none⟩, ⟨some 72, .val (.cp (.t 71)), none⟩, ⟨some 73, .val (.cp (.t 6)), 
  some (72, false)⟩, ⟨some 74, .val (.pick (.t 72) (.k (.d (.bool true))) (.t 73)), none⟩, ⟨some 75, .val (.cp (.t 74)), none⟩, ⟨some 76, .val (.fa 0 (.t 8)), some (75, true)⟩, 
  ⟨some 77, .val (.ld false 1 (.t 76)), some (75, true)⟩, ⟨some 78, .call 77 [.t 77], some (75, true)⟩, ⟨some 79, .val (.pick (.t 75) (.t 78) (.k (.d (.bool false)))), none⟩, ⟨some 
  80, .val (.cp (.t 79)), none⟩, ⟨some 81, .val (.fa 1 (.t 8)), some (80, true)⟩, ⟨some 82, .val (.ld true 5 (.t 81)), some (80, true)⟩, ⟨some 83, .call 51 [.t 82], some (80, 
  true)⟩, ⟨some 84, .val (.pick (.t 80) (.t 83) (.k (.d (.bool false)))), none⟩, ⟨some 85, .val (.cp (.t 84)), none⟩, ⟨some 86, .val (.cp (.t 7)), some (85, true)⟩, ⟨some 87, .val 
  (.bin .eql (.t 86) (.k (.d (.int .i64 0)))), some (85, true)⟩, ⟨some 88, .val (.cp (.t 87)), some (85, true)⟩, ⟨some 89, .val (.fa 4 (.t 1)), some (88, false)⟩, ⟨some 90, .val 
  (.ld false 1 (.t 89)), some (88, false)⟩, ⟨some 91, .val (.cp (.t 7)), some (88, false)⟩, ⟨some 92, .val (.bin .sub (.t 91) (.k (.d (.int .i64 1)))), some (88, false)⟩, ⟨some 93, 
  .val (.ia 6 (.t 90) (.t 92)), some (88, false)⟩, ⟨some 94, .val (.fa 0 (.t 93)), some (88, false)⟩, ⟨some 95, .val (.ld false 1 (.t 94)), some (88, false)⟩, ⟨some 96, .val (.fa 0 
  (.t 8)), some (88, false)⟩, ⟨some 97, .val (.ld false 1 (.t 96)), some (88, false)⟩, ⟨some 98, .val (.bin .lss (.t 95) (.t 97)), some (88, false)⟩, ⟨some 99, .val (.pick (.t 88) 
  (.k (.d (.bool true))) (.t 98)), some (85, true)⟩, ⟨some 100, .val (.pick (.t 85) (.t 99) (.k (.d (.bool false)))), none⟩, ⟨some 6, .asg (.t 100), none⟩]))) (.reg [⟨some 101, 
  .val (.bin .add (.t 65) (.k (.d (.int .i64 1)))), none⟩, ⟨some 65, .val (.cp (.t 101)), none⟩]))))))) (.seq (.reg [⟨some 103, .val (.bin .eql (.t 24) (.k (.d (.int .i64 7)))), 
  none⟩, ⟨some 102, .asg (.t 103), none⟩]) (.cond (.t 102) (.reg [⟨some 104, .val (.fa 1 (.t 1)), none⟩, ⟨some 105, .val (.ld false 1 (.t 104)), none⟩, ⟨some 106, .val (.bin .geq 
  (.t 105) (.k (.d (.int .i64 1)))), none⟩, ⟨some 107, .val (.cp (.t 106)), none⟩, ⟨some 108, .val (.fa 1 (.t 1)), some (107, true)⟩, ⟨some 109, .val (.ld false 1 (.t 108)), some 
  (107, true)⟩, ⟨some 110, .val (.bin .leq (.t 109) (.k (.d (.int .i64 60)))), some (107, true)⟩, ⟨some 111, .val (.pick (.t 107) (.t 110) (.k (.d (.bool false)))), none⟩, ⟨some 3, 
  .asg (.t 111), none⟩]) (.seq (.reg [⟨some 2, .asg (.k (.d (.bool false))), none⟩]) .ret))))))))))))))))))) (.seq (.reg [⟨some 112, .val (.cp (.t 3)), none⟩, ⟨some 113, .val (.cp 
  (.t 112)), none⟩, ⟨some 114, .val (.cp (.t 4)), some (113, true)⟩, ⟨some 115, .val (.pick (.t 113) (.t 114) (.k (.d (.bool false)))), none⟩, ⟨some 116, .val (.cp (.t 115)), 
  none⟩, ⟨some 117, .val (.cp (.t 5)), some (116, true)⟩, ⟨some 118, .val (.pick (.t 116) (.t 117) (.k (.d (.bool false)))), none⟩, ⟨some 119, .val (.cp (.t 118)), none⟩, ⟨some 
  120, .val (.cp (.t 6)), some (119, true)⟩, ⟨some 121, .val (.pick (.t 119) (.t 120) (.k (.d (.bool false)))), none⟩, ⟨some 2, .asg (.t 121), none⟩]) .ret)))
def R_value_well : List LRes := [.tmp 2]
theorem lift_value_well : Lifts Tryz.prog 51 122 L_value_well R_value_well := ⟨_, _, Tryz.func51, rfl, by kernel_rfl, by kernel_rfl, rfl⟩

/-- value.well$1 -/
def L_value_well_1 : LCode :=
  .seq (.reg [⟨some 1, .box (.t 0), none⟩, ⟨some 2, .asg (.k (.d (.bool false))), none⟩]) (.seq (.reg [⟨some 3, .val (.ld true 5 (.t 1)), none⟩, ⟨some 4, .call 51 [.t 3], none⟩, 
  ⟨some 5, .val (.not (.t 4)), none⟩, ⟨some 2, .asg (.t 5), none⟩]) .ret)
def R_value_well_1 : List LRes := [.tmp 2]
theorem lift_value_well_1 : Lifts Tryz.prog 79 6 L_value_well_1 R_value_well_1 := ⟨_, _, Tryz.func79, rfl, by kernel_rfl, by kernel_rfl, rfl⟩

theorem well_call : ∀ (m : Nat) (v : Val), SizeOf.sizeOf v ≤ m → v.sm 1048576 = true → PCall Tryz.prog 51 [v.d] (fun r => r = .one (.bool (wellV v))) := by
  intro m
  induction m with
  | zero => intro v h; cases v; simp at h
  | succ m ih =>
    intro v hv hsm
    obtain ⟨_, hll, hfl, hsl, hsf⟩ := Val.sm_iff.1 hsm
    have hvl := valsD_length v.l
    have hfl' := fldsD_length v.f
    have hcl : ∀ x ∈ v.l, PCall Tryz.prog 79 [x.d] (fun r => r = .one (.bool (!wellV x))) := fun x hx => by
      have hc := ih x (by have := size_l hx; omega) (hsl x hx)
      rw [Val.d_eq] at hc ⊢
      refine lift_value_well_1.call rfl ?_
      simp (maxSteps := 2000000) only [go_sem, ↓reduceIte, L_value_well_1, R_value_well_1]
      refine CallG.of hc ?_
      simp (maxSteps := 2000000) only [go_sem, ↓reduceIte]
    generalize hR : wellV v = R
    rw [wellV_eq] at hR
    have cast0 : ∀ a : Nat, ((a : Int) = 0) = (a = 0) := fun a => by apply propext; omega
    rw [Val.d_eq]
    rcases kinds v.kind with hk | hk | hk | hk | hk | hk | hk | hk | hk
    · refine lift_value_well.call rfl ?_
      rw [hk] at hR
      simp only [Int.reduceEq, ↓reduceIte] at hR
      simp (maxSteps := 2000000) only [go_sem, ↓reduceIte, L_value_well, R_value_well, hk, hvl, hfl']
      subst hR
      simp only [cast0]
      by_cases c1 : v.n = 0 <;> by_cases c2 : v.s = [] <;> by_cases c3 : v.l.length = 0 <;> by_cases c4 : v.f.length = 0 <;> simp [c1, c2, c3, c4]
    · refine lift_value_well.call rfl ?_
      rw [hk] at hR
      simp only [Int.reduceEq, ↓reduceIte] at hR
      simp (maxSteps := 2000000) only [go_sem, ↓reduceIte, L_value_well, R_value_well, hk, hvl, hfl']
      subst hR
      simp only [cast0]
      by_cases c1 : v.n = 0 <;> by_cases c2 : v.s = [] <;> by_cases c3 : v.l.length = 0 <;> by_cases c4 : v.f.length = 0 <;> simp [c1, c2, c3, c4]
    · refine lift_value_well.call rfl ?_
      rw [hk] at hR
      simp only [Int.reduceEq, ↓reduceIte] at hR
      simp (maxSteps := 2000000) only [go_sem, ↓reduceIte, L_value_well, R_value_well, hk, hvl, hfl']
      by_cases hL : Lim v.n
      · refine CallG.of (check_ok hL) ?_
        simp (maxSteps := 2000000) only [go_sem, ↓reduceIte]
        subst hR
        simp only [cast0]
        by_cases c2 : v.s = [] <;> by_cases c3 : v.l.length = 0 <;> by_cases c4 : v.f.length = 0 <;> simp [hL, c2, c3, c4]
      · refine CallG.of (check_bad hL) ?_
        simp (maxSteps := 2000000) only [go_sem, ↓reduceIte, err]
        subst hR
        simp [hL]
    · refine lift_value_well.call rfl ?_
      rw [hk] at hR
      simp only [Int.reduceEq, ↓reduceIte] at hR
      simp (maxSteps := 2000000) only [go_sem, ↓reduceIte, L_value_well, R_value_well, hk, hvl, hfl']
      subst hR
      simp only [cast0]
      have c5 : ((v.s.length : Int) ≤ 200) = (v.s.length ≤ 200) := by apply propext; omega
      simp only [c5]
      by_cases c1 : v.n = 0 <;> by_cases c2 : v.s.length ≤ 200 <;> by_cases c3 : v.l.length = 0 <;> by_cases c4 : v.f.length = 0 <;> simp [c1, c2, c3, c4]
    · refine lift_value_well.call rfl ?_
      rw [hk] at hR
      simp only [Int.reduceEq, ↓reduceIte] at hR
      simp (maxSteps := 2000000) only [go_sem, ↓reduceIte, L_value_well, R_value_well, hk, hvl, hfl']
      refine CallG.of (nameMay_call v.s) ?_
      simp (maxSteps := 2000000) only [go_sem, ↓reduceIte]
      subst hR
      simp only [cast0]
      by_cases c1 : v.n = 0 <;> cases c2 : nameMay v.s <;> by_cases c3 : v.l.length = 0 <;> by_cases c4 : v.f.length = 0 <;> simp [c1, c3, c4]
    · refine lift_value_well.call rfl ?_
      rw [hk] at hR
      simp only [Int.reduceEq, ↓reduceIte] at hR
      simp (maxSteps := 2000000) only [go_sem, ↓reduceIte, L_value_well, R_value_well, hk, hvl, hfl']
      refine PrimG.mcall ([]) ([]) rfl (containsFunc_call 79 (by kernel_rfl) v.l (by omega) _ hcl) rfl rfl (by simp only [objsAt, St.obj, aget, AObj.ren, AV.ren, AV.ren1, renL, ren1L, renR, renQ, List.getD_cons_zero, List.getD_cons_succ, and_true, and_self, Nat.reduceEqDiff, ↓reduceIte, reduceCtorEq]) rfl rfl rfl ⟨rfl, rfl⟩ ?_
      simp (maxSteps := 2000000) only [go_sem, ↓reduceIte]
      subst hR
      rw [wellL_eq]
      simp only [cast0]
      by_cases c1 : v.n = 0 <;> by_cases c2 : v.s = [] <;> cases c3 : v.l.any (fun v => !wellV v) <;> by_cases c4 : v.f.length = 0 <;> simp [c1, c2, c4]
    · refine lift_value_well.call rfl ?_
      rw [hk] at hR
      simp only [Int.reduceEq, ↓reduceIte] at hR
      simp (maxSteps := 2000000) only [go_sem, ↓reduceIte, L_value_well, R_value_well, hk, hvl, hfl']
      refine run_loop (fun y : Nat × Bool => ⟨[(1, .ptr (.l 1) 0), (3, .d (.bool (decide (v.n = 0)))), (4, .d (.bool (decide (v.s = [])))), (5, .d (.bool (decide ((v.l.length : Int) = 0)))), (6, .d (.bool y.2)), (63, .d (.list (fldsD v.f))), (64, .d (.int .i64 v.f.length)), (65, .d (.int .i64 y.1))],
          [(1, .cells [.d (.int .i64 6), .d (.int .i64 v.n), .d (.str v.s), .d (.list (valsD v.l)), .d (.list (fldsD v.f))])], []⟩)
        (fun y => y.1 ≤ v.f.length ∧ (y.1 = 0 → y.2 = decide (v.f.length = 0)) ∧ (y.1 ≠ 0 → y.2 = wellF none (v.f.take y.1))) (fun y => v.f.length - y.1) (0, decide (v.f.length = 0)) ?_ ?_ ?_
      · refine Weak.mk ?_ ?_ ?_ <;> simp (maxSteps := 2000000) only [go_sem, ↓reduceIte, Sub, Int.natCast_add, Int.natCast_mul, cast0]
      · exact ⟨by simp, fun _ => rfl, fun h => absurd rfl h⟩
      · rintro ⟨i, fb⟩ ⟨hi, hz, hnz⟩
        simp only at hi hz hnz
        simp (maxSteps := 2000000) only [go_sem, ↓reduceIte]
        refine ⟨fun hlt => ?_, fun hge => ?_⟩
        · obtain ⟨x, hx⟩ := get_some (l := v.f) (i := i) (by omega)
          have hsx := Fld.sm_iff.1 (hsf x (List.mem_of_getElem? hx))
          have hc := ih x.v (by have := size_f (List.mem_of_getElem? hx); omega) hsx.2
          have hn := nameMay_call x.name
          rw [Val.d_eq] at hc
          have hstep : wellF none (v.f.take (i + 1)) = (wellF none (v.f.take i) && (nameMay x.name && (wellV x.v && (match v.f[i - 1]? with | some y => if i = 0 then true else Op.bytesLess y.name x.name | none => true)))) := wellF_take hx
          simp (maxSteps := 2000000) (disch := omega) only [go_sem, ↓reduceIte, getI_nat, fldsD_get, hx, Fld.d_eq]
          refine ⟨fun g1 => ?_, fun g1 => ?_⟩
          · have i0 : i ≠ 0 := by omega
            have hfb := hnz i0
            obtain ⟨y, hy⟩ := get_some (l := v.f) (i := i - 1) (by omega)
            have hgy : getI (fldsD v.f) ((i : Int) - 1) = some y.d := by
              have : (i : Int) - 1 = ((i - 1 : Nat) : Int) := by omega
              rw [this, getI_nat, fldsD_get, hy]; rfl
            rw [hy] at hstep
            simp only [i0, if_false, ← hfb] at hstep
            refine ⟨fun f1 => ?_, fun f1 => ?_⟩
            · refine CallD.of hn ?_
              simp (maxSteps := 2000000) (disch := omega) only [go_sem, ↓reduceIte]
              refine ⟨fun n1 => ?_, fun n1 => ?_⟩
              · refine CallD.of hc ?_
                simp (maxSteps := 2000000) (disch := omega) only [go_sem, ↓reduceIte]
                refine ⟨fun w1 => ?_, fun w1 => ?_⟩
                · simp (maxSteps := 2000000) (disch := omega) only [go_sem, ↓reduceIte, g1, hgy, Fld.d_eq]
                  refine ⟨(i + 1, Op.bytesLess y.name x.name), ?_, ⟨by simp only; omega, fun h => absurd h (by simp), fun _ => ?_⟩, by simp only; omega⟩
                  · refine Weak.mk ?_ ?_ ?_ <;> simp (maxSteps := 2000000) only [go_sem, ↓reduceIte, Sub, Int.natCast_add, Int.natCast_mul]
                  · rw [hstep]; simp [f1, n1, w1]
                · refine ⟨(i + 1, false), ?_, ⟨by simp only; omega, fun h => absurd h (by simp), fun _ => ?_⟩, by simp only; omega⟩
                  · refine Weak.mk ?_ ?_ ?_ <;> simp (maxSteps := 2000000) only [go_sem, ↓reduceIte, Sub, Int.natCast_add, Int.natCast_mul]
                  · rw [hstep]; simp [w1]
              · refine ⟨(i + 1, false), ?_, ⟨by simp only; omega, fun h => absurd h (by simp), fun _ => ?_⟩, by simp only; omega⟩
                · refine Weak.mk ?_ ?_ ?_ <;> simp (maxSteps := 2000000) only [go_sem, ↓reduceIte, Sub, Int.natCast_add, Int.natCast_mul]
                · rw [hstep]; simp [n1]
            · refine ⟨(i + 1, false), ?_, ⟨by simp only; omega, fun h => absurd h (by simp), fun _ => ?_⟩, by simp only; omega⟩
              · refine Weak.mk ?_ ?_ ?_ <;> simp (maxSteps := 2000000) only [go_sem, ↓reduceIte, Sub, Int.natCast_add, Int.natCast_mul]
              · rw [hstep]; simp [f1]
          · have i0 : i = 0 := by omega
            subst i0
            refine CallD.of hn ?_
            simp (maxSteps := 2000000) (disch := omega) only [go_sem, ↓reduceIte]
            refine ⟨fun n1 => ?_, fun n1 => ?_⟩
            · refine CallD.of hc ?_
              simp (maxSteps := 2000000) (disch := omega) only [go_sem, ↓reduceIte]
              refine ⟨fun w1 => ?_, fun w1 => ?_⟩
              · skip
                refine ⟨(1, true), ?_, ⟨by simp only; omega, fun h => absurd h (by simp), fun _ => ?_⟩, by simp only; omega⟩
                · refine Weak.mk ?_ ?_ ?_ <;> simp (maxSteps := 2000000) only [go_sem, ↓reduceIte, Sub, Int.natCast_add, Int.natCast_mul]
                · rw [hstep]; simp [n1, w1, wellF]; cases v.f[0]? <;> rfl
              · skip
                refine ⟨(1, false), ?_, ⟨by simp only; omega, fun h => absurd h (by simp), fun _ => ?_⟩, by simp only; omega⟩
                · refine Weak.mk ?_ ?_ ?_ <;> simp (maxSteps := 2000000) only [go_sem, ↓reduceIte, Sub, Int.natCast_add, Int.natCast_mul]
                · rw [hstep]; simp [w1]
            · skip
              refine ⟨(1, false), ?_, ⟨by simp only; omega, fun h => absurd h (by simp), fun _ => ?_⟩, by simp only; omega⟩
              · refine Weak.mk ?_ ?_ ?_ <;> simp (maxSteps := 2000000) only [go_sem, ↓reduceIte, Sub, Int.natCast_add, Int.natCast_mul]
              · rw [hstep]; simp [n1]
        · subst hR
          have hfb : fb = wellF none v.f := by
            by_cases i0 : i = 0
            · have h0 : v.f = [] := by
                have : v.f.length = 0 := by omega
                exact List.length_eq_zero_iff.1 this
              rw [hz i0, h0]; rfl
            · rw [hnz i0, List.take_of_length_le (by omega)]
          rw [hfb]
          simp only [cast0]
          by_cases c1 : v.n = 0 <;> by_cases c2 : v.s = [] <;> by_cases c3 : v.l.length = 0 <;> simp [c1, c2, c3]
    · refine lift_value_well.call rfl ?_
      rw [hk] at hR
      simp only [Int.reduceEq, ↓reduceIte] at hR
      simp (maxSteps := 2000000) only [go_sem, ↓reduceIte, L_value_well, R_value_well, hk, hvl, hfl']
      subst hR
      simp only [cast0]
      by_cases c1 : 1 ≤ v.n <;> by_cases c5 : v.n ≤ 60 <;> by_cases c2 : v.s = [] <;> by_cases c3 : v.l.length = 0 <;> by_cases c4 : v.f.length = 0 <;> simp [c1, c2, c3, c4, c5]
    · refine lift_value_well.call rfl ?_
      obtain ⟨k0, k1, k2, k3, k4, k5, k6, k7⟩ := hk
      rw [if_neg k0, if_neg k1, if_neg k2, if_neg k3, if_neg k4, if_neg k5, if_neg k6, if_neg k7] at hR
      subst hR
      simp (maxSteps := 2000000) only [go_sem, ↓reduceIte, L_value_well, R_value_well, hvl, hfl', k0, k1, k2, k3, k4, k5, k6, k7]
end Go.Av.Tryz
set_option linter.unusedSimpArgs false
namespace Go.Av.Tryz
open Go.Proofs

mutual
/-- Parts of a value, and how deep it is. -/
def ptV : Val → Nat × Nat
  | .mk _ _ _ l f => (1 + (ptL l).1 + (ptF f).1, max (ptL l).2 (ptF f).2 + 1)
def ptL : List Val → Nat × Nat
  | [] => (0, 0)
  | v :: r => ((ptV v).1 + (ptL r).1, max (ptV v).2 (ptL r).2)
def ptF : List Fld → Nat × Nat
  | [] => (0, 0)
  | .mk _ v :: r => ((ptV v).1 + (ptF r).1, max (ptV v).2 (ptF r).2)
end
theorem ptV_eq (v : Val) : ptV v = (1 + (ptL v.l).1 + (ptF v.f).1, max (ptL v.l).2 (ptF v.f).2 + 1) := by cases v; simp only [ptV, Val.l, Val.f]
theorem ptF_cons (x : Fld) (r : List Fld) : ptF (x :: r) = ((ptV x.v).1 + (ptF r).1, max (ptV x.v).2 (ptF r).2) := by cases x; simp only [ptF, Fld.v]

mutual
theorem ptV_pos : ∀ (v : Val), 1 ≤ (ptV v).1 ∧ 1 ≤ (ptV v).2
  | .mk k n s l f => by simp only [ptV]; omega
theorem ptL_z : ∀ (l : List Val), (ptL l).1 = 0 → (ptL l).2 = 0
  | [], _ => rfl
  | v :: r, h => by
    have := ptV_pos v
    simp only [ptL] at h; omega
theorem ptF_z : ∀ (l : List Fld), (ptF l).1 = 0 → (ptF l).2 = 0
  | [], _ => rfl
  | .mk _ v :: r, h => by
    have := ptV_pos v
    simp only [ptF] at h; omega
end

mutual
theorem szV_pt (deep : Nat) : ∀ (v : Val) (left : Int), 0 ≤ left → ((((ptV v).1 : Int) ≤ left ∧ deep + (ptV v).2 ≤ 9) → szV deep v left = (true, left - (ptV v).1)) ∧ (¬ (((ptV v).1 : Int) ≤ left ∧ deep + (ptV v).2 ≤ 9) → (szV deep v left).1 = false)
  | .mk k n s l f, left, h => by
    have hL := szL_pt (deep + 1) l
    have hF := szF_pt (deep + 1) f
    have e1 := ptL_z l
    have e2 := ptF_z f
    have e3 : ptV (.mk k n s l f) = (1 + (ptL l).1 + (ptF f).1, max (ptL l).2 (ptF f).2 + 1) := by simp only [ptV]
    rw [e3]
    generalize hA : ptL l = A at *
    generalize hB : ptF f = B at *
    obtain ⟨a1, a2⟩ := A
    obtain ⟨b1, b2⟩ := B
    simp only at *
    unfold szV
    by_cases h8 : 8 < deep
    · rw [if_pos h8]
      exact ⟨fun c => by exfalso; omega, fun _ => rfl⟩
    · rw [if_neg h8]
      by_cases h0 : left - 1 < 0
      · rw [if_pos h0]
        exact ⟨fun c => by exfalso; omega, fun _ => rfl⟩
      · rw [if_neg h0]
        obtain ⟨g1, g2⟩ := hL (left - 1) (by omega)
        by_cases c1 : ((a1 : Int) ≤ left - 1 ∧ (a1 = 0 ∨ deep + 1 + a2 ≤ 9))
        · rw [g1 c1]
          simp only
          obtain ⟨g3, g4⟩ := hF (left - 1 - a1) (by omega)
          by_cases c2 : ((b1 : Int) ≤ left - 1 - a1 ∧ (b1 = 0 ∨ deep + 1 + b2 ≤ 9))
          · refine ⟨fun _ => ?_, fun c => by exfalso; omega⟩
            rw [g3 c2]; congr 1; omega
          · exact ⟨fun c => by exfalso; omega, fun _ => g4 c2⟩
        · refine ⟨fun c => by exfalso; omega, fun _ => ?_⟩
          have := g2 c1
          generalize szL (deep + 1) l (left - 1) = Z at this
          obtain ⟨z1, z2⟩ := Z
          simp only at this
          subst this
          rfl
theorem szL_pt (deep : Nat) : ∀ (l : List Val) (left : Int), 0 ≤ left → ((((ptL l).1 : Int) ≤ left ∧ ((ptL l).1 = 0 ∨ deep + (ptL l).2 ≤ 9)) → szL deep l left = (true, left - (ptL l).1)) ∧ (¬ (((ptL l).1 : Int) ≤ left ∧ ((ptL l).1 = 0 ∨ deep + (ptL l).2 ≤ 9)) → (szL deep l left).1 = false)
  | [], left, h => by simp [szL, ptL]; omega
  | v :: r, left, h => by
    obtain ⟨g1, g2⟩ := szV_pt deep v left h
    have h2 := szL_pt deep r
    have hp := ptV_pos v
    have hz := ptL_z r
    have e3 : ptL (v :: r) = ((ptV v).1 + (ptL r).1, max (ptV v).2 (ptL r).2) := by simp only [ptL]
    rw [e3]
    generalize hA : ptV v = A at *
    generalize hB : ptL r = B at *
    obtain ⟨a1, a2⟩ := A
    obtain ⟨b1, b2⟩ := B
    simp only at *
    unfold szL
    by_cases c1 : ((a1 : Int) ≤ left ∧ deep + a2 ≤ 9)
    · rw [g1 c1]
      simp only
      obtain ⟨g3, g4⟩ := h2 (left - a1) (by omega)
      by_cases c2 : ((b1 : Int) ≤ left - a1 ∧ (b1 = 0 ∨ deep + b2 ≤ 9))
      · refine ⟨fun _ => ?_, fun c => by exfalso; omega⟩
        rw [g3 c2]; congr 1; omega
      · exact ⟨fun c => by exfalso; omega, fun _ => g4 c2⟩
    · refine ⟨fun c => by exfalso; omega, fun _ => ?_⟩
      have := g2 c1
      generalize szV deep v left = Z at this
      obtain ⟨z1, z2⟩ := Z
      simp only at this
      subst this
      rfl
theorem szF_pt (deep : Nat) : ∀ (l : List Fld) (left : Int), 0 ≤ left → ((((ptF l).1 : Int) ≤ left ∧ ((ptF l).1 = 0 ∨ deep + (ptF l).2 ≤ 9)) → szF deep l left = (true, left - (ptF l).1)) ∧ (¬ (((ptF l).1 : Int) ≤ left ∧ ((ptF l).1 = 0 ∨ deep + (ptF l).2 ≤ 9)) → (szF deep l left).1 = false)
  | [], left, h => by simp [szF, ptF]; omega
  | .mk nm v :: r, left, h => by
    obtain ⟨g1, g2⟩ := szV_pt deep v left h
    have h2 := szF_pt deep r
    have hp := ptV_pos v
    have hz := ptF_z r
    have e3 : ptF (.mk nm v :: r) = ((ptV v).1 + (ptF r).1, max (ptV v).2 (ptF r).2) := by simp only [ptF]
    rw [e3]
    generalize hA : ptV v = A at *
    generalize hB : ptF r = B at *
    obtain ⟨a1, a2⟩ := A
    obtain ⟨b1, b2⟩ := B
    simp only at *
    unfold szF
    by_cases c1 : ((a1 : Int) ≤ left ∧ deep + a2 ≤ 9)
    · rw [g1 c1]
      simp only
      obtain ⟨g3, g4⟩ := h2 (left - a1) (by omega)
      by_cases c2 : ((b1 : Int) ≤ left - a1 ∧ (b1 = 0 ∨ deep + b2 ≤ 9))
      · refine ⟨fun _ => ?_, fun c => by exfalso; omega⟩
        rw [g3 c2]; congr 1; omega
      · exact ⟨fun c => by exfalso; omega, fun _ => g4 c2⟩
    · refine ⟨fun c => by exfalso; omega, fun _ => ?_⟩
      have := g2 c1
      generalize szV deep v left = Z at this
      obtain ⟨z1, z2⟩ := Z
      simp only at this
      subst this
      rfl
end

/-- What is wrong with a value. -/
def faultV (v : Val) : Nat := if 300 < (ptV v).1 ∨ 8 < (ptV v).2 then 2 else if wellV v then 0 else 3

theorem szV_top (v : Val) : (szV 1 v 300).1 = !decide (300 < (ptV v).1 ∨ 8 < (ptV v).2) := by
  have h := szV_pt 1 v 300 (by omega)
  by_cases c : (((ptV v).1 : Int) ≤ 300 ∧ 1 + (ptV v).2 ≤ 9)
  · rw [h.1 c]
    have : ¬ (300 < (ptV v).1 ∨ 8 < (ptV v).2) := by omega
    simp [this]
  · rw [h.2 c]
    have : (300 < (ptV v).1 ∨ 8 < (ptV v).2) := by omega
    simp [this]

/-- value.Check -/
def L_value_Check : LCode :=
  .seq (.reg [⟨some 1, .box (.t 0), none⟩, ⟨some 2, .asg (.k (.d .nil)), none⟩]) (.seq (.reg [⟨some 3, .allo [.int .i64 0], none⟩, ⟨none, .st 1 (.t 3) (.k (.d (.int .i64 300))), 
  none⟩]) (.seq (.seq (.reg [⟨some 4, .val (.ld true 5 (.t 1)), none⟩, ⟨some 5, .prim .call [.k (.fn (.func 50) [] []), .t 4, .k (.d (.int .i64 1)), .t 3] [], none⟩, ⟨some 6, .val 
  (.not (.t 5)), none⟩]) (.cond (.t 6) (.seq (.reg [⟨some 7, .val (.mkI 50 (.k (.d (.int .i64 2)))), none⟩, ⟨some 2, .asg (.t 7), none⟩]) .ret) .skip)) (.seq (.seq (.reg [⟨some 8, 
  .val (.ld true 5 (.t 1)), none⟩, ⟨some 9, .call 51 [.t 8], none⟩, ⟨some 10, .val (.not (.t 9)), none⟩]) (.cond (.t 10) (.seq (.reg [⟨some 11, .val (.mkI 50 (.k (.d (.int .i64 
  3)))), none⟩, ⟨some 2, .asg (.t 11), none⟩]) .ret) .skip)) (.seq (.reg [⟨some 2, .asg (.k (.d .nil)), none⟩]) .ret))))
def R_value_Check : List LRes := [.tmp 2]
theorem lift_value_Check : Lifts Tryz.prog 31 12 L_value_Check R_value_Check := ⟨_, _, Tryz.func31, rfl, by kernel_rfl, by kernel_rfl, rfl⟩

theorem checkV_call (v : Val) (hsm : v.sm 1048576 = true) : PCall Tryz.prog 31 [v.d] (fun r => r = .one (errD (faultV v))) := by
  have h1 := size_call _ v (Nat.le_refl _) 1 300 (by omega) (by omega) (by omega) (by omega) hsm
  have h2 := well_call _ v (Nat.le_refl _) hsm
  rw [szV_top] at h1
  generalize (szV 1 v 300).2 = q at h1
  rw [Val.d_eq] at *
  refine lift_value_Check.call rfl ?_
  simp (maxSteps := 2000000) only [go_sem, ↓reduceIte, L_value_Check, R_value_Check]
  refine PrimG.mcall ([.l 3]) ([]) rfl (h1) rfl rfl (by simp only [objsAt, St.obj, aget, AObj.ren, AV.ren, AV.ren1, renL, ren1L, renR, renQ, List.getD_cons_zero, List.getD_cons_succ, and_true, and_self, Nat.reduceEqDiff, ↓reduceIte, reduceCtorEq]) rfl rfl rfl ⟨rfl, rfl⟩ ?_
  simp (maxSteps := 2000000) only [go_sem, ↓reduceIte]
  refine ⟨fun c => ?_, fun c => ?_⟩
  · simp only [faultV, if_pos c]; rfl
  · refine CallG.of h2 ?_
    simp (maxSteps := 2000000) only [go_sem, ↓reduceIte]
    simp only [faultV, if_neg c]
    cases wellV v <;> simp [errD]

theorem take_snoc {α : Type} {l : List α} {i : Nat} {x : α} (hx : l[i]? = some x) : l.take (i + 1) = l.take i ++ [x] := by
  rw [List.take_add_one, hx]; rfl
theorem ptL_mem {l : List Val} {x : Val} (h : x ∈ l) : (ptV x).1 ≤ (ptL l).1 := by
  induction l with
  | nil => simp at h
  | cons y r ih =>
    simp only [ptL]
    rcases List.mem_cons.1 h with rfl | h
    · omega
    · have := ih h; omega
theorem ptF_mem {l : List Fld} {x : Fld} (h : x ∈ l) : (ptV x.v).1 ≤ (ptF l).1 := by
  induction l with
  | nil => simp at h
  | cons y r ih =>
    simp only [ptF_cons]
    rcases List.mem_cons.1 h with rfl | h
    · omega
    · have := ih h; omega
end Go.Av.Tryz
set_option linter.unusedSimpArgs false
namespace Go.Av.Tryz
open Go.Proofs

end Go.Av.Tryz
set_option linter.unusedSimpArgs false
namespace Go.Av.Tryz
open Go.Proofs

theorem bytesLeq_not : ∀ (x y : List UInt8), (Op.bytesLess x y || decide (x = y)) = !Op.bytesLess y x
  | [], [] => by simp [Op.bytesLess]
  | [], _ :: _ => by simp [Op.bytesLess]
  | _ :: _, [] => by simp [Op.bytesLess]
  | a :: x, b :: y => by
    have ih := bytesLeq_not x y
    have hab : a = b ↔ a.toNat = b.toNat := ⟨fun h => by rw [h], UInt8.toNat_inj.1⟩
    simp only [Op.bytesLess, UInt8.lt_iff_toNat_lt, beq_iff_eq, bne_iff_ne] at ih ⊢
    rcases Nat.lt_trichotomy a.toNat b.toNat with h | h | h
    · have h1 : ¬ b.toNat < a.toNat := by omega
      have h2 : ¬ a = b := fun e => by rw [hab] at e; omega
      have h3 : ¬ b = a := fun e => h2 e.symm
      simp [h, h1, h2, h3]
    · have h2 := hab.2 h
      subst h2
      simp [ih]
    · have h1 : ¬ a.toNat < b.toNat := by omega
      have h2 : ¬ a = b := fun e => by rw [hab] at e; omega
      have h3 : ¬ b = a := fun e => h2 e.symm
      simp [h, h1, h2, h3]

end Go.Av.Tryz
set_option linter.unusedSimpArgs false
namespace Go.Av.Tryz
open Go.Proofs

/-- Two lists, part by part. -/
def eqB {α : Type} (p : α → α → Bool) : List α → List α → Bool
  | [], [] => true
  | x :: r, y :: s => p x y && eqB p r s
  | _, _ => false
theorem eqB_len {α : Type} {p : α → α → Bool} : ∀ {a b : List α}, ¬ a.length = b.length → eqB p a b = false
  | [], [], h => absurd rfl h
  | [], _ :: _, _ => rfl
  | _ :: _, [], _ => rfl
  | x :: r, y :: s, h => by
    have : eqB p r s = false := eqB_len (by simpa using h)
    simp [eqB, this]
theorem eqB_nil {α : Type} {p : α → α → Bool} {a b : List α} (ha : a = []) (hb : b = []) : eqB p a b = true := by subst ha; subst hb; rfl

mutual
def alikeV : Val → Val → Bool
  | .mk k n s l f, .mk k' n' s' l' f' => decide (k = k') && (decide (n = n') && (decide (s = s') && (alikeL l l' && alikeF f f')))
def alikeL : List Val → List Val → Bool
  | [], [] => true
  | x :: r, y :: s => alikeV x y && alikeL r s
  | _, _ => false
def alikeF : List Fld → List Fld → Bool
  | [], [] => true
  | .mk nm x :: r, .mk nm' y :: s => (decide (nm = nm') && alikeV x y) && alikeF r s
  | _, _ => false
end
def alikeX (x y : Fld) : Bool := decide (x.name = y.name) && alikeV x.v y.v
theorem alikeL_eq : ∀ (a b : List Val), alikeL a b = eqB alikeV a b
  | [], [] => rfl
  | [], _ :: _ => rfl
  | _ :: _, [] => rfl
  | x :: r, y :: s => by simp only [alikeL, eqB, alikeL_eq r s]
theorem alikeF_eq : ∀ (a b : List Fld), alikeF a b = eqB alikeX a b
  | [], [] => rfl
  | [], _ :: _ => rfl
  | .mk _ _ :: _, [] => rfl
  | .mk _ x :: r, .mk _ y :: s => by simp only [alikeF, eqB, alikeF_eq r s]; rfl
theorem alikeV_eq (a b : Val) : alikeV a b = (decide (a.kind = b.kind) && (decide (a.n = b.n) && (decide (a.s = b.s) && (eqB alikeV a.l b.l && eqB alikeX a.f b.f)))) := by
  cases a; cases b; simp only [alikeV, alikeL_eq, alikeF_eq]; rfl
mutual
theorem alikeV_iff : ∀ (a b : Val), alikeV a b = true ↔ a = b
  | .mk k n s l f, .mk k' n' s' l' f' => by
    simp only [alikeV, Bool.and_eq_true, decide_eq_true_eq, alikeL_iff l l', alikeF_iff f f', Val.mk.injEq]
theorem alikeL_iff : ∀ (a b : List Val), alikeL a b = true ↔ a = b
  | [], [] => by simp [alikeL]
  | [], _ :: _ => by simp [alikeL]
  | _ :: _, [] => by simp [alikeL]
  | x :: r, y :: s => by simp only [alikeL, Bool.and_eq_true, alikeV_iff x y, alikeL_iff r s, List.cons.injEq]
theorem alikeF_iff : ∀ (a b : List Fld), alikeF a b = true ↔ a = b
  | [], [] => by simp [alikeF]
  | [], _ :: _ => by simp [alikeF]
  | .mk _ _ :: _, [] => by simp [alikeF]
  | .mk nm x :: r, .mk nm' y :: s => by simp only [alikeF, Bool.and_eq_true, decide_eq_true_eq, alikeV_iff x y, alikeF_iff r s, List.cons.injEq, Fld.mk.injEq]
end

/-- slices.EqualFunc[[]foliowright/api.Value,[]foliowright/api.Value,foliowright/api.Value,foliowright/api.Value] -/
def L_slices_EqualFunc___foliowright_api_Value___foliowright_api_Value_foliowright_api_Value_foliowright_api_Value_ : LCode :=
  .seq (.reg [⟨some 6, .asg (.k (.d (.bool false))), none⟩]) (.seq (.seq (.reg [⟨some 10, .val (.cp (.t 0)), none⟩, ⟨some 11, .val (.len false (.t 10)), none⟩, ⟨some 12, .val (.cp 
  (.t 1)), none⟩, ⟨some 13, .val (.len false (.t 12)), none⟩, ⟨some 14, .val (.bin .neq (.t 11) (.t 13)), none⟩]) (.cond (.t 14) (.seq (.reg [⟨some 6, .asg (.k (.d (.bool false))), 
  none⟩]) .ret) .skip)) (.seq (.seq (.reg [⟨some 15, .val (.cp (.t 0)), none⟩, ⟨some 16, .val (.len false (.t 15)), none⟩, ⟨some 17, .val (.cp (.k (.d (.int .i64 0)))), none⟩]) 
  (.block 0 (.loop (.seq (.reg [⟨some 18, .val (.bin .lss (.t 17) (.t 16)), none⟩]) (.seq (.cond (.t 18) .skip (.exit 0)) (.seq (.block 1 (.seq (.reg [⟨some 19, .val (.cp (.t 17)), 
  none⟩, ⟨some 20, .val (.ia 5 (.t 15) (.t 17)), none⟩, ⟨some 21, .val (.ld true 5 (.t 20)), none⟩, ⟨some 8, .allo [.int .i64 0, .int .i64 0, .str [], .list [], .list []], none⟩, 
  ⟨some 7, .asg (.t 19), none⟩, ⟨none, .st 5 (.t 8) (.t 21), none⟩]) (.seq (.reg [⟨some 22, .val (.cp (.t 1)), none⟩, ⟨some 23, .val (.cp (.t 7)), none⟩, ⟨some 24, .val (.ia 5 (.t 
  22) (.t 23)), none⟩, ⟨some 25, .val (.ld true 5 (.t 24)), none⟩, ⟨some 9, .allo [.int .i64 0, .int .i64 0, .str [], .list [], .list []], none⟩, ⟨none, .st 5 (.t 9) (.t 25), 
  none⟩]) (.seq (.reg [⟨some 26, .val (.cp (.t 2)), none⟩, ⟨some 27, .val (.ld true 5 (.t 8)), none⟩, ⟨some 28, .val (.ld true 5 (.t 9)), none⟩, ⟨some 29, .prim .call [.t 26, .t 
  27, .t 28] [], none⟩, ⟨some 30, .val (.not (.t 29)), none⟩]) (.cond (.t 30) (.seq (.reg [⟨some 6, .asg (.k (.d (.bool false))), none⟩]) .ret) .skip))))) (.reg [⟨some 31, .val 
  (.bin .add (.t 17) (.k (.d (.int .i64 1)))), none⟩, ⟨some 17, .val (.cp (.t 31)), none⟩]))))))) (.seq (.reg [⟨some 6, .asg (.k (.d (.bool true))), none⟩]) .ret)))
def R_slices_EqualFunc___foliowright_api_Value___foliowright_api_Value_foliowright_api_Value_foliowright_api_Value_ : List LRes := [.tmp 6]
theorem lift_slices_EqualFunc___foliowright_api_Value___foliowright_api_Value_foliowright_api_Value_foliowright_api_Value_ : Lifts Tryz.prog 35 32 L_slices_EqualFunc___foliowright_api_Value___foliowright_api_Value_foliowright_api_Value_foliowright_api_Value_ R_slices_EqualFunc___foliowright_api_Value___foliowright_api_Value_foliowright_api_Value_foliowright_api_Value_ := ⟨_, _, Tryz.func35, rfl, by kernel_rfl, by kernel_rfl, rfl⟩

theorem equalFuncV_call (g : Nat) (hg : callOk Tryz.prog g = true) (a b : List Val) (hl : a.length ≤ 1048576) (p : Val → Val → Bool) (hp : ∀ x ∈ a, ∀ y ∈ b, PCall Tryz.prog g [x.d, y.d] (fun r => r = .one (.bool (p x y)))) :
    MCallE Tryz.prog 35 [.d (.list (valsD a)), .d (.list (valsD b)), .fn (.func g) [] []] [] (.d (.bool (eqB p a b))) [] := by
  have hla := valsD_length a
  have hlb := valsD_length b
  have castE : ∀ x y : Nat, ((x : Int) = (y : Int)) = (x = y) := fun x y => by apply propext; omega
  generalize hR : eqB p a b = R
  refine lift_slices_EqualFunc___foliowright_api_Value___foliowright_api_Value_foliowright_api_Value_foliowright_api_Value_.mcall (by kernel_rfl) rfl ?_
  simp (maxSteps := 2000000) only [go_sem, ↓reduceIte, L_slices_EqualFunc___foliowright_api_Value___foliowright_api_Value_foliowright_api_Value_foliowright_api_Value_, R_slices_EqualFunc___foliowright_api_Value___foliowright_api_Value_foliowright_api_Value_foliowright_api_Value_, hla, hlb, castE]
  refine ⟨fun c1 => ?_, fun c1 => ?_⟩
  · rw [eqB_len c1] at hR; subst hR; rfl
  · refine run_loop (fun i : Nat => ⟨[(0, .d (.list (valsD a))), (1, .d (.list (valsD b))), (2, .fn (.func g) [] []), (15, .d (.list (valsD a))), (16, .d (.int .i64 a.length)), (17, .d (.int .i64 i))], [], []⟩)
      (fun i => i ≤ a.length ∧ eqB p (a.drop i) (b.drop i) = R) (fun i => a.length - i) 0 ?_ ?_ ?_
    · refine Weak.mk ?_ ?_ ?_ <;> simp (maxSteps := 2000000) only [go_sem, ↓reduceIte, Sub, Int.natCast_add, Int.natCast_mul]
    · exact ⟨by omega, hR⟩
    · rintro i ⟨hi, hF⟩
      simp (maxSteps := 2000000) only [go_sem, ↓reduceIte, hla]
      refine ⟨fun hlt => ?_, fun hge => ?_⟩
      · obtain ⟨x, hx⟩ := get_some (l := a) (i := i) (by omega)
        obtain ⟨y, hy⟩ := get_some (l := b) (i := i) (by omega)
        rw [drop_at hx, drop_at hy, eqB] at hF
        have hc := (hp x (List.mem_of_getElem? hx) y (List.mem_of_getElem? hy)).mcallE hg
        simp only [List.map_cons, List.map_nil, Res.av] at hc
        rw [Val.d_eq x, Val.d_eq y] at hc
        simp (maxSteps := 2000000) (disch := omega) only [go_sem, ↓reduceIte, getI_nat, valsD_get, hx, hy, Val.d_eq]
        refine PrimG.mcall ([]) ([]) rfl (hc) rfl rfl (by simp only [objsAt, St.obj, aget, AObj.ren, AV.ren, AV.ren1, renL, ren1L, renR, renQ, List.getD_cons_zero, List.getD_cons_succ, and_true, and_self, Nat.reduceEqDiff, ↓reduceIte, reduceCtorEq]) rfl rfl rfl ⟨rfl, rfl⟩ ?_
        simp (maxSteps := 2000000) (disch := omega) only [go_sem, ↓reduceIte]
        refine ⟨fun w1 => ?_, fun w1 => ⟨i + 1, ?_, ⟨by omega, ?_⟩, by omega⟩⟩
        · rw [← hF, w1]; simp
        · refine Weak.mk ?_ ?_ ?_ <;> simp (maxSteps := 2000000) only [go_sem, ↓reduceIte, Sub, Int.natCast_add, Int.natCast_mul]
        · rw [← hF, w1]; rfl
      · rw [eqB_nil (List.drop_eq_nil_of_le (by omega)) (List.drop_eq_nil_of_le (by omega))] at hF
        subst hF
        rfl

/-- slices.EqualFunc[[]foliowright/api.Field,[]foliowright/api.Field,foliowright/api.Field,foliowright/api.Field] -/
def L_slices_EqualFunc___foliowright_api_Field___foliowright_api_Field_foliowright_api_Field_foliowright_api_Field_ : LCode :=
  .seq (.reg [⟨some 6, .asg (.k (.d (.bool false))), none⟩]) (.seq (.seq (.reg [⟨some 10, .val (.cp (.t 0)), none⟩, ⟨some 11, .val (.len false (.t 10)), none⟩, ⟨some 12, .val (.cp 
  (.t 1)), none⟩, ⟨some 13, .val (.len false (.t 12)), none⟩, ⟨some 14, .val (.bin .neq (.t 11) (.t 13)), none⟩]) (.cond (.t 14) (.seq (.reg [⟨some 6, .asg (.k (.d (.bool false))), 
  none⟩]) .ret) .skip)) (.seq (.seq (.reg [⟨some 15, .val (.cp (.t 0)), none⟩, ⟨some 16, .val (.len false (.t 15)), none⟩, ⟨some 17, .val (.cp (.k (.d (.int .i64 0)))), none⟩]) 
  (.block 0 (.loop (.seq (.reg [⟨some 18, .val (.bin .lss (.t 17) (.t 16)), none⟩]) (.seq (.cond (.t 18) .skip (.exit 0)) (.seq (.block 1 (.seq (.reg [⟨some 19, .val (.cp (.t 17)), 
  none⟩, ⟨some 20, .val (.ia 6 (.t 15) (.t 17)), none⟩, ⟨some 21, .val (.ld true 6 (.t 20)), none⟩, ⟨some 8, .allo [.str [], .int .i64 0, .int .i64 0, .str [], .list [], .list []], 
  none⟩, ⟨some 7, .asg (.t 19), none⟩, ⟨none, .st 6 (.t 8) (.t 21), none⟩]) (.seq (.reg [⟨some 22, .val (.cp (.t 1)), none⟩, ⟨some 23, .val (.cp (.t 7)), none⟩, ⟨some 24, .val (.ia 
  6 (.t 22) (.t 23)), none⟩, ⟨some 25, .val (.ld true 6 (.t 24)), none⟩, ⟨some 9, .allo [.str [], .int .i64 0, .int .i64 0, .str [], .list [], .list []], none⟩, ⟨none, .st 6 (.t 9) 
  (.t 25), none⟩]) (.seq (.reg [⟨some 26, .val (.cp (.t 2)), none⟩, ⟨some 27, .val (.ld true 6 (.t 8)), none⟩, ⟨some 28, .val (.ld true 6 (.t 9)), none⟩, ⟨some 29, .prim .call [.t 
  26, .t 27, .t 28] [], none⟩, ⟨some 30, .val (.not (.t 29)), none⟩]) (.cond (.t 30) (.seq (.reg [⟨some 6, .asg (.k (.d (.bool false))), none⟩]) .ret) .skip))))) (.reg [⟨some 31, 
  .val (.bin .add (.t 17) (.k (.d (.int .i64 1)))), none⟩, ⟨some 17, .val (.cp (.t 31)), none⟩]))))))) (.seq (.reg [⟨some 6, .asg (.k (.d (.bool true))), none⟩]) .ret)))
def R_slices_EqualFunc___foliowright_api_Field___foliowright_api_Field_foliowright_api_Field_foliowright_api_Field_ : List LRes := [.tmp 6]
theorem lift_slices_EqualFunc___foliowright_api_Field___foliowright_api_Field_foliowright_api_Field_foliowright_api_Field_ : Lifts Tryz.prog 36 32 L_slices_EqualFunc___foliowright_api_Field___foliowright_api_Field_foliowright_api_Field_foliowright_api_Field_ R_slices_EqualFunc___foliowright_api_Field___foliowright_api_Field_foliowright_api_Field_foliowright_api_Field_ := ⟨_, _, Tryz.func36, rfl, by kernel_rfl, by kernel_rfl, rfl⟩

theorem equalFuncX_call (g : Nat) (hg : callOk Tryz.prog g = true) (a b : List Fld) (hl : a.length ≤ 1048576) (p : Fld → Fld → Bool) (hp : ∀ x ∈ a, ∀ y ∈ b, PCall Tryz.prog g [x.d, y.d] (fun r => r = .one (.bool (p x y)))) :
    MCallE Tryz.prog 36 [.d (.list (fldsD a)), .d (.list (fldsD b)), .fn (.func g) [] []] [] (.d (.bool (eqB p a b))) [] := by
  have hla := fldsD_length a
  have hlb := fldsD_length b
  have castE : ∀ x y : Nat, ((x : Int) = (y : Int)) = (x = y) := fun x y => by apply propext; omega
  generalize hR : eqB p a b = R
  refine lift_slices_EqualFunc___foliowright_api_Field___foliowright_api_Field_foliowright_api_Field_foliowright_api_Field_.mcall (by kernel_rfl) rfl ?_
  simp (maxSteps := 2000000) only [go_sem, ↓reduceIte, L_slices_EqualFunc___foliowright_api_Field___foliowright_api_Field_foliowright_api_Field_foliowright_api_Field_, R_slices_EqualFunc___foliowright_api_Field___foliowright_api_Field_foliowright_api_Field_foliowright_api_Field_, hla, hlb, castE]
  refine ⟨fun c1 => ?_, fun c1 => ?_⟩
  · rw [eqB_len c1] at hR; subst hR; rfl
  · refine run_loop (fun i : Nat => ⟨[(0, .d (.list (fldsD a))), (1, .d (.list (fldsD b))), (2, .fn (.func g) [] []), (15, .d (.list (fldsD a))), (16, .d (.int .i64 a.length)), (17, .d (.int .i64 i))], [], []⟩)
      (fun i => i ≤ a.length ∧ eqB p (a.drop i) (b.drop i) = R) (fun i => a.length - i) 0 ?_ ?_ ?_
    · refine Weak.mk ?_ ?_ ?_ <;> simp (maxSteps := 2000000) only [go_sem, ↓reduceIte, Sub, Int.natCast_add, Int.natCast_mul]
    · exact ⟨by omega, hR⟩
    · rintro i ⟨hi, hF⟩
      simp (maxSteps := 2000000) only [go_sem, ↓reduceIte, hla]
      refine ⟨fun hlt => ?_, fun hge => ?_⟩
      · obtain ⟨x, hx⟩ := get_some (l := a) (i := i) (by omega)
        obtain ⟨y, hy⟩ := get_some (l := b) (i := i) (by omega)
        rw [drop_at hx, drop_at hy, eqB] at hF
        have hc := (hp x (List.mem_of_getElem? hx) y (List.mem_of_getElem? hy)).mcallE hg
        simp only [List.map_cons, List.map_nil, Res.av] at hc
        rw [Fld.d_eq x, Fld.d_eq y] at hc
        simp (maxSteps := 2000000) (disch := omega) only [go_sem, ↓reduceIte, getI_nat, fldsD_get, hx, hy, Fld.d_eq]
        refine PrimG.mcall ([]) ([]) rfl (hc) rfl rfl (by simp only [objsAt, St.obj, aget, AObj.ren, AV.ren, AV.ren1, renL, ren1L, renR, renQ, List.getD_cons_zero, List.getD_cons_succ, and_true, and_self, Nat.reduceEqDiff, ↓reduceIte, reduceCtorEq]) rfl rfl rfl ⟨rfl, rfl⟩ ?_
        simp (maxSteps := 2000000) (disch := omega) only [go_sem, ↓reduceIte]
        refine ⟨fun w1 => ?_, fun w1 => ⟨i + 1, ?_, ⟨by omega, ?_⟩, by omega⟩⟩
        · rw [← hF, w1]; simp
        · refine Weak.mk ?_ ?_ ?_ <;> simp (maxSteps := 2000000) only [go_sem, ↓reduceIte, Sub, Int.natCast_add, Int.natCast_mul]
        · rw [← hF, w1]; rfl
      · rw [eqB_nil (List.drop_eq_nil_of_le (by omega)) (List.drop_eq_nil_of_le (by omega))] at hF
        subst hF
        rfl

/-- value.Alike -/
def L_value_Alike : LCode :=
  .seq (.reg [⟨some 2, .box (.t 0), none⟩, ⟨some 3, .box (.t 1), none⟩, ⟨some 4, .asg (.k (.d (.bool false))), none⟩]) (.seq (.reg [⟨some 5, .val (.fa 0 (.t 2)), none⟩, ⟨some 6, .val 
  (.ld false 1 (.t 5)), none⟩, ⟨some 7, .val (.fa 0 (.t 3)), none⟩, ⟨some 8, .val (.ld false 1 (.t 7)), none⟩, ⟨some 9, .val (.bin .eql (.t 6) (.t 8)), none⟩, ⟨some 10, .val (.cp 
  (.t 9)), none⟩, ⟨some 11, .val (.fa 1 (.t 2)), some (10, true)⟩, ⟨some 12, .val (.ld false 1 (.t 11)), some (10, true)⟩, ⟨some 13, .val (.fa 1 (.t 3)), some (10, true)⟩, ⟨some 
  14, .val (.ld false 1 (.t 13)), some (10, true)⟩, ⟨some 15, .val (.bin .eql (.t 12) (.t 14)), some (10, true)⟩, ⟨some 16, .val (.pick (.t 10) (.t 15) (.k (.d (.bool false)))), 
  none⟩, ⟨some 17, .val (.cp (.t 16)), none⟩, ⟨some 18, .val (.fa 2 (.t 2)), some (17, true)⟩, ⟨some 19, .val (.ld false 1 (.t 18)), some (17, true)⟩, ⟨some 20, .val (.fa 2 (.t 
  3)), some (17, true)⟩, ⟨some 21, .val (.ld false 1 (.t 20)), some (17, true)⟩, ⟨some 22, .val (.bin .eql (.t 19) (.t 21)), some (17, true)⟩, ⟨some 23, .val (.pick (.t 17) (.t 22) 
  (.k (.d (.bool false)))), none⟩, ⟨some 24, .val (.cp (.t 23)), none⟩, ⟨some 25, .val (.fa 3 (.t 2)), some (24, true)⟩, ⟨some 26, .val (.ld false 1 (.t 25)), some (24, true)⟩, 
  ⟨some 27, .val (.fa 3 (.t 3)), some (24, true)⟩, ⟨some 28, .val (.ld false 1 (.t 27)), some (24, true)⟩, ⟨some 29, .prim .call [.k (.fn (.func 35) [] []), .t 26, .t 28, .k (.fn 
  (.func 16) [] [])] [], some (24, true)⟩, ⟨some 30, .val (.pick (.t 24) (.t 29) (.k (.d (.bool false)))), none⟩, ⟨some 31, .val (.cp (.t 30)), none⟩, ⟨some 32, .val (.fa 4 (.t 
  2)), some (31, true)⟩, ⟨some 33, .val (.ld false 1 (.t 32)), some (31, true)⟩, ⟨some 34, .val (.fa 4 (.t 3)), some (31, true)⟩, ⟨some 35, .val (.ld false 1 (.t 34)), some (31, 
  true)⟩, ⟨some 36, .prim .call [.k (.fn (.func 36) [] []), .t 33, .t 35, .k (.fn (.func 37) [] [])] [], some (31, true)⟩, ⟨some 37, .val (.pick (.t 31) (.t 36) (.k (.d (.bool 
  false)))), none⟩, ⟨some 4, .asg (.t 37), none⟩]) .ret)
def R_value_Alike : List LRes := [.tmp 4]
theorem lift_value_Alike : Lifts Tryz.prog 16 38 L_value_Alike R_value_Alike := ⟨_, _, Tryz.func16, rfl, by kernel_rfl, by kernel_rfl, rfl⟩

/-- value.Alike$1 -/
def L_value_Alike_1 : LCode :=
  .seq (.reg [⟨some 2, .box (.t 0), none⟩, ⟨some 3, .box (.t 1), none⟩, ⟨some 4, .asg (.k (.d (.bool false))), none⟩]) (.seq (.reg [⟨some 5, .val (.fa 0 (.t 2)), none⟩, ⟨some 6, .val 
  (.ld false 1 (.t 5)), none⟩, ⟨some 7, .val (.fa 0 (.t 3)), none⟩, ⟨some 8, .val (.ld false 1 (.t 7)), none⟩, ⟨some 9, .val (.bin .eql (.t 6) (.t 8)), none⟩, ⟨some 10, .val (.cp 
  (.t 9)), none⟩, ⟨some 11, .val (.fa 1 (.t 2)), some (10, true)⟩, ⟨some 12, .val (.ld true 5 (.t 11)), some (10, true)⟩, ⟨some 13, .val (.fa 1 (.t 3)), some (10, true)⟩, ⟨some 14, 
  .val (.ld true 5 (.t 13)), some (10, true)⟩, ⟨some 15, .call 16 [.t 12, .t 14], some (10, true)⟩, ⟨some 16, .val (.pick (.t 10) (.t 15) (.k (.d (.bool false)))), none⟩, ⟨some 4, 
  .asg (.t 16), none⟩]) .ret)
def R_value_Alike_1 : List LRes := [.tmp 4]
theorem lift_value_Alike_1 : Lifts Tryz.prog 37 17 L_value_Alike_1 R_value_Alike_1 := ⟨_, _, Tryz.func37, rfl, by kernel_rfl, by kernel_rfl, rfl⟩

theorem alikeP_call : ∀ (m : Nat) (a b : Val), SizeOf.sizeOf a ≤ m → a.sm 1048576 = true → PCall Tryz.prog 16 [a.d, b.d] (fun r => r = .one (.bool (alikeV a b))) := by
  intro m
  induction m with
  | zero => intro v b h; cases v; simp at h
  | succ m ih =>
    intro a b hv hsm
    obtain ⟨_, hll, hfl, hsl, hsf⟩ := Val.sm_iff.1 hsm
    have hL : ∀ x ∈ a.l, ∀ y ∈ b.l, PCall Tryz.prog 16 [x.d, y.d] (fun r => r = .one (.bool (alikeV x y))) :=
      fun x hx y _ => ih x y (by have := size_l hx; omega) (hsl x hx)
    have hF : ∀ x ∈ a.f, ∀ y ∈ b.f, PCall Tryz.prog 37 [x.d, y.d] (fun r => r = .one (.bool (alikeX x y))) := fun x hx y _ => by
      have hc := ih x.v y.v (by have := size_f hx; omega) (Fld.sm_iff.1 (hsf x hx)).2
      rw [Val.d_eq x.v, Val.d_eq y.v] at hc
      rw [Fld.d_eq x, Fld.d_eq y]
      refine lift_value_Alike_1.call rfl ?_
      simp (maxSteps := 2000000) only [go_sem, ↓reduceIte, L_value_Alike_1, R_value_Alike_1]
      refine ⟨fun c1 => ?_, fun c1 => ?_⟩
      · first
        | refine CallD.of hc ?_
        | refine CallG.of hc ?_
        simp (maxSteps := 2000000) only [go_sem, ↓reduceIte]
        simp [alikeX, c1]
      · simp [alikeX, c1]
    generalize hR : alikeV a b = R
    rw [alikeV_eq] at hR
    rw [Val.d_eq a, Val.d_eq b]
    refine lift_value_Alike.call rfl ?_
    simp (maxSteps := 2000000) only [go_sem, ↓reduceIte, L_value_Alike, R_value_Alike]
    refine ⟨fun c1 => ⟨fun c2 => ⟨fun c3 => ?_, fun c3 => ?_⟩, fun c2 => ?_⟩, fun c1 => ?_⟩
    · refine PrimG.mcall ([]) ([]) rfl (equalFuncV_call _ (by kernel_rfl) a.l b.l (by omega) _ hL) rfl rfl (by simp only [objsAt, St.obj, aget, AObj.ren, AV.ren, AV.ren1, renL, ren1L, renR, renQ, List.getD_cons_zero, List.getD_cons_succ, and_true, and_self, Nat.reduceEqDiff, ↓reduceIte, reduceCtorEq]) rfl rfl rfl ⟨rfl, rfl⟩ ?_
      simp only [c1, c2, c3, decide_true, Bool.true_and] at hR
      simp (maxSteps := 2000000) only [go_sem, ↓reduceIte]
      refine ⟨fun c4 => ?_, fun c4 => ?_⟩
      · refine PrimG.mcall ([]) ([]) rfl (equalFuncX_call _ (by kernel_rfl) a.f b.f (by omega) _ hF) rfl rfl (by simp only [objsAt, St.obj, aget, AObj.ren, AV.ren, AV.ren1, renL, ren1L, renR, renQ, List.getD_cons_zero, List.getD_cons_succ, and_true, and_self, Nat.reduceEqDiff, ↓reduceIte, reduceCtorEq]) rfl rfl rfl ⟨rfl, rfl⟩ ?_
        simp (maxSteps := 2000000) only [go_sem, ↓reduceIte]
        rw [← hR, c4]; rfl
      · rw [← hR, c4]; rfl
    · rw [← hR]; simp [c3]
    · rw [← hR]; simp [c2]
    · rw [← hR]; simp [c1]

/-- What a dictionary has by a name. -/
def getV (nm : List UInt8) : List Fld → Option Val
  | [] => none
  | x :: r => if x.name = nm then some x.v else getV nm r
def zeroV : Val := .mk 0 0 [] [] []
def getR (o : Option Val) : Res := .tup [(o.getD zeroV).d, .bool o.isSome]
/-- value.Get -/
def L_value_Get : LCode :=
  .seq (.reg [⟨some 2, .box (.t 0), none⟩, ⟨some 4, .allo [.int .i64 0, .int .i64 0, .str [], .list [], .list []], none⟩, ⟨some 5, .asg (.k (.d (.bool false))), none⟩]) (.seq (.seq 
  (.reg [⟨some 8, .val (.fa 4 (.t 2)), none⟩, ⟨some 9, .val (.ld false 1 (.t 8)), none⟩, ⟨some 10, .val (.len false (.t 9)), none⟩, ⟨some 11, .val (.cp (.k (.d (.int .i64 0)))), 
  none⟩]) (.block 0 (.loop (.seq (.reg [⟨some 12, .val (.bin .lss (.t 11) (.t 10)), none⟩]) (.seq (.cond (.t 12) .skip (.exit 0)) (.seq (.block 1 (.seq (.reg [⟨some 13, .val (.ia 6 
  (.t 9) (.t 11)), none⟩, ⟨some 14, .val (.ld true 6 (.t 13)), none⟩, ⟨some 7, .allo [.str [], .int .i64 0, .int .i64 0, .str [], .list [], .list []], none⟩, ⟨none, .st 6 (.t 7) 
  (.t 14), none⟩]) (.seq (.reg [⟨some 15, .val (.fa 0 (.t 7)), none⟩, ⟨some 16, .val (.ld false 1 (.t 15)), none⟩, ⟨some 17, .val (.cp (.t 1)), none⟩, ⟨some 18, .val (.bin .eql (.t 
  16) (.t 17)), none⟩]) (.cond (.t 18) (.seq (.reg [⟨some 19, .val (.fa 1 (.t 7)), none⟩, ⟨some 20, .val (.ld true 5 (.t 19)), none⟩, ⟨none, .st 5 (.t 4) (.t 20), none⟩, ⟨some 5, 
  .asg (.k (.d (.bool true))), none⟩]) .ret) .skip)))) (.reg [⟨some 21, .val (.bin .add (.t 11) (.k (.d (.int .i64 1)))), none⟩, ⟨some 11, .val (.cp (.t 21)), none⟩]))))))) (.seq 
  (.reg [⟨some 22, .val (.bld [(0, 1), (1, 1), (2, 1), (3, 1), (4, 1)] [.int .i64 0, .int .i64 0, .str [], .list [], .list []] [] []), none⟩, ⟨none, .st 5 (.t 4) (.t 22), none⟩, 
  ⟨some 5, .asg (.k (.d (.bool false))), none⟩]) .ret))
def R_value_Get : List LRes := [.cell 4 true 5, .tmp 5]
theorem lift_value_Get : Lifts Tryz.prog 86 23 L_value_Get R_value_Get := ⟨_, _, Tryz.func86, rfl, by kernel_rfl, by kernel_rfl, rfl⟩

theorem getP_call (v : Val) (nm : List UInt8) (hf : v.f.length ≤ 1048576) : PCall Tryz.prog 86 [v.d, .str nm] (fun r => r = getR (getV nm v.f)) := by
  have hfl' := fldsD_length v.f
  generalize hR : getV nm v.f = R
  rw [Val.d_eq]
  refine lift_value_Get.call rfl ?_
  simp (maxSteps := 2000000) only [go_sem, ↓reduceIte, L_value_Get, R_value_Get]
  refine run_loop (fun i : Nat => ⟨[(1, .d (.str nm)), (2, .ptr (.l 2) 0), (4, .ptr (.l 4) 0), (9, .d (.list (fldsD v.f))), (10, .d (.int .i64 v.f.length)), (11, .d (.int .i64 i))],
      [(2, .cells [.d (.int .i64 v.kind), .d (.int .i64 v.n), .d (.str v.s), .d (.list (valsD v.l)), .d (.list (fldsD v.f))]),
       (4, .cells [.d (.int .i64 0), .d (.int .i64 0), .d (.str []), .ns, .ns])], []⟩)
    (fun i => i ≤ v.f.length ∧ getV nm (v.f.drop i) = R) (fun i => v.f.length - i) 0 ?_ ?_ ?_
  · refine Weak.mk ?_ ?_ ?_ <;> simp (maxSteps := 2000000) only [go_sem, ↓reduceIte, Sub, Int.natCast_add, Int.natCast_mul, hfl']
  · exact ⟨by omega, hR⟩
  · rintro i ⟨hi, hF⟩
    simp (maxSteps := 2000000) only [go_sem, ↓reduceIte, hfl']
    refine ⟨fun hlt => ?_, fun hge => ?_⟩
    · obtain ⟨x, hx⟩ := get_some (l := v.f) (i := i) (by omega)
      rw [drop_at hx, getV] at hF
      simp (maxSteps := 2000000) (disch := omega) only [go_sem, ↓reduceIte, getI_nat, fldsD_get, hx, Fld.d_eq]
      refine ⟨fun n1 => ?_, fun n1 => ⟨i + 1, ?_, ⟨by omega, ?_⟩, by omega⟩⟩
      · rw [if_pos n1] at hF
        subst hF
        simp only [getR, Option.getD_some, Option.isSome_some]
        rw [Val.d_eq x.v]
      · refine Weak.mk ?_ ?_ ?_ <;> simp (maxSteps := 2000000) only [go_sem, ↓reduceIte, Sub, Int.natCast_add, Int.natCast_mul]
      · rw [if_neg n1] at hF; exact hF
    · rw [List.drop_eq_nil_of_le (by omega), getV] at hF
      subst hF
      rfl
end Go.Av.Tryz
