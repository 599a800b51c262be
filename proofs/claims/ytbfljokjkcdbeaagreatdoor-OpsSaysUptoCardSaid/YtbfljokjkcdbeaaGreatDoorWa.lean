import Derived.Test.YtbfljokjkcdbeaaGreatDoorAvF
import Derived.Test.YtbfljokjkcdbeaaGreatDoorProg
import Derived.Lib.LaidTab
import Derived.Lib.ItoaNum
import Derived.Shelf.Strings.Builder1
import Derived.Lib.Bytealg
import Derived.Lib.UnsafeStr
import Derived.IntWalk
set_option linter.unusedSimpArgs false
namespace Go.Av.Tryz
open Go.Proofs
theorem tab_lt {P : Program} {name : String} {k : IntKind} {zs : List Int} {w : World} (h : Lib.TabIs P w name k zs) (b : Nat) (hb : P.globalNamed name = some b) : b < w.heap.size := by
 unfold Lib.TabIs World.var? at h
 simp only [hb, Option.bind_some] at h
 cases hc : w.heap[b]? with
 | none => simp [hc] at h
 | some o => exact (Array.getElem?_eq_some_iff.1 hc).1
theorem tab_keep {P : Program} {name : String} {k : IntKind} {zs : List Int} {w w' : World} (hk : ∀ b, P.globalNamed name = some b → w'.heap[b]? = w.heap[b]?) (h : Lib.TabIs P w name k zs) : Lib.TabIs P w' name k zs := by
 unfold Lib.TabIs World.var? at h ⊢
 cases hg : P.globalNamed name with
 | none => simp [hg] at h
 | some g =>
  simp only [hg, Option.bind_some] at h ⊢
  rw [hk g hg]; exact h
def intAt (P : Program) (name : String) (w : World) : Prop := ∀ b, P.globalNamed name = some b → ∃ m : Int, w.cell? ⟨b, 0, none⟩ = some (.int .i64 m)
theorem cell_same {w w' : World} {b : Nat} (h : w'.heap[b]? = w.heap[b]?) : w'.cell? ⟨b, 0, none⟩ = w.cell? ⟨b, 0, none⟩ := by
 simp only [World.cell?, h]
theorem cell_lt {w : World} {b : Nat} {v : Value} (h : w.cell? ⟨b, 0, none⟩ = some v) : b < w.heap.size := by
 rcases Nat.lt_or_ge b w.heap.size with h' | h'
 ·exact h'
 ·simp [World.cell?, Array.getElem?_eq_none h'] at h
def tabAt (P : Program) (name : String) (k : IntKind) (zs : List Int) (w : World) : Prop := ∀ b, P.globalNamed name = some b → Lib.TabIs P w name k zs
instance : Inv Tryz.prog := ⟨fun _ w => tabAt Tryz.prog "internal/strconv.uint64pow10" .u64 Lib.pow10Tab w ∧ intAt Tryz.prog "internal/bytealg.MaxLen" w,
 fun b => Tryz.prog.globalNamed "internal/strconv.uint64pow10" = some b ∨ Tryz.prog.globalNamed "internal/bytealg.MaxLen" = some b,
 fun h b hb => hb.elim (fun hb => tab_lt (h.1 b hb) b hb) fun hb => by obtain ⟨m, hm⟩ := h.2 b hb; exact cell_lt hm,
 fun hk h => ⟨fun b hb => tab_keep (fun b hb => (hk b (.inl hb)).1) (h.1 b hb), fun b hb => by obtain ⟨m, hm⟩ := h.2 b hb; exact ⟨m, (cell_same (hk b (.inr hb)).1).trans hm⟩⟩⟩
def errD (n : Nat) : D := if n = 0 then .nil else .iface 50 (.int .i64 n)
theorem errD_ne {n : Nat} (h : n ≠ 0) : errD n = .iface 50 (.int .i64 n) := by simp [errD, h]
def L_foliowrightlaw_same : LCode :=
 .seq (.reg [Qx 4 KF]) (.seq (.seq (.reg [Qc 7 0, Q 8 (.eqN 0 false (.t 7))]) (.cond (.t 8) (.seq (.reg [Qc 9 1, Q 10 (.bin .eql (.t 9) (Ki 0)), Qa 4 10]) .ret) .skip)) (.seq (.reg 
 [Qc 12 0, Q 13 (.asT 50 (.int .i64 0) (.t 12)), Qc 11 13, Q 14 (.ext 0 (.t 11)), Q 15 (.ext 1 (.t 11)), Qa 5 14, Qa 6 15]) (.seq (.reg [Qc 16 6, Qc 17 16, Qd 18 1 17 true, Qg 19 
 (.bin .gtr (.t 18) (Ki 0)) 17 true, Q 20 (.pick (.t 17) (.t 19) KF), Qc 21 20, Qd 22 5 21 true, Qd 23 1 21 true, Qg 24 (.bin .eql (.t 22) (.t 23)) 21 true, Q 25 (.pick (.t 21) 
 (.t 24) KF), Qa 4 25]) .ret)))
def R_foliowrightlaw_same : List LRes := [.tmp 4]
theorem lift_foliowrightlaw_same : Lifts Tryz.prog 11 26 L_foliowrightlaw_same R_foliowrightlaw_same := ⟨_, _, Tryz.func11, rfl, by kernel_rfl, by kernel_rfl, rfl⟩
theorem same_law (e f : Nat) : PCall Tryz.prog 11 [errD e, .int .i64 f] (fun r => r = .one (.bool (decide (e = f)))) := by
 refine lift_foliowrightlaw_same.call rfl ?_
 by_cases h : e = 0
 ·subst h
  have he : errD 0 = .nil := rfl
  rw [he]
  simp (maxSteps := 2000000) only [go_sem, ↓reduceIte, L_foliowrightlaw_same, R_foliowrightlaw_same]
  congr 2
  have : ((f : Int) = 0) = (0 = f) := by apply propext; omega
  simp only [this]
 ·rw [errD_ne h]
  simp (maxSteps := 2000000) only [go_sem, ↓reduceIte, L_foliowrightlaw_same, R_foliowrightlaw_same]
  refine ⟨fun _ => ?_, fun q => ?_⟩
  ·congr 2
   simp only [Int.ofNat_inj]
  ·have : ¬ e = f := by omega
   simp [this]
inductive Bld where
 | new
 | nul
 | has (s : List UInt8)
def Bld.obj : Bld → AObj
 | .new => .cells [.nt 59, .ns]
 | .nul => .cells [.ptr (.x 0) 0, .ns]
 | .has s => .cells [.ptr (.x 0) 0, .own (.c (.x 0) 1) 5 1 (bytesD s)]
def Bld.bytes : Bld → List UInt8
 | .has s => s
 | _ => []
def L___strings_Builder__copyCheck : LCode :=
 .seq (.reg [Qc 2 0, Q 3 (.nck (.t 2)), Q 4 (.fa 0 (.t 3)), Q 5 (.ld false 1 (.t 4)), Q 6 (.eqN 1 false (.t 5))]) (.cond (.t 6) (.reg [Qc 7 0, Qc 8 0, ⟨some 9, .prim (.conv 56 100) 
 [.t 8] [], none⟩, ⟨some 10, .prim .call [.k (.fn (.func 73) [] []), .t 9] [], none⟩, ⟨some 11, .prim (.conv 100 56) [.t 10] [], none⟩, Q 12 (.nck (.t 7)), Q 13 (.fa 0 (.t 12)), 
 ⟨none, .st 1 (.t 13) (.t 11), none⟩]) (.seq (.reg [Qc 14 0, Q 15 (.nck (.t 14)), Q 16 (.fa 0 (.t 15)), Q 17 (.ld false 1 (.t 16)), Qc 18 0, ⟨some 19, .prim (.eq .neq 56) [.t 17, 
 .t 18] [], none⟩]) (.cond (.t 19) .bad .skip)))
def R___strings_Builder__copyCheck : List LRes := []
theorem lift___strings_Builder__copyCheck : Lifts Tryz.prog 43 20 L___strings_Builder__copyCheck R___strings_Builder__copyCheck := ⟨_, _, Tryz.func43, rfl, by kernel_rfl, by kernel_rfl, rfl⟩
theorem copyCheck_new : MCallE Tryz.prog 43 [.ptr (.x 0) 0] [.cells [.nt 59, .ns]] (.tuple []) [.cells [.ptr (.x 0) 0, .ns]] := by
 refine lift___strings_Builder__copyCheck.mcall (by kernel_rfl) rfl ?_
 simp (maxSteps := 2000000) only [go_sem, ↓reduceIte, L___strings_Builder__copyCheck, R___strings_Builder__copyCheck, AV.den]
 refine PrimG.toUnsafe (m := 1) rfl rfl (by decide) Tryz.underlying56 Tryz.underlying100 (by kernel_rfl) ?_
 simp (maxSteps := 2000000) only [go_sem, ↓reduceIte]
 refine PrimG.entry Tryz.func73 (by kernel_rfl) (by kernel_rfl) (by kernel_rfl) (e := Extern.AbiNoEscape.same) (by kernel_rfl) (.ptr (.x 0) 0) (fun G w vs hl hv => ?_) ?_
 ·match vs, hl with
  | [v], _ => exact ⟨v, Lib.run_noEscape w v, hv 0 _ rfl⟩
 simp (maxSteps := 2000000) only [go_sem, ↓reduceIte]
 refine PrimG.fromUnsafe (i := 0) rfl rfl rfl Tryz.underlying100 Tryz.underlying56 (m := 2) (by kernel_rfl) (by kernel_rfl) ?_
 simp (maxSteps := 2000000) only [go_sem, ↓reduceIte]
theorem info147 : ∃ j, Tryz.prog.info? 59 = some j := by
 have h : (Tryz.prog.info? 59).isSome = true := by kernel_rfl
 exact Option.isSome_iff_exists.1 h
theorem copyCheck_used (x : AV) (hx : x = .ns ∨ ∃ s, x = .own (.c (.x 0) 1) 5 1 (bytesD s)) : MCallE Tryz.prog 43 [.ptr (.x 0) 0] [.cells [.ptr (.x 0) 0, x]] (.tuple []) [.cells [.ptr (.x 0) 0, x]] := by
 obtain ⟨j, hj⟩ := info147
 have done : MCallE Tryz.prog 43 [.ptr (.x 0) 0] [.cells [.ptr (.x 0) 0, x]] (.tuple []) [.cells [.ptr (.x 0) 0, x]] := by
  refine lift___strings_Builder__copyCheck.mcall (by kernel_rfl) rfl ?_
  simp (maxSteps := 2000000) only [go_sem, ↓reduceIte, L___strings_Builder__copyCheck, R___strings_Builder__copyCheck, AV.den]
  refine PrimG.samePtr rfl rfl Tryz.underlying56 hj ?_
  simp (maxSteps := 2000000) only [go_sem, ↓reduceIte]
 exact done
def L___strings_Builder__WriteByte : LCode :=
 .seq (.reg [Qx 4 (.k (.d .nil))]) (.seq (.reg [Qc 5 0, ⟨some 6, .prim .call [.k (.fn (.func 43) [] []), .t 5] [], none⟩]) (.seq (.reg [Qc 7 0, Qc 8 0, Q 9 (.nck (.t 8)), Q 10 (.fa 
 1 (.t 9)), Q 11 (.ld false 1 (.t 10)), Qc 12 1, ⟨some 13, .bsl 5 1 [.t 12], none⟩, ⟨some 14, .app 5 1 1 false (.t 11) (.t 13), none⟩, Q 15 (.nck (.t 7)), Q 16 (.fa 1 (.t 15)), 
 ⟨none, .st 1 (.t 16) (.t 14), none⟩]) (.seq (.reg [Qx 4 (.k (.d .nil))]) .ret)))
def R___strings_Builder__WriteByte : List LRes := [.tmp 4]
theorem lift___strings_Builder__WriteByte : Lifts Tryz.prog 55 17 L___strings_Builder__WriteByte R___strings_Builder__WriteByte := ⟨_, _, Tryz.func55, rfl, by kernel_rfl, by kernel_rfl, rfl⟩
def L___strings_Builder__WriteString : LCode :=
 .seq (.reg [Qx 4 (Ki 0), Qx 5 (.k (.d .nil))]) (.seq (.reg [Qc 6 0, ⟨some 7, .prim .call [.k (.fn (.func 43) [] []), .t 6] [], none⟩]) (.seq (.reg [Qc 8 0, Qc 9 0, Q 10 (.nck (.t 
 9)), Q 11 (.fa 1 (.t 10)), Q 12 (.ld false 1 (.t 11)), Qc 13 1, ⟨some 14, .app 5 1 1 true (.t 12) (.t 13), none⟩, Q 15 (.nck (.t 8)), Q 16 (.fa 1 (.t 15)), ⟨none, .st 1 (.t 16) 
 (.t 14), none⟩]) (.seq (.reg [Qc 17 1, Q 18 (.len true (.t 17)), Qa 4 18, Qx 5 (.k (.d .nil))]) .ret)))
def R___strings_Builder__WriteString : List LRes := [.tmp 4, .tmp 5]
theorem lift___strings_Builder__WriteString : Lifts Tryz.prog 25 19 L___strings_Builder__WriteString R___strings_Builder__WriteString := ⟨_, _, Tryz.func25, rfl, by kernel_rfl, by kernel_rfl, rfl⟩
theorem writeString_call (b : Bld) (t : List UInt8) (hl : (b.bytes ++ t).length ≤ 1000000000) : MCallE Tryz.prog 25 [.ptr (.x 0) 0, .d (.str t)] [b.obj] (.tuple [.d (.int .i64 t.length), .d .nil]) [Bld.obj (.has (b.bytes ++ t))] := by
 have hbl := bytesD_length t
 cases b with
 | new =>
  refine lift___strings_Builder__WriteString.mcall (by kernel_rfl) rfl ?_
  simp (maxSteps := 2000000) only [go_sem, ↓reduceIte, L___strings_Builder__WriteString, R___strings_Builder__WriteString, AV.den, Bld.obj]
  refine PrimG.mc1 (.x 0) rfl (copyCheck_new) rfl rfl rfl rfl ⟨rfl, rfl⟩ ?_
  simp only [Bld.bytes, List.nil_append] at hl
  simp (maxSteps := 2000000) only [go_sem, ↓reduceIte, Bld.bytes, AV.den, hbl]
  omega
 | nul =>
  refine lift___strings_Builder__WriteString.mcall (by kernel_rfl) rfl ?_
  simp (maxSteps := 2000000) only [go_sem, ↓reduceIte, L___strings_Builder__WriteString, R___strings_Builder__WriteString, AV.den, Bld.obj]
  refine PrimG.mc1 (.x 0) rfl (copyCheck_used _ (.inl rfl)) rfl rfl rfl rfl ⟨rfl, rfl⟩ ?_
  simp only [Bld.bytes, List.nil_append] at hl
  simp (maxSteps := 2000000) only [go_sem, ↓reduceIte, Bld.bytes, AV.den, hbl]
  omega
 | has s =>
  have hbs := bytesD_length s
  refine lift___strings_Builder__WriteString.mcall (by kernel_rfl) rfl ?_
  simp (maxSteps := 2000000) only [go_sem, ↓reduceIte, L___strings_Builder__WriteString, R___strings_Builder__WriteString, AV.den, Bld.obj]
  refine PrimG.mc1 (.x 0) rfl (copyCheck_used _ (.inr ⟨s, rfl⟩)) rfl rfl rfl rfl ⟨rfl, rfl⟩ ?_
  simp only [Bld.bytes, List.length_append] at hl
  simp (maxSteps := 2000000) only [go_sem, ↓reduceIte, Bld.bytes, AV.den, hbl, hbs, bytesD_append]
  omega
theorem writeByte_call (b : Bld) (c : UInt8) (hl : b.bytes.length + 1 ≤ 1000000000) : MCallE Tryz.prog 55 [.ptr (.x 0) 0, .d (.int .u8 c.toNat)] [b.obj] (.d .nil) [Bld.obj (.has (b.bytes ++ [c]))] := by
 cases b with
 | new =>
  refine lift___strings_Builder__WriteByte.mcall (by kernel_rfl) rfl ?_
  simp (maxSteps := 2000000) only [go_sem, ↓reduceIte, L___strings_Builder__WriteByte, R___strings_Builder__WriteByte, AV.den, Bld.obj]
  refine PrimG.mc1 (.x 0) rfl (copyCheck_new) rfl rfl rfl rfl ⟨rfl, rfl⟩ ?_
  simp (maxSteps := 2000000) only [go_sem, ↓reduceIte, Bld.bytes, AV.den, bytesD_cons, bytesD_nil]
 | nul =>
  refine lift___strings_Builder__WriteByte.mcall (by kernel_rfl) rfl ?_
  simp (maxSteps := 2000000) only [go_sem, ↓reduceIte, L___strings_Builder__WriteByte, R___strings_Builder__WriteByte, AV.den, Bld.obj]
  refine PrimG.mc1 (.x 0) rfl (copyCheck_used _ (.inl rfl)) rfl rfl rfl rfl ⟨rfl, rfl⟩ ?_
  simp (maxSteps := 2000000) only [go_sem, ↓reduceIte, Bld.bytes, AV.den, bytesD_cons, bytesD_nil]
 | has s =>
  have hbs := bytesD_length s
  refine lift___strings_Builder__WriteByte.mcall (by kernel_rfl) rfl ?_
  simp (maxSteps := 2000000) only [go_sem, ↓reduceIte, L___strings_Builder__WriteByte, R___strings_Builder__WriteByte, AV.den, Bld.obj]
  refine PrimG.mc1 (.x 0) rfl (copyCheck_used _ (.inr ⟨s, rfl⟩)) rfl rfl rfl rfl ⟨rfl, rfl⟩ ?_
  simp only [Bld.bytes] at hl
  simp (maxSteps := 2000000) only [go_sem, ↓reduceIte, Bld.bytes, AV.den, hbs, bytesD_append, bytesD_cons, bytesD_nil]
  omega
section
open Go.Shelf Go.RowKit
set_option maxHeartbeats 2000000
set_option maxRecDepth 100000
theorem bstr_row (b g cap : Nat) (p : Value) (cur : Array Value) (el : TypeId) (l : List UInt8) (w : World) (hbk : w.heap[b]? = some (.cells #[p, .slice (some ⟨g, 0, none⟩) l.length cap] el (0, 0))) (h0 : l ≠ [])
  (hg : w.heap[g]? = some (.cells cur 5 (0, 0))) (hnc : l.length ≤ cap) (hcm : cap ≤ maxLen) (hcs : cur.size = cap) (hcell : ∀ (j : Nat) (x : UInt8), l[j]? = some x → w.cell? ((⟨g, 0, none⟩ : Addr).add j) = some (.int .u8 x.toNat)) :
  Calls Tryz.prog 27 #[.pointer (some ⟨b, 0, none⟩)] w fun e w' => e = .returned (.string ⟨l.toArray⟩) ∧ w' = w.drew.freeze ⟨g, 0, none⟩ l.length := by
 have hl0 : l.length ≠ 0 := by simpa using h0
 have c1 : w.drew.cell? ⟨b, 1, none⟩ = some (.slice (some ⟨g, 0, none⟩) l.length cap) := by
  have : w.drew.heap[b]? = some (.cells #[p, .slice (some ⟨g, 0, none⟩) l.length cap] el (0, 0)) := hbk
  rw [Lib.cell_of_heap this]; rfl
 have hSD : (Builtin.unsafeSliceData_ #[57] 81 #[.slice (some ⟨g, 0, none⟩) l.length cap]).run Tryz.prog w.drew = .ok (.pointer (some ⟨g, 0, none⟩)) w.drew :=
  Lib.run_unsafeSliceData_row _ _ _ _ _ _ (by omega)
 have hUS : (Builtin.unsafeString_ #[81, 3] 9 #[.pointer (some ⟨g, 0, none⟩), .int .i64 l.length]).run Tryz.prog w.drew = .ok (.string ⟨l.toArray⟩) (w.drew.freeze ⟨g, 0, none⟩ l.length) := by
  refine Lib.run_unsafeString_row w.drew 81 3 9 5 Tryz.underlying81 (by kernel_rfl) g cur.size (by have hg' : w.drew.heap[g]? = some (.cells cur 5 (0, 0)) := hg; simp [World.shape?, hg']) l h0 (by omega) (by unfold maxLen at hcm; omega) ?_
  intro j x hx
  exact hcell j x hx
 go_enter Tryz.func27, Tryz.ntmps27
 go_wp2
 go_region
 all_goals (go_wp2; go_ret; exact ⟨rfl, rfl⟩)
theorem bstr_nil (b : Nat) (p : Value) (el : TypeId) (w : World) (hbk : w.heap[b]? = some (.cells #[p, .slice none 0 0] el (0, 0))) :
  Calls Tryz.prog 27 #[.pointer (some ⟨b, 0, none⟩)] w fun e w' => e = .returned (.string ⟨#[]⟩) ∧ w' = w.drew := by
 have hUS : ∀ (W : World) (q : Option Addr), (Builtin.unsafeString_ #[81, 3] 9 #[.pointer q, .int .i64 0]).run Tryz.prog W = .ok (.string .empty) W := fun W q => Lib.run_unsafeString_none W _ _ _ q
 have c1 : w.drew.cell? ⟨b, 1, none⟩ = some (.slice none 0 0) := by
  have : w.drew.heap[b]? = some (.cells #[p, .slice none 0 0] el (0, 0)) := hbk
  rw [Lib.cell_of_heap this]; rfl
 have hSD : (Builtin.unsafeSliceData_ #[57] 81 #[.slice none 0 0]).run Tryz.prog w.drew = .ok (.pointer none) w.drew := rfl
 go_enter Tryz.func27, Tryz.ntmps27
 go_wp2
 go_region
 all_goals (go_wp2; go_ret; exact ⟨rfl, rfl⟩)
theorem bstr_room (b g cap : Nat) (p : Value) (el : TypeId) (w : World) (hc0 : cap ≠ 0) (hbk : w.heap[b]? = some (.cells #[p, .slice (some ⟨g, 0, none⟩) 0 cap] el (0, 0))) :
  Calls Tryz.prog 27 #[.pointer (some ⟨b, 0, none⟩)] w fun e w' => e = .returned (.string ⟨#[]⟩) ∧ w' = w.drew := by
 have hUS : ∀ (W : World) (q : Option Addr), (Builtin.unsafeString_ #[81, 3] 9 #[.pointer q, .int .i64 0]).run Tryz.prog W = .ok (.string .empty) W := fun W q => Lib.run_unsafeString_none W _ _ _ q
 have c1 : w.drew.cell? ⟨b, 1, none⟩ = some (.slice (some ⟨g, 0, none⟩) 0 cap) := by
  have : w.drew.heap[b]? = some (.cells #[p, .slice (some ⟨g, 0, none⟩) 0 cap] el (0, 0)) := hbk
  rw [Lib.cell_of_heap this]; rfl
 have hSD : (Builtin.unsafeSliceData_ #[57] 81 #[.slice (some ⟨g, 0, none⟩) 0 cap]).run Tryz.prog w.drew = .ok (.pointer (some ⟨g, 0, none⟩)) w.drew :=
  Lib.run_unsafeSliceData_row _ _ _ _ _ _ hc0
 clear hc0
 go_enter Tryz.func27, Tryz.ntmps27
 go_wp2
 go_region
 all_goals (go_wp2; go_ret; exact ⟨rfl, rfl⟩)
theorem bstr_noroom (b g : Nat) (p : Value) (el : TypeId) (cur : Array Value) (w : World) (hbk : w.heap[b]? = some (.cells #[p, .slice (some ⟨g, 0, none⟩) 0 0] el (0, 0))) (hg : w.heap[g]? = some (.cells cur 5 (0, 0))) :
  Calls Tryz.prog 27 #[.pointer (some ⟨b, 0, none⟩)] w fun e w' => e = .returned (.string ⟨#[]⟩) ∧ w' = w.drew.alloc (.view ⟨g, 0, none⟩ 5) := by
 have hUS : ∀ (W : World) (q : Option Addr), (Builtin.unsafeString_ #[81, 3] 9 #[.pointer q, .int .i64 0]).run Tryz.prog W = .ok (.string .empty) W := fun W q => Lib.run_unsafeString_none W _ _ _ q
 have hlt : b < w.heap.size := by
  rcases Nat.lt_or_ge b w.heap.size with h' | h'
  ·exact h'
  ·simp [Array.getElem?_eq_none h'] at hbk
 have c1 : w.drew.cell? ⟨b, 1, none⟩ = some (.slice (some ⟨g, 0, none⟩) 0 0) := by
  have : w.drew.heap[b]? = some (.cells #[p, .slice (some ⟨g, 0, none⟩) 0 0] el (0, 0)) := hbk
  rw [Lib.cell_of_heap this]; rfl
 have hSD : (Builtin.unsafeSliceData_ #[57] 81 #[.slice (some ⟨g, 0, none⟩) 0 0]).run Tryz.prog w.drew = .ok (.pointer (some ⟨w.drew.heap.size, 0, none⟩)) (w.drew.alloc (.view ⟨g, 0, none⟩ 5)) :=
  Lib.run_unsafeSliceData_zero w.drew _ _ 5 Tryz.underlying81 ⟨g, 0, none⟩ 0 (5, cur.size) (by have hg' : w.drew.heap[g]? = some (.cells cur 5 (0, 0)) := hg; simp [World.shape?, hg'])
 have c2 : (w.drew.alloc (.view ⟨g, 0, none⟩ 5)).cell? ⟨b, 1, none⟩ = some (.slice (some ⟨g, 0, none⟩) 0 0) := by
  have : (w.drew.alloc (.view ⟨g, 0, none⟩ 5)).heap[b]? = _ := (Lib.alloc_old w.drew _ b hlt).trans hbk
  rw [Lib.cell_of_heap this]; rfl
 have c3 : (w.alloc (.view ⟨g, 0, none⟩ 5)).drew.cell? ⟨b, 1, none⟩ = some (.slice (some ⟨g, 0, none⟩) 0 0) := c2
 have c0 : w.cell? ⟨b, 1, none⟩ = some (.slice (some ⟨g, 0, none⟩) 0 0) := c1
 go_enter Tryz.func27, Tryz.ntmps27
 go_wp2
 go_region
 all_goals (go_wp2; go_ret; exact ⟨rfl, rfl⟩)
end
theorem heap_freeze_ne (w : World) (g n b : Nat) (h : b ≠ g) : (w.freeze ⟨g, 0, none⟩ n).heap[b]? = w.heap[b]? := by
 unfold World.freeze
 split
 ·rfl
 ·simp only [Array.getElem?_modify]
  rw [if_neg (fun e => h e.symm)]
theorem heap_freeze_at (w : World) (g n : Nat) {cur : Array Value} {e : TypeId} {fz : Nat × Nat} (h : w.heap[g]? = some (.cells cur e fz)) : ∃ fz', (w.freeze ⟨g, 0, none⟩ n).heap[g]? = some (.cells cur e fz') := by
 unfold World.freeze
 split
 ·exact ⟨fz, h⟩
 ·obtain ⟨lo, hi⟩ := fz
  simp only [Array.getElem?_modify, if_true, h, Option.map_some]
  exact ⟨_, rfl⟩
theorem freeze_size (w : World) (g n : Nat) : (w.freeze ⟨g, 0, none⟩ n).heap.size = w.heap.size := by
 unfold World.freeze
 split
 ·rfl
 ·simp
theorem freeze_rest (w : World) (g n : Nat) : (w.freeze ⟨g, 0, none⟩ n).os = w.os ∧ (w.freeze ⟨g, 0, none⟩ n).tape = w.tape ∧ (w.freeze ⟨g, 0, none⟩ n).output = w.output := by
 unfold World.freeze
 split <;> exact ⟨rfl, rfl, rfl⟩
theorem Ext.freeze {f : Nat → Nat} {w : World} {g n : Nat} {cur : Array Value} {e : TypeId} {fz : Nat × Nat} (h : w.heap[g]? = some (.cells cur e fz)) : Ext f w f (w.freeze ⟨g, 0, none⟩ n) := by
 refine ⟨by rw [freeze_size]; exact Nat.le_refl _, fun _ => Nat.le_refl _, fun b i _ => ?_⟩
 by_cases hb : b = g
 ·subst hb
  obtain ⟨fz', h'⟩ := heap_freeze_at w b n h
  simp [World.cell?, at_, h, h']
 ·simp only [World.cell?, at_]
  rw [heap_freeze_ne w g n b hb]
theorem one_final {E : Entry} {n : Nat} {G : Ghost} {σ : St} {ts : Array Value} {w : World} (h : SR E n G σ ts w) {x : D} {v : Value} (hr : RD G.f w x v) {o : AObj} (ho : σ.obj (.x 0) = some o) :
  ∃ G', SR E 1 G' ⟨[(0, .d x)], [], numO 0 [o]⟩ #[v] w :=
 ⟨_, h.final (q0 := none) (r := .d x) (v := v) (.d _ _ hr) (fun q hq => by simp [AV.lab?] at hq) (fun _ _ e => by cases e) (hs' := [o]) (fun i o' hi => by
  cases i with
  | zero => simp at hi; subst hi; exact ho
  | succ i => simp at hi)⟩
def Bld.said : Bld → AObj
 | .has s => .cells [.ptr (.x 0) 0, .d (.list (bytesD s))]
 | b => b.obj
theorem string_call (b : Bld) (hl : b.bytes.length ≤ 1000000000) : MCallE Tryz.prog 27 [.ptr (.x 0) 0] [b.obj] (.d (.str b.bytes)) [b.said] := by
 refine ⟨by kernel_rfl, fun G w vs hI hown hsr => ?_⟩
 have hv : vs = #[.pointer (some (at_ (G.b (.x 0)) 0))] := by
  have h1 := hsr.slot 0 (.ptr (.x 0) 0) rfl
  have h2 := hsr.size
  match vs, h2 with
  | ⟨[v]⟩, _ =>
   have h1 : AVR G w (.ptr (.x 0) 0) v := h1
   cases h1; rfl
 subst hv
 have hob : St.obj ⟨initA 0 [.ptr (.x 0) 0], [], numO 0 [b.obj]⟩ (.x 0) = some b.obj := rfl
 obtain ⟨a0, c1, hbo, hc1⟩ : ∃ a0 c1, b.obj = .cells [a0, c1] ∧ ((c1 = .ns ∧ b.bytes = [] ∧ b.said = b.obj) ∨ ∃ s, b = .has s ∧ c1 = .own (.c (.x 0) 1) 5 1 (bytesD s)) := by
  cases b with
  | new => exact ⟨_, _, rfl, .inl ⟨rfl, rfl, rfl⟩⟩
  | nul => exact ⟨_, _, rfl, .inl ⟨rfl, rfl, rfl⟩⟩
  | has s => exact ⟨_, _, rfl, .inr ⟨s, rfl, rfl⟩⟩
 have ho := hsr.obj _ _ hob
 rw [hbo] at ho
 obtain ⟨arr, el, g1, g2, g3⟩ := ho
 obtain ⟨p, v, rfl⟩ : ∃ p v, arr = #[p, v] := by
  match arr, g2 with
  | ⟨[p, v]⟩, _ => exact ⟨p, v, rfl⟩
 have hcell := (g3 1 c1 rfl).1
 have hcell : AVR G w c1 v := hcell
 rcases hc1 with ⟨rfl, hb0, hsd⟩ | ⟨s, rfl, rfl⟩
 ·cases hcell
  refine (bstr_nil _ p el w g1).mono fun e w' ⟨e1, e2⟩ => ?_
  subst e2
  obtain ⟨G', h5⟩ := one_final (hsr.drew) (x := .str b.bytes) (v := .string ⟨#[]⟩) (by rw [hb0]; exact .str []) hob
  exact ⟨_, _, G', _, ⟨rfl, rfl⟩, e1, rfl, by rw [hsd]; exact h5⟩
 ·cases hcell with
  | own _ _ _ _ _ hq hrd hsz =>
   have h1 := hsr.erase (.c (.x 0) 1)
   have hob1 : (St.erase ⟨initA 0 [.ptr (.x 0) 0], [], numO 0 [Bld.obj (.has s)]⟩ (.c (.x 0) 1)).obj (.x 0) = some (.cells [.ptr (.x 0) 0, .d (.list (bytesD s))]) := by
    rw [St.obj_erase, hob]
    simp [Bld.obj, eraseObj, amod, AV.erase]
   obtain ⟨k, xs, hown', hfb⟩ := hsr.lam _ _ _ _ hq
   have hk : k = s.length := by have := own_len hrd hown'; rwa [bytesD_length] at this
   subst hk
   rcases hown'.2 with ⟨rfl, h0⟩ | ⟨g, cap, cur, rfl, _, hg, hnc, hcm, hcs, htk⟩
   ·have hs0 : s = [] := by simpa using h0
    subst hs0
    refine (bstr_nil _ p el w g1).mono fun e w' ⟨e1, e2⟩ => ?_
    subst e2
    obtain ⟨G', h5⟩ := one_final (h1.drew) (x := .str []) (v := .string ⟨#[]⟩) (.str []) hob1
    exact ⟨_, _, G', _, ⟨rfl, rfl⟩, e1, rfl, h5⟩
   ·by_cases hs0 : s = []
    ·subst hs0
     by_cases hc0 : cap = 0
     ·subst hc0
      refine (bstr_noroom _ g p el cur w g1 hg).mono fun e w' ⟨e1, e2⟩ => ?_
      subst e2
      obtain ⟨G', h5⟩ := one_final ((h1.drew).alloc (.view ⟨g, 0, none⟩ 5) 0) (x := .str []) (v := .string ⟨#[]⟩) (.str []) hob1
      exact ⟨_, _, G', _, ⟨rfl, rfl⟩, e1, rfl, h5⟩
     ·refine (bstr_room _ g cap p el w hc0 g1).mono fun e w' ⟨e1, e2⟩ => ?_
      subst e2
      obtain ⟨G', h5⟩ := one_final (h1.drew) (x := .str []) (v := .string ⟨#[]⟩) (.str []) hob1
      exact ⟨_, _, G', _, ⟨rfl, rfl⟩, e1, rfl, h5⟩
    ·refine (bstr_row _ g cap p cur el s w g1 hs0 hg hnc hcm (by simpa using hcs) (fun j x hx => ?_)).mono fun e w' ⟨e1, e2⟩ => ?_
     ·have hlt : j < s.length := (List.getElem?_eq_some_iff.1 hx).1
      have hadd : (⟨g, 0, none⟩ : Addr).add j = at_ g j := add_zero_at g j
      rw [hadd]
      generalize hL : bytesD s = L at hrd
      have hLl : L.length = s.length := by rw [← hL, bytesD_length]
      have hLj : L[j]? = some (.int .u8 x.toNat) := by rw [← hL]; simp [bytesD, hx]
      generalize hvv : Value.slice (some ⟨g, 0, none⟩) s.length cap = vv at hrd
      cases hrd with
      | nils => cases hvv
      | emp a c => simp at hLj
      | list l b o cap' sz vs hcap hsz' hb' hc' hr' =>
       simp only [Value.slice.injEq, Option.some.injEq] at hvv
       obtain ⟨e0, _, _⟩ := hvv
       simp only [at_, Addr.mk.injEq] at e0
       obtain ⟨rfl, rfl, _⟩ := e0
       have hm := List.mem_of_getElem? hLj
       have hsz1 : sz = 1 := by have := (hsz' _ hm).1; simpa [D.cells] using this.symm
       subst hsz1
       have q1 := hc' j (by omega)
       have q2 := hr' j _ 0 _ hLj rfl
       rw [Nat.zero_add] at q1
       rw [q1]
       have e3 : j * 1 + 0 = j := by omega
       rw [e3] at q2
       cases hvs : vs j <;> rw [hvs] at q2 <;> cases q2
       rfl
     ·subst e2
      have hX := h1.drew.world' (w' := w.drew.freeze ⟨g, 0, none⟩ s.length) (f' := G.f) (fun b => b = g) (fun b hb => by
       subst hb
       refine ⟨fun r o hr e => ?_, fun q v' p' hq' hvb => ?_, ?_⟩
       ·have hr' : ∃ o', St.obj ⟨initA 0 [.ptr (.x 0) 0], [], numO 0 [Bld.obj (.has s)]⟩ r = some o' := by
         rw [St.obj_erase] at hr
         cases h0 : St.obj ⟨initA 0 [.ptr (.x 0) 0], [], numO 0 [Bld.obj (.has s)]⟩ r with
         | none => simp [h0] at hr
         | some o' => exact ⟨o', rfl⟩
        obtain ⟨o', hr'⟩ := hr'
        exact hsr.lamObj _ _ _ _ _ hq rfl r o' hr' e
       ·simp only [updf] at hq'
        split at hq'
        ·cases hq'
        ·rename_i hne
         exact hne (hsr.lamInj _ _ _ _ _ _ _ hq' hq hvb rfl)
       ·exact hsr.newLam _ _ _ _ _ hq rfl) (Ext.freeze (w := w.drew) hg) (fun b hb hne => ⟨heap_freeze_ne _ _ _ _ hne, rfl⟩) (fun b hb => h1.drew.top b (by rw [freeze_size] at hb; exact hb)) (freeze_rest _ _ _).1 (freeze_rest _ _ _).2.1 (freeze_rest _ _ _).2.2
      obtain ⟨G', h5⟩ := one_final hX (x := .str s) (v := .string ⟨s.toArray⟩) (.str s) hob1
      exact ⟨_, _, G', _, ⟨rfl, rfl⟩, e1, rfl, h5⟩
theorem indexByte_none {l : List UInt8} {c : UInt8} : Lib.indexByte l c = -1 ↔ c ∉ l := by
 induction l with
 | nil => simp [Lib.indexByte]
 | cons b l ih =>
  have hge := Lib.indexByte_ge l c
  simp only [Lib.indexByte, List.mem_cons, not_or]
  by_cases h : b = c
  ·simp [h]
  ·rw [if_neg (by simpa using h)]
   by_cases h2 : Lib.indexByte l c = -1
   ·rw [if_pos (by simpa using h2)]
    simp only [true_iff]
    exact ⟨fun e => h e.symm, ih.1 h2⟩
   ·rw [if_neg (by simpa using h2)]
    constructor
    ·intro e; omega
    ·intro e; exact absurd (ih.2 e.2) h2
theorem indexByte_mem {l : List UInt8} {c : UInt8} : (0 ≤ Lib.indexByte l c) ↔ c ∈ l := by
 have h := indexByte_none (l := l) (c := c)
 have hge := Lib.indexByte_ge l c
 constructor
 ·intro h1
  by_cases hc : c ∈ l
  ·exact hc
  ·have := h.2 hc; omega
 ·intro h1
  by_cases hc : Lib.indexByte l c = -1
  ·exact absurd h1 (h.1 hc)
  ·omega
def L_internal_stringslite_IndexByte : LCode :=
 .seq (.reg [Qx 4 (Ki 0)]) (.seq (.reg [Qc 5 0, Qc 6 1, ⟨some 7, .prim .call [.k (.fn (.func 128) [] []), .t 5, .t 6] [], none⟩, Qa 4 7]) .ret)
def R_internal_stringslite_IndexByte : List LRes := [.tmp 4]
theorem lift_internal_stringslite_IndexByte : Lifts Tryz.prog 114 8 L_internal_stringslite_IndexByte R_internal_stringslite_IndexByte := ⟨_, _, Tryz.func114, rfl, by kernel_rfl, by kernel_rfl, rfl⟩
theorem liteIndexByte_call (s : List UInt8) (c : UInt8) : PCall Tryz.prog 114 [.str s, .int .u8 c.toNat] (fun r => r = .one (.int .i64 (Lib.indexByte s c))) := by
 refine lift_internal_stringslite_IndexByte.call rfl ?_
 simp (maxSteps := 2000000) only [go_sem, ↓reduceIte, L_internal_stringslite_IndexByte, R_internal_stringslite_IndexByte]
 refine PrimG.entry Tryz.func128 (by kernel_rfl) (by kernel_rfl) (by kernel_rfl) (e := Extern.BytealgIndexByte.indexByte) (by kernel_rfl) (.d (.int .i64 (Lib.indexByte s c))) (fun G w vs hl hv => ?_) ?_
 ·match vs, hl with
  | [v, u], _ =>
   have h0 : AVR G w (.d (.str s)) v := hv 0 _ rfl
   have h1 : AVR G w (.d (.int .u8 c.toNat)) u := hv 1 _ rfl
   have h0 := h0.dinv
   have h1 := h1.dinv
   cases h0; cases h1
   refine ⟨_, Lib.run_indexByteString _ _ w, ?_⟩
   have e : (((c.toNat : Int).toNat).toUInt8) = c := by simp
   rw [e]
   exact .d _ _ (.int _ _)
 simp (maxSteps := 2000000) only [go_sem, ↓reduceIte]
def L_strings_IndexByte : LCode :=
 .seq (.reg [Qx 4 (Ki 0)]) (.seq (.reg [Qc 5 0, Qc 6 1, ⟨some 7, .call 114 [.t 5, .t 6], none⟩, Qa 4 7]) .ret)
def R_strings_IndexByte : List LRes := [.tmp 4]
theorem lift_strings_IndexByte : Lifts Tryz.prog 101 8 L_strings_IndexByte R_strings_IndexByte := ⟨_, _, Tryz.func101, rfl, by kernel_rfl, by kernel_rfl, rfl⟩
theorem indexByte_call (s : List UInt8) (c : UInt8) : PCall Tryz.prog 101 [.str s, .int .u8 c.toNat] (fun r => r = .one (.int .i64 (Lib.indexByte s c))) := by
 refine lift_strings_IndexByte.call rfl ?_
 simp (maxSteps := 2000000) only [go_sem, ↓reduceIte, L_strings_IndexByte, R_strings_IndexByte]
 refine CallG.of (liteIndexByte_call s c) ?_
 simp (maxSteps := 2000000) only [go_sem, ↓reduceIte]
def L_strings_IndexRune : LCode :=
 .seq (.reg [Qx 4 (Ki 0)]) (.block 0 (.seq (.reg [Qc 161 1, Q 162 (.bin .leq (.k (.d (.int .i32 0))) (.t 161)), Qc 163 162, Qd 164 1 163 true, Qg 165 (.bin .lss (.t 164) (.k (.d 
 (.int .i32 128)))) 163 true, Q 166 (.pick (.t 163) (.t 165) KF), Qa 160 166]) (.cond (.t 160) (.seq (.reg [Qc 167 0, Qc 168 1, Q 169 (.cvI .u8 (.t 168)), ⟨some 170, .call 101 [.t 
 167, .t 169], none⟩, Qa 4 170]) .ret) (.seq (.reg [Qc 172 1, Q 173 (.bin .eql (.t 172) (.k (.d (.int .i32 65533)))), Qa 171 173]) (.cond (.t 171) (.seq (.seq (.reg [Qc 174 0, 
 ⟨some 175, .prim (.range 9) [.t 174] [], none⟩]) (.block 9 (.loop (.seq (.reg [⟨some 176, .prim (.next true 0) [.t 175] [], none⟩, Q 177 (.ext 0 (.t 176))]) (.seq (.cond (.t 177) 
 .skip (.exit 9)) (.block 10 (.seq (.reg [Q 178 (.ext 1 (.t 176)), Q 179 (.ext 2 (.t 176)), Qa 5 178, Qa 6 179]) (.seq (.reg [Qc 180 6, Q 181 (.bin .eql (.t 180) (.k (.d (.int 
 .i32 65533))))]) (.cond (.t 181) (.seq (.reg [Qc 182 5, Qa 4 182]) .ret) .skip))))))))) (.seq (.reg [Qx 4 (Ki (-1))]) .ret)) (.seq (.reg [Qc 184 1, ⟨some 185, .call 121 [.t 184], 
 none⟩, Q 186 (.not (.t 185)), Qa 183 186]) (.cond (.t 183) (.seq (.reg [Qx 4 (Ki (-1))]) .ret) .bad)))))))
def R_strings_IndexRune : List LRes := [.tmp 4]
theorem lift_strings_IndexRune : Lifts Tryz.prog 110 187 L_strings_IndexRune R_strings_IndexRune := ⟨_, _, Tryz.func110, rfl, by kernel_rfl, by kernel_rfl, rfl⟩
theorem indexRune_call (s : List UInt8) (c : UInt8) (hc : c.toNat < 128) : PCall Tryz.prog 110 [.str s, .int .i32 c.toNat] (fun r => r = .one (.int .i64 (Lib.indexByte s c))) := by
 refine lift_strings_IndexRune.call rfl ?_
 simp (maxSteps := 2000000) only [go_sem, ↓reduceIte, L_strings_IndexRune, R_strings_IndexRune]
 refine ⟨fun _ => ⟨fun _ => ?_, fun h => ?_⟩, fun h => ?_⟩
 ·simp (disch := omega) only [IntWalk.i64_in, IntWalk.u8_in]
  refine CallG.of (indexByte_call s c) ?_
  simp (maxSteps := 2000000) only [go_sem, ↓reduceIte]
 ·exfalso; omega
 ·exfalso; omega
def L_strings_ContainsRune : LCode :=
 .seq (.reg [Qx 4 KF]) (.seq (.reg [Qc 5 0, Qc 6 1, ⟨some 7, .call 110 [.t 5, .t 6], none⟩, Q 8 (.bin .geq (.t 7) (Ki 0)), Qa 4 8]) .ret)
def R_strings_ContainsRune : List LRes := [.tmp 4]
theorem lift_strings_ContainsRune : Lifts Tryz.prog 94 9 L_strings_ContainsRune R_strings_ContainsRune := ⟨_, _, Tryz.func94, rfl, by kernel_rfl, by kernel_rfl, rfl⟩
theorem containsRune_call (s : List UInt8) (c : UInt8) (hc : c.toNat < 128) : PCall Tryz.prog 94 [.str s, .int .i32 c.toNat] (fun r => r = .one (.bool (decide (c ∈ s)))) := by
 refine lift_strings_ContainsRune.call rfl ?_
 simp (maxSteps := 2000000) only [go_sem, ↓reduceIte, L_strings_ContainsRune, R_strings_ContainsRune]
 refine CallG.of (indexRune_call s c hc) ?_
 simp (maxSteps := 2000000) only [go_sem, ↓reduceIte]
 congr 2
 simp only [indexByte_mem]
def nameMay (s : List UInt8) : Bool := decide (s ≠ []) && (decide (s.length ≤ 200) && !decide ((0 : UInt8) ∈ s))
def L_value_NameMay : LCode :=
 .seq (.reg [Qx 2 KF]) (.seq (.reg [Qc 3 0, Q 4 (.bin .neq (.t 3) (.k (.d (.str [])))), Qc 5 4, Qd 6 0 5 true, Qg 7 (.len true (.t 6)) 5 true, Qg 8 (.bin .leq (.t 7) (Ki 200)) 5 
 true, Q 9 (.pick (.t 5) (.t 8) KF), Qc 10 9, Qd 11 0 10 true, ⟨some 12, .call 94 [.t 11, .k (.d (.int .i32 0))], some (10, true)⟩, Qg 13 (.not (.t 12)) 10 true, Q 14 (.pick (.t 
 10) (.t 13) KF), Qa 2 14]) .ret)
def R_value_NameMay : List LRes := [.tmp 2]
theorem lift_value_NameMay : Lifts Tryz.prog 77 15 L_value_NameMay R_value_NameMay := ⟨_, _, Tryz.func77, rfl, by kernel_rfl, by kernel_rfl, rfl⟩
theorem nameMay_call (s : List UInt8) : PCall Tryz.prog 77 [.str s] (fun r => r = .one (.bool (nameMay s))) := by
 refine lift_value_NameMay.call rfl ?_
 simp (maxSteps := 2000000) only [go_sem, ↓reduceIte, L_value_NameMay, R_value_NameMay]
 refine ⟨fun h1 => ⟨fun h2 => ?_, fun h2 => ?_⟩, fun h1 => ?_⟩
 ·refine CallG.of (containsRune_call s 0 (by decide)) ?_
  simp (maxSteps := 2000000) only [go_sem, ↓reduceIte]
  have h3 : s.length ≤ 200 := by omega
  simp [nameMay, h1, h3]
 ·have h3 : ¬ s.length ≤ 200 := by omega
  simp [nameMay, h3]
 ·simp [nameMay, h1]
def L_foliowrightref_NameMay : LCode :=
 .seq (.reg [Qx 2 KF]) (.seq (.seq (.reg [Qc 4 0, Q 5 (.len true (.t 4)), Q 6 (.bin .lss (.t 5) (Ki 1)), Qc 7 6, Qd 8 0 7 false, Qg 9 (.len true (.t 8)) 7 false, Qg 10 (.bin .gtr 
 (.t 9) (Ki 200)) 7 false, Q 11 (.pick (.t 7) KT (.t 10))]) (.cond (.t 11) (.seq (.reg [Qx 2 KF]) .ret) .skip)) (.seq (.seq (.reg [Qx 3 (Ki 0)]) (.block 0 (.loop (.seq (.seq (.reg 
 [Qc 12 3, Qc 13 0, Q 14 (.len true (.t 13)), Q 15 (.bin .lss (.t 12) (.t 14))]) (.cond (.t 15) .skip (.exit 0))) (.seq (.block 1 (.seq (.reg [Qc 18 0, Qc 19 3, Q 20 (.idxS (.t 
 18) (.t 19)), Q 21 (.bin .eql (.t 20) (Kb 0))]) (.cond (.t 21) (.seq (.reg [Qx 2 KF]) .ret) .skip))) (.reg [Qc 16 3, Q 17 (.bin .add (.t 16) (Ki 1)), Qa 3 17])))))) (.seq (.reg 
 [Qx 2 KT]) .ret)))
def R_foliowrightref_NameMay : List LRes := [.tmp 2]
theorem lift_foliowrightref_NameMay : Lifts Tryz.prog 74 22 L_foliowrightref_NameMay R_foliowrightref_NameMay := ⟨_, _, Tryz.func74, rfl, by kernel_rfl, by kernel_rfl, rfl⟩
theorem refNameMay_call (s : List UInt8) : PCall Tryz.prog 74 [.str s] (fun r => r = .one (.bool (nameMay s))) := by
 refine lift_foliowrightref_NameMay.call rfl ?_
 simp (maxSteps := 2000000) only [go_sem, ↓reduceIte, L_foliowrightref_NameMay, R_foliowrightref_NameMay]
 refine ⟨fun h1 => ⟨fun h2 => ?_, fun h2 => ?_⟩, fun h1 => ?_⟩
 ·have h3 : ¬ s.length ≤ 200 := by omega
  simp [nameMay, h3]
 ·have hne : s ≠ [] := fun e => by rw [e] at h1; simp at h1
  have h3 : s.length ≤ 200 := by omega
  refine run_loop (fun i : Nat => ⟨[(0, .d (.str s)), (3, .d (.int .i64 i))], [], []⟩) (fun i => i ≤ s.length ∧ (0 : UInt8) ∉ s.take i) (fun i => s.length - i) 0 ?_ ?_ ?_
  ·refine weak_mk ?_ trivial
   simp (maxSteps := 2000000) only [go_sem, ↓reduceIte, Sub, Int.natCast_add, Int.natCast_mul]
  ·simp
  ·rintro i ⟨hi, hn⟩
   simp (maxSteps := 2000000) only [go_sem, ↓reduceIte]
   refine ⟨fun hlt => ?_, fun hge => ?_⟩
   ·obtain ⟨c, hc⟩ := get_some (l := s) (i := i) (by omega)
    have hc8 := u8_lt c
    rw [getI_nat, hc]
    simp (maxSteps := 2000000) (disch := omega) only [go_sem, ↓reduceIte]
    have hmem : s.take (i + 1) = s.take i ++ [c] := by rw [List.take_add_one, hc]; rfl
    refine ⟨fun h0 => ?_, fun h0 => ⟨i + 1, ?_, ⟨by omega, ?_⟩, by omega⟩⟩
    ·have hc0 : c = 0 := UInt8.toNat_inj.1 (by have : (0 : UInt8).toNat = 0 := rfl; omega)
     have : (0 : UInt8) ∈ s := by rw [← hc0]; exact List.mem_of_getElem? hc
     simp [nameMay, this]
    ·refine weak_mk ?_ trivial
     simp (maxSteps := 2000000) only [go_sem, ↓reduceIte, Sub, Int.natCast_add, Int.natCast_mul]
    ·rw [hmem]
     simp only [List.mem_append, List.mem_singleton, not_or]
     exact ⟨hn, fun e => h0 (by rw [← e]; rfl)⟩
   ·have : s.take i = s := List.take_of_length_le (by omega)
    rw [this] at hn
    simp [nameMay, hne, h3, hn]
 ·have : s = [] := by cases s <;> simp_all <;> omega
  simp [nameMay, this]
theorem drop_at {α : Type} {l : List α} {i : Nat} {x : α} (h : l[i]? = some x) : l.drop i = x :: l.drop (i + 1) := by
 obtain ⟨hl, rfl⟩ := List.getElem?_eq_some_iff.1 h
 exact List.drop_eq_getElem_cons hl
mutual
inductive Val where
 | mk (kind n : Int) (s : List UInt8) (l : List Val) (f : List Fld)
inductive Fld where
 | mk (name : List UInt8) (v : Val)
end
def Val.kind : Val → Int
 | .mk k _ _ _ _ => k
def Val.n : Val → Int
 | .mk _ n _ _ _ => n
def Val.s : Val → List UInt8
 | .mk _ _ s _ _ => s
def Val.l : Val → List Val
 | .mk _ _ _ l _ => l
def Val.f : Val → List Fld
 | .mk _ _ _ _ f => f
def Fld.name : Fld → List UInt8
 | .mk n _ => n
def Fld.v : Fld → Val
 | .mk _ v => v
mutual
def Val.d : Val → D
 | .mk k n s l f => .agg [.int .i64 k, .int .i64 n, .str s, .list (valsD l), .list (fldsD f)]
def valsD : List Val → List D
 | [] => []
 | v :: r => v.d :: valsD r
def Fld.d : Fld → D
 | .mk nm v => .agg (.str nm :: v.d.cells)
def fldsD : List Fld → List D
 | [] => []
 | x :: r => x.d :: fldsD r
end
theorem valsD_eq (l : List Val) : valsD l = l.map Val.d := by induction l with | nil => rfl | cons v r ih => simp [valsD, ih]
theorem fldsD_eq (l : List Fld) : fldsD l = l.map Fld.d := by induction l with | nil => rfl | cons v r ih => simp [fldsD, ih]
theorem valsD_length (l : List Val) : (valsD l).length = l.length := by simp [valsD_eq]
theorem fldsD_length (l : List Fld) : (fldsD l).length = l.length := by simp [fldsD_eq]
theorem valsD_get (l : List Val) (i : Nat) : (valsD l)[i]? = (l[i]?).map Val.d := by simp [valsD_eq]
theorem fldsD_get (l : List Fld) (i : Nat) : (fldsD l)[i]? = (l[i]?).map Fld.d := by simp [fldsD_eq]
theorem Val.d_eq (v : Val) : v.d = .agg [.int .i64 v.kind, .int .i64 v.n, .str v.s, .list (valsD v.l), .list (fldsD v.f)] := by cases v; simp [Val.d, Val.kind, Val.n, Val.s, Val.l, Val.f]
theorem Fld.d_eq (x : Fld) : x.d = .agg [.str x.name, .int .i64 x.v.kind, .int .i64 x.v.n, .str x.v.s, .list (valsD x.v.l), .list (fldsD x.v.f)] := by cases x; simp [Fld.d, Fld.name, Fld.v, Val.d_eq, D.cells]
theorem size_l {v x : Val} (h : x ∈ v.l) : SizeOf.sizeOf x < SizeOf.sizeOf v := by
 cases v with
 | mk k n s l f =>
  have := List.sizeOf_lt_of_mem h
  simp only [Val.l] at this
  simp only [Val.mk.sizeOf_spec]
  omega
theorem size_f {v : Val} {x : Fld} (h : x ∈ v.f) : SizeOf.sizeOf x.v < SizeOf.sizeOf v := by
 cases v with
 | mk k n s l f =>
  have := List.sizeOf_lt_of_mem h
  simp only [Val.f] at this
  have h2 : SizeOf.sizeOf x.v < SizeOf.sizeOf x := by cases x; simp only [Fld.v, Fld.mk.sizeOf_spec]; omega
  simp only [Val.mk.sizeOf_spec]
  omega
mutual
def Val.sm (m : Nat) : Val → Bool
 | .mk _ _ s l f => decide (s.length ≤ m) && (decide (l.length ≤ m) && (decide (f.length ≤ m) && (smL m l && smF m f)))
def smL (m : Nat) : List Val → Bool
 | [] => true
 | v :: r => v.sm m && smL m r
def Fld.sm (m : Nat) : Fld → Bool
 | .mk nm v => decide (nm.length ≤ m) && v.sm m
def smF (m : Nat) : List Fld → Bool
 | [] => true
 | x :: r => x.sm m && smF m r
end
theorem smL_iff {m : Nat} {l : List Val} : smL m l = true ↔ ∀ x ∈ l, x.sm m = true := by induction l with | nil => simp [smL] | cons v r ih => simp [smL, ih]
theorem smF_iff {m : Nat} {l : List Fld} : smF m l = true ↔ ∀ x ∈ l, x.sm m = true := by induction l with | nil => simp [smF] | cons v r ih => simp [smF, ih]
theorem Val.sm_iff {m : Nat} {v : Val} : v.sm m = true ↔ v.s.length ≤ m ∧ v.l.length ≤ m ∧ v.f.length ≤ m ∧ (∀ x ∈ v.l, x.sm m = true) ∧ ∀ x ∈ v.f, x.sm m = true := by
 cases v; simp [Val.sm, smL_iff, smF_iff, Val.s, Val.l, Val.f]
theorem Fld.sm_iff {m : Nat} {x : Fld} : x.sm m = true ↔ x.name.length ≤ m ∧ x.v.sm m = true := by
 cases x; simp [Fld.sm, Fld.name, Fld.v]
/-! ### How great -/
mutual
def szV (deep : Nat) : Val → Int → Bool × Int
 | .mk _ _ _ l f, left =>
  if 8 < deep then (false, left - 1)
  else if left - 1 < 0 then (false, left - 1)
  else match szL (deep + 1) l (left - 1) with
   | (false, r) => (false, r)
   | (true, r) => szF (deep + 1) f r
def szL (deep : Nat) : List Val → Int → Bool × Int
 | [], left => (true, left)
 | v :: r, left => match szV deep v left with
  | (false, q) => (false, q)
  | (true, q) => szL deep r q
def szF (deep : Nat) : List Fld → Int → Bool × Int
 | [], left => (true, left)
 | .mk _ v :: r, left => match szV deep v left with
  | (false, q) => (false, q)
  | (true, q) => szF deep r q
end
mutual
theorem szV_bd (deep : Nat) : ∀ (v : Val) (left : Int), 0 ≤ left → -1 ≤ (szV deep v left).2 ∧ (szV deep v left).2 ≤ left ∧ ((szV deep v left).1 = true → 0 ≤ (szV deep v left).2)
 | .mk k n s l f, left, h => by
  unfold szV
  split
  ·simp; omega
  ·split
   ·simp; omega
   ·have h1 := szL_bd (deep + 1) l (left - 1) (by omega)
    split
    ·rename_i r hr; rw [hr] at h1; simp at h1 ⊢; omega
    ·rename_i r hr
     rw [hr] at h1
     simp at h1
     have h2 := szF_bd (deep + 1) f r h1.2.2
     refine ⟨h2.1, by omega, h2.2.2⟩
theorem szL_bd (deep : Nat) : ∀ (l : List Val) (left : Int), 0 ≤ left → -1 ≤ (szL deep l left).2 ∧ (szL deep l left).2 ≤ left ∧ ((szL deep l left).1 = true → 0 ≤ (szL deep l left).2)
 | [], left, h => by simp [szL]; omega
 | v :: r, left, h => by
  have h1 := szV_bd deep v left h
  unfold szL
  split
  ·rename_i q hq; rw [hq] at h1; simp at h1 ⊢; omega
  ·rename_i q hq
   rw [hq] at h1
   simp at h1
   have h2 := szL_bd deep r q h1.2.2
   exact ⟨h2.1, by omega, h2.2.2⟩
theorem szF_bd (deep : Nat) : ∀ (l : List Fld) (left : Int), 0 ≤ left → -1 ≤ (szF deep l left).2 ∧ (szF deep l left).2 ≤ left ∧ ((szF deep l left).1 = true → 0 ≤ (szF deep l left).2)
 | [], left, h => by simp [szF]; omega
 | .mk nm v :: r, left, h => by
  have h1 := szV_bd deep v left h
  unfold szF
  split
  ·rename_i q hq; rw [hq] at h1; simp at h1 ⊢; omega
  ·rename_i q hq
   rw [hq] at h1
   simp at h1
   have h2 := szF_bd deep r q h1.2.2
   exact ⟨h2.1, by omega, h2.2.2⟩
end
theorem szV_eq (deep : Nat) (v : Val) (left : Int) : szV deep v left = if 8 < deep then (false, left - 1) else if left - 1 < 0 then (false, left - 1) else
  match szL (deep + 1) v.l (left - 1) with
   | (false, r) => (false, r)
   | (true, r) => szF (deep + 1) v.f r := by
 cases v; simp only [szV, Val.l, Val.f]
def L_value_size : LCode :=
 .seq (.reg [⟨some 3, .box (.t 0), none⟩, Qx 6 KF]) (.seq (.reg [Qc 11 2, Q 12 (.nck (.t 11)), Q 13 (.ld false 1 (.t 12)), Q 14 (.bin .sub (.t 13) (Ki 1)), Q 15 (.nck (.t 11)), 
 ⟨none, .st 1 (.t 15) (.t 14), none⟩]) (.seq (.seq (.reg [Qc 16 1, Q 17 (.bin .gtr (.t 16) (Ki 8)), Qc 18 17, Qd 19 2 18 false, Qg 20 (.nck (.t 19)) 18 false, Qg 21 (.ld false 1 
 (.t 20)) 18 false, Qg 22 (.bin .lss (.t 21) (Ki 0)) 18 false, Q 23 (.pick (.t 18) KT (.t 22))]) (.cond (.t 23) (.seq (.reg [Qx 6 KF]) .ret) .skip)) (.seq (.seq (.reg [Q 24 (.fa 3 
 (.t 3)), Q 25 (.ld false 1 (.t 24)), Q 26 (.len false (.t 25)), Q 27 (.cp (Ki 0))]) (.block 0 (.loop (.seq (.reg [Q 28 (.bin .lss (.t 27) (.t 26))]) (.seq (.cond (.t 28) .skip 
 (.exit 0)) (.seq (.block 1 (.seq (.reg [Q 29 (.ia 5 (.t 25) (.t 27)), Q 30 (.ld true 5 (.t 29)), ⟨some 8, .allo [.int .i64 0, .int .i64 0, .str [], .list [], .list []], none⟩, 
 ⟨none, .st 5 (.t 8) (.t 30), none⟩]) (.seq (.reg [Q 31 (.ld true 5 (.t 8)), Qc 32 1, Q 33 (.bin .add (.t 32) (Ki 1)), Qc 34 2, ⟨some 35, .prim .call [.k (.fn (.func 50) [] []), 
 .t 31, .t 33, .t 34] [], none⟩, Q 36 (.not (.t 35))]) (.cond (.t 36) (.seq (.reg [Qx 6 KF]) .ret) .skip)))) (.reg [Q 37 (.bin .add (.t 27) (Ki 1)), Qc 27 37]))))))) (.seq (.seq 
 (.reg [Q 38 (.fa 4 (.t 3)), Q 39 (.ld false 1 (.t 38)), Q 40 (.len false (.t 39)), Q 41 (.cp (Ki 0))]) (.block 2 (.loop (.seq (.reg [Q 42 (.bin .lss (.t 41) (.t 40))]) (.seq 
 (.cond (.t 42) .skip (.exit 2)) (.seq (.block 3 (.seq (.reg [Q 43 (.ia 6 (.t 39) (.t 41)), Q 44 (.ld true 6 (.t 43)), ⟨some 10, .allo [.str [], .int .i64 0, .int .i64 0, .str [], 
 .list [], .list []], none⟩, ⟨none, .st 6 (.t 10) (.t 44), none⟩]) (.seq (.reg [Q 45 (.fa 1 (.t 10)), Q 46 (.ld true 5 (.t 45)), Qc 47 1, Q 48 (.bin .add (.t 47) (Ki 1)), Qc 49 2, 
 ⟨some 50, .prim .call [.k (.fn (.func 50) [] []), .t 46, .t 48, .t 49] [], none⟩, Q 51 (.not (.t 50))]) (.cond (.t 51) (.seq (.reg [Qx 6 KF]) .ret) .skip)))) (.reg [Q 52 (.bin 
 .add (.t 41) (Ki 1)), Qc 41 52]))))))) (.seq (.reg [Qx 6 KT]) .ret)))))
def R_value_size : List LRes := [.tmp 6]
theorem lift_value_size : Lifts Tryz.prog 50 53 L_value_size R_value_size := ⟨_, _, Tryz.func50, rfl, by kernel_rfl, by kernel_rfl, rfl⟩
theorem size_call : ∀ (m : Nat) (v : Val), SizeOf.sizeOf v ≤ m → ∀ (deep : Nat) (left : Int), 1 ≤ deep → deep ≤ 9 → 0 ≤ left → left ≤ 300 → v.sm 1048576 = true →
  MCallE Tryz.prog 50 [.d v.d, .d (.int .i64 deep), .ptr (.x 0) 0] [.cells [.d (.int .i64 left)]] (.d (.bool (szV deep v left).1)) [.cells [.d (.int .i64 (szV deep v left).2)]] := by
 intro m
 induction m with
 | zero => intro v h; cases v; simp at h
 | succ m ih =>
  intro v hv deep left hd1 hd2 hl1 hl2 hsm
  obtain ⟨_, hll, hfl, hsl, hsf⟩ := Val.sm_iff.1 hsm
  have hvl := valsD_length v.l
  have hfl' := fldsD_length v.f
  generalize hR : szV deep v left = R
  rw [szV_eq] at hR
  rw [Val.d_eq]
  refine lift_value_size.mcall (by kernel_rfl) rfl ?_
  simp (maxSteps := 2000000) (disch := omega) only [go_sem, ↓reduceIte, L_value_size, R_value_size]
  refine ⟨fun h8 => ⟨fun h0 => ?_, fun h0 => ?_⟩, fun h8 => ?_⟩
  ·rw [if_neg (by omega), if_pos (by omega)] at hR
   subst hR
   exact ⟨rfl, rfl⟩
  ·rw [if_neg (by omega), if_neg (by omega)] at hR
   refine run_loop (fun y : Nat × Int => ⟨[(1, .d (.int .i64 deep)), (2, .ptr (.x 0) 0), (3, .ptr (.l 3) 0), (25, .d (.list (valsD v.l))), (26, .d (.int .i64 (valsD v.l).length)), (27, .d (.int .i64 y.1))],
     [(3, .cells [.d (.int .i64 v.kind), .d (.int .i64 v.n), .d (.str v.s), .d (.list (valsD v.l)), .d (.list (fldsD v.f))])], [(0, .cells [.d (.int .i64 y.2)])]⟩)
    (fun y => y.1 ≤ v.l.length ∧ 0 ≤ y.2 ∧ y.2 ≤ 300 ∧ (match szL (deep + 1) (v.l.drop y.1) y.2 with
     | (false, r) => (false, r)
     | (true, r) => szF (deep + 1) v.f r) = R) (fun y => v.l.length - y.1) (0, left - 1) ?_ ?_ ?_
   ·refine Weak.mk ?_ ?_ ?_ <;> simp (maxSteps := 2000000) only [go_sem, ↓reduceIte, Sub, Int.natCast_add, Int.natCast_mul]
   ·exact ⟨by simp, by simp only; omega, by simp only; omega, by simpa using hR⟩
   ·rintro ⟨i, q⟩ ⟨hi, hq1, hq2, hF⟩
    simp only at hi hq1 hq2 hF
    simp (maxSteps := 2000000) only [go_sem, ↓reduceIte, hvl]
    refine ⟨fun hlt => ?_, fun hge => ?_⟩
    ·obtain ⟨x, hx⟩ := get_some (l := v.l) (i := i) (by omega)
     rw [drop_at hx] at hF
     have hc := ih x (by have := size_l (List.mem_of_getElem? hx); omega) (deep + 1) q (by omega) (by omega) hq1 hq2 (hsl x (List.mem_of_getElem? hx))
     have hbd := szV_bd (deep + 1) x q hq1
     unfold szL at hF
     rw [Val.d_eq] at hc
     generalize hS : szV (deep + 1) x q = S at hc hbd hF
     obtain ⟨sb, sq⟩ := S
     simp only [Int.natCast_add, Int.natCast_one] at hc
     simp (maxSteps := 2000000) (disch := omega) only [go_sem, ↓reduceIte, getI_nat, valsD_get, hx, Val.d_eq]
     refine PrimG.mc1 (.x 0) rfl (hc) rfl rfl rfl rfl ⟨rfl, rfl⟩ ?_
     cases sb
     ·simp only at hF
      subst hF
      simp (maxSteps := 2000000) only [go_sem, ↓reduceIte]
     ·simp only at hF hbd
      simp (maxSteps := 2000000) (disch := omega) only [go_sem, ↓reduceIte]
      refine ⟨(i + 1, sq), ?_, ⟨by simp only; omega, by simp only; exact hbd.2.2 trivial, by simp only; omega, hF⟩, by simp only; omega⟩
      refine Weak.mk ?_ ?_ ?_ <;> simp (maxSteps := 2000000) only [go_sem, ↓reduceIte, Sub, Int.natCast_add, Int.natCast_mul, hvl]
    ·have h0' : v.l.drop i = [] := List.drop_eq_nil_of_le (by omega)
     rw [h0'] at hF
     simp only [szL] at hF
     refine run_loop (fun y : Nat × Int => ⟨[(1, .d (.int .i64 deep)), (2, .ptr (.x 0) 0), (3, .ptr (.l 3) 0), (39, .d (.list (fldsD v.f))), (40, .d (.int .i64 (fldsD v.f).length)), (41, .d (.int .i64 y.1))],
       [(3, .cells [.d (.int .i64 v.kind), .d (.int .i64 v.n), .d (.str v.s), .d (.list (valsD v.l)), .d (.list (fldsD v.f))])], [(0, .cells [.d (.int .i64 y.2)])]⟩)
      (fun y => y.1 ≤ v.f.length ∧ 0 ≤ y.2 ∧ y.2 ≤ 300 ∧ szF (deep + 1) (v.f.drop y.1) y.2 = R) (fun y => v.f.length - y.1) (0, q) ?_ ?_ ?_
     ·refine Weak.mk ?_ ?_ ?_ <;> simp (maxSteps := 2000000) only [go_sem, ↓reduceIte, Sub, Int.natCast_add, Int.natCast_mul]
     ·exact ⟨by simp, hq1, hq2, by simpa using hF⟩
     ·rintro ⟨j, q'⟩ ⟨hj, hr1, hr2, hG⟩
      simp only at hj hr1 hr2 hG
      simp (maxSteps := 2000000) only [go_sem, ↓reduceIte, hfl']
      refine ⟨fun hlt => ?_, fun hge => ?_⟩
      ·obtain ⟨x, hx⟩ := get_some (l := v.f) (i := j) (by omega)
       rw [drop_at hx] at hG
       have hc := ih x.v (by have := size_f (List.mem_of_getElem? hx); omega) (deep + 1) q' (by omega) (by omega) hr1 hr2 (Fld.sm_iff.1 (hsf x (List.mem_of_getElem? hx))).2
       have hbd := szV_bd (deep + 1) x.v q' hr1
       have hG' : (match szV (deep + 1) x.v q' with
         | (false, q) => (false, q)
         | (true, q) => szF (deep + 1) (v.f.drop (j + 1)) q) = R := by
        rw [← hG]; cases x; simp only [szF, Fld.v]
       rw [Val.d_eq] at hc
       generalize hS : szV (deep + 1) x.v q' = S at hc hbd hG'
       obtain ⟨sb, sq⟩ := S
       simp only [Int.natCast_add, Int.natCast_one] at hc
       simp (maxSteps := 2000000) (disch := omega) only [go_sem, ↓reduceIte, getI_nat, fldsD_get, hx, Fld.d_eq]
       refine PrimG.mc1 (.x 0) rfl (hc) rfl rfl rfl rfl ⟨rfl, rfl⟩ ?_
       cases sb
       ·simp only at hG'
        subst hG'
        simp (maxSteps := 2000000) only [go_sem, ↓reduceIte]
       ·simp only at hG' hbd
        simp (maxSteps := 2000000) (disch := omega) only [go_sem, ↓reduceIte]
        refine ⟨(j + 1, sq), ?_, ⟨by simp only; omega, by simp only; exact hbd.2.2 trivial, by simp only; omega, hG'⟩, by simp only; omega⟩
        refine Weak.mk ?_ ?_ ?_ <;> simp (maxSteps := 2000000) only [go_sem, ↓reduceIte, Sub, Int.natCast_add, Int.natCast_mul, hfl']
      ·have h0' : v.f.drop j = [] := List.drop_eq_nil_of_le (by omega)
       rw [h0'] at hG
       simp only [szF] at hG
       subst hG
       simp (maxSteps := 2000000) only [go_sem, ↓reduceIte]
  ·rw [if_pos (by omega)] at hR
   subst hR
   exact ⟨rfl, rfl⟩
def opCh (first : Bool) (c : UInt8) : Bool :=
 (decide (97 ≤ c.toNat) && decide (c.toNat ≤ 122)) || ((decide (65 ≤ c.toNat) && decide (c.toNat ≤ 90)) || (decide (c.toNat = 42) || (decide (c.toNat = 39) || (decide (c.toNat = 34) || (!first && (decide (48 ≤ c.toNat) && decide (c.toNat ≤ 57)))))))
def opL : List UInt8 → Bool → Bool
 | [], _ => true
 | c :: r, b => opCh b c && opL r false
def opMay (w : List UInt8) : Bool := decide (w ≠ []) && (decide (w.length ≤ 8) && (decide (w ≠ [116, 114, 117, 101]) && (decide (w ≠ [102, 97, 108, 115, 101]) && (decide (w ≠ [110, 117, 108, 108]) && opL w true))))
def L_ops_operator : LCode :=
 .seq (.reg [Qx 2 KF]) (.seq (.seq (.reg [Qc 5 0, Q 6 (.bin .eql (.t 5) (.k (.d (.str [])))), Qc 7 6, Qd 8 0 7 false, Qg 9 (.len true (.t 8)) 7 false, Qg 10 (.bin .gtr (.t 9) (Ki 
 8)) 7 false, Q 11 (.pick (.t 7) KT (.t 10)), Qc 12 11, Qd 13 0 12 false, Qg 14 (.bin .eql (.t 13) (.k (.d (.str [116, 114, 117, 101])))) 12 false, Q 15 (.pick (.t 12) KT (.t 
 14)), Qc 16 15, Qd 17 0 16 false, Qg 18 (.bin .eql (.t 17) (.k (.d (.str [102, 97, 108, 115, 101])))) 16 false, Q 19 (.pick (.t 16) KT (.t 18)), Qc 20 19, Qd 21 0 20 false, Qg 22 
 (.bin .eql (.t 21) (.k (.d (.str [110, 117, 108, 108])))) 20 false, Q 23 (.pick (.t 20) KT (.t 22))]) (.cond (.t 23) (.seq (.reg [Qx 2 KF]) .ret) .skip)) (.seq (.seq (.reg [Qc 24 
 0, Q 25 (.len true (.t 24)), Q 26 (.cp (Ki 0))]) (.block 0 (.loop (.seq (.reg [Q 27 (.bin .lss (.t 26) (.t 25))]) (.seq (.cond (.t 27) .skip (.exit 0)) (.seq (.block 1 (.seq 
 (.reg [Qc 28 26, Qa 3 28]) (.seq (.reg [Qc 29 0, Qc 30 3, Q 31 (.idxS (.t 29) (.t 30)), Qa 4 31]) (.seq (.reg [Qc 32 4, Q 33 (.bin .lss (.t 32) (Kb 97)), Qc 34 33, Qd 35 4 34 
 false, Qg 36 (.bin .gtr (.t 35) (Kb 122)) 34 false, Q 37 (.pick (.t 34) KT (.t 36)), Qc 38 37, Qd 39 4 38 true, Qg 40 (.bin .lss (.t 39) (Kb 65)) 38 true, Qd 41 40 38 true, Qd 42 
 4 41 false, Qg 43 (.bin .gtr (.t 42) (Kb 90)) 41 false, Qg 44 (.pick (.t 41) KT (.t 43)) 38 true, Q 45 (.pick (.t 38) (.t 44) KF), Qc 46 45, Qd 47 4 46 true, Qg 48 (.bin .neq (.t 
 47) (Kb 42)) 46 true, Q 49 (.pick (.t 46) (.t 48) KF), Qc 50 49, Qd 51 4 50 true, Qg 52 (.bin .neq (.t 51) (Kb 39)) 50 true, Q 53 (.pick (.t 50) (.t 52) KF), Qc 54 53, Qd 55 4 54 
 true, Qg 56 (.bin .neq (.t 55) (Kb 34)) 54 true, Q 57 (.pick (.t 54) (.t 56) KF), Qc 58 57, Qd 59 3 58 true, Qg 60 (.bin .eql (.t 59) (Ki 0)) 58 true, Qd 61 60 58 true, Qd 62 4 
 61 false, Qg 63 (.bin .lss (.t 62) (Kb 48)) 61 false, Qg 64 (.pick (.t 61) KT (.t 63)) 58 true, Qd 65 64 58 true, Qd 66 4 65 false, Qg 67 (.bin .gtr (.t 66) (Kb 57)) 65 false, Qg 
 68 (.pick (.t 65) KT (.t 67)) 58 true, Q 69 (.pick (.t 58) (.t 68) KF)]) (.cond (.t 69) (.seq (.reg [Qx 2 KF]) .ret) .skip))))) (.reg [Q 70 (.bin .add (.t 26) (Ki 1)), Qc 26 
 70]))))))) (.seq (.reg [Qx 2 KT]) .ret)))
def R_ops_operator : List LRes := [.tmp 2]
theorem lift_ops_operator : Lifts Tryz.prog 20 71 L_ops_operator R_ops_operator := ⟨_, _, Tryz.func20, rfl, by kernel_rfl, by kernel_rfl, rfl⟩
theorem operator_call (w : List UInt8) : PCall Tryz.prog 20 [.str w] (fun r => r = .one (.bool (opMay w))) := by
 generalize hR : opMay w = R
 unfold opMay at hR
 refine lift_ops_operator.call rfl ?_
 simp (maxSteps := 2000000) only [go_sem, ↓reduceIte, L_ops_operator, R_ops_operator]
 have no : ∀ {x : Bool}, x = R → x = false → Res.one (D.bool false) = Res.one (D.bool R) := fun h1 h2 => by rw [← h1, h2]
 refine ⟨fun h1 => ⟨fun h2 => ⟨fun h3 => ⟨fun h4 => ⟨fun h5 => ?_, fun h5 => ?_⟩, fun h4 => ?_⟩, fun h3 => ?_⟩, fun h2 => ?_⟩, fun h1 => ?_⟩
 ·exact no hR (by simp [h5])
 rotate_left
 ·exact no hR (by simp [h4])
 ·exact no hR (by simp [h3])
 ·exact no hR (by simp; omega)
 ·exact no hR (by simp [h1])
 ·skip
  have hR' : opL w true = R := by
   rw [← hR]; simp [h1, h3, h4, h5]; omega
  refine run_loop (fun i : Nat => ⟨[(0, .d (.str w)), (25, .d (.int .i64 w.length)), (26, .d (.int .i64 i))], [], []⟩)
   (fun i => i ≤ w.length ∧ opL (w.drop i) (decide (i = 0)) = R) (fun i => w.length - i) 0 ?_ ?_ ?_
  ·refine weak_mk ?_ trivial
   simp (maxSteps := 2000000) only [go_sem, ↓reduceIte, Sub, Int.natCast_add, Int.natCast_mul]
  ·exact ⟨by omega, hR'⟩
  ·intro i ⟨hi, hg⟩
   simp (maxSteps := 2000000) only [go_sem, ↓reduceIte]
   refine ⟨fun q1 => ?_, fun q1 => ?_⟩
   ·obtain ⟨c, hc⟩ := get_some (l := w) (i := i) (by omega)
    have hc8 := u8_lt c
    rw [drop_at hc, opL] at hg
    by_cases k0 : 97 ≤ c.toNat ∧ c.toNat ≤ 122
    ·have ho : opCh (decide (i = 0)) c = true := by unfold opCh; simp; omega
     rw [ho, Bool.true_and] at hg
     have l97 : ((c.toNat : Int) < 97) = False := eq_false (by omega)
     have g122 : (122 < (c.toNat : Int)) = False := eq_false (by omega)
     simp (maxSteps := 2000000) (disch := omega) only [go_sem, ↓reduceIte, getI_nat, hc, l97, g122]
     refine ⟨i + 1, ?_, ⟨by omega, by simpa using hg⟩, by omega⟩
     refine weak_mk ?_ trivial
     simp (maxSteps := 2000000) only [go_sem, ↓reduceIte, Sub, Int.natCast_add, Int.natCast_mul]
    by_cases k1 : 65 ≤ c.toNat ∧ c.toNat ≤ 90
    ·have ho : opCh (decide (i = 0)) c = true := by unfold opCh; simp; omega
     rw [ho, Bool.true_and] at hg
     have l97 : ((c.toNat : Int) < 97) = True := eq_true (by omega)
     have l65 : ((c.toNat : Int) < 65) = False := eq_false (by omega)
     have g90 : (90 < (c.toNat : Int)) = False := eq_false (by omega)
     simp (maxSteps := 2000000) (disch := omega) only [go_sem, ↓reduceIte, getI_nat, hc, l97, l65, g90]
     refine ⟨i + 1, ?_, ⟨by omega, by simpa using hg⟩, by omega⟩
     refine weak_mk ?_ trivial
     simp (maxSteps := 2000000) only [go_sem, ↓reduceIte, Sub, Int.natCast_add, Int.natCast_mul]
    by_cases k2 : c.toNat = 42
    ·have ho : opCh (decide (i = 0)) c = true := by unfold opCh; simp; omega
     rw [ho, Bool.true_and] at hg
     have l97 : ((c.toNat : Int) < 97) = True := eq_true (by omega)
     have l65 : ((c.toNat : Int) < 65) = True := eq_true (by omega)
     have e42 : ((c.toNat : Int) = 42) = True := eq_true (by omega)
     simp (maxSteps := 2000000) (disch := omega) only [go_sem, ↓reduceIte, getI_nat, hc, l97, l65, e42]
     refine ⟨i + 1, ?_, ⟨by omega, by simpa using hg⟩, by omega⟩
     refine weak_mk ?_ trivial
     simp (maxSteps := 2000000) only [go_sem, ↓reduceIte, Sub, Int.natCast_add, Int.natCast_mul]
    by_cases k3 : c.toNat = 39
    ·have ho : opCh (decide (i = 0)) c = true := by unfold opCh; simp; omega
     rw [ho, Bool.true_and] at hg
     have l97 : ((c.toNat : Int) < 97) = True := eq_true (by omega)
     have l65 : ((c.toNat : Int) < 65) = True := eq_true (by omega)
     have e42 : ((c.toNat : Int) = 42) = False := eq_false (by omega)
     have e39 : ((c.toNat : Int) = 39) = True := eq_true (by omega)
     simp (maxSteps := 2000000) (disch := omega) only [go_sem, ↓reduceIte, getI_nat, hc, l97, l65, e42, e39]
     refine ⟨i + 1, ?_, ⟨by omega, by simpa using hg⟩, by omega⟩
     refine weak_mk ?_ trivial
     simp (maxSteps := 2000000) only [go_sem, ↓reduceIte, Sub, Int.natCast_add, Int.natCast_mul]
    by_cases k4 : c.toNat = 34
    ·have ho : opCh (decide (i = 0)) c = true := by unfold opCh; simp; omega
     rw [ho, Bool.true_and] at hg
     have l97 : ((c.toNat : Int) < 97) = True := eq_true (by omega)
     have l65 : ((c.toNat : Int) < 65) = True := eq_true (by omega)
     have e42 : ((c.toNat : Int) = 42) = False := eq_false (by omega)
     have e39 : ((c.toNat : Int) = 39) = False := eq_false (by omega)
     have e34 : ((c.toNat : Int) = 34) = True := eq_true (by omega)
     simp (maxSteps := 2000000) (disch := omega) only [go_sem, ↓reduceIte, getI_nat, hc, l97, l65, e42, e39, e34]
     refine ⟨i + 1, ?_, ⟨by omega, by simpa using hg⟩, by omega⟩
     refine weak_mk ?_ trivial
     simp (maxSteps := 2000000) only [go_sem, ↓reduceIte, Sub, Int.natCast_add, Int.natCast_mul]
    by_cases ki : i = 0
    ·subst ki
     have ho : opCh (decide ((0 : Nat) = 0)) c = false := by unfold opCh; simp; omega
     rw [ho, Bool.false_and] at hg
     rw [← hg]
     have i0 : getI w 0 = some c := by rw [show (0 : Int) = ((0 : Nat) : Int) from rfl, getI_nat, hc]
     by_cases r0 : c.toNat < 65
     ·have l97 : ((c.toNat : Int) < 97) = True := eq_true (by omega)
      have l65 : ((c.toNat : Int) < 65) = True := eq_true (by omega)
      have e42 : ((c.toNat : Int) = 42) = False := eq_false (by omega)
      have e39 : ((c.toNat : Int) = 39) = False := eq_false (by omega)
      have e34 : ((c.toNat : Int) = 34) = False := eq_false (by omega)
      simp (maxSteps := 2000000) (disch := omega) only [go_sem, ↓reduceIte, getI_nat, hc, i0, l97, l65, e42, e39, e34]
     by_cases r1 : c.toNat < 97
     ·have l97 : ((c.toNat : Int) < 97) = True := eq_true (by omega)
      have l65 : ((c.toNat : Int) < 65) = False := eq_false (by omega)
      have g90 : (90 < (c.toNat : Int)) = True := eq_true (by omega)
      have e42 : ((c.toNat : Int) = 42) = False := eq_false (by omega)
      have e39 : ((c.toNat : Int) = 39) = False := eq_false (by omega)
      have e34 : ((c.toNat : Int) = 34) = False := eq_false (by omega)
      simp (maxSteps := 2000000) (disch := omega) only [go_sem, ↓reduceIte, getI_nat, hc, i0, l97, l65, g90, e42, e39, e34]
     have l97 : ((c.toNat : Int) < 97) = False := eq_false (by omega)
     have g122 : (122 < (c.toNat : Int)) = True := eq_true (by omega)
     have l65 : ((c.toNat : Int) < 65) = False := eq_false (by omega)
     have g90 : (90 < (c.toNat : Int)) = True := eq_true (by omega)
     have e42 : ((c.toNat : Int) = 42) = False := eq_false (by omega)
     have e39 : ((c.toNat : Int) = 39) = False := eq_false (by omega)
     have e34 : ((c.toNat : Int) = 34) = False := eq_false (by omega)
     simp (maxSteps := 2000000) (disch := omega) only [go_sem, ↓reduceIte, getI_nat, hc, i0, l97, g122, l65, g90, e42, e39, e34]
    ·have i0 : ((i : Int) = 0) = False := eq_false (by omega)
     by_cases kd : 48 ≤ c.toNat ∧ c.toNat ≤ 57
     ·have ho : opCh (decide (i = 0)) c = true := by unfold opCh; simp [ki]; omega
      rw [ho, Bool.true_and] at hg
      have l97 : ((c.toNat : Int) < 97) = True := eq_true (by omega)
      have l65 : ((c.toNat : Int) < 65) = True := eq_true (by omega)
      have l48 : ((c.toNat : Int) < 48) = False := eq_false (by omega)
      have g57 : (57 < (c.toNat : Int)) = False := eq_false (by omega)
      have e42 : ((c.toNat : Int) = 42) = False := eq_false (by omega)
      have e39 : ((c.toNat : Int) = 39) = False := eq_false (by omega)
      have e34 : ((c.toNat : Int) = 34) = False := eq_false (by omega)
      simp (maxSteps := 2000000) (disch := omega) only [go_sem, ↓reduceIte, getI_nat, hc, i0, l97, l65, l48, g57, e42, e39, e34]
      refine ⟨i + 1, ?_, ⟨by omega, by simpa using hg⟩, by omega⟩
      refine weak_mk ?_ trivial
      simp (maxSteps := 2000000) only [go_sem, ↓reduceIte, Sub, Int.natCast_add, Int.natCast_mul]
     ·have ho : opCh (decide (i = 0)) c = false := by unfold opCh; simp [ki]; omega
      rw [ho, Bool.false_and] at hg
      rw [← hg]
      by_cases r0 : c.toNat < 65
      ·have l97 : ((c.toNat : Int) < 97) = True := eq_true (by omega)
       have l65 : ((c.toNat : Int) < 65) = True := eq_true (by omega)
       have e42 : ((c.toNat : Int) = 42) = False := eq_false (by omega)
       have e39 : ((c.toNat : Int) = 39) = False := eq_false (by omega)
       have e34 : ((c.toNat : Int) = 34) = False := eq_false (by omega)
       by_cases r48 : c.toNat < 48
       ·have l48 : ((c.toNat : Int) < 48) = True := eq_true (by omega)
        simp (maxSteps := 2000000) (disch := omega) only [go_sem, ↓reduceIte, getI_nat, hc, i0, l97, l65, e42, e39, e34, l48]
       ·have l48 : ((c.toNat : Int) < 48) = False := eq_false (by omega)
        have g57 : (57 < (c.toNat : Int)) = True := eq_true (by omega)
        simp (maxSteps := 2000000) (disch := omega) only [go_sem, ↓reduceIte, getI_nat, hc, i0, l97, l65, e42, e39, e34, l48, g57]
      by_cases r1 : c.toNat < 97
      ·have l97 : ((c.toNat : Int) < 97) = True := eq_true (by omega)
       have l65 : ((c.toNat : Int) < 65) = False := eq_false (by omega)
       have g90 : (90 < (c.toNat : Int)) = True := eq_true (by omega)
       have e42 : ((c.toNat : Int) = 42) = False := eq_false (by omega)
       have e39 : ((c.toNat : Int) = 39) = False := eq_false (by omega)
       have e34 : ((c.toNat : Int) = 34) = False := eq_false (by omega)
       have l48 : ((c.toNat : Int) < 48) = False := eq_false (by omega)
       have g57 : (57 < (c.toNat : Int)) = True := eq_true (by omega)
       simp (maxSteps := 2000000) (disch := omega) only [go_sem, ↓reduceIte, getI_nat, hc, i0, l97, l65, g90, e42, e39, e34, l48, g57]
      have l97 : ((c.toNat : Int) < 97) = False := eq_false (by omega)
      have g122 : (122 < (c.toNat : Int)) = True := eq_true (by omega)
      have l65 : ((c.toNat : Int) < 65) = False := eq_false (by omega)
      have g90 : (90 < (c.toNat : Int)) = True := eq_true (by omega)
      have e42 : ((c.toNat : Int) = 42) = False := eq_false (by omega)
      have e39 : ((c.toNat : Int) = 39) = False := eq_false (by omega)
      have e34 : ((c.toNat : Int) = 34) = False := eq_false (by omega)
      have l48 : ((c.toNat : Int) < 48) = False := eq_false (by omega)
      have g57 : (57 < (c.toNat : Int)) = True := eq_true (by omega)
      simp (maxSteps := 2000000) (disch := omega) only [go_sem, ↓reduceIte, getI_nat, hc, i0, l97, g122, l65, g90, e42, e39, e34, l48, g57]
   ·rw [List.drop_eq_nil_of_le (by omega), opL] at hg
    rw [← hg]
def L_foliowrightref_OperatorMay : LCode :=
 .seq (.reg [Qx 2 KF]) (.seq (.seq (.reg [Qc 6 0, Q 7 (.len true (.t 6)), Q 8 (.bin .lss (.t 7) (Ki 1)), Qc 9 8, Qd 10 0 9 false, Qg 11 (.len true (.t 10)) 9 false, Qg 12 (.bin .gtr 
 (.t 11) (Ki 8)) 9 false, Q 13 (.pick (.t 9) KT (.t 12)), Qc 14 13, Qd 15 0 14 false, Qg 16 (.bin .eql (.t 15) (.k (.d (.str [116, 114, 117, 101])))) 14 false, Q 17 (.pick (.t 14) 
 KT (.t 16)), Qc 18 17, Qd 19 0 18 false, Qg 20 (.bin .eql (.t 19) (.k (.d (.str [102, 97, 108, 115, 101])))) 18 false, Q 21 (.pick (.t 18) KT (.t 20)), Qc 22 21, Qd 23 0 22 
 false, Qg 24 (.bin .eql (.t 23) (.k (.d (.str [110, 117, 108, 108])))) 22 false, Q 25 (.pick (.t 22) KT (.t 24))]) (.cond (.t 25) (.seq (.reg [Qx 2 KF]) .ret) .skip)) (.seq (.seq 
 (.reg [Qx 3 (Ki 0)]) (.block 0 (.loop (.seq (.seq (.reg [Qc 26 3, Qc 27 0, Q 28 (.len true (.t 27)), Q 29 (.bin .lss (.t 26) (.t 28))]) (.cond (.t 29) .skip (.exit 0))) (.seq 
 (.block 1 (.seq (.reg [Qc 32 0, Qc 33 3, Q 34 (.idxS (.t 32) (.t 33)), Qa 4 34]) (.seq (.reg [Qc 35 4, Q 36 (.bin .geq (.t 35) (Kb 97)), Qc 37 36, Qd 38 4 37 true, Qg 39 (.bin 
 .leq (.t 38) (Kb 122)) 37 true, Q 40 (.pick (.t 37) (.t 39) KF), Qc 41 40, Qd 42 4 41 false, Qg 43 (.bin .geq (.t 42) (Kb 65)) 41 false, Qd 44 43 41 false, Qd 45 4 44 true, Qg 46 
 (.bin .leq (.t 45) (Kb 90)) 44 true, Qg 47 (.pick (.t 44) (.t 46) KF) 41 false, Q 48 (.pick (.t 41) KT (.t 47)), Qc 49 48, Qd 50 4 49 false, Qg 51 (.bin .eql (.t 50) (Kb 42)) 49 
 false, Q 52 (.pick (.t 49) KT (.t 51)), Qc 53 52, Qd 54 4 53 false, Qg 55 (.bin .eql (.t 54) (Kb 39)) 53 false, Q 56 (.pick (.t 53) KT (.t 55)), Qc 57 56, Qd 58 4 57 false, Qg 59 
 (.bin .eql (.t 58) (Kb 34)) 57 false, Q 60 (.pick (.t 57) KT (.t 59)), Qa 5 60]) (.seq (.reg [Qc 61 5, Q 62 (.not (.t 61)), Qc 63 62, Qd 64 3 63 true, Qg 65 (.bin .eql (.t 64) 
 (Ki 0)) 63 true, Qd 66 65 63 true, Qd 67 4 66 false, Qg 68 (.bin .lss (.t 67) (Kb 48)) 66 false, Qg 69 (.pick (.t 66) KT (.t 68)) 63 true, Qd 70 69 63 true, Qd 71 4 70 false, Qg 
 72 (.bin .gtr (.t 71) (Kb 57)) 70 false, Qg 73 (.pick (.t 70) KT (.t 72)) 63 true, Q 74 (.pick (.t 63) (.t 73) KF)]) (.cond (.t 74) (.seq (.reg [Qx 2 KF]) .ret) .skip))))) (.reg 
 [Qc 30 3, Q 31 (.bin .add (.t 30) (Ki 1)), Qa 3 31])))))) (.seq (.reg [Qx 2 KT]) .ret)))
def R_foliowrightref_OperatorMay : List LRes := [.tmp 2]
theorem lift_foliowrightref_OperatorMay : Lifts Tryz.prog 23 75 L_foliowrightref_OperatorMay R_foliowrightref_OperatorMay := ⟨_, _, Tryz.func23, rfl, by kernel_rfl, by kernel_rfl, rfl⟩
theorem operatorMay_call (w : List UInt8) : PCall Tryz.prog 23 [.str w] (fun r => r = .one (.bool (opMay w))) := by
 generalize hR : opMay w = R
 unfold opMay at hR
 refine lift_foliowrightref_OperatorMay.call rfl ?_
 simp (maxSteps := 2000000) only [go_sem, ↓reduceIte, L_foliowrightref_OperatorMay, R_foliowrightref_OperatorMay]
 have no : ∀ {x : Bool}, x = R → x = false → Res.one (D.bool false) = Res.one (D.bool R) := fun h1 h2 => by rw [← h1, h2]
 refine ⟨fun h1 => ⟨fun h2 => ⟨fun h3 => ⟨fun h4 => ⟨fun h5 => ?_, fun h5 => ?_⟩, fun h4 => ?_⟩, fun h3 => ?_⟩, fun h2 => ?_⟩, fun h1 => ?_⟩
 ·exact no hR (by simp [h5])
 rotate_left
 ·exact no hR (by simp [h4])
 ·exact no hR (by simp [h3])
 ·exact no hR (by simp; omega)
 ·exact no hR (by have : w = [] := List.length_eq_zero_iff.1 (by omega); simp [this])
 ·have h1 : ¬ w = [] := fun e => by subst e; simp at h1
  have hR' : opL w true = R := by
   rw [← hR]; simp [h1, h3, h4, h5]; omega
  refine run_loop (fun i : Nat => ⟨[(0, .d (.str w)), (3, .d (.int .i64 i))], [], []⟩)
   (fun i => i ≤ w.length ∧ opL (w.drop i) (decide (i = 0)) = R) (fun i => w.length - i) 0 ?_ ?_ ?_
  ·refine weak_mk ?_ trivial
   simp (maxSteps := 2000000) only [go_sem, ↓reduceIte, Sub, Int.natCast_add, Int.natCast_mul]
  ·exact ⟨by omega, hR'⟩
  ·intro i ⟨hi, hg⟩
   simp (maxSteps := 2000000) only [go_sem, ↓reduceIte]
   refine ⟨fun q1 => ?_, fun q1 => ?_⟩
   ·obtain ⟨c, hc⟩ := get_some (l := w) (i := i) (by omega)
    have hc8 := u8_lt c
    rw [drop_at hc, opL] at hg
    by_cases k0 : 97 ≤ c.toNat ∧ c.toNat ≤ 122
    ·have ho : opCh (decide (i = 0)) c = true := by unfold opCh; simp; omega
     rw [ho, Bool.true_and] at hg
     have n97 : ((97 : Int) ≤ (c.toNat : Int)) = True := eq_true (by omega)
     have m122 : ((c.toNat : Int) ≤ 122) = True := eq_true (by omega)
     simp (maxSteps := 2000000) (disch := omega) only [go_sem, ↓reduceIte, getI_nat, hc, n97, m122]
     refine ⟨i + 1, ?_, ⟨by omega, by simpa using hg⟩, by omega⟩
     refine weak_mk ?_ trivial
     simp (maxSteps := 2000000) only [go_sem, ↓reduceIte, Sub, Int.natCast_add, Int.natCast_mul]
    by_cases k1 : 65 ≤ c.toNat ∧ c.toNat ≤ 90
    ·have ho : opCh (decide (i = 0)) c = true := by unfold opCh; simp; omega
     rw [ho, Bool.true_and] at hg
     have n97 : ((97 : Int) ≤ (c.toNat : Int)) = False := eq_false (by omega)
     have n65 : ((65 : Int) ≤ (c.toNat : Int)) = True := eq_true (by omega)
     have m90 : ((c.toNat : Int) ≤ 90) = True := eq_true (by omega)
     simp (maxSteps := 2000000) (disch := omega) only [go_sem, ↓reduceIte, getI_nat, hc, n97, n65, m90]
     refine ⟨i + 1, ?_, ⟨by omega, by simpa using hg⟩, by omega⟩
     refine weak_mk ?_ trivial
     simp (maxSteps := 2000000) only [go_sem, ↓reduceIte, Sub, Int.natCast_add, Int.natCast_mul]
    by_cases k2 : c.toNat = 42
    ·have ho : opCh (decide (i = 0)) c = true := by unfold opCh; simp; omega
     rw [ho, Bool.true_and] at hg
     have n97 : ((97 : Int) ≤ (c.toNat : Int)) = False := eq_false (by omega)
     have n65 : ((65 : Int) ≤ (c.toNat : Int)) = False := eq_false (by omega)
     have e42 : ((c.toNat : Int) = 42) = True := eq_true (by omega)
     simp (maxSteps := 2000000) (disch := omega) only [go_sem, ↓reduceIte, getI_nat, hc, n97, n65, e42]
     refine ⟨i + 1, ?_, ⟨by omega, by simpa using hg⟩, by omega⟩
     refine weak_mk ?_ trivial
     simp (maxSteps := 2000000) only [go_sem, ↓reduceIte, Sub, Int.natCast_add, Int.natCast_mul]
    by_cases k3 : c.toNat = 39
    ·have ho : opCh (decide (i = 0)) c = true := by unfold opCh; simp; omega
     rw [ho, Bool.true_and] at hg
     have n97 : ((97 : Int) ≤ (c.toNat : Int)) = False := eq_false (by omega)
     have n65 : ((65 : Int) ≤ (c.toNat : Int)) = False := eq_false (by omega)
     have e42 : ((c.toNat : Int) = 42) = False := eq_false (by omega)
     have e39 : ((c.toNat : Int) = 39) = True := eq_true (by omega)
     simp (maxSteps := 2000000) (disch := omega) only [go_sem, ↓reduceIte, getI_nat, hc, n97, n65, e42, e39]
     refine ⟨i + 1, ?_, ⟨by omega, by simpa using hg⟩, by omega⟩
     refine weak_mk ?_ trivial
     simp (maxSteps := 2000000) only [go_sem, ↓reduceIte, Sub, Int.natCast_add, Int.natCast_mul]
    by_cases k4 : c.toNat = 34
    ·have ho : opCh (decide (i = 0)) c = true := by unfold opCh; simp; omega
     rw [ho, Bool.true_and] at hg
     have n97 : ((97 : Int) ≤ (c.toNat : Int)) = False := eq_false (by omega)
     have n65 : ((65 : Int) ≤ (c.toNat : Int)) = False := eq_false (by omega)
     have e42 : ((c.toNat : Int) = 42) = False := eq_false (by omega)
     have e39 : ((c.toNat : Int) = 39) = False := eq_false (by omega)
     have e34 : ((c.toNat : Int) = 34) = True := eq_true (by omega)
     simp (maxSteps := 2000000) (disch := omega) only [go_sem, ↓reduceIte, getI_nat, hc, n97, n65, e42, e39, e34]
     refine ⟨i + 1, ?_, ⟨by omega, by simpa using hg⟩, by omega⟩
     refine weak_mk ?_ trivial
     simp (maxSteps := 2000000) only [go_sem, ↓reduceIte, Sub, Int.natCast_add, Int.natCast_mul]
    by_cases ki : i = 0
    ·subst ki
     have ho : opCh (decide ((0 : Nat) = 0)) c = false := by unfold opCh; simp; omega
     rw [ho, Bool.false_and] at hg
     rw [← hg]
     have i0 : getI w 0 = some c := by rw [show (0 : Int) = ((0 : Nat) : Int) from rfl, getI_nat, hc]
     by_cases r0 : c.toNat < 65
     ·have n97 : ((97 : Int) ≤ (c.toNat : Int)) = False := eq_false (by omega)
      have n65 : ((65 : Int) ≤ (c.toNat : Int)) = False := eq_false (by omega)
      have e42 : ((c.toNat : Int) = 42) = False := eq_false (by omega)
      have e39 : ((c.toNat : Int) = 39) = False := eq_false (by omega)
      have e34 : ((c.toNat : Int) = 34) = False := eq_false (by omega)
      simp (maxSteps := 2000000) (disch := omega) only [go_sem, ↓reduceIte, getI_nat, hc, i0, n97, n65, e42, e39, e34]
     by_cases r1 : c.toNat < 97
     ·have n97 : ((97 : Int) ≤ (c.toNat : Int)) = False := eq_false (by omega)
      have n65 : ((65 : Int) ≤ (c.toNat : Int)) = True := eq_true (by omega)
      have m90 : ((c.toNat : Int) ≤ 90) = False := eq_false (by omega)
      have e42 : ((c.toNat : Int) = 42) = False := eq_false (by omega)
      have e39 : ((c.toNat : Int) = 39) = False := eq_false (by omega)
      have e34 : ((c.toNat : Int) = 34) = False := eq_false (by omega)
      simp (maxSteps := 2000000) (disch := omega) only [go_sem, ↓reduceIte, getI_nat, hc, i0, n97, n65, m90, e42, e39, e34]
     have n97 : ((97 : Int) ≤ (c.toNat : Int)) = True := eq_true (by omega)
     have m122 : ((c.toNat : Int) ≤ 122) = False := eq_false (by omega)
     have n65 : ((65 : Int) ≤ (c.toNat : Int)) = True := eq_true (by omega)
     have m90 : ((c.toNat : Int) ≤ 90) = False := eq_false (by omega)
     have e42 : ((c.toNat : Int) = 42) = False := eq_false (by omega)
     have e39 : ((c.toNat : Int) = 39) = False := eq_false (by omega)
     have e34 : ((c.toNat : Int) = 34) = False := eq_false (by omega)
     simp (maxSteps := 2000000) (disch := omega) only [go_sem, ↓reduceIte, getI_nat, hc, i0, n97, m122, n65, m90, e42, e39, e34]
    ·have i0 : ((i : Int) = 0) = False := eq_false (by omega)
     by_cases kd : 48 ≤ c.toNat ∧ c.toNat ≤ 57
     ·have ho : opCh (decide (i = 0)) c = true := by unfold opCh; simp [ki]; omega
      rw [ho, Bool.true_and] at hg
      have n97 : ((97 : Int) ≤ (c.toNat : Int)) = False := eq_false (by omega)
      have n65 : ((65 : Int) ≤ (c.toNat : Int)) = False := eq_false (by omega)
      have l48 : ((c.toNat : Int) < 48) = False := eq_false (by omega)
      have g57 : (57 < (c.toNat : Int)) = False := eq_false (by omega)
      have e42 : ((c.toNat : Int) = 42) = False := eq_false (by omega)
      have e39 : ((c.toNat : Int) = 39) = False := eq_false (by omega)
      have e34 : ((c.toNat : Int) = 34) = False := eq_false (by omega)
      simp (maxSteps := 2000000) (disch := omega) only [go_sem, ↓reduceIte, getI_nat, hc, i0, n97, n65, l48, g57, e42, e39, e34]
      refine ⟨i + 1, ?_, ⟨by omega, by simpa using hg⟩, by omega⟩
      refine weak_mk ?_ trivial
      simp (maxSteps := 2000000) only [go_sem, ↓reduceIte, Sub, Int.natCast_add, Int.natCast_mul]
     ·have ho : opCh (decide (i = 0)) c = false := by unfold opCh; simp [ki]; omega
      rw [ho, Bool.false_and] at hg
      rw [← hg]
      by_cases r0 : c.toNat < 65
      ·have n97 : ((97 : Int) ≤ (c.toNat : Int)) = False := eq_false (by omega)
       have n65 : ((65 : Int) ≤ (c.toNat : Int)) = False := eq_false (by omega)
       have e42 : ((c.toNat : Int) = 42) = False := eq_false (by omega)
       have e39 : ((c.toNat : Int) = 39) = False := eq_false (by omega)
       have e34 : ((c.toNat : Int) = 34) = False := eq_false (by omega)
       by_cases r48 : c.toNat < 48
       ·have l48 : ((c.toNat : Int) < 48) = True := eq_true (by omega)
        simp (maxSteps := 2000000) (disch := omega) only [go_sem, ↓reduceIte, getI_nat, hc, i0, n97, n65, e42, e39, e34, l48]
       ·have l48 : ((c.toNat : Int) < 48) = False := eq_false (by omega)
        have g57 : (57 < (c.toNat : Int)) = True := eq_true (by omega)
        simp (maxSteps := 2000000) (disch := omega) only [go_sem, ↓reduceIte, getI_nat, hc, i0, n97, n65, e42, e39, e34, l48, g57]
      by_cases r1 : c.toNat < 97
      ·have n97 : ((97 : Int) ≤ (c.toNat : Int)) = False := eq_false (by omega)
       have n65 : ((65 : Int) ≤ (c.toNat : Int)) = True := eq_true (by omega)
       have m90 : ((c.toNat : Int) ≤ 90) = False := eq_false (by omega)
       have e42 : ((c.toNat : Int) = 42) = False := eq_false (by omega)
       have e39 : ((c.toNat : Int) = 39) = False := eq_false (by omega)
       have e34 : ((c.toNat : Int) = 34) = False := eq_false (by omega)
       have l48 : ((c.toNat : Int) < 48) = False := eq_false (by omega)
       have g57 : (57 < (c.toNat : Int)) = True := eq_true (by omega)
       simp (maxSteps := 2000000) (disch := omega) only [go_sem, ↓reduceIte, getI_nat, hc, i0, n97, n65, m90, e42, e39, e34, l48, g57]
      have n97 : ((97 : Int) ≤ (c.toNat : Int)) = True := eq_true (by omega)
      have m122 : ((c.toNat : Int) ≤ 122) = False := eq_false (by omega)
      have n65 : ((65 : Int) ≤ (c.toNat : Int)) = True := eq_true (by omega)
      have m90 : ((c.toNat : Int) ≤ 90) = False := eq_false (by omega)
      have e42 : ((c.toNat : Int) = 42) = False := eq_false (by omega)
      have e39 : ((c.toNat : Int) = 39) = False := eq_false (by omega)
      have e34 : ((c.toNat : Int) = 34) = False := eq_false (by omega)
      have l48 : ((c.toNat : Int) < 48) = False := eq_false (by omega)
      have g57 : (57 < (c.toNat : Int)) = True := eq_true (by omega)
      simp (maxSteps := 2000000) (disch := omega) only [go_sem, ↓reduceIte, getI_nat, hc, i0, n97, m122, n65, m90, e42, e39, e34, l48, g57]
   ·rw [List.drop_eq_nil_of_le (by omega), opL] at hg
    rw [← hg]
def L_parse_Blank : LCode :=
 .seq (.reg [Qx 2 KF]) (.seq (.reg [Qc 3 0, Q 4 (.bin .eql (.t 3) (Kb 0)), Qc 5 4, Qd 6 0 5 false, Qg 7 (.bin .eql (.t 6) (Kb 9)) 5 false, Q 8 (.pick (.t 5) KT (.t 7)), Qc 9 8, Qd 
 10 0 9 false, Qg 11 (.bin .eql (.t 10) (Kb 10)) 9 false, Q 12 (.pick (.t 9) KT (.t 11)), Qc 13 12, Qd 14 0 13 false, Qg 15 (.bin .eql (.t 14) (Kb 12)) 13 false, Q 16 (.pick (.t 
 13) KT (.t 15)), Qc 17 16, Qd 18 0 17 false, Qg 19 (.bin .eql (.t 18) (Kb 13)) 17 false, Q 20 (.pick (.t 17) KT (.t 19)), Qc 21 20, Qd 22 0 21 false, Qg 23 (.bin .eql (.t 22) (Kb 
 32)) 21 false, Q 24 (.pick (.t 21) KT (.t 23)), Qa 2 24]) .ret)
def R_parse_Blank : List LRes := [.tmp 2]
theorem lift_parse_Blank : Lifts Tryz.prog 38 25 L_parse_Blank R_parse_Blank := ⟨_, _, Tryz.func38, rfl, by kernel_rfl, by kernel_rfl, rfl⟩
def L_parse_Hex : LCode :=
 .seq (.reg [Qx 2 (Ki 0)]) (.seq (.block 0 (.seq (.reg [Qc 4 0, Q 5 (.bin .geq (.t 4) (Kb 48)), Qc 6 5, Qd 7 0 6 true, Qg 8 (.bin .leq (.t 7) (Kb 57)) 6 true, Q 9 (.pick (.t 6) (.t 
 8) KF), Qa 3 9]) (.cond (.t 3) (.seq (.reg [Qc 10 0, Q 11 (.bin .sub (.t 10) (Kb 48)), Q 12 (.cvI .i64 (.t 11)), Qa 2 12]) .ret) (.seq (.reg [Qc 14 0, Q 15 (.bin .geq (.t 14) (Kb 
 97)), Qc 16 15, Qd 17 0 16 true, Qg 18 (.bin .leq (.t 17) (Kb 102)) 16 true, Q 19 (.pick (.t 16) (.t 18) KF), Qa 13 19]) (.cond (.t 13) (.seq (.reg [Qc 20 0, Q 21 (.bin .sub (.t 
 20) (Kb 97)), Q 22 (.cvI .i64 (.t 21)), Q 23 (.bin .add (.t 22) (Ki 10)), Qa 2 23]) .ret) (.seq (.reg [Qc 25 0, Q 26 (.bin .geq (.t 25) (Kb 65)), Qc 27 26, Qd 28 0 27 true, Qg 29 
 (.bin .leq (.t 28) (Kb 70)) 27 true, Q 30 (.pick (.t 27) (.t 29) KF), Qa 24 30]) (.cond (.t 24) (.seq (.reg [Qc 31 0, Q 32 (.bin .sub (.t 31) (Kb 65)), Q 33 (.cvI .i64 (.t 32)), 
 Q 34 (.bin .add (.t 33) (Ki 10)), Qa 2 34]) .ret) .skip))))))) (.seq (.reg [Qx 2 (Ki (-1))]) .ret))
def R_parse_Hex : List LRes := [.tmp 2]
theorem lift_parse_Hex : Lifts Tryz.prog 83 35 L_parse_Hex R_parse_Hex := ⟨_, _, Tryz.func83, rfl, by kernel_rfl, by kernel_rfl, rfl⟩
def blankB (n : Int) : Bool := decide (n = 0) || (decide (n = 9) || (decide (n = 10) || (decide (n = 12) || (decide (n = 13) || decide (n = 32)))))
def hexI (n : Int) : Int := if 48 ≤ n ∧ n ≤ 57 then n - 48 else if 97 ≤ n ∧ n ≤ 102 then n - 87 else if 65 ≤ n ∧ n ≤ 70 then n - 55 else -1
theorem blank_call (n : Int) : PCall Tryz.prog 38 [.int .u8 n] (fun r => r = .one (.bool (blankB n))) := by
 refine lift_parse_Blank.call rfl ?_
 simp (maxSteps := 2000000) only [go_sem, ↓reduceIte, L_parse_Blank, R_parse_Blank]
 unfold blankB
 simp +contextual
theorem hex_call {n : Int} (h : 0 ≤ n ∧ n < 256) : PCall Tryz.prog 83 [.int .u8 n] (fun r => r = .one (.int .i64 (hexI n))) := by
 refine lift_parse_Hex.call rfl ?_
 simp (maxSteps := 2000000) only [go_sem, ↓reduceIte, L_parse_Hex, R_parse_Hex]
 unfold hexI
 repeat' (first | apply And.intro | intro _)
 all_goals
  congr 2
  try simp only [IntKind.wrap_i64, IntKind.wrap_u8]
  (repeat' split) <;> omega
def unhexF : List UInt8 → Int → List UInt8 → List UInt8 × Nat
 | [], _, _ => ([], 5)
 | c :: r, h, b =>
  if c.toNat = 62 then (if 0 ≤ h then b ++ [byteI (16 * h)] else b, 0)
  else if blankB c.toNat = true then unhexF r h b
  else if hexI c.toNat < 0 then ([], 4)
  else if h < 0 then unhexF r (hexI c.toNat) b
  else unhexF r (-1) (b ++ [byteI (16 * h + hexI c.toNat)])
theorem hexI_bounds (n : Int) : -1 ≤ hexI n ∧ hexI n ≤ 15 := by
 unfold hexI; (repeat' split) <;> omega
def L_foliowrightref_Blank : LCode :=
 .seq (.reg [Qx 2 KF]) (.seq (.reg [Qc 3 0, Q 4 (.bin .eql (.t 3) (Kb 0)), Qc 5 4, Qd 6 0 5 false, Qg 7 (.bin .eql (.t 6) (Kb 9)) 5 false, Q 8 (.pick (.t 5) KT (.t 7)), Qc 9 8, Qd 
 10 0 9 false, Qg 11 (.bin .eql (.t 10) (Kb 10)) 9 false, Q 12 (.pick (.t 9) KT (.t 11)), Qc 13 12, Qd 14 0 13 false, Qg 15 (.bin .eql (.t 14) (Kb 12)) 13 false, Q 16 (.pick (.t 
 13) KT (.t 15)), Qc 17 16, Qd 18 0 17 false, Qg 19 (.bin .eql (.t 18) (Kb 13)) 17 false, Q 20 (.pick (.t 17) KT (.t 19)), Qc 21 20, Qd 22 0 21 false, Qg 23 (.bin .eql (.t 22) (Kb 
 32)) 21 false, Q 24 (.pick (.t 21) KT (.t 23)), Qa 2 24]) .ret)
def R_foliowrightref_Blank : List LRes := [.tmp 2]
theorem lift_foliowrightref_Blank : Lifts Tryz.prog 40 25 L_foliowrightref_Blank R_foliowrightref_Blank := ⟨_, _, Tryz.func40, rfl, by kernel_rfl, by kernel_rfl, rfl⟩
theorem rblank_call (n : Int) : PCall Tryz.prog 40 [.int .u8 n] (fun r => r = .one (.bool (blankB n))) := by
 refine lift_foliowrightref_Blank.call rfl ?_
 simp (maxSteps := 2000000) only [go_sem, ↓reduceIte, L_foliowrightref_Blank, R_foliowrightref_Blank]
 unfold blankB
 simp +contextual
def hexTab0 : List UInt8 := [48, 49, 50, 51, 52, 53, 54, 55, 56, 57, 65, 66, 67, 68, 69, 70]
theorem tabv : ∀ i : Fin 16, (hexTab0.getD i.val 0).toNat = if i.val < 10 then 48 + i.val else 55 + i.val := by decide
theorem tabv' {i : Nat} (h : i < 16) : (hexTab0.getD i 0).toNat = if i < 10 then 48 + i else 55 + i := tabv ⟨i, h⟩
def L_foliowrightref_HexOf : LCode :=
 .seq (.reg [Qx 2 (Ki 0)]) (.seq (.seq (.reg [Qc 4 0, Q 5 (.bin .geq (.t 4) (Kb 97)), Qc 6 5, Qd 7 0 6 true, Qg 8 (.bin .leq (.t 7) (Kb 102)) 6 true, Q 9 (.pick (.t 6) (.t 8) KF)]) 
 (.cond (.t 9) (.reg [Qc 10 0, Q 11 (.bin .sub (.t 10) (Kb 32)), Qa 0 11]) .skip)) (.seq (.seq (.reg [Qx 3 (Ki 0)]) (.block 0 (.loop (.seq (.seq (.reg [Qc 12 3, Q 13 (.bin .lss 
 (.t 12) (Ki 16))]) (.cond (.t 13) .skip (.exit 0))) (.seq (.block 1 (.seq (.reg [Qc 16 3, Q 17 (.idxS (.k (.d (.str [48, 49, 50, 51, 52, 53, 54, 55, 56, 57, 65, 66, 67, 68, 69, 
 70]))) (.t 16)), Qc 18 0, Q 19 (.bin .eql (.t 17) (.t 18))]) (.cond (.t 19) (.seq (.reg [Qc 20 3, Qa 2 20]) .ret) .skip))) (.reg [Qc 14 3, Q 15 (.bin .add (.t 14) (Ki 1)), Qa 3 
 15])))))) (.seq (.reg [Qx 2 (Ki (-1))]) .ret)))
def R_foliowrightref_HexOf : List LRes := [.tmp 2]
theorem lift_foliowrightref_HexOf : Lifts Tryz.prog 91 21 L_foliowrightref_HexOf R_foliowrightref_HexOf := ⟨_, _, Tryz.func91, rfl, by kernel_rfl, by kernel_rfl, rfl⟩
theorem hexOf_call (c : Nat) (h : c < 256) : PCall Tryz.prog 91 [.int .u8 c] (fun r => r = .one (.int .i64 (hexI c))) := by
 refine lift_foliowrightref_HexOf.call rfl ?_
 have ht : ([48, 49, 50, 51, 52, 53, 54, 55, 56, 57, 65, 66, 67, 68, 69, 70] : List UInt8) = hexTab0 := rfl
 have htl : hexTab0.length = 16 := rfl
 simp (maxSteps := 2000000) (disch := omega) only [go_sem, ↓reduceIte, L_foliowrightref_HexOf, R_foliowrightref_HexOf]
 have fin : ∀ i d : Nat, i < 16 → d = (if 97 ≤ c ∧ c ≤ 102 then c - 32 else c) → (hexTab0.getD i 0).toNat = d → hexI c = i := fun i d hi hd ht => by
  rw [tabv' hi] at ht
  unfold hexI
  subst hd
  (repeat' split at ht) <;> (repeat' split) <;> omega
 have fin2 : ∀ d : Nat, d = (if 97 ≤ c ∧ c ≤ 102 then c - 32 else c) → (∀ j, j < 16 → (hexTab0.getD j 0).toNat ≠ d) → hexI c = -1 := fun d hd hj => by
  unfold hexI
  split
  ·have := hj (c - 48) (by omega); rw [tabv' (by omega)] at this
   subst hd; split at this <;> split at this <;> omega
  ·split
   ·have := hj (c - 87) (by omega); rw [tabv' (by omega)] at this
    subst hd; split at this <;> split at this <;> omega
   ·split
    ·have := hj (c - 55) (by omega); rw [tabv' (by omega)] at this
     subst hd; split at this <;> split at this <;> omega
    ·rfl
 refine ⟨fun a1 => ⟨fun a2 => ?_, fun a2 => ?_⟩, fun a1 => ?_⟩
 ·rw [show IntKind.u8.wrap ((c : Int) - 32) = ((c - 32 : Nat) : Int) by rw [IntWalk.u8_in _ (by omega)]; omega]
  have hd : (c - 32) = (if 97 ≤ c ∧ c ≤ 102 then c - 32 else c) := by split <;> omega
  refine run_loop (fun i : Nat => ⟨[(0, .d (.int .u8 ((c - 32) : Nat))), (3, .d (.int .i64 i))], [], []⟩)
   (fun i => i ≤ 16 ∧ ∀ j, j < i → (hexTab0.getD j 0).toNat ≠ (c - 32)) (fun i => 16 - i) 0 ?_ ?_ ?_
  ·refine weak_mk ?_ trivial
   simp (maxSteps := 2000000) only [go_sem, ↓reduceIte, Sub, Int.natCast_add, Int.natCast_mul]
  ·exact ⟨by omega, fun j hj => by omega⟩
  ·rintro i ⟨hi, hj⟩
   simp (maxSteps := 2000000) only [go_sem, ↓reduceIte]
   refine ⟨fun q1 => ?_, fun q1 => ?_⟩
   ·have hg : hexTab0[i]? = some (hexTab0.getD i 0) := by
     have : i < hexTab0.length := by omega
     simp [List.getD_eq_getElem?_getD, this]
    simp (maxSteps := 2000000) (disch := omega) only [go_sem, ↓reduceIte, ht, getI_nat, hg, Int.ofNat_inj]
    refine ⟨fun q2 => ?_, fun q2 => ⟨i + 1, ?_, ⟨by omega, fun j hj1 => ?_⟩, by omega⟩⟩
    ·rw [fin i _ (by omega) hd q2]
    ·refine weak_mk ?_ trivial
     simp (maxSteps := 2000000) only [go_sem, ↓reduceIte, Sub, Int.natCast_add, Int.natCast_mul]
    ·rcases Nat.lt_or_ge j i with h1 | h1
     ·exact hj j h1
     ·have : j = i := by omega
      subst this; exact q2
   ·have hi16 : i = 16 := by omega
    rw [fin2 _ hd (fun j hj1 => hj j (by omega))]
 ·skip
  have hd : c = (if 97 ≤ c ∧ c ≤ 102 then c - 32 else c) := by split <;> omega
  refine run_loop (fun i : Nat => ⟨[(0, .d (.int .u8 (c : Nat))), (3, .d (.int .i64 i))], [], []⟩)
   (fun i => i ≤ 16 ∧ ∀ j, j < i → (hexTab0.getD j 0).toNat ≠ c) (fun i => 16 - i) 0 ?_ ?_ ?_
  ·refine weak_mk ?_ trivial
   simp (maxSteps := 2000000) only [go_sem, ↓reduceIte, Sub, Int.natCast_add, Int.natCast_mul]
  ·exact ⟨by omega, fun j hj => by omega⟩
  ·rintro i ⟨hi, hj⟩
   simp (maxSteps := 2000000) only [go_sem, ↓reduceIte]
   refine ⟨fun q1 => ?_, fun q1 => ?_⟩
   ·have hg : hexTab0[i]? = some (hexTab0.getD i 0) := by
     have : i < hexTab0.length := by omega
     simp [List.getD_eq_getElem?_getD, this]
    simp (maxSteps := 2000000) (disch := omega) only [go_sem, ↓reduceIte, ht, getI_nat, hg, Int.ofNat_inj]
    refine ⟨fun q2 => ?_, fun q2 => ⟨i + 1, ?_, ⟨by omega, fun j hj1 => ?_⟩, by omega⟩⟩
    ·rw [fin i _ (by omega) hd q2]
    ·refine weak_mk ?_ trivial
     simp (maxSteps := 2000000) only [go_sem, ↓reduceIte, Sub, Int.natCast_add, Int.natCast_mul]
    ·rcases Nat.lt_or_ge j i with h1 | h1
     ·exact hj j h1
     ·have : j = i := by omega
      subst this; exact q2
   ·have hi16 : i = 16 := by omega
    rw [fin2 _ hd (fun j hj1 => hj j (by omega))]
 ·skip
  have hd : c = (if 97 ≤ c ∧ c ≤ 102 then c - 32 else c) := by split <;> omega
  refine run_loop (fun i : Nat => ⟨[(0, .d (.int .u8 (c : Nat))), (3, .d (.int .i64 i))], [], []⟩)
   (fun i => i ≤ 16 ∧ ∀ j, j < i → (hexTab0.getD j 0).toNat ≠ c) (fun i => 16 - i) 0 ?_ ?_ ?_
  ·refine weak_mk ?_ trivial
   simp (maxSteps := 2000000) only [go_sem, ↓reduceIte, Sub, Int.natCast_add, Int.natCast_mul]
  ·exact ⟨by omega, fun j hj => by omega⟩
  ·rintro i ⟨hi, hj⟩
   simp (maxSteps := 2000000) only [go_sem, ↓reduceIte]
   refine ⟨fun q1 => ?_, fun q1 => ?_⟩
   ·have hg : hexTab0[i]? = some (hexTab0.getD i 0) := by
     have : i < hexTab0.length := by omega
     simp [List.getD_eq_getElem?_getD, this]
    simp (maxSteps := 2000000) (disch := omega) only [go_sem, ↓reduceIte, ht, getI_nat, hg, Int.ofNat_inj]
    refine ⟨fun q2 => ?_, fun q2 => ⟨i + 1, ?_, ⟨by omega, fun j hj1 => ?_⟩, by omega⟩⟩
    ·rw [fin i _ (by omega) hd q2]
    ·refine weak_mk ?_ trivial
     simp (maxSteps := 2000000) only [go_sem, ↓reduceIte, Sub, Int.natCast_add, Int.natCast_mul]
    ·rcases Nat.lt_or_ge j i with h1 | h1
     ·exact hj j h1
     ·have : j = i := by omega
      subst this; exact q2
   ·have hi16 : i = 16 := by omega
    rw [fin2 _ hd (fun j hj1 => hj j (by omega))]
def L_foliowrightref_Unhex : LCode :=
 .seq (.reg [Qx 4 (.k (.d (.str []))), Qx 5 (Ki 0), Qx 6 (Ki 0)]) (.seq (.reg [⟨some 7, .nils 5 1, none⟩]) (.seq (.reg [Qx 8 (Ki 0)]) (.seq (.reg [Qx 9 (Ki 0)]) (.seq (.block 0 
 (.loop (.seq (.seq (.reg [Qc 11 1, Qc 12 0, Q 13 (.len true (.t 12)), Q 14 (.bin .lss (.t 11) (.t 13))]) (.cond (.t 14) .skip (.exit 0))) (.seq (.block 1 (.seq (.seq (.reg [Qc 17 
 0, Qc 18 1, Q 19 (.idxS (.t 17) (.t 18)), Q 20 (.bin .eql (.t 19) (Kb 62))]) (.cond (.t 20) (.seq (.seq (.reg [Qc 21 8, Q 22 (.bin .rem (.t 21) (Ki 2)), Q 23 (.bin .eql (.t 22) 
 (Ki 1))]) (.cond (.t 23) (.reg [Qc 24 7, Qc 25 9, Q 26 (.bin .mul (Ki 16) (.t 25)), Q 27 (.cvI .u8 (.t 26)), ⟨some 28, .bsl 5 1 [.t 27], none⟩, ⟨some 29, .app 5 1 1 false (.t 24) 
 (.t 28), none⟩, Qa 7 29]) .skip)) (.seq (.reg [Qc 30 7, Q 31 (.b2s (.t 30)), Qc 32 1, Q 33 (.bin .add (.t 32) (Ki 1)), Qa 4 31, Qa 5 33, Qx 6 (Ki 0)]) .ret)) .skip)) (.seq (.seq 
 (.reg [Qc 34 0, Qc 35 1, Q 36 (.idxS (.t 34) (.t 35)), ⟨some 37, .call 40 [.t 36], none⟩]) (.cond (.t 37) (.exit 1) .skip)) (.seq (.reg [Qc 38 0, Qc 39 1, Q 40 (.idxS (.t 38) (.t 
 39)), ⟨some 41, .call 91 [.t 40], none⟩, Qa 10 41]) (.seq (.seq (.reg [Qc 42 10, Q 43 (.bin .lss (.t 42) (Ki 0))]) (.cond (.t 43) (.seq (.reg [Qx 4 (.k (.d (.str []))), Qx 5 (Ki 
 0), Qx 6 (Ki 4)]) .ret) .skip)) (.seq (.seq (.reg [Qc 44 8, Q 45 (.bin .rem (.t 44) (Ki 2)), Q 46 (.bin .eql (.t 45) (Ki 1))]) (.cond (.t 46) (.reg [Qc 47 7, Qc 48 9, Q 49 (.bin 
 .mul (Ki 16) (.t 48)), Qc 50 10, Q 51 (.bin .add (.t 49) (.t 50)), Q 52 (.cvI .u8 (.t 51)), ⟨some 53, .bsl 5 1 [.t 52], none⟩, ⟨some 54, .app 5 1 1 false (.t 47) (.t 53), none⟩, 
 Qa 7 54]) .skip)) (.seq (.reg [Qc 55 10, Qa 9 55]) (.reg [Qc 56 8, Q 57 (.bin .add (.t 56) (Ki 1)), Qa 8 57])))))))) (.reg [Qc 15 1, Q 16 (.bin .add (.t 15) (Ki 1)), Qa 1 
 16]))))) (.seq (.reg [Qx 4 (.k (.d (.str []))), Qx 5 (Ki 0), Qx 6 (Ki 5)]) .ret)))))
def R_foliowrightref_Unhex : List LRes := [.tmp 4, .tmp 5, .tmp 6]
theorem lift_foliowrightref_Unhex : Lifts Tryz.prog 69 58 L_foliowrightref_Unhex R_foliowrightref_Unhex := ⟨_, _, Tryz.func69, rfl, by kernel_rfl, by kernel_rfl, rfl⟩
def gtEnd : List UInt8 → Nat
 | [] => 0
 | c :: r => if c.toNat = 62 then 1 else gtEnd r + 1
theorem runhex_call (s : List UInt8) (at_ : Nat) (hs : s.length ≤ 1000000000) (ha : at_ ≤ s.length) : PCall Tryz.prog 69 [.str s, .int .i64 at_] (fun r => r = .tup [.str (unhexF (s.drop at_) (-1) []).1,
  .int .i64 (if (unhexF (s.drop at_) (-1) []).2 = 0 then at_ + gtEnd (s.drop at_) else 0 : Nat), .int .i64 (unhexF (s.drop at_) (-1) []).2]) := by
 refine lift_foliowrightref_Unhex.call rfl ?_
 generalize hR : unhexF (s.drop at_) (-1) [] = R
 generalize hE : at_ + gtEnd (s.drop at_) = E
 simp (maxSteps := 2000000) only [go_sem, ↓reduceIte, L_foliowrightref_Unhex, R_foliowrightref_Unhex]
 refine run_loop (fun y : Nat × List UInt8 × Nat × Nat => ⟨[(0, .d (.str s)), (1, .d (.int .i64 y.1)), (7, .own (.t 7) 5 1 (bytesD y.2.1)), (8, .d (.int .i64 y.2.2.1)), (9, .d (.int .i64 y.2.2.2))], [], []⟩)
  (fun y => y.1 ≤ s.length ∧ y.2.1.length ≤ y.1 ∧ y.2.2.1 ≤ y.1 ∧ y.2.2.2 ≤ 15 ∧ y.1 + gtEnd (s.drop y.1) = E ∧ unhexF (s.drop y.1) (if y.2.2.1 % 2 = 1 then y.2.2.2 else -1) y.2.1 = R) (fun y => s.length - y.1) (at_, [], 0, 0) ?_ ?_ ?_
 ·refine weak_mk ?_ trivial
  simp (maxSteps := 2000000) only [go_sem, ↓reduceIte, Sub, Int.natCast_add, Int.natCast_mul, bytesD]
 ·exact ⟨by simpa using ha, by simp, by simp, by simp, by simpa using hE, by simpa using hR⟩
 ·rintro ⟨i, b, n, x⟩ ⟨hi, hb, hn, hx, hE', hF⟩
  simp only at hi hb hn hx hE' hF
  have hblen := bytesD_length b
  have hm : ∀ n : Nat, Int.tmod (n : Int) 2 = ((n % 2 : Nat) : Int) := fun n => rfl
  simp (maxSteps := 2000000) only [go_sem, ↓reduceIte]
  refine ⟨fun hlt => ?_, fun hge => ?_⟩
  ·obtain ⟨c, hc⟩ := get_some (l := s) (i := i) (by omega)
   have hc8 := u8_lt c
   have hxx := hexI_bounds c.toNat
   rw [drop_cons hc] at hF hE'
   unfold unhexF at hF
   unfold gtEnd at hE'
   rw [getI_nat, hc]
   by_cases e1 : c.toNat = 62
   ·have e1' : ((c.toNat : Int) = 62) := by omega
    rw [if_pos e1] at hF hE'
    by_cases e2 : n % 2 = 1
    ·rw [if_pos e2, if_pos (by omega)] at hF
     subst hF
     have e2' : ((n % 2 : Nat) : Int) = 1 := by omega
     simp (maxSteps := 2000000) (disch := omega) only [go_sem, ↓reduceIte, hm, e1', e2', bytesD_snocI (b := b) (n := 16 * (x : Int)) (by omega) (by omega), bytesOf_bytesD, ← hE', Int.natCast_add]
     omega
    ·rw [if_neg e2, if_neg (by omega)] at hF
     subst hF
     have e2' : ¬ ((n % 2 : Nat) : Int) = 1 := by omega
     simp (maxSteps := 2000000) (disch := omega) only [go_sem, ↓reduceIte, hm, e1', e2', bytesOf_bytesD, ← hE', Int.natCast_add]
   ·have e1' : ¬ ((c.toNat : Int) = 62) := by omega
    rw [if_neg e1] at hF hE'
    simp (maxSteps := 2000000) (disch := omega) only [go_sem, ↓reduceIte, hm, e1', getI_nat, hc]
    refine CallG.of (rblank_call _) ?_
    by_cases e3 : blankB c.toNat = true
    ·rw [if_pos e3] at hF
     simp (maxSteps := 2000000) (disch := omega) only [go_sem, ↓reduceIte, e3]
     refine ⟨(i + 1, b, n, x), ?_, ⟨by simp only; omega, by simp only; omega, by simp only; omega, hx, by simp only; omega, hF⟩, by simp only; omega⟩
     refine weak_mk ?_ trivial
     simp (maxSteps := 2000000) only [go_sem, ↓reduceIte, Sub, Int.natCast_add, Int.natCast_mul]
    ·rw [if_neg e3] at hF
     have e3' : blankB c.toNat = false := by simpa using e3
     simp (maxSteps := 2000000) (disch := omega) only [go_sem, ↓reduceIte, e3', getI_nat, hc]
     refine CallG.of (hexOf_call c.toNat (by omega)) ?_
     by_cases e4 : hexI c.toNat < 0
     ·rw [if_pos e4] at hF
      subst hF
      simp (maxSteps := 2000000) (disch := omega) only [go_sem, ↓reduceIte, e4]
     ·rw [if_neg e4] at hF
      obtain ⟨h, hh⟩ : ∃ h : Nat, hexI c.toNat = h := ⟨(hexI c.toNat).toNat, by omega⟩
      rw [hh] at hF e4 hxx ⊢
      by_cases e2 : n % 2 = 1
      ·rw [if_pos e2, if_neg (by omega)] at hF
       have e2' : ((n % 2 : Nat) : Int) = 1 := by omega
       simp (maxSteps := 2000000) (disch := omega) only [go_sem, ↓reduceIte, hm, e4, e2', bytesD_snocI (b := b) (n := 16 * (x : Int) + (h : Int)) (by omega) (by omega)]
       refine ⟨by omega, (i + 1, b ++ [byteI (16 * (x : Int) + (h : Int))], n + 1, h), ?_, ⟨by simp only; omega, by simp only [List.length_append, List.length_cons, List.length_nil]; omega, by simp only; omega, by simp only; omega, by simp only; omega, ?_⟩, by simp only; omega⟩
       ·refine weak_mk ?_ trivial
        simp (maxSteps := 2000000) only [go_sem, ↓reduceIte, Sub, Int.natCast_add, Int.natCast_mul]
       ·simp only
        rw [if_neg (by omega)]; exact hF
      ·rw [if_neg e2, if_pos (by omega)] at hF
       have e2' : ¬ ((n % 2 : Nat) : Int) = 1 := by omega
       simp (maxSteps := 2000000) (disch := omega) only [go_sem, ↓reduceIte, hm, e4, e2']
       refine ⟨(i + 1, b, n + 1, h), ?_, ⟨by simp only; omega, by simp only; omega, by simp only; omega, by simp only; omega, by simp only; omega, ?_⟩, by simp only; omega⟩
       ·refine weak_mk ?_ trivial
        simp (maxSteps := 2000000) only [go_sem, ↓reduceIte, Sub, Int.natCast_add, Int.natCast_mul]
       ·simp only
        rw [if_pos (by omega)]; exact hF
  ·rw [List.drop_eq_nil_of_le (by omega)] at hF
   unfold unhexF at hF
   subst hF
   simp (maxSteps := 2000000) only [go_sem, ↓reduceIte]
def L_fix_Check : LCode :=
 .seq (.reg [Qx 2 (.k (.d .nil))]) (.seq (.seq (.reg [Qc 3 0, Q 4 (.bin .lss (.t 3) (Ki (-1000000000))), Qc 5 4, Qd 6 0 5 false, Qg 7 (.bin .gtr (.t 6) (Ki 1000000000)) 5 false, Q 8 
 (.pick (.t 5) KT (.t 7))]) (.cond (.t 8) (.seq (.reg [Q 9 (.mkI 50 (Ki 1)), Qa 2 9]) .ret) .skip)) (.seq (.reg [Qx 2 (.k (.d .nil))]) .ret))
def R_fix_Check : List LRes := [.tmp 2]
theorem lift_fix_Check : Lifts Tryz.prog 76 10 L_fix_Check R_fix_Check := ⟨_, _, Tryz.func76, rfl, by kernel_rfl, by kernel_rfl, rfl⟩
/-! ### What they say -/
def err (k : Int) : D := .iface 50 (.int .i64 k)
def Lim (n : Int) : Prop := -1000000000 ≤ n ∧ n ≤ 1000000000
instance (n : Int) : Decidable (Lim n) := inferInstanceAs (Decidable (_ ∧ _))
def I (n : Int) : D := .int .i64 n
def i64 (n : Int) : Prop := -9223372036854775808 ≤ n ∧ n ≤ 9223372036854775807
theorem check_ok {n : Int} (h : Lim n) : PCall Tryz.prog 76 [.int .i64 n] (fun r => r = .one .nil) := by
 refine lift_fix_Check.call rfl ?_
 simp (maxSteps := 2000000) only [go_sem, ↓reduceIte, L_fix_Check, R_fix_Check]
 unfold Lim at h
 refine ⟨fun a b => ?_, fun a => ?_⟩ <;> exfalso <;> omega
theorem check_bad {n : Int} (h : ¬ Lim n) : PCall Tryz.prog 76 [.int .i64 n] (fun r => r = .one (err 1)) := by
 refine lift_fix_Check.call rfl ?_
 simp (maxSteps := 2000000) only [go_sem, ↓reduceIte, L_fix_Check, R_fix_Check]
 unfold Lim at h
 refine ⟨fun a => ⟨fun b => ?_, fun b => ?_⟩, fun a => ?_⟩ <;> first | rfl | (exfalso; omega)
def parseL : List UInt8 → Nat → Nat → Int → Option (Nat × Nat × Int)
 | [], n, d, p => some (n, d, p)
 | c :: r, n, d, p =>
  if c.toNat = 46 ∧ p < 0 then parseL r n d 0
  else if c.toNat < 48 ∨ 57 < c.toNat then none
  else parseL r (if p < 3 ∧ n ≤ 1000000000 then 10 * n + (c.toNat - 48) else n) (d + 1) (if 0 ≤ p then p + 1 else p)
def finP (neg : Bool) : Option (Nat × Nat × Int) → Int × Nat
 | none => (0, 4)
 | some (n, d, p) => if d = 0 then (0, 4) else if 1000000000 < n * 10 ^ (3 - p.toNat) then (0, 1) else (if neg = true then -((n * 10 ^ (3 - p.toNat) : Nat) : Int) else ((n * 10 ^ (3 - p.toNat) : Nat) : Int), 0)
def signP : List UInt8 → Bool × List UInt8
 | [] => (false, [])
 | c :: r => if c.toNat = 45 then (true, r) else if c.toNat = 43 then (false, r) else (false, c :: r)
def parseF (s : List UInt8) : Int × Nat := finP (signP s).1 (parseL (signP s).2 0 0 (-1))
def resP (p : Int × Nat) : Res := .tup [.int .i64 p.1, errD p.2]
def L_fix_Parse : LCode :=
 .seq (.reg [Qx 2 (Ki 0), Qx 3 (.k (.d .nil))]) (.seq (.reg [Qc 11 0, Qa 4 11]) (.seq (.reg [Qx 5 KF]) (.seq (.seq (.reg [Qc 12 4, Q 13 (.bin .neq (.t 12) (.k (.d (.str [])))), Qc 
 14 13, Qd 15 4 14 true, Qg 16 (.idxS (.t 15) (Ki 0)) 14 true, Qg 17 (.bin .eql (.t 16) (Kb 45)) 14 true, Qd 18 17 14 true, Qd 19 4 18 false, Qg 20 (.idxS (.t 19) (Ki 0)) 18 
 false, Qg 21 (.bin .eql (.t 20) (Kb 43)) 18 false, Qg 22 (.pick (.t 18) KT (.t 21)) 14 true, Q 23 (.pick (.t 14) (.t 22) KF)]) (.cond (.t 23) (.dreg [Qc 24 4, Q 25 (.idxS (.t 24) 
 (Ki 0)), Q 26 (.bin .eql (.t 25) (Kb 45)), Qc 27 4, Q 28 (.subS (.t 27) (some (Ki 1)) none), Qc 5 26, Qc 4 28]) .skip)) (.seq (.reg [Qx 6 (Ki 0), Qx 7 (Ki 0), Qx 8 (Ki (-1))]) 
 (.seq (.seq (.reg [Qc 29 4, Q 30 (.len true (.t 29)), Q 31 (.cp (Ki 0))]) (.block 0 (.loop (.seq (.reg [Q 32 (.bin .lss (.t 31) (.t 30))]) (.seq (.cond (.t 32) .skip (.exit 0)) 
 (.seq (.block 1 (.seq (.reg [Qc 33 31, Qa 9 33]) (.seq (.reg [Qc 34 4, Qc 35 9, Q 36 (.idxS (.t 34) (.t 35)), Qa 10 36]) (.block 2 (.seq (.reg [Qc 56 10, Q 57 (.bin .eql (.t 56) 
 (Kb 46)), Qc 58 57, Qd 59 8 58 true, Qg 60 (.bin .lss (.t 59) (Ki 0)) 58 true, Q 61 (.pick (.t 58) (.t 60) KF), Qa 55 61]) (.cond (.t 55) (.reg [Qx 8 (Ki 0)]) (.seq (.reg [Qc 63 
 10, Q 64 (.bin .lss (.t 63) (Kb 48)), Qc 65 64, Qd 66 10 65 false, Qg 67 (.bin .gtr (.t 66) (Kb 57)) 65 false, Q 68 (.pick (.t 65) KT (.t 67)), Qa 62 68]) (.cond (.t 62) (.seq 
 (.reg [Q 69 (.mkI 50 (Ki 4)), Qx 2 (Ki 0), Qa 3 69]) .ret) (.seq (.reg [Qc 37 7, Q 38 (.bin .add (.t 37) (Ki 1)), Qa 7 38]) (.seq (.seq (.reg [Qc 39 8, Q 40 (.bin .lss (.t 39) 
 (Ki 3)), Qc 41 40, Qd 42 6 41 true, Qg 43 (.bin .leq (.t 42) (Ki 1000000000)) 41 true, Q 44 (.pick (.t 41) (.t 43) KF)]) (.cond (.t 44) (.reg [Qc 45 6, Q 46 (.bin .mul (Ki 10) 
 (.t 45)), Qc 47 10, Q 48 (.bin .sub (.t 47) (Kb 48)), Q 49 (.cvI .i64 (.t 48)), Q 50 (.bin .add (.t 46) (.t 49)), Qa 6 50]) .skip)) (.seq (.reg [Qc 51 8, Q 52 (.bin .geq (.t 51) 
 (Ki 0))]) (.cond (.t 52) (.reg [Qc 53 8, Q 54 (.bin .add (.t 53) (Ki 1)), Qa 8 54]) .skip)))))))))))) (.reg [Q 70 (.bin .add (.t 31) (Ki 1)), Qc 31 70]))))))) (.seq (.seq (.reg 
 [Qc 71 7, Q 72 (.bin .eql (.t 71) (Ki 0))]) (.cond (.t 72) (.seq (.reg [Q 73 (.mkI 50 (Ki 4)), Qx 2 (Ki 0), Qa 3 73]) .ret) .skip)) (.seq (.seq (.reg [Qc 74 8, Q 75 (.mm true (.t 
 74) (Ki 0)), Qa 8 75]) (.block 3 (.loop (.seq (.seq (.reg [Qc 76 8, Q 77 (.bin .lss (.t 76) (Ki 3))]) (.cond (.t 77) .skip (.exit 3))) (.seq (.block 4 (.reg [Qc 80 6, Q 81 (.bin 
 .mul (.t 80) (Ki 10)), Qa 6 81])) (.reg [Qc 78 8, Q 79 (.bin .add (.t 78) (Ki 1)), Qa 8 79])))))) (.seq (.seq (.reg [Qc 82 6, Q 83 (.bin .gtr (.t 82) (Ki 1000000000))]) (.cond 
 (.t 83) (.seq (.reg [Q 84 (.mkI 50 (Ki 1)), Qx 2 (Ki 0), Qa 3 84]) .ret) .skip)) (.seq (.seq (.reg [Qc 85 5]) (.cond (.t 85) (.reg [Qc 86 6, Q 87 (.neg (.t 86)), Qa 6 87]) 
 .skip)) (.seq (.reg [Qc 88 6, Qa 2 88, Qx 3 (.k (.d .nil))]) .ret))))))))))
def R_fix_Parse : List LRes := [.tmp 2, .tmp 3]
theorem lift_fix_Parse : Lifts Tryz.prog 89 89 L_fix_Parse R_fix_Parse := ⟨_, _, Tryz.func89, rfl, by kernel_rfl, by kernel_rfl, rfl⟩
theorem parse_call (s : List UInt8) (hs : s.length ≤ 1000000) : PCall Tryz.prog 89 [.str s] (fun r => r = resP (parseF s)) := by
 refine lift_fix_Parse.call rfl ?_
 unfold parseF
 cases s with
 | nil =>
  have hs0 : signP [] = (false, []) := rfl
  have hR : resP (finP false (parseL [] 0 0 (-1))) = .tup [.int .i64 0, .iface 50 (.int .i64 4)] := rfl
  rw [hs0, hR]
  simp (maxSteps := 2000000) (disch := omega) only [go_sem, ↓reduceIte, L_fix_Parse, R_fix_Parse]
  refine run_unroll ?_
  simp (maxSteps := 2000000) (disch := omega) only [go_sem, ↓reduceIte]
 | cons c r =>
  have hc8 := u8_lt c
  have hne : (c :: r = []) = False := by simp
  have hg0 : getI (c :: r) 0 = some c := rfl
  have hcut : cutI (c :: r) 1 ((r.length + 1 : Nat) : Int) = r := by
   show cutI (c :: r) ((1 : Nat) : Int) _ = r
   rw [cutI_nat]; simp
  have hlr : r.length + 1 ≤ 1000000 := by simpa using hs
  generalize hst : signP (c :: r) = st
  dsimp only [signP] at hst
  obtain ⟨R, hR⟩ : ∃ R, finP st.1 (parseL st.2 0 0 (-1)) = R := ⟨_, rfl⟩
  rw [hR]
  simp (maxSteps := 2000000) (disch := omega) only [go_sem, ↓reduceIte, L_fix_Parse, R_fix_Parse, hne, hg0, hcut]
  refine ⟨fun a1 => ⟨fun a2 => ⟨by omega, ?_⟩, fun a2 => ?_⟩, fun a1 => ⟨by omega, ?_⟩⟩
  rw [if_neg (by omega), if_pos (by omega)] at hst
  subst hst
  obtain ⟨T, hT⟩ : ∃ T, T = r := ⟨_, rfl⟩
  obtain ⟨N, hN⟩ : ∃ N, N = false := ⟨_, rfl⟩
  have hdec : decide ((c.toNat : Int) = 45) = false := by simp [a1]
  simp only [hdec]
  rw [← hT, ← hN] at hR
  have hlT : T.length ≤ 1000000 := by rw [hT]; omega
  rotate_left
  rw [if_neg (by omega), if_neg (by omega)] at hst
  subst hst
  obtain ⟨T, hT⟩ : ∃ T, T = c :: r := ⟨_, rfl⟩
  obtain ⟨N, hN⟩ : ∃ N, N = false := ⟨_, rfl⟩
  rw [← hT, ← hN] at hR
  have hlT : T.length ≤ 1000000 := by rw [hT]; exact hs
  rotate_left
  rw [if_pos (by omega)] at hst
  subst hst
  obtain ⟨T, hT⟩ : ∃ T, T = r := ⟨_, rfl⟩
  obtain ⟨N, hN⟩ : ∃ N, N = true := ⟨_, rfl⟩
  have hdec : decide ((c.toNat : Int) = 45) = true := by simp [a1]
  simp only [hdec]
  rw [← hT, ← hN] at hR
  have hlT : T.length ≤ 1000000 := by rw [hT]; omega
  rotate_left
  all_goals
   refine run_loop (fun y : Nat × Nat × Nat × Int => ⟨[(4, .d (.str T)), (5, .d (.bool N)), (6, .d (.int .i64 y.2.1)), (7, .d (.int .i64 y.2.2.1)), (8, .d (.int .i64 y.2.2.2)), (30, .d (.int .i64 (T.length : Nat))), (31, .d (.int .i64 y.1))], [], []⟩)
    (fun y => y.1 ≤ T.length ∧ y.2.1 ≤ 10000000009 ∧ y.2.2.1 ≤ y.1 ∧ -1 ≤ y.2.2.2 ∧ y.2.2.2 ≤ y.1 ∧ finP N (parseL (T.drop y.1) y.2.1 y.2.2.1 y.2.2.2) = R) (fun y => T.length - y.1) (0, 0, 0, -1) ?_ ?_ ?_
   ·refine weak_mk ?_ trivial
    simp (maxSteps := 2000000) only [go_sem, ↓reduceIte, Sub, Int.natCast_add, Int.natCast_mul, hT, hN]
   ·exact ⟨by simp, by simp, by simp, by simp, by simp, by simpa using hR⟩
   ·rintro ⟨i, n, d, p⟩ ⟨hi, hn, hd, hp, hp2, hF⟩
    simp only at hi hn hd hp hp2 hF
    simp (maxSteps := 2000000) only [go_sem, ↓reduceIte]
    refine ⟨fun q1 => ?_, fun q1 => ?_⟩
    ·obtain ⟨x, hx⟩ := get_some (l := T) (i := i) (by omega)
     have hx8 := u8_lt x
     rw [drop_cons hx] at hF
     unfold parseL at hF
     by_cases e1 : x.toNat = 46 ∧ p < 0
     ·rw [if_pos e1] at hF
      have e1a : (x.toNat : Int) = 46 := by omega
      simp (maxSteps := 2000000) (disch := omega) only [go_sem, ↓reduceIte, getI_nat, hx, e1a, e1.2]
      refine ⟨(i + 1, n, d, 0), ?_, ⟨by simp only; omega, hn, by simp only; omega, by simp, by simp only; omega, hF⟩, by simp only; omega⟩
      refine weak_mk ?_ trivial
      simp (maxSteps := 2000000) only [go_sem, ↓reduceIte, Sub, Int.natCast_add, Int.natCast_mul]
     ·rw [if_neg e1] at hF
      by_cases e2 : x.toNat < 48 ∨ 57 < x.toNat
      ·rw [if_pos e2] at hF
       subst hF
       have hres : resP (finP N none) = .tup [.int .i64 0, .iface 50 (.int .i64 4)] := rfl
       rw [hres]
       simp (maxSteps := 2000000) only [go_sem, ↓reduceIte, getI_nat, hx]
       refine ⟨fun a => ⟨fun b => by omega, fun b => fun c => by omega⟩, fun a => fun b c => by omega⟩
      ·rw [if_neg e2] at hF
       have hne46 : ¬ ((x.toNat : Int) = 46) := by omega
       have h48 : ¬ ((x.toNat : Int) < 48) := by omega
       have h57 : ¬ (57 < (x.toNat : Int)) := by omega
       obtain ⟨k, hk⟩ : ∃ k, x.toNat - 48 = k := ⟨_, rfl⟩
       have hk' : (x.toNat : Int) - 48 = (k : Int) := by omega
       rw [hk] at hF
       simp (maxSteps := 2000000) (disch := omega) only [go_sem, ↓reduceIte, getI_nat, hx, hne46, h48, h57, hk']
       refine ⟨fun b1 => ⟨fun b2 => ⟨fun b3 => ?_, fun b3 => ?_⟩, fun b2 => ⟨fun b3 => ?_, fun b3 => ?_⟩⟩, fun b1 => ⟨fun b3 => ?_, fun b3 => ?_⟩⟩
       ·rw [if_pos ⟨b1, by omega⟩, if_pos b3] at hF
        refine ⟨(i + 1, 10 * n + k, d + 1, p + 1), ?_, ⟨by simp only; omega, by simp only; omega, by simp only; omega, by simp only; omega, by simp only; omega, hF⟩, by simp only; omega⟩
        refine weak_mk ?_ trivial
        simp (maxSteps := 2000000) only [go_sem, ↓reduceIte, Sub, Int.natCast_add, Int.natCast_mul]
       ·rw [if_pos ⟨b1, by omega⟩, if_neg b3] at hF
        refine ⟨(i + 1, 10 * n + k, d + 1, p), ?_, ⟨by simp only; omega, by simp only; omega, by simp only; omega, by simp only; omega, by simp only; omega, hF⟩, by simp only; omega⟩
        refine weak_mk ?_ trivial
        simp (maxSteps := 2000000) only [go_sem, ↓reduceIte, Sub, Int.natCast_add, Int.natCast_mul]
       ·rw [if_neg (fun h => b2 (by omega)), if_pos b3] at hF
        refine ⟨(i + 1, n, d + 1, p + 1), ?_, ⟨by simp only; omega, by simp only; omega, by simp only; omega, by simp only; omega, by simp only; omega, hF⟩, by simp only; omega⟩
        refine weak_mk ?_ trivial
        simp (maxSteps := 2000000) only [go_sem, ↓reduceIte, Sub, Int.natCast_add, Int.natCast_mul]
       ·rw [if_neg (fun h => b2 (by omega)), if_neg b3] at hF
        refine ⟨(i + 1, n, d + 1, p), ?_, ⟨by simp only; omega, by simp only; omega, by simp only; omega, by simp only; omega, by simp only; omega, hF⟩, by simp only; omega⟩
        refine weak_mk ?_ trivial
        simp (maxSteps := 2000000) only [go_sem, ↓reduceIte, Sub, Int.natCast_add, Int.natCast_mul]
       ·rw [if_neg (fun h => b1 h.1), if_pos b3] at hF
        refine ⟨(i + 1, n, d + 1, p + 1), ?_, ⟨by simp only; omega, by simp only; omega, by simp only; omega, by simp only; omega, by simp only; omega, hF⟩, by simp only; omega⟩
        refine weak_mk ?_ trivial
        simp (maxSteps := 2000000) only [go_sem, ↓reduceIte, Sub, Int.natCast_add, Int.natCast_mul]
       ·rw [if_neg (fun h => b1 h.1), if_neg b3] at hF
        refine ⟨(i + 1, n, d + 1, p), ?_, ⟨by simp only; omega, by simp only; omega, by simp only; omega, by simp only; omega, by simp only; omega, hF⟩, by simp only; omega⟩
        refine weak_mk ?_ trivial
        simp (maxSteps := 2000000) only [go_sem, ↓reduceIte, Sub, Int.natCast_add, Int.natCast_mul]
    ·rw [List.drop_eq_nil_of_le (by omega)] at hF
     unfold parseL at hF
     dsimp only [finP] at hF
     refine ⟨fun c1 => ?_, fun c1 => ?_⟩
     ·rw [if_pos (by omega)] at hF
      subst hF
      simp [resP, errD]
     ·rw [if_neg (by omega)] at hF
      have hmx : (if p < 0 then 0 else p) = ((p.toNat : Nat) : Int) := by split <;> omega
      rw [hmx]
      have hP9 : p.toNat ≤ 1000000 := by omega
      generalize p.toNat = P at hF hP9 ⊢
      refine run_loop (fun k : Nat => ⟨[(5, .d (.bool N)), (6, .d (.int .i64 (n * 10 ^ k : Nat))), (8, .d (.int .i64 (P + k : Nat)))], [], []⟩)
       (fun k => k ≤ 3 - P) (fun k => 3 - k) 0 ?_ ?_ ?_
      ·refine weak_mk ?_ trivial
       simp (maxSteps := 2000000) only [go_sem, ↓reduceIte, Sub, Int.natCast_add, Int.natCast_mul, Nat.pow_zero, Nat.mul_one, Nat.add_zero]
      ·omega
      ·intro k hk
       have h10 : 10 ^ k ≤ 10 ^ 3 := Nat.pow_le_pow_right (by decide) (by omega)
       have hM : n * 10 ^ k ≤ 10000000009 * 10 ^ 3 := Nat.mul_le_mul hn h10
       simp (maxSteps := 2000000) only [go_sem, ↓reduceIte]
       refine ⟨fun c2 => ?_, fun c2 => ?_⟩
       ·have hs1 : n * 10 ^ (k + 1) = n * 10 ^ k * 10 := by rw [Nat.pow_succ, Nat.mul_assoc]
        generalize hMM : n * 10 ^ k = M at hM hs1 ⊢
        simp (disch := omega) only [IntWalk.i64_in, IntWalk.u8_in]
        refine ⟨k + 1, ?_, by omega, by omega⟩
        refine weak_mk ?_ trivial
        simp (maxSteps := 2000000) only [go_sem, ↓reduceIte, Sub, Int.natCast_add, Int.natCast_mul, hs1]
        rw [Int.add_assoc]
       ·have hk3 : k = 3 - P := by omega
        rw [← hk3] at hF
        generalize hMM : n * 10 ^ k = M at hM hF ⊢
        refine ⟨fun c3 => ?_, fun c3 => ?_⟩
        ·rw [if_pos (by omega)] at hF
         subst hF
         simp [resP, errD]
        ·rw [if_neg (by omega)] at hF
         subst hF
         cases N
         ·simp (maxSteps := 2000000) (disch := omega) only [go_sem, ↓reduceIte, resP, errD]
         ·simp (maxSteps := 2000000) (disch := omega) only [go_sem, ↓reduceIte, resP, errD, Int.zero_sub]
def L_slices_IndexFunc___foliowright_api_Value_foliowright_api_Value_ : LCode :=
 .seq (.reg [Qx 4 (Ki 0)]) (.seq (.seq (.reg [Qc 6 0, Q 7 (.len false (.t 6)), Q 8 (.cp (Ki 0))]) (.block 0 (.loop (.seq (.reg [Q 9 (.bin .lss (.t 8) (.t 7))]) (.seq (.cond (.t 9) 
 .skip (.exit 0)) (.seq (.block 1 (.seq (.reg [Qc 10 8, Qa 5 10]) (.seq (.reg [Qc 11 1, Qc 12 0, Qc 13 5, Q 14 (.ia 5 (.t 12) (.t 13)), Q 15 (.ld true 5 (.t 14)), ⟨some 16, .prim 
 .call [.t 11, .t 15] [], none⟩]) (.cond (.t 16) (.seq (.reg [Qc 17 5, Qa 4 17]) .ret) .skip)))) (.reg [Q 18 (.bin .add (.t 8) (Ki 1)), Qc 8 18]))))))) (.seq (.reg [Qx 4 (Ki 
 (-1))]) .ret))
def R_slices_IndexFunc___foliowright_api_Value_foliowright_api_Value_ : List LRes := [.tmp 4]
theorem lift_slices_IndexFunc___foliowright_api_Value_foliowright_api_Value_ : Lifts Tryz.prog 95 19 L_slices_IndexFunc___foliowright_api_Value_foliowright_api_Value_ R_slices_IndexFunc___foliowright_api_Value_foliowright_api_Value_ := ⟨_, _, Tryz.func95, rfl, by kernel_rfl, by kernel_rfl, rfl⟩
theorem indexFunc_call (g : Nat) (hg : callOk Tryz.prog g = true) (l : List Val) (hl : l.length ≤ 1000000000) (p : Val → Bool) (hp : ∀ x ∈ l, PCall Tryz.prog g [x.d] (fun r => r = .one (.bool (p x)))) :
  MCallE Tryz.prog 95 [.d (.list (valsD l)), .fn (.func g) [] []] [] (.d (.int .i64 (match l.findIdx? p with | some i => (i : Int) | none => -1))) [] := by
 have hll := valsD_length l
 refine lift_slices_IndexFunc___foliowright_api_Value_foliowright_api_Value_.mcall (by kernel_rfl) rfl ?_
 simp (maxSteps := 2000000) only [go_sem, ↓reduceIte, L_slices_IndexFunc___foliowright_api_Value_foliowright_api_Value_, R_slices_IndexFunc___foliowright_api_Value_foliowright_api_Value_]
 refine run_loop (fun i : Nat => ⟨[(0, .d (.list (valsD l))), (1, .fn (.func g) [] []), (7, .d (.int .i64 (valsD l).length)), (8, .d (.int .i64 i))], [], []⟩)
  (fun i => i ≤ l.length ∧ ∀ j, j < i → ∀ x, l[j]? = some x → p x = false) (fun i => l.length - i) 0 ?_ ?_ ?_
 ·refine Weak.mk ?_ ?_ ?_ <;> simp (maxSteps := 2000000) only [go_sem, ↓reduceIte, Sub, Int.natCast_add, Int.natCast_mul]
 ·exact ⟨by simp, fun j hj => absurd hj (by simp)⟩
 ·rintro i ⟨hi, hn⟩
  simp (maxSteps := 2000000) only [go_sem, ↓reduceIte, hll]
  refine ⟨fun hlt => ?_, fun hge => ?_⟩
  ·obtain ⟨x, hx⟩ := get_some (l := l) (i := i) (by omega)
   have hc := (hp x (List.mem_of_getElem? hx)).mcallE hg
   simp only [List.map_cons, List.map_nil, Res.av] at hc
   rw [Val.d_eq] at hc
   simp (maxSteps := 2000000) (disch := omega) only [go_sem, ↓reduceIte, getI_nat, valsD_get, hx, Val.d_eq]
   refine PrimG.mcall ([]) ([]) rfl (hc) rfl rfl (by simp only [objsAt, St.obj, aget, AObj.ren, AV.ren, AV.ren1, renL, ren1L, renR, renQ, List.getD_cons_zero, List.getD_cons_succ, and_true, and_self, Nat.reduceEqDiff, ↓reduceIte, reduceCtorEq]) rfl rfl rfl ⟨rfl, rfl⟩ ?_
   cases hpx : p x
   ·simp (maxSteps := 2000000) (disch := omega) only [go_sem, ↓reduceIte]
    refine ⟨i + 1, ?_, ⟨by omega, fun j hj y hy => ?_⟩, by omega⟩
    ·refine Weak.mk ?_ ?_ ?_ <;> simp (maxSteps := 2000000) only [go_sem, ↓reduceIte, Sub, Int.natCast_add, Int.natCast_mul, hll]
    ·rcases Nat.lt_or_ge j i with h | h
     ·exact hn j h y hy
     ·have : j = i := by omega
      subst this
      rw [hx] at hy; cases hy; exact hpx
   ·simp (maxSteps := 2000000) only [go_sem, ↓reduceIte]
    have : l.findIdx? p = some i := by
     rw [List.findIdx?_eq_some_iff_getElem]
     obtain ⟨h1, h2⟩ := List.getElem?_eq_some_iff.1 hx
     refine ⟨h1, by rw [h2]; exact hpx, fun j hj => ?_⟩
     have := hn j hj _ (List.getElem?_eq_getElem (by omega))
     simp [this]
    rw [this]
  ·have : l.findIdx? p = none := by
    rw [List.findIdx?_eq_none_iff]
    intro x hx
    obtain ⟨j, hj⟩ := List.getElem?_of_mem hx
    exact hn j (by have := (List.getElem?_eq_some_iff.1 hj).1; omega) x hj
   rw [this]
def L_slices_ContainsFunc___foliowright_api_Value_foliowright_api_Value_ : LCode :=
 .seq (.reg [Qx 4 KF]) (.seq (.reg [Qc 5 0, Qc 6 1, ⟨some 7, .prim .call [.k (.fn (.func 95) [] []), .t 5, .t 6] [], none⟩, Q 8 (.bin .geq (.t 7) (Ki 0)), Qa 4 8]) .ret)
def R_slices_ContainsFunc___foliowright_api_Value_foliowright_api_Value_ : List LRes := [.tmp 4]
theorem lift_slices_ContainsFunc___foliowright_api_Value_foliowright_api_Value_ : Lifts Tryz.prog 78 9 L_slices_ContainsFunc___foliowright_api_Value_foliowright_api_Value_ R_slices_ContainsFunc___foliowright_api_Value_foliowright_api_Value_ := ⟨_, _, Tryz.func78, rfl, by kernel_rfl, by kernel_rfl, rfl⟩
theorem containsFunc_call (g : Nat) (hg : callOk Tryz.prog g = true) (l : List Val) (hl : l.length ≤ 1000000000) (p : Val → Bool) (hp : ∀ x ∈ l, PCall Tryz.prog g [x.d] (fun r => r = .one (.bool (p x)))) :
  MCallE Tryz.prog 78 [.d (.list (valsD l)), .fn (.func g) [] []] [] (.d (.bool (l.any p))) [] := by
 have hany : (match l.findIdx? p with | some i => decide (0 ≤ (i : Int)) | none => false) = l.any p := by
  cases h : l.findIdx? p with
  | none =>
   rw [List.findIdx?_eq_none_iff] at h
   simp only [Bool.false_eq]
   rw [List.any_eq_false]
   exact fun x hx => by simp [h x hx]
  | some i =>
   rw [List.findIdx?_eq_some_iff_getElem] at h
   obtain ⟨h1, h2, _⟩ := h
   have : l.any p = true := List.any_eq_true.2 ⟨_, List.getElem_mem h1, h2⟩
   rw [this]; simp
 refine lift_slices_ContainsFunc___foliowright_api_Value_foliowright_api_Value_.mcall (by kernel_rfl) rfl ?_
 simp (maxSteps := 2000000) only [go_sem, ↓reduceIte, L_slices_ContainsFunc___foliowright_api_Value_foliowright_api_Value_, R_slices_ContainsFunc___foliowright_api_Value_foliowright_api_Value_]
 refine PrimG.mcall ([]) ([]) rfl (indexFunc_call g hg l hl p hp) rfl rfl (by simp only [objsAt, St.obj, aget, AObj.ren, AV.ren, AV.ren1, renL, ren1L, renR, renQ, List.getD_cons_zero, List.getD_cons_succ, and_true, and_self, Nat.reduceEqDiff, ↓reduceIte, reduceCtorEq]) rfl rfl rfl ⟨rfl, rfl⟩ ?_
 simp (maxSteps := 2000000) only [go_sem, ↓reduceIte]
 rw [← hany]
 cases l.findIdx? p <;> simp
end Go.Av.Tryz
