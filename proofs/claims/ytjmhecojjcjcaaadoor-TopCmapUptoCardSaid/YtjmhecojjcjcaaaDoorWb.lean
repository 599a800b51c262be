import Derived.Test.YtjmhecojjcjcaaaDoorWa
import Derived.Shelf.Strings.Builder1
import Derived.Test.YtjmhecojjcjcaaaDoorAvG
import Derived.Shelf.RegionOpenPlain
import Derived.WalkKit
import Derived.Lib.Walk
import Derived.Lib.SliceRun
import Derived.Lib.JoinLaws
import Derived.Lib.AppendZerosOnto
import Derived.Lib.Overlaps
import Derived.Laws.Externs
import Derived.Laws.IdiomCopy
import Derived.Laws.NewBlocks
import Derived.Shelf.Unicode.DecodeLast
import Derived.Shelf.LaysM
set_option linter.unusedSimpArgs false
namespace Go.Av.Tryd
open Go.Proofs
section
open Go.Shelf Go.RowKit
set_option maxHeartbeats 2000000
set_option maxRecDepth 100000
theorem bstr_row (b g cap : Nat) (p : Value) (cur : Array Value) (el : TypeId) (l : List UInt8) (w : World) (hbk : w.heap[b]? = some (.cells #[p, .slice (some ⟨g, 0, none⟩) l.length cap] el (0, 0))) (h0 : l ≠ [])
  (hg : w.heap[g]? = some (.cells cur 5 (0, 0))) (hnc : l.length ≤ cap) (hcm : cap ≤ maxLen) (hcs : cur.size = cap) (hcell : ∀ (j : Nat) (x : UInt8), l[j]? = some x → w.cell? ((⟨g, 0, none⟩ : Addr).add j) = some (.int .u8 x.toNat)) :
  Calls Tryd.prog 51 #[.pointer (some ⟨b, 0, none⟩)] w fun e w' => e = .returned (.string ⟨l.toArray⟩) ∧ w' = w.drew.freeze ⟨g, 0, none⟩ l.length := by
 have hl0 : l.length ≠ 0 := by simpa using h0
 have c1 : w.drew.cell? ⟨b, 1, none⟩ = some (.slice (some ⟨g, 0, none⟩) l.length cap) := by
  have : w.drew.heap[b]? = some (.cells #[p, .slice (some ⟨g, 0, none⟩) l.length cap] el (0, 0)) := hbk
  rw [Lib.cell_of_heap this]; rfl
 have hSD : (Builtin.unsafeSliceData_ #[68] 106 #[.slice (some ⟨g, 0, none⟩) l.length cap]).run Tryd.prog w.drew = .ok (.pointer (some ⟨g, 0, none⟩)) w.drew :=
  Lib.run_unsafeSliceData_row _ _ _ _ _ _ (by omega)
 have hUS : (Builtin.unsafeString_ #[106, 3] 9 #[.pointer (some ⟨g, 0, none⟩), .int .i64 l.length]).run Tryd.prog w.drew = .ok (.string ⟨l.toArray⟩) (w.drew.freeze ⟨g, 0, none⟩ l.length) := by
  refine Lib.run_unsafeString_row w.drew 106 3 9 5 Tryd.underlying106 (by kernel_rfl) g cur.size (by have hg' : w.drew.heap[g]? = some (.cells cur 5 (0, 0)) := hg; simp [World.shape?, hg']) l h0 (by omega) (by unfold maxLen at hcm; omega) ?_
  intro j x hx
  exact hcell j x hx
 go_enter Tryd.func51, Tryd.ntmps51
 go_wp2
 go_region
 all_goals (go_wp2; go_ret; exact ⟨rfl, rfl⟩)
theorem bstr_nil (b : Nat) (p : Value) (el : TypeId) (w : World) (hbk : w.heap[b]? = some (.cells #[p, .slice none 0 0] el (0, 0))) :
  Calls Tryd.prog 51 #[.pointer (some ⟨b, 0, none⟩)] w fun e w' => e = .returned (.string ⟨#[]⟩) ∧ w' = w.drew := by
 have hUS : ∀ (W : World) (q : Option Addr), (Builtin.unsafeString_ #[106, 3] 9 #[.pointer q, .int .i64 0]).run Tryd.prog W = .ok (.string .empty) W := fun W q => Lib.run_unsafeString_none W _ _ _ q
 have c1 : w.drew.cell? ⟨b, 1, none⟩ = some (.slice none 0 0) := by
  have : w.drew.heap[b]? = some (.cells #[p, .slice none 0 0] el (0, 0)) := hbk
  rw [Lib.cell_of_heap this]; rfl
 have hSD : (Builtin.unsafeSliceData_ #[68] 106 #[.slice none 0 0]).run Tryd.prog w.drew = .ok (.pointer none) w.drew := rfl
 go_enter Tryd.func51, Tryd.ntmps51
 go_wp2
 go_region
 all_goals (go_wp2; go_ret; exact ⟨rfl, rfl⟩)
theorem bstr_room (b g cap : Nat) (p : Value) (el : TypeId) (w : World) (hc0 : cap ≠ 0) (hbk : w.heap[b]? = some (.cells #[p, .slice (some ⟨g, 0, none⟩) 0 cap] el (0, 0))) :
  Calls Tryd.prog 51 #[.pointer (some ⟨b, 0, none⟩)] w fun e w' => e = .returned (.string ⟨#[]⟩) ∧ w' = w.drew := by
 have hUS : ∀ (W : World) (q : Option Addr), (Builtin.unsafeString_ #[106, 3] 9 #[.pointer q, .int .i64 0]).run Tryd.prog W = .ok (.string .empty) W := fun W q => Lib.run_unsafeString_none W _ _ _ q
 have c1 : w.drew.cell? ⟨b, 1, none⟩ = some (.slice (some ⟨g, 0, none⟩) 0 cap) := by
  have : w.drew.heap[b]? = some (.cells #[p, .slice (some ⟨g, 0, none⟩) 0 cap] el (0, 0)) := hbk
  rw [Lib.cell_of_heap this]; rfl
 have hSD : (Builtin.unsafeSliceData_ #[68] 106 #[.slice (some ⟨g, 0, none⟩) 0 cap]).run Tryd.prog w.drew = .ok (.pointer (some ⟨g, 0, none⟩)) w.drew :=
  Lib.run_unsafeSliceData_row _ _ _ _ _ _ hc0
 clear hc0
 go_enter Tryd.func51, Tryd.ntmps51
 go_wp2
 go_region
 all_goals (go_wp2; go_ret; exact ⟨rfl, rfl⟩)
theorem bstr_noroom (b g : Nat) (p : Value) (el : TypeId) (cur : Array Value) (w : World) (hbk : w.heap[b]? = some (.cells #[p, .slice (some ⟨g, 0, none⟩) 0 0] el (0, 0))) (hg : w.heap[g]? = some (.cells cur 5 (0, 0))) :
  Calls Tryd.prog 51 #[.pointer (some ⟨b, 0, none⟩)] w fun e w' => e = .returned (.string ⟨#[]⟩) ∧ w' = w.drew.alloc (.view ⟨g, 0, none⟩ 5) := by
 have hUS : ∀ (W : World) (q : Option Addr), (Builtin.unsafeString_ #[106, 3] 9 #[.pointer q, .int .i64 0]).run Tryd.prog W = .ok (.string .empty) W := fun W q => Lib.run_unsafeString_none W _ _ _ q
 have hlt : b < w.heap.size := by
  rcases Nat.lt_or_ge b w.heap.size with h' | h'
  ·exact h'
  ·simp [Array.getElem?_eq_none h'] at hbk
 have c1 : w.drew.cell? ⟨b, 1, none⟩ = some (.slice (some ⟨g, 0, none⟩) 0 0) := by
  have : w.drew.heap[b]? = some (.cells #[p, .slice (some ⟨g, 0, none⟩) 0 0] el (0, 0)) := hbk
  rw [Lib.cell_of_heap this]; rfl
 have hSD : (Builtin.unsafeSliceData_ #[68] 106 #[.slice (some ⟨g, 0, none⟩) 0 0]).run Tryd.prog w.drew = .ok (.pointer (some ⟨w.drew.heap.size, 0, none⟩)) (w.drew.alloc (.view ⟨g, 0, none⟩ 5)) :=
  Lib.run_unsafeSliceData_zero w.drew _ _ 5 Tryd.underlying106 ⟨g, 0, none⟩ 0 (5, cur.size) (by have hg' : w.drew.heap[g]? = some (.cells cur 5 (0, 0)) := hg; simp [World.shape?, hg'])
 have c2 : (w.drew.alloc (.view ⟨g, 0, none⟩ 5)).cell? ⟨b, 1, none⟩ = some (.slice (some ⟨g, 0, none⟩) 0 0) := by
  have : (w.drew.alloc (.view ⟨g, 0, none⟩ 5)).heap[b]? = _ := (Lib.alloc_old w.drew _ b hlt).trans hbk
  rw [Lib.cell_of_heap this]; rfl
 have c3 : (w.alloc (.view ⟨g, 0, none⟩ 5)).drew.cell? ⟨b, 1, none⟩ = some (.slice (some ⟨g, 0, none⟩) 0 0) := c2
 have c0 : w.cell? ⟨b, 1, none⟩ = some (.slice (some ⟨g, 0, none⟩) 0 0) := c1
 go_enter Tryd.func51, Tryd.ntmps51
 go_wp2
 go_region
 all_goals (go_wp2; go_ret; exact ⟨rfl, rfl⟩)
end
theorem heap_freeze_ne (w : World) (g n b : Nat) (h : b ≠ g) : (w.freeze ⟨g, 0, none⟩ n).heap[b]? = w.heap[b]? := by
 unfold World.freeze
 split
 ·rfl
 ·simp only [Array.getElem?_modify]
  rw [if_neg (fun e => h e.symm)]
theorem heap_freeze_at (w : World) (g n : Nat) {cur : Array Value} {e : TypeId} {fz : Nat × Nat} (h : w.heap[g]? = some (.cells cur e fz)) : ∃ fz', (w.freeze ⟨g, 0, none⟩ n).heap[g]? = some (.cells cur e fz') := by
 unfold World.freeze
 split
 ·exact ⟨fz, h⟩
 ·obtain ⟨lo, hi⟩ := fz
  simp only [Array.getElem?_modify, if_true, h, Option.map_some]
  exact ⟨_, rfl⟩
theorem freeze_size (w : World) (g n : Nat) : (w.freeze ⟨g, 0, none⟩ n).heap.size = w.heap.size := by
 unfold World.freeze
 split
 ·rfl
 ·simp
theorem freeze_rest (w : World) (g n : Nat) : (w.freeze ⟨g, 0, none⟩ n).os = w.os ∧ (w.freeze ⟨g, 0, none⟩ n).tape = w.tape ∧ (w.freeze ⟨g, 0, none⟩ n).output = w.output := by
 unfold World.freeze
 split <;> exact ⟨rfl, rfl, rfl⟩
theorem Ext.freeze {f : Nat → Nat} {w : World} {g n : Nat} {cur : Array Value} {e : TypeId} {fz : Nat × Nat} (h : w.heap[g]? = some (.cells cur e fz)) : Ext f w f (w.freeze ⟨g, 0, none⟩ n) := by
 refine ⟨by rw [freeze_size]; exact Nat.le_refl _, fun _ => Nat.le_refl _, fun b i _ => ?_, fun b es c _ hm => ?_⟩
 ·by_cases hb : b = g
  ·subst hb
   obtain ⟨fz', h'⟩ := heap_freeze_at w b n h
   simp [World.cell?, at_, h, h']
  ·simp only [World.cell?, at_]
   rw [heap_freeze_ne w g n b hb]
 ·by_cases hb : b = g
  ·subst hb; rw [h] at hm; cases hm
  ·rw [heap_freeze_ne w g n b hb]; exact hm
theorem one_final {E : Entry} {n : Nat} {G : Ghost} {σ : St} {ts : Array Value} {w : World} (h : SR E n G σ ts w) {x : D} {v : Value} (hr : RD G.f w x v) {o : AObj} (ho : σ.obj (.x 0) = some o) :
  ∃ G', SR E 1 G' ⟨[(0, .d x)], [], numO 0 [o]⟩ #[v] w :=
 ⟨_, h.final (q0 := none) (r := .d x) (v := v) (.d _ _ hr) (fun q hq => by simp [AV.lab?] at hq) (fun _ _ e => by cases e) (hs' := [o]) (fun i o' hi => by
  cases i with
  | zero => simp at hi; subst hi; exact ho
  | succ i => simp at hi)⟩
def Bld.said : Bld → AObj
 | .has s => .cells [.ptr (.x 0) 0, .d (.list (bytesD s))]
 | b => b.obj
theorem string_call (b : Bld) (hl : b.bytes.length ≤ 1000000000) : MCallE Tryd.prog 51 [.ptr (.x 0) 0] [b.obj] (.d (.str b.bytes)) [b.said] := by
 refine ⟨by kernel_rfl, fun G w vs hI hown hsr => ?_⟩
 have hv : vs = #[.pointer (some (at_ (G.b (.x 0)) 0))] := by
  have h1 := hsr.slot 0 (.ptr (.x 0) 0) rfl
  have h2 := hsr.size
  match vs, h2 with
  | ⟨[v]⟩, _ =>
   have h1 : AVR G w (.ptr (.x 0) 0) v := h1
   cases h1; rfl
 subst hv
 have hob : St.obj ⟨initA 0 [.ptr (.x 0) 0], [], numO 0 [b.obj]⟩ (.x 0) = some b.obj := rfl
 obtain ⟨a0, c1, hbo, hc1⟩ : ∃ a0 c1, b.obj = .cells [a0, c1] ∧ ((c1 = .ns ∧ b.bytes = [] ∧ b.said = b.obj) ∨ ∃ s, b = .has s ∧ c1 = .own (.c (.x 0) 1) 5 1 (bytesD s)) := by
  cases b with
  | new => exact ⟨_, _, rfl, .inl ⟨rfl, rfl, rfl⟩⟩
  | nul => exact ⟨_, _, rfl, .inl ⟨rfl, rfl, rfl⟩⟩
  | has s => exact ⟨_, _, rfl, .inr ⟨s, rfl, rfl⟩⟩
 have ho := hsr.obj _ _ hob
 rw [hbo] at ho
 obtain ⟨arr, el, g1, g2, g3⟩ := ho
 obtain ⟨p, v, rfl⟩ : ∃ p v, arr = #[p, v] := by
  match arr, g2 with
  | ⟨[p, v]⟩, _ => exact ⟨p, v, rfl⟩
 have hcell := (g3 1 c1 rfl).1
 have hcell : AVR G w c1 v := hcell
 rcases hc1 with ⟨rfl, hb0, hsd⟩ | ⟨s, rfl, rfl⟩
 ·cases hcell
  refine (bstr_nil _ p el w g1).mono fun e w' ⟨e1, e2⟩ => ?_
  subst e2
  obtain ⟨G', h5⟩ := one_final (hsr.drew) (x := .str b.bytes) (v := .string ⟨#[]⟩) (by rw [hb0]; exact .str []) hob
  exact ⟨_, _, G', _, ⟨rfl, rfl⟩, e1, rfl, by rw [hsd]; exact h5⟩
 ·cases hcell with
  | own _ _ _ _ _ hq hrd hsz =>
   have h1 := hsr.erase (.c (.x 0) 1)
   have hob1 : (St.erase ⟨initA 0 [.ptr (.x 0) 0], [], numO 0 [Bld.obj (.has s)]⟩ (.c (.x 0) 1)).obj (.x 0) = some (.cells [.ptr (.x 0) 0, .d (.list (bytesD s))]) := by
    rw [St.obj_erase, hob]
    simp [Bld.obj, eraseObj, amod, AV.erase]
   obtain ⟨k, xs, hown', hfb⟩ := hsr.lam _ _ _ _ hq
   have hk : k = s.length := by have := own_len hrd hown'; rwa [bytesD_length] at this
   subst hk
   rcases hown'.2 with ⟨rfl, h0⟩ | ⟨g, cap, cur, rfl, _, hg, hnc, hcm, hcs, htk⟩
   ·have hs0 : s = [] := by simpa using h0
    subst hs0
    refine (bstr_nil _ p el w g1).mono fun e w' ⟨e1, e2⟩ => ?_
    subst e2
    obtain ⟨G', h5⟩ := one_final (h1.drew) (x := .str []) (v := .string ⟨#[]⟩) (.str []) hob1
    exact ⟨_, _, G', _, ⟨rfl, rfl⟩, e1, rfl, h5⟩
   ·by_cases hs0 : s = []
    ·subst hs0
     by_cases hc0 : cap = 0
     ·subst hc0
      refine (bstr_noroom _ g p el cur w g1 hg).mono fun e w' ⟨e1, e2⟩ => ?_
      subst e2
      obtain ⟨G', h5⟩ := one_final ((h1.drew).alloc (.view ⟨g, 0, none⟩ 5) 0) (x := .str []) (v := .string ⟨#[]⟩) (.str []) hob1
      exact ⟨_, _, G', _, ⟨rfl, rfl⟩, e1, rfl, h5⟩
     ·refine (bstr_room _ g cap p el w hc0 g1).mono fun e w' ⟨e1, e2⟩ => ?_
      subst e2
      obtain ⟨G', h5⟩ := one_final (h1.drew) (x := .str []) (v := .string ⟨#[]⟩) (.str []) hob1
      exact ⟨_, _, G', _, ⟨rfl, rfl⟩, e1, rfl, h5⟩
    ·refine (bstr_row _ g cap p cur el s w g1 hs0 hg hnc hcm (by simpa using hcs) (fun j x hx => ?_)).mono fun e w' ⟨e1, e2⟩ => ?_
     ·have hlt : j < s.length := (List.getElem?_eq_some_iff.1 hx).1
      have hadd : (⟨g, 0, none⟩ : Addr).add j = at_ g j := add_zero_at g j
      rw [hadd]
      generalize hL : bytesD s = L at hrd
      have hLl : L.length = s.length := by rw [← hL, bytesD_length]
      have hLj : L[j]? = some (.int .u8 x.toNat) := by rw [← hL]; simp [bytesD, hx]
      generalize hvv : Value.slice (some ⟨g, 0, none⟩) s.length cap = vv at hrd
      cases hrd with
      | nils => cases hvv
      | emp a c => simp at hLj
      | list l b o cap' sz vs hcap hsz' hb' hc' hr' =>
       simp only [Value.slice.injEq, Option.some.injEq] at hvv
       obtain ⟨e0, _, _⟩ := hvv
       simp only [at_, Addr.mk.injEq] at e0
       obtain ⟨rfl, rfl, _⟩ := e0
       have hm := List.mem_of_getElem? hLj
       have hsz1 : sz = 1 := by have := (hsz' _ hm).1; simpa [D.cells] using this.symm
       subst hsz1
       have q1 := hc' j (by omega)
       have q2 := hr' j _ 0 _ hLj rfl
       rw [Nat.zero_add] at q1
       rw [q1]
       have e3 : j * 1 + 0 = j := by omega
       rw [e3] at q2
       cases hvs : vs j <;> rw [hvs] at q2 <;> cases q2
       rfl
     ·subst e2
      have hX := h1.drew.world' (w' := w.drew.freeze ⟨g, 0, none⟩ s.length) (f' := G.f) (fun b => b = g) (fun b hb => by
       subst hb
       refine ⟨fun r o hr e => ?_, fun q v' p' hq' hvb => ?_, ?_⟩
       ·have hr' : ∃ o', St.obj ⟨initA 0 [.ptr (.x 0) 0], [], numO 0 [Bld.obj (.has s)]⟩ r = some o' := by
         rw [St.obj_erase] at hr
         cases h0 : St.obj ⟨initA 0 [.ptr (.x 0) 0], [], numO 0 [Bld.obj (.has s)]⟩ r with
         | none => simp [h0] at hr
         | some o' => exact ⟨o', rfl⟩
        obtain ⟨o', hr'⟩ := hr'
        exact hsr.lamObj _ _ _ _ _ hq rfl r o' hr' e
       ·simp only [updf] at hq'
        split at hq'
        ·cases hq'
        ·rename_i hne
         exact hne (hsr.lamInj _ _ _ _ _ _ _ hq' hq hvb rfl)
       ·exact hsr.newLam _ _ _ _ _ hq rfl) (Ext.freeze (w := w.drew) hg) (fun b hb hne => ⟨heap_freeze_ne _ _ _ _ hne, rfl⟩) (fun b hb => h1.drew.top b (by rw [freeze_size] at hb; exact hb)) (freeze_rest _ _ _).1 (freeze_rest _ _ _).2.1 (freeze_rest _ _ _).2.2
      obtain ⟨G', h5⟩ := one_final hX (x := .str s) (v := .string ⟨s.toArray⟩) (.str s) hob1
      exact ⟨_, _, G', _, ⟨rfl, rfl⟩, e1, rfl, h5⟩
def sgsF : List Nat → Option (List Nat)
 | [] => some []
 | u :: r =>
  if 55296 ≤ u ∧ u < 57344 then
   match r with
   | [] => none
   | v :: r' => if 56320 ≤ u ∨ v < 56320 ∨ 57343 < v then none else (sgsF r').map ((65536 + (u - 55296) * 1024 + v - 56320) :: ·)
  else (sgsF r).map (u :: ·)
theorem sgsF_cons (u : Nat) (r : List Nat) : sgsF (u :: r) = if 55296 ≤ u ∧ u < 57344 then
   match r with
   | [] => none
   | v :: r' => if 56320 ≤ u ∨ v < 56320 ∨ 57343 < v then none else (sgsF r').map ((65536 + (u - 55296) * 1024 + v - 56320) :: ·)
  else (sgsF r).map (u :: ·) := by cases r <;> simp [sgsF]
theorem sgsF_ok : ∀ (u l : List Nat), (∀ x ∈ u, x ≤ 65535) → sgsF u = some l → l.length ≤ u.length ∧ ∀ c ∈ l, vrune c
 | [], l, _, h => by simp [sgsF] at h; subst h; simp
 | u :: r, l, hu, h => by
  have h0 := hu u (by simp)
  rw [sgsF_cons] at h
  split at h
  ·rename_i h1
   cases r with
   | nil => simp at h
   | cons v r' =>
    have hv := hu v (by simp)
    simp only at h
    split at h
    ·cases h
    ·rename_i h2
     cases hq : sgsF r' with
     | none => rw [hq] at h; simp at h
     | some l' =>
      rw [hq] at h
      simp only [Option.map_some, Option.some.injEq] at h
      subst h
      obtain ⟨g1, g2⟩ := sgsF_ok r' l' (fun x hx => hu x (by simp [hx])) hq
      refine ⟨by simp only [List.length_cons]; omega, fun c hc => ?_⟩
      rcases List.mem_cons.1 hc with hc | hc
      ·rw [hc]; unfold vrune; omega
      ·exact g2 c hc
  ·rename_i h1
   cases hq : sgsF r with
   | none => rw [hq] at h; simp at h
   | some l' =>
    rw [hq] at h
    simp only [Option.map_some, Option.some.injEq] at h
    subst h
    obtain ⟨g1, g2⟩ := sgsF_ok r l' (fun x hx => hu x (by simp [hx])) hq
    refine ⟨by simp only [List.length_cons]; omega, fun c hc => ?_⟩
    rcases List.mem_cons.1 hc with rfl | hc
    ·unfold vrune; omega
    ·exact g2 c hc
def unitD (l : List Nat) : List D := l.map fun (n : Nat) => .int .i64 (n : Int)
theorem unitD_length (l : List Nat) : (unitD l).length = l.length := by simp [unitD]
theorem unitD_get (l : List Nat) (j : Nat) : (unitD l)[j]? = (l[j]?).map fun (n : Nat) => D.int .i64 (n : Int) := by simp [unitD]
def sgsO : Option (List Nat) → List UInt8 | some l => encM l | none => []
def sgsR (u : List Nat) : List UInt8 := sgsO (sgsF u)
theorem map_cons (x : Option (List Nat)) (acc : List Nat) (c : Nat) : x.map ((acc ++ [c]) ++ ·) = (x.map (c :: ·)).map (acc ++ ·) := by cases x <;> simp
theorem writeRune_at (b : Bld) {c : Nat} (hc : vrune c) (hl : b.bytes.length ≤ 1000000000) : MCallE Tryd.prog 78 [.ptr (.x 0) 0, .d (.int .i32 c)] [b.at (.x 0)] (.tuple [.d (.int .i64 (enc c).length), .d .nil]) [Bld.at (.x 0) (.has (b.bytes ++ enc c))] := by
 rw [← Bld.obj_at, ← Bld.obj_at]; exact writeRune_call b hc hl
theorem w32 {n : Nat} (h : n ≤ 1114111) : IntKind.i32.wrap (n : Int) = n := by simp [IntKind.wrap, IntKind.bits]; omega
theorem encM_snoc (l : List Nat) (c : Nat) : encM (l ++ [c]) = encM l ++ enc c := by simp [encM]
def L_cmap_signs : LCode :=
 .seq (.reg [Qx 2 (.k (.d (.str []))), Qx 3 KF]) (.seq (.reg [⟨some 4, .allo [.nilpT 92, .list []], none⟩]) (.seq (.seq (.reg [Qx 5 (Ki 0)]) (.block 0 (.loop (.seq (.seq (.reg [Qc 7 
 5, Qc 8 0, Q 9 (.len false (.t 8)), Q 10 (.bin .lss (.t 7) (.t 9))]) (.cond (.t 10) .skip (.exit 0))) (.seq (.block 1 (.seq (.reg [Qc 13 0, Qc 14 5, Q 15 (.ia 1 (.t 13) (.t 14)), 
 Q 16 (.ld false 1 (.t 15)), Qa 6 16]) (.seq (.seq (.reg [Qc 17 6, Q 18 (.bin .geq (.t 17) (Ki 55296)), Qc 19 18, Qd 20 6 19 true, Qg 21 (.bin .lss (.t 20) (Ki 57344)) 19 true, Q 
 22 (.pick (.t 19) (.t 21) KF)]) (.cond (.t 22) (.seq (.seq (.reg [Qc 23 6, Q 24 (.bin .geq (.t 23) (Ki 56320)), Qc 25 24, Qd 26 5 25 false, Qg 27 (.bin .add (.t 26) (Ki 1)) 25 
 false, Qd 28 0 25 false, Qg 29 (.len false (.t 28)) 25 false, Qg 30 (.bin .eql (.t 27) (.t 29)) 25 false, Q 31 (.pick (.t 25) KT (.t 30)), Qc 32 31, Qd 33 0 32 false, Qd 34 5 32 
 false, Qg 35 (.bin .add (.t 34) (Ki 1)) 32 false, Qg 36 (.ia 1 (.t 33) (.t 35)) 32 false, Qg 37 (.ld false 1 (.t 36)) 32 false, Qg 38 (.bin .lss (.t 37) (Ki 56320)) 32 false, Q 
 39 (.pick (.t 32) KT (.t 38)), Qc 40 39, Qd 41 0 40 false, Qd 42 5 40 false, Qg 43 (.bin .add (.t 42) (Ki 1)) 40 false, Qg 44 (.ia 1 (.t 41) (.t 43)) 40 false, Qg 45 (.ld false 1 
 (.t 44)) 40 false, Qg 46 (.bin .gtr (.t 45) (Ki 57343)) 40 false, Q 47 (.pick (.t 40) KT (.t 46))]) (.cond (.t 47) (.seq (.reg [Qx 2 (.k (.d (.str []))), Qx 3 KF]) .ret) .skip)) 
 (.seq (.reg [Qc 48 5, Q 49 (.bin .add (.t 48) (Ki 1)), Qa 5 49]) (.reg [Qc 50 6, Q 51 (.bin .sub (.t 50) (Ki 55296)), Q 52 (.bin .shl (.t 51) (.k (.d (.int .u64 10)))), Q 53 
 (.bin .add (Ki 65536) (.t 52)), Qc 54 0, Qc 55 5, Q 56 (.ia 1 (.t 54) (.t 55)), Q 57 (.ld false 1 (.t 56)), Q 58 (.bin .add (.t 53) (.t 57)), Q 59 (.bin .sub (.t 58) (Ki 56320)), 
 Qa 6 59]))) .skip)) (.reg [Qc 60 6, Q 61 (.cvI .i32 (.t 60)), ⟨some 62, .prim .call [.k (.fn (.func 78) [] []), .t 4, .t 61] [], none⟩])))) (.reg [Qc 11 5, Q 12 (.bin .add (.t 
 11) (Ki 1)), Qa 5 12])))))) (.seq (.reg [⟨some 63, .prim .call [.k (.fn (.func 51) [] []), .t 4] [], none⟩, Qa 2 63, Qx 3 KT]) .ret)))
def R_cmap_signs : List LRes := [.tmp 2, .tmp 3]
theorem lift_cmap_signs : Lifts Tryd.prog 60 64 L_cmap_signs R_cmap_signs := ⟨_, _, Tryd.func60, rfl, by kernel_rfl, by kernel_rfl, rfl⟩
theorem usigns_call (u : List Nat) (hl : u.length ≤ 40000) (hu : ∀ x ∈ u, x ≤ 65535) : PCall Tryd.prog 60 [.list (unitD u)] (fun r => r = .tup [.str (sgsR u), .bool (sgsF u).isSome]) := by
 generalize hR : sgsF u = R
 have hS : sgsR u = sgsO R := by unfold sgsR; rw [hR]
 generalize sgsR u = S at hS
 have hul := unitD_length u
 refine lift_cmap_signs.call rfl ?_
 simp (maxSteps := 2000000) only [go_sem, ↓reduceIte, L_cmap_signs, R_cmap_signs]
 refine run_loop (fun y : Nat × List Nat × Bld => ⟨[(0, .d (.list (unitD u))), (2, .d (.str [])), (3, .d (.bool false)), (4, .ptr (.l 4) 0), (5, .d (.int .i64 y.1))], [(4, y.2.2.at (.l 4))], []⟩)
  (fun y => y.1 ≤ u.length ∧ y.2.2.bytes = encM y.2.1 ∧ (encM y.2.1).length ≤ 4 * y.1 ∧ (sgsF (u.drop y.1)).map (y.2.1 ++ ·) = R) (fun y => u.length - y.1) (0, [], .new) ?_ ?_ ?_
 ·refine Weak.mk ?_ ?_ ?_ <;> simp (maxSteps := 2000000) only [go_sem, ↓reduceIte, Sub, Int.natCast_add, Int.natCast_mul, Bld.at]
 ·refine ⟨Nat.zero_le _, rfl, by simp [encM], ?_⟩
  simp only [List.drop_zero, List.nil_append, hR]; cases R <;> rfl
 ·rintro ⟨i, acc, b⟩ ⟨hi, hb, hbl, hF⟩
  simp only at hi hb hbl hF
  simp (maxSteps := 2000000) (disch := omega) only [go_sem, ↓reduceIte, hul]
  refine ⟨fun hlt => ?_, fun hge => ?_⟩
  ·obtain ⟨n, hn⟩ := get_some (l := u) (i := i) (by omega)
   have hn16 := hu n (List.mem_of_getElem? hn)
   rw [dropW hn, sgsF_cons] at hF
   have one : ∀ c : Nat, vrune c → encM (acc ++ [c]) = encM acc ++ enc c ∧ (enc c).length ≤ 4 := fun c hc => ⟨encM_snoc _ _, (enc_len hc).2.1⟩
   by_cases h1 : 55296 ≤ n ∧ n < 57344
   ·rw [if_pos h1] at hF
    have z1 : ((55296 : Int) ≤ (n : Int)) = True := eq_true (by omega)
    have z2 : ((n : Int) < 57344) = True := eq_true (by omega)
    by_cases h2 : 56320 ≤ n
    ·have e : R = none := by rw [← hF]; split <;> simp [h2]
     subst e
     have z3 : ((56320 : Int) ≤ (n : Int)) = True := eq_true (by omega)
     simp (maxSteps := 2000000) (disch := omega) only [go_sem, ↓reduceIte, getI_nat, unitD_get, hn, z1, z2, z3, hS, sgsO]
     rfl
    ·have z3 : ((56320 : Int) ≤ (n : Int)) = False := eq_false (by omega)
     by_cases h3 : i + 1 = u.length
     ·rw [List.drop_eq_nil_of_le (by omega)] at hF
      subst hF
      have z4 : ((i : Int) + 1 = (u.length : Int)) = True := eq_true (by omega)
      simp (maxSteps := 2000000) (disch := omega) only [go_sem, ↓reduceIte, getI_nat, unitD_get, hn, z1, z2, z3, z4, hul, hS, sgsO]
      rfl
     ·obtain ⟨v, hv⟩ := get_some (l := u) (i := i + 1) (by omega)
      have hv16 := hu v (List.mem_of_getElem? hv)
      rw [dropW hv] at hF
      simp only at hF
      have z4 : ((i : Int) + 1 = (u.length : Int)) = False := eq_false (by omega)
      have gv : getI (unitD u) ((i : Int) + 1) = some (.int .i64 (v : Int)) := by rw [show (i : Int) + 1 = ((i + 1 : Nat) : Int) from rfl, getI_nat, unitD_get, hv]; rfl
      by_cases h4 : v < 56320
      ·rw [if_pos (.inr (.inl h4))] at hF
       subst hF
       have z5 : ((v : Int) < 56320) = True := eq_true (by omega)
       simp (maxSteps := 2000000) (disch := omega) only [go_sem, ↓reduceIte, getI_nat, unitD_get, hn, z1, z2, z3, z4, z5, gv, hul, hS, sgsO]
       rfl
      ·have z5 : ((v : Int) < 56320) = False := eq_false (by omega)
       by_cases h5 : 57343 < v
       ·rw [if_pos (.inr (.inr h5))] at hF
        subst hF
        have z6 : ((57343 : Int) < (v : Int)) = True := eq_true (by omega)
        simp (maxSteps := 2000000) (disch := omega) only [go_sem, ↓reduceIte, getI_nat, unitD_get, hn, z1, z2, z3, z4, z5, z6, gv, hul, hS, sgsO]
        rfl
       ·rw [if_neg (by omega)] at hF
        have z6 : ((57343 : Int) < (v : Int)) = False := eq_false (by omega)
        simp (maxSteps := 2000000) (disch := omega) only [go_sem, ↓reduceIte, getI_nat, unitD_get, hn, z1, z2, z3, z4, z5, z6, gv, hul]
        have hc : vrune (65536 + (n - 55296) * 1024 + v - 56320) := by unfold vrune; omega
        have hon := one _ hc
        have h6 := writeRune_at b hc (by rw [hb]; omega)
        have hsum : IntKind.i32.wrap (IntKind.i64.wrap (IntKind.i64.wrap (IntKind.i64.wrap (65536 + IntKind.i64.wrap (((n : Int) - 55296) * 2 ^ min 10 64)) + (v : Int)) - 56320)) = ((65536 + (n - 55296) * 1024 + v - 56320 : Nat) : Int) := by
         have e10 : (2 : Int) ^ min 10 64 = 1024 := rfl
         rw [e10]
         simp (disch := omega) only [IntWalk.i64_in]
         rw [show (65536 + ((n : Int) - 55296) * 1024 + (v : Int) - 56320) = ((65536 + (n - 55296) * 1024 + v - 56320 : Nat) : Int) by omega]
         exact w32 (by omega)
        rw [hsum]
        generalize 65536 + (n - 55296) * 1024 + v - 56320 = c at *
        refine bldCall (.l 4) rfl (h6) rfl rfl rfl rfl ?_
        simp (maxSteps := 2000000) (disch := omega) only [go_sem, ↓reduceIte]
        refine ⟨(i + 1 + 1, acc ++ [c], .has (b.bytes ++ enc c)), ?_, ⟨by simp only; omega, by simp only [Bld.bytes_has]; rw [hb, hon.1], by simp only; rw [hon.1, List.length_append]; omega, by simp only; rw [← hF, map_cons]⟩, by simp only; omega⟩
        refine Weak.mk ?_ ?_ ?_ <;> simp (maxSteps := 2000000) only [go_sem, ↓reduceIte, Sub, Int.natCast_add, Int.natCast_mul]
   ·rw [if_neg h1] at hF
    have hc : vrune n := by unfold vrune; omega
    have hon := one n hc
    have hz : (((55296 : Int) ≤ (n : Int)) = False) ∨ (((55296 : Int) ≤ (n : Int)) = True ∧ ((n : Int) < 57344) = False) := by
     by_cases h2 : 55296 ≤ n
     ·exact .inr ⟨eq_true (by omega), eq_false (by omega)⟩
     ·exact .inl (eq_false (by omega))
    have h3 := writeRune_at b hc (by rw [hb]; omega)
    rcases hz with z1 | ⟨z1, z2⟩
    ·simp (maxSteps := 2000000) (disch := omega) only [go_sem, ↓reduceIte, getI_nat, unitD_get, hn, z1, w32 (n := n) (by omega)]
     refine bldCall (.l 4) rfl (h3) rfl rfl rfl rfl ?_
     simp (maxSteps := 2000000) (disch := omega) only [go_sem, ↓reduceIte]
     refine ⟨(i + 1, acc ++ [n], .has (b.bytes ++ enc n)), ?_, ⟨by simp only; omega, by simp only [Bld.bytes_has]; rw [hb, hon.1], by simp only; rw [hon.1, List.length_append]; omega, by simp only; rw [← hF, map_cons]⟩, by simp only; omega⟩
     refine Weak.mk ?_ ?_ ?_ <;> simp (maxSteps := 2000000) only [go_sem, ↓reduceIte, Sub, Int.natCast_add, Int.natCast_mul]
    ·simp (maxSteps := 2000000) (disch := omega) only [go_sem, ↓reduceIte, getI_nat, unitD_get, hn, z1, z2, w32 (n := n) (by omega)]
     refine bldCall (.l 4) rfl (h3) rfl rfl rfl rfl ?_
     simp (maxSteps := 2000000) (disch := omega) only [go_sem, ↓reduceIte]
     refine ⟨(i + 1, acc ++ [n], .has (b.bytes ++ enc n)), ?_, ⟨by simp only; omega, by simp only [Bld.bytes_has]; rw [hb, hon.1], by simp only; rw [hon.1, List.length_append]; omega, by simp only; rw [← hF, map_cons]⟩, by simp only; omega⟩
     refine Weak.mk ?_ ?_ ?_ <;> simp (maxSteps := 2000000) only [go_sem, ↓reduceIte, Sub, Int.natCast_add, Int.natCast_mul]
  ·rw [List.drop_eq_nil_of_le (by omega), sgsF] at hF
   simp only [Option.map_some, List.append_nil] at hF
   subst hF
   have h3 := string_call b (by rw [hb]; omega)
   rw [Bld.obj_at, hb] at h3
   simp only [sgsO] at hS
   subst hS
   cases b with
   | new =>
    simp only [Bld.at, Bld.said, Bld.obj, Bld.bytes] at h3 ⊢
    refine PrimG.mc1 (.l 4) rfl (h3) rfl rfl rfl rfl ⟨rfl, rfl⟩ ?_
    simp (maxSteps := 2000000) only [go_sem, ↓reduceIte]
    rfl
   | nul =>
    simp only [Bld.at, Bld.said, Bld.obj, Bld.bytes] at h3 ⊢
    refine PrimG.mc1 (.l 4) rfl (h3) rfl rfl rfl rfl ⟨rfl, rfl⟩ ?_
    simp (maxSteps := 2000000) only [go_sem, ↓reduceIte]
    rfl
   | has s =>
    simp only [Bld.at, Bld.said, Bld.obj, Bld.bytes] at h3 ⊢
    refine PrimG.mc1 (.l 4) rfl (h3) rfl rfl rfl rfl ⟨rfl, rfl⟩ ?_
    simp (maxSteps := 2000000) only [go_sem, ↓reduceIte]
    rfl
def unitsB : List UInt8 → List Nat
 | a :: b :: r => (256 * a.toNat + b.toNat) :: unitsB r
 | _ => []
theorem unitsB_short {l : List UInt8} (h : l.length < 2) : unitsB l = [] := by
 match l, h with
 | [], _ => rfl
 | [_], _ => rfl
theorem unitsB_len : ∀ (l : List UInt8), 2 * (unitsB l).length ≤ l.length
 | [] => by simp [unitsB]
 | [_] => by simp [unitsB]
 | a :: b :: r => by have := unitsB_len r; simp only [unitsB, List.length_cons]; omega
theorem unitsB_le : ∀ (l : List UInt8), ∀ x ∈ unitsB l, x ≤ 65535
 | [] => by simp [unitsB]
 | [_] => by simp [unitsB]
 | a :: b :: r => by
  intro x hx
  simp only [unitsB, List.mem_cons] at hx
  rcases hx with rfl | hx
  ·have := u8_lt a; have := u8_lt b; omega
  ·exact unitsB_le r x hx
def txtE1 (w : List UInt8) (n : Nat) : Nat := if orE n (cBe w) = 0 ∧ (cBl w).length % 2 = 1 then 4 else orE n (cBe w)
def txtE (w : List UInt8) (n : Nat) : Nat := orE (txtE1 w n) (if sgsF (unitsB (cBl w)) = none then 4 else 0)
def txtS (w : List UInt8) : List UInt8 := sgsR (unitsB (cBl w))
theorem bytesD_getU (l : List UInt8) (j : Nat) : (bytesD l)[j]? = (l[j]?).map fun (n : UInt8) => D.int .u8 (n.toNat : Int) := by simp [bytesD]
theorem unitD_snoc (l : List Nat) (n : Nat) : unitD l ++ [D.int .i64 (n : Int)] = unitD (l ++ [n]) := by simp [unitD]
def L___cmap_reader__text : LCode :=
 .seq (.reg [Qx 4 (.k (.d (.str [])))]) (.seq (.reg [Qc 10 0, Qc 11 1, ⟨some 12, .prim .call [.k (.fn (.func 58) [] []), .t 10, .t 11] [], none⟩, Qa 5 12]) (.seq (.seq (.reg [Qc 13 
 0, Q 14 (.nck (.t 13)), Q 15 (.fa 4 (.t 14)), Q 16 (.ld false 1 (.t 15)), Q 17 (.eqN 0 false (.t 16)), Qc 18 17, Qd 19 5 18 true, Qg 20 (.len false (.t 19)) 18 true, Qg 21 (.bin 
 .rem (.t 20) (Ki 2)) 18 true, Qg 22 (.bin .gtr (.t 21) (Ki 0)) 18 true, Q 23 (.pick (.t 18) (.t 22) KF)]) (.cond (.t 23) (.reg [Qc 24 0, Q 25 (.mkI 65 (Ki 4)), ⟨some 26, .prim 
 .call [.k (.fn (.func 41) [] []), .t 24, .t 25] [], none⟩]) .skip)) (.seq (.reg [⟨some 6, .nils 3 1, none⟩]) (.seq (.seq (.reg [Qx 7 (Ki 0)]) (.block 0 (.loop (.seq (.seq (.reg 
 [Qc 27 7, Q 28 (.bin .add (.t 27) (Ki 1)), Qc 29 5, Q 30 (.len false (.t 29)), Q 31 (.bin .lss (.t 28) (.t 30))]) (.cond (.t 31) .skip (.exit 0))) (.seq (.block 1 (.dreg [Qc 34 
 6, Qc 35 5, Qc 36 7, Q 37 (.ia 1 (.t 35) (.t 36)), Q 38 (.ld false 1 (.t 37)), Q 39 (.cvI .i64 (.t 38)), Q 40 (.bin .mul (Ki 256) (.t 39)), Qc 41 5, Qc 42 7, Q 43 (.bin .add (.t 
 42) (Ki 1)), Q 44 (.ia 1 (.t 41) (.t 43)), Q 45 (.ld false 1 (.t 44)), Q 46 (.cvI .i64 (.t 45)), Q 47 (.bin .add (.t 40) (.t 46)), ⟨some 48, .bsl 3 1 [.t 47], none⟩, ⟨some 49, 
 .app 3 1 8 false (.t 34) (.t 48), none⟩, Qa 6 49])) (.reg [Qc 32 7, Q 33 (.bin .add (.t 32) (Ki 2)), Qa 7 33])))))) (.seq (.reg [Qc 51 6, ⟨some 52, .call 60 [.t 51], none⟩, Qc 50 
 52, Q 53 (.ext 0 (.t 50)), Q 54 (.ext 1 (.t 50)), Qa 8 53, Qa 9 54]) (.seq (.seq (.reg [Qc 55 9, Q 56 (.not (.t 55))]) (.cond (.t 56) (.seq (.reg [Qc 57 0, Q 58 (.mkI 65 (Ki 4)), 
 ⟨some 59, .prim .call [.k (.fn (.func 41) [] []), .t 57, .t 58] [], none⟩]) (.seq (.reg [Qx 4 (.k (.d (.str [])))]) .ret)) .skip)) (.seq (.reg [Qc 60 8, Qa 4 60]) .ret)))))))
def R___cmap_reader__text : List LRes := [.tmp 4]
theorem lift___cmap_reader__text : Lifts Tryd.prog 38 61 L___cmap_reader__text R___cmap_reader__text := ⟨_, _, Tryd.func38, rfl, by kernel_rfl, by kernel_rfl, rfl⟩
theorem ctext (s : List UInt8) (k : Int) (b : Bool) (r : Row) (n : Nat) (w : List UInt8) (hs : w.length ≤ 60000) : MVE Tryd.prog 38 [.ptr (.x 0) 0, .d (.str w)] [crd s k b r n] r.ob (.d (.str (txtS w))) [crd s k b r (txtE w n)] r.ob := by
 have hby := cbytes s k b r n w hs
 have hlw := cBl_len w
 have hE : txtE1 w n = if orE n (cBe w) = 0 ∧ (cBl w).length % 2 = 1 then 4 else orE n (cBe w) := rfl
 have hT : txtE w n = orE (txtE1 w n) (if sgsF (unitsB (cBl w)) = none then 4 else 0) := rfl
 have hS : txtS w = sgsR (unitsB (cBl w)) := rfl
 generalize txtS w = S at *
 generalize txtE w n = T at *
 generalize txtE1 w n = e1 at *
 generalize orE n (cBe w) = e0 at *
 generalize cBl w = bs at *
 have hblen := bytesD_length bs
 have hm : ((bs.length : Nat) : Int).tmod 2 = ((bs.length % 2 : Nat) : Int) := rfl
 have hf := cfail s k b r 0 4
 have hf1 := cfail s k b r e1 4
 have hsg := usigns_call (unitsB bs) (by have := unitsB_len bs; omega) (unitsB_le bs)
 have hul := unitsB_len bs
 have z0 : errD 0 = .nil := rfl
 have hro := Row.ok r
 obtain ⟨S0, hS0⟩ : ∃ S0 : Nat × List Nat → St, ∀ y, S0 y = ⟨[(0, .ptr (.x 0) 0), (4, .d (.str [])), (5, .d (.list (bytesD bs))), (6, .own (.t 6) 3 1 (unitD y.2)), (7, .d (.int .i64 y.1))], [], (0, crd s k b r e1) :: mob r.ob⟩ := ⟨_, fun _ => rfl⟩
 have e4 : AV.d (.iface 65 (.int .i64 4)) = AV.d (errD 4) := rfl
 rcases r with _ | ⟨fs, c⟩
 all_goals
  refine lift___cmap_reader__text.mv (by kernel_rfl) rfl rfl ?_
  simp (maxSteps := 2000000) only [go_sem, ↓reduceIte, L___cmap_reader__text, R___cmap_reader__text, crd]
  refine PrimG.mvE ([.x 0]) rfl (hby) rfl rfl (by repeat' (first | exact trivial | exact rfl | constructor)) rfl rfl rfl rfl (hro) ⟨⟨rfl, rfl⟩, rfl⟩ ?_
  simp (maxSteps := 2000000) only [go_sem, ↓reduceIte, crd]
  rcases Nat.eq_zero_or_pos e0 with he | he
  rw [he]
  simp (maxSteps := 2000000) only [go_sem, ↓reduceIte, z0, hblen, hm]
  refine ⟨fun ho => ?_, fun ho => ?_⟩
  rw [he, if_pos ⟨rfl, by omega⟩] at hE
  rw [he] at hby
  refine PrimG.mvE ([.x 0]) rfl (hf) rfl rfl (by repeat' (first | exact trivial | exact rfl | constructor)) rfl rfl rfl rfl (hro) ⟨⟨rfl, rfl⟩, rfl⟩ ?_
  simp (maxSteps := 2000000) only [go_sem, ↓reduceIte, crd, orE]
  rotate_left
  rw [he, if_neg (fun h => by omega)] at hE
  rotate_left
  rw [if_neg (fun h => by omega)] at hE
  simp (maxSteps := 2000000) only [go_sem, ↓reduceIte, errD_ne (Nat.pos_iff_ne_zero.1 he)]
  all_goals
   refine run_loop S0 (fun y => y.1 ≤ bs.length + 1 ∧ 2 * y.2.length ≤ y.1 ∧ y.2 ++ unitsB (bs.drop y.1) = unitsB bs) (fun y => bs.length + 1 - y.1) (0, []) ?_ ?_ ?_
   ·rw [hS0]
    refine Weak.mk ?_ ?_ ?_ <;> simp (maxSteps := 2000000) only [go_sem, ↓reduceIte, Sub, Int.natCast_add, Int.natCast_mul, unitD, crd]
    all_goals first
     | rfl
     | (rw [hE]; done)
     | (rw [hE]; rfl)
     | (rw [hE, errD_ne (Nat.pos_iff_ne_zero.1 he)])
   ·exact ⟨Nat.zero_le _, Nat.le_refl _, by simp⟩
   ·rintro ⟨i, acc⟩ ⟨hi, hal, hF⟩
    simp only at hi hal hF
    have hau := unitD_length acc
    rw [hS0]
    simp (maxSteps := 2000000) (disch := omega) only [go_sem, ↓reduceIte, hblen]
    refine ⟨fun hlt => ?_, fun hge => ?_⟩
    ·obtain ⟨x, hx⟩ := get_some (l := bs) (i := i) (by omega)
     obtain ⟨y, hy⟩ := get_some (l := bs) (i := i + 1) (by omega)
     have hx8 := u8_lt x
     have hy8 := u8_lt y
     rw [dropW hx, dropW hy, unitsB] at hF
     have gx : getI (bytesD bs) (i : Int) = some (.int .u8 (x.toNat : Int)) := by rw [getI_nat, bytesD_getU, hx]; rfl
     have gy : getI (bytesD bs) ((i : Int) + 1) = some (.int .u8 (y.toNat : Int)) := by rw [show (i : Int) + 1 = ((i + 1 : Nat) : Int) from rfl, getI_nat, bytesD_getU, hy]; rfl
     simp (maxSteps := 2000000) (disch := omega) only [go_sem, ↓reduceIte, gx, gy, hau]
     refine ⟨by omega, (i + 2, acc ++ [256 * x.toNat + y.toNat]), ?_, ⟨by simp only; omega, by simp only [List.length_append, List.length_cons, List.length_nil]; omega, by simp only; rw [List.append_assoc]; exact hF⟩, by simp only; omega⟩
     rw [hS0]
     refine Weak.mk ?_ ?_ ?_ <;> simp (maxSteps := 2000000) only [go_sem, ↓reduceIte, Sub, Int.natCast_add, Int.natCast_mul]
     rw [← unitD_snoc]
     rfl
    ·rw [unitsB_short (by rw [List.length_drop]; omega), List.append_nil] at hF
     subst hF
     refine CallG.of hsg ?_
     cases hq : sgsF (unitsB bs) with
     | none =>
      rw [hq, if_pos rfl] at hT
      simp (maxSteps := 2000000) only [go_sem, ↓reduceIte, Option.isSome_none, crd]
      refine PrimG.mvE ([.x 0]) rfl (hf1) rfl rfl (by repeat' (first | exact trivial | exact rfl | constructor)) rfl rfl rfl rfl (hro) ⟨⟨rfl, rfl⟩, rfl⟩ ?_
      simp (maxSteps := 2000000) only [go_sem, ↓reduceIte]
      rw [hS, hT, sgsR, hq, sgsO]
      exact ⟨rfl, rfl⟩
     | some l =>
      rw [hq, if_neg (by simp), orE_0] at hT
      rw [hS, hT]
      simp (maxSteps := 2000000) only [go_sem, ↓reduceIte, Option.isSome_some, crd]
theorem rB_le {T : List (List UInt8)} {ends : Bool} {j n : Nat} (hj : j ≤ T.length) : (rB T ends j n).2.1 ≤ T.length := by
 have := rN_le (ends := ends) (n := n) hj
 unfold rB
 split <;> exact this
def rC (T : List (List UInt8)) (ends b : Bool) (j n : Nat) : Nat × Nat × Nat :=
 if (rB T ends j n).2.2 = 0 then ((codeV b (rB T ends j n).1).1, (rB T ends j n).2.1, (codeV b (rB T ends j n).1).2) else (0, (rB T ends j n).2.1, (rB T ends j n).2.2)
def rT (T : List (List UInt8)) (ends : Bool) (j n : Nat) : List UInt8 × Nat × Nat :=
 if (rB T ends j n).2.2 = 0 then
  (if (rB T ends j n).1.length % 2 = 1 then ([], (rB T ends j n).2.1, 4)
   else match sgsF (unitsB (rB T ends j n).1) with
    | some l => (encM l, (rB T ends j n).2.1, 0)
    | none => ([], (rB T ends j n).2.1, 4))
 else ([], (rB T ends j n).2.1, (rB T ends j n).2.2)
end Go.Av.Tryd
set_option linter.unusedVariables false
set_option linter.unusedSimpArgs false
namespace Go.Av.Tryd
open Go.Proofs Go.RowKit Go.Lib
section
variable {P : Program}
theorem run_copy_sz (w : World) (dT sT ty elem : TypeId) (sz k b o dLen dCap : Nat) (a : Addr) (sLen sCap : Nat) (cs : List Value)
  (hu : P.underlying dT = some (.slice elem)) (hs : (P.info? elem).map (·.size) = some sz) (hk : k = Nat.min sLen dLen) (hn : cs.length = k * sz)
  (hsrc : ∀ j v, cs[j]? = some v → w.cell? (a.add j) = some v) (hc : ∀ j, j < cs.length → (w.cell? ⟨b, o + j, none⟩).isSome = true) (hf : ∀ j, j < cs.length → w.frozen? ⟨b, o + j, none⟩ = false) (h1 : ∀ v ∈ cs, v.oneCell' = true) :
  (Builtin.copy_ #[dT, sT] ty #[.slice (some ⟨b, o, none⟩) dLen dCap, .slice (some a) sLen sCap]).run P w = .ok (goInt k) (w.setCells b o cs) := by
 have hl := run_loadCells_list (P := P) w a cs hsrc
 have hst := run_storeCells_cells (P := P) b o cs 0 w (by simpa using hc) (by simpa using hf) h1
 cases hq : P.info? elem with
 | none => simp [hq] at hs
 | some i =>
  have hi : i.size = sz := by simpa [hq] using hs
  simp [Builtin.copy_, run_underlying hu, Builtin.lenOf, Builtin.firstCells, sizeOf, typeInfo, hq, hi, ← hk, ← hn, hl, hst]
theorem wp_copy_runJ (w : World) {o : Oper} {a : Act} {K : Act → World → Prop} {Q : Exit → Act → World → Prop} (d s : Operand) (t t' : TypeId)
  (ho : o.op = .call { callee := .builtin .copy, args := #[d, s], argTypes := #[t, t'] }) (v u : Value) (hd : a.eval d = v) (hs : a.eval s = u) {v' : Value} {w' : World}
  (hr : (Builtin.copy_ #[t, t'] o.type #[v, u]).run P w = .ok v' w') (h : K (a.put o.dst v') w') : o.wp P a w K Q := by
 unfold Oper.wp execOp
 simp only [ho, resolve, invoke, builtin, Sem.run_bind, Sem.run_pure, Result.andThen_ok, List.map_toArray, List.map_cons, List.map_nil, hd, hs, hr]
 exact h
theorem wpList_copy_runJ (w : World) {ops : Array Oper} {rest : List Oper} {o : Oper} {a : Act} {Q : Exit → Act → World → Prop} (hgd : o.guard = none) (d s : Operand) (t t' : TypeId)
  (ho : o.op = .call { callee := .builtin .copy, args := #[d, s], argTypes := #[t, t'] }) (v u : Value) (hd : a.eval d = v) (hs : a.eval s = u) {v' : Value} {w' : World}
  (hr : (Builtin.copy_ #[t, t'] o.type #[v, u]).run P w = .ok v' w') (h : wpList P ops Q rest (a.put o.dst v') w') : wpList P ops Q (o :: rest) a w :=
 wpList_plain hgd fun _ hK => wp_copy_runJ w d s t t' ho v u hd hs hr (hK _ _ h)
theorem step_copy_runJ {ops : Array Oper} {o : Oper} {a : Act} {w : World} {K : Act → World → Prop} {Q : Exit → Act → World → Prop} {E : Prop}
  (hg : o.guard = none) (d x : Operand) (dT sT : TypeId) (hop : o.op = Op.call { callee := Callee.builtin Builtin.copy, args := #[d, x], argTypes := #[dT, sT] })
  (v u : Value) (hd : a.eval d = v) (hx : a.eval x = u) {v' : Value} {w' : World} (hr : (Builtin.copy_ #[dT, sT] o.type #[v, u]).run P w = .ok v' w') (hK : K (a.put o.dst v') w') :
  if Region.wanted o (yielded ops a.tmps) = true then Oper.wp P o a w K Q else E := by
 have hw : Region.wanted o (yielded ops a.tmps) = true := by simp [Region.wanted, hg]
 rw [if_pos hw]
 unfold Oper.wp
 simp [execOp, hop, resolve, invoke, builtin, hd, hx, hr, Result.andThen]
 exact hK
theorem run_overlaps_plain (w : World) (tS tR e : TypeId) (ht : P.underlying tS = some (.slice e)) (size : Nat) (hz : ∀ w, (Go.sizeOf e).run P w = .ok size w)
  (a b : Addr) (la ca lb cb : Nat) (hne : a.block ≠ b.block) (tA : TypeId) (kA : Nat) (hsa : w.shape? a.block = some (tA, kA)) (hkA : kA ≠ 0) {cs : Array Value} {el : TypeId} (hb : w.heap[b.block]? = some (.cells cs el (0, 0))) :
  (Extern.SlicesOverlaps.overlaps #[tS, tS] #[tR] #[.slice (some a) la ca, .slice (some b) lb cb]).run P w = .ok (.bool false) w := by
 have hnb : (a.block != b.block) = true := by simpa using hne
 have hnb' : (a.block == b.block) = false := by simpa using hne
 have hsb : w.shape? b.block = some (el, cs.size) := by simp [World.shape?, hb]
 have hfb : w.frozen? b = false := by simp [World.frozen?, hb]
 have hfe : w.frozen? { block := b.block, off := cs.size } = false := by simp [World.frozen?, hb]
 change Sem.run P (α := Value) (do
  let some t := (#[tS, tS] : Array TypeId)[0]? | stuck "slices.overlaps: no parameter types"
  let .slice elem ← underlying t | stuck "slices.overlaps: slice type expected"
  let size ← sizeOf elem
  match (some a : Option Addr), (some b : Option Addr) with
  | some a, some b =>
   if la = 0 ∨ lb = 0 ∨ size = 0 then pure (Value.bool false)
   else if a.block != b.block && (← frozen a) && (← frozen b) then unsupported .addressObserved
   else do
    if a.block != b.block then do
     noView a; noView b
     if ← mayBeOne a b then return Value.bool ((← choose (.extern "sameAddr.stringBytes" 2)) == 1)
    pure (Value.bool (a.block == b.block && a.off < b.off + lb * size && b.off < a.off + la * size))
  | _, _ => pure (Value.bool false)) w = _
 by_cases h0 : la = 0 ∨ lb = 0 ∨ size = 0
 ·simp [run_underlying ht, hz, h0]
 ·cases kA with
  | zero => exact absurd rfl hkA
  | succ kA =>
   cases hfa : w.frozen? a <;> cases hf2 : w.frozen? { block := a.block, off := kA + 1 } <;>
   simp [run_underlying ht, hz, h0, hnb, hnb', frozen, noView, viewAt, mayBeOne, stringish, shape, Sem.run, hsa, hsb, hfa, hf2, hfb, hfe]
theorem heap_setCells (b : Nat) (el : TypeId) (fr : Nat × Nat) : ∀ (vs : List Value) (o : Nat) (w : World) (cur : Array Value), w.heap[b]? = some (.cells cur el fr) → o + vs.length ≤ cur.size →
  ∃ cur', (w.setCells b o vs).heap[b]? = some (.cells cur' el fr) ∧ cur'.toList = cur.toList.take o ++ vs ++ cur.toList.drop (o + vs.length)
 | [], o, w, cur, h, _ => ⟨cur, h, by simp⟩
 | v :: r, o, w, cur, h, hl => by
  simp only [List.length_cons] at hl
  have h1 := heap_setCell_at w b o v h
  obtain ⟨cur', h2, h3⟩ := heap_setCells b el fr r (o + 1) _ _ h1 (by simp; omega)
  refine ⟨cur', h2, ?_⟩
  rw [h3]
  have ho : o < cur.toList.length := by simp; omega
  simp only [Array.toList_setIfInBounds, List.length_cons]
  rw [List.take_add_one, List.drop_set_of_lt (by omega), List.take_set_of_le (Nat.le_refl _)]
  simp only [List.getElem?_set_self ho, Option.toList_some]
  simp [Nat.add_assoc, Nat.add_comm 1]
theorem setCells_other (b k : Nat) (hk : k ≠ b) : ∀ (vs : List Value) (o : Nat) (w : World), (w.setCells b o vs).heap[k]? = w.heap[k]?
 | [], _, _ => rfl
 | v :: r, o, w => by
  show ((w.setCell (at_ b o) v).setCells b (o + 1) r).heap[k]? = _
  rw [setCells_other b k hk r, heap_setCell_ne w b o k v hk]
theorem setCells_size (b : Nat) : ∀ (vs : List Value) (o : Nat) (w : World), (w.setCells b o vs).heap.size = w.heap.size
 | [], _, _ => rfl
 | v :: r, o, w => by
  show ((w.setCell (at_ b o) v).setCells b (o + 1) r).heap.size = _
  rw [setCells_size b r]; simp
end
theorem overlaps_run (w : World) (a b : Addr) (la ca lb cb : Nat) (hne : a.block ≠ b.block) (tA : TypeId) (kA : Nat) (hsa : w.shape? a.block = some (tA, kA)) (hkA : kA ≠ 0) {cs : Array Value} {el : TypeId} (hb : w.heap[b.block]? = some (.cells cs el (0, 0))) :
  (callFunc 76 #[.slice (some a) la ca, .slice (some b) lb cb]).run Tryd.prog w = .ok (.value (.bool false)) w := by
 rw [run_callFunc_extern Tryd.func76 (by kernel_rfl) (by kernel_rfl) (by kernel_rfl) (e := Extern.SlicesOverlaps.overlaps #[24, 24] #[4]) (by kernel_rfl),
  run_overlaps_plain w 24 4 59 Tryd.underlying24 3 (fun w => by kernel_rfl) a b la ca lb cb hne tA kA hsa hkA hb]
 rfl
set_option maxHeartbeats 4000000 in
set_option maxRecDepth 100000 in
theorem insert_end (v v' : Value) (n : Nat) (vb voff vc : Nat) (w w' : World) (base : Option Addr) (c : Nat) (hn : n ≤ c) (hc : c ≤ 9223372036854775807) (hv : v = .slice base n c) (hb : base = none → n = 0)
  (hr : (Builtin.append_ #[24, 24] 24 #[v, .slice (some (at_ vb voff)) 1 vc]).run Tryd.prog w = .ok v' w') :
  Calls Tryd.prog 59 #[v, .int .i64 n, .slice (some (at_ vb voff)) 1 vc] w fun e W => e = .returned v' ∧ W = w' := by
 subst hv
 go_enter Tryd.func59, Tryd.ntmps59
 cases base with
 | none =>
  have h0 := hb rfl
  subst h0
  go_wp2_with (at_builtin; refine Lib.wpList_append_run _ rfl _ _ _ _ rfl _ _ rfl rfl _ _ hr ?_)
  go_ret
  exact ⟨rfl, rfl⟩
 | some a =>
  obtain ⟨ab, ao, asp⟩ := a
  go_wp2_with (at_builtin; refine Lib.wpList_append_run _ rfl _ _ _ _ rfl _ _ rfl rfl _ _ hr ?_)
  all_goals (go_ret; exact ⟨rfl, rfl⟩)
theorem isSome_setCellsJ (b : Nat) (vs : List Value) (o : Nat) (w : World) (h : ∀ j, j < vs.length → (w.cell? ⟨b, o + j, none⟩).isSome = true) (k : Nat) (hk : (w.cell? ⟨b, k, none⟩).isSome = true) : ((w.setCells b o vs).cell? ⟨b, k, none⟩).isSome = true := by
 by_cases hin : o ≤ k ∧ k < o + vs.length
 ·have := World.cell?_setCells_in b vs o w h (k - o) (by omega)
  rw [show o + (k - o) = k by omega] at this
  rw [this]; rfl
 ·rw [World.cell?_setCells_out b vs o w ⟨b, k, none⟩ (fun _ _ => by show k < o ∨ o + vs.length ≤ k; omega)]
  exact hk
set_option maxHeartbeats 4000000 in
set_option maxRecDepth 100000 in
theorem insert_shift (b n c i vb voff vc : Nat) (cs vs : List Value) (w : World) (hi : i < n) (hroom : n + 1 ≤ c) (hc63 : c ≤ 9223372036854775807) (hvb : vb ≠ b) (hcl : cs.length = n * 3) (hvl : vs.length = 3)
  (hcs : ∀ j v, cs[j]? = some v → w.cell? ⟨b, j, none⟩ = some v) (hsp : ∀ j, j < (n + 1) * 3 → (w.cell? ⟨b, j, none⟩).isSome = true) (hfz : ∀ j, w.frozen? ⟨b, j, none⟩ = false)
  (hvs : ∀ j v, vs[j]? = some v → w.cell? ⟨vb, voff + j, none⟩ = some v) (h1c : ∀ v ∈ cs, v.oneCell' = true) (h1v : ∀ v ∈ vs, v.oneCell' = true)
  (tA : TypeId) (kA : Nat) (hsa : w.shape? vb = some (tA, kA)) (hkA : kA ≠ 0) {arr : Array Value} {el : TypeId} (hb : w.heap[b]? = some (.cells arr el (0, 0))) :
  Calls Tryd.prog 59 #[.slice (some ⟨b, 0, none⟩) n c, .int .i64 i, .slice (some ⟨vb, voff, none⟩) 1 vc] w fun e w' =>
   e = .returned (.slice (some ⟨b, 0, none⟩) (n + 1) c) ∧ w' = (w.drew.setCells b ((i + 1) * 3) (cs.drop (i * 3))).setCells b (i * 3) vs := by
 have hz2 : ¬ ((i : Int) = (n : Int)) := by omega
 have hsz : (Tryd.prog.info? 59).map (·.size) = some 3 := by kernel_rfl
 have hov : ∀ lb cb, (callFunc 76 #[.slice (some ⟨vb, voff, none⟩) 1 vc, .slice (some ⟨b, (i + 1) * 3, none⟩) lb cb]).run Tryd.prog w = .ok (.value (.bool false)) w := fun lb cb =>
  overlaps_run w ⟨vb, voff, none⟩ ⟨b, (i + 1) * 3, none⟩ 1 vc lb cb hvb tA kA hsa hkA hb
 have hdl : (cs.drop (i * 3)).length = (n - i) * 3 := by rw [List.length_drop, hcl, Nat.sub_mul]
 have mixed : Tryd.prog.follows .mixedOrders = true := by kernel_rfl
 have hcp1 : ∀ ty dc sc, (Builtin.copy_ #[24, 24] ty #[.slice (some ⟨b, (i + 1) * 3, none⟩) (n + 1 - (i + 1)) dc, .slice (some ⟨b, i * 3, none⟩) (n + 1 - i) sc]).run Tryd.prog w.drew = .ok (goInt ((n - i : Nat) : Int)) (w.drew.setCells b ((i + 1) * 3) (cs.drop (i * 3))) := fun ty dc sc =>
  run_copy_sz w.drew _ _ ty 59 3 (n - i) b ((i + 1) * 3) (n + 1 - (i + 1)) dc ⟨b, i * 3, none⟩ (n + 1 - i) sc (cs.drop (i * 3)) Tryd.underlying24 hsz (by simp only [Nat.min_def]; split <;> omega) hdl
   (fun j v hj => by rw [Addr.add_lit]; exact hcs (i * 3 + j) v (by rwa [List.getElem?_drop] at hj))
   (fun j hj => hsp _ (by omega)) (fun j hj => hfz _) (fun v hv => h1c v (List.mem_of_mem_drop hv))
 obtain ⟨W1, hW1⟩ : ∃ W1, W1 = w.drew.setCells b ((i + 1) * 3) (cs.drop (i * 3)) := ⟨_, rfl⟩
 have hsp1 : ∀ k, k < (n + 1) * 3 → (W1.cell? ⟨b, k, none⟩).isSome = true := fun k hk => by
  rw [hW1]
  exact isSome_setCellsJ b (cs.drop (i * 3)) ((i + 1) * 3) w.drew (fun j hj => hsp _ (by rw [hdl] at hj; omega)) _ (hsp k hk)
 have hcp2 : ∀ (W : World), (∀ x, W.cell? x = W1.cell? x) → (∀ x, W.frozen? x = W1.frozen? x) → ∀ ty dc, (Builtin.copy_ #[24, 24] ty #[.slice (some ⟨b, i * 3, none⟩) (n + 1 - i) dc, .slice (some ⟨vb, voff, none⟩) 1 vc]).run Tryd.prog W = .ok (goInt 1) (W.setCells b (i * 3) vs) := fun W hWc hWf ty dc =>
  run_copy_sz W _ _ ty 59 3 1 b (i * 3) (n + 1 - i) dc ⟨vb, voff, none⟩ 1 vc vs Tryd.underlying24 hsz (by simp only [Nat.min_def]; split <;> omega) (by rw [hvl])
   (fun j v hj => by
    rw [Addr.add_lit, hWc, hW1, World.cell?_setCells_out b _ _ _ _ (fun h _ => absurd h hvb)]
    exact hvs j v hj)
   (fun j hj => by rw [hWc]; exact hsp1 _ (by omega)) (fun j hj => by rw [hWf, hW1, World.frozen?_setCells]; exact hfz _) h1v
 rw [← hW1] at hcp1
 have hw1 : IntKind.i64.wrap ((i : Int) + 1) = (i : Int) + 1 := by rw [IntKind.wrap_i64]; omega
 have hw2 : IntKind.i64.wrap ((n : Int) + 1) = (n : Int) + 1 := by rw [IntKind.wrap_i64]; omega
 have hb1 : (0 : Int) ≤ (i : Int) + 1 := by omega
 have hin : i ≤ n := by omega
 have htn : ((i : Int) + 1).toNat = i + 1 := by omega
 have hb2 : ¬ (c = i + 1) := by omega
 have hb3 : (i : Int) ≤ (n : Int) + 1 := by omega
 have hb4 : ¬ (c = i) := by omega
 go_enter Tryd.func59, Tryd.ntmps59
 go_wp2_with (simp only [hov])
 go_region_law_o (refine step_copy_runJ rfl _ _ 24 24 rfl (.slice (some ⟨b, (i + 1) * 3, none⟩) (n + 1 - (i + 1)) (c - (i + 1))) (.slice (some ⟨b, i * 3, none⟩) (n + 1 - i) (c - i)) (by simp [Act.eval, Act.put]) (by simp [Act.eval, Act.put]) (hcp1 3 (c - (i + 1)) (c - i)) ?_)
 go_wp2_with (refine wpList_copy_runJ _ rfl _ _ 24 24 rfl _ _ rfl rfl (hcp2 _ (fun _ => rfl) (fun _ => rfl) _ _) ?_)
 go_ret
 first | exact ⟨rfl, rfl⟩ | exact ⟨rfl, by rw [hW1]⟩
set_option maxHeartbeats 4000000 in
set_option maxRecDepth 100000 in
theorem insert_grow (b n c i vb voff vc : Nat) (cs vs : List Value) (w : World) (hi : i < n) (hnc : n ≤ c) (hroom : c < n + 1) (hn : n ≤ 1048576) (hvb : vb ≠ b) (hcl : cs.length = n * 3) (hvl : vs.length = 3)
  (hcs : ∀ j v, cs[j]? = some v → w.cell? ⟨b, j, none⟩ = some v)
  (hvs : ∀ j v, vs[j]? = some v → w.cell? ⟨vb, voff + j, none⟩ = some v) (h1c : ∀ v ∈ cs, v.oneCell' = true) (h1v : ∀ v ∈ vs, v.oneCell' = true)
  {ti : TypeInfo} {z : Value} (hi0 : Tryd.prog.info? 59 = some ti) (hz0 : ti.zero = some z) (hzs : z.cells.size = ti.size) (hzo : ∀ x ∈ z.cells.toList, x.oneCell' = true) (hsz6 : ti.size = 3) (hbz : ti.bytes = 32) :
  ∃ ROW : Array Value, ∃ G : Nat, n + 1 ≤ G ∧ G ≤ maxLen ∧ ROW.size = G * 3 ∧ (∀ x ∈ ROW.toList, x.oneCell' = true) ∧ ROW.toList.take (i * 3) = cs.take (i * 3) ∧
  Calls Tryd.prog 59 #[.slice (some ⟨b, 0, none⟩) n c, .int .i64 i, .slice (some ⟨vb, voff, none⟩) 1 vc] w fun e w' =>
   e = .returned (.slice (some ⟨w.heap.size, 0, none⟩) (n + 1) G) ∧ w' = (((w.alloc (.cells ROW 59)).drew.setCells w.heap.size (i * 3) vs).drew).setCells w.heap.size ((i + 1) * 3) (cs.drop (i * 3)) := by
 have hz2 : ¬ ((i : Int) = (n : Int)) := by omega
 have hz3 : (c : Int) < (n : Int) + 1 := by omega
 have hsz : (Tryd.prog.info? 59).map (·.size) = some 3 := by rw [hi0]; simp [hsz6]
 have mixed : Tryd.prog.follows .mixedOrders = true := by kernel_rfl
 have hbw : b < w.heap.size := block_lt_of_cell (hcs 0 _ (List.getElem?_eq_getElem (by omega)))
 have hvw : vb < w.heap.size := block_lt_of_cell (hvs 0 _ (List.getElem?_eq_getElem (by omega)))
 have hkk : (n : Int) + 1 - (i : Int) = ((n + 1 - i : Nat) : Int) := by omega
 have hik : i + (n + 1 - i) = n + 1 := by omega
 have hold : (Builtin.firstCells ti.size i (.slice (some ⟨b, 0, none⟩) i c)).run Tryd.prog w.drew = .ok (cs.take (i * 3)).toArray w.drew := by
  rw [hsz6]
  exact run_firstCells_some w.drew 3 i ⟨b, 0, none⟩ i c (cs.take (i * 3)) (by rw [List.length_take]; omega) (fun j v hj => by
   rw [Addr.add_lit]
   rw [List.getElem?_take] at hj
   split at hj
   ·rw [Nat.zero_add]; exact hcs j v hj
   ·cases hj)
 have hrz : ∀ ty, (Builtin.append_ #[24, 3] ty #[.slice (some ⟨b, 0, none⟩) i c, .int .i64 ((n : Int) + 1 - (i : Int))]).run Tryd.prog w =
   .ok (.slice (some ⟨w.heap.size, 0, none⟩) (n + 1) (grownCap w (n + 1) c 59)) (w.drew.alloc (.cells ((cs.take (i * 3)).toArray ++ Builtin.zeroCells z.cells (n + 1 - i) ++ Builtin.zeroCells z.cells (grownCap w (n + 1) c 59 - (n + 1))) 59)) := fun ty => by
  have h := Lib.run_append_grow_zeros w 24 3 ty 59 ti z .i64 .i64 Tryd.underlying24 Tryd.underlying3 hi0 hz0 (some ⟨b, 0, none⟩) i c (cs.take (i * 3)) hold (n + 1 - i) (by omega) (by omega) (by omega) (by omega) (by rw [hbz]; omega) (by rw [hbz, hik]; exact growslice_fits hroom (by omega))
  rw [hik] at h
  rw [hkk]
  exact h
 obtain ⟨G, hG⟩ : ∃ G, G = grownCap w (n + 1) c 59 := ⟨_, rfl⟩
 obtain ⟨ROW, hROW⟩ : ∃ ROW : Array Value, ROW = (cs.take (i * 3)).toArray ++ Builtin.zeroCells z.cells (n + 1 - i) ++ Builtin.zeroCells z.cells (G - (n + 1)) := ⟨_, rfl⟩
 rw [← hG] at hrz
 rw [← hROW] at hrz
 have hGn : n + 1 ≤ G := by rw [hG]; exact grownCap_ge w _ _ _
 have hGm : G ≤ maxLen := by rw [hG]; exact grownCap_le_maxLen w (n + 1) c 59 (by unfold maxLen; omega)
 have hRs : ROW.size = G * 3 := by
  rw [hROW]
  simp only [Array.size_append, List.size_toArray, size_zeroCells, hzs, hsz6, List.length_take, hcl]
  omega
 have hRt : ROW.toList.take (i * 3) = cs.take (i * 3) := by
  rw [hROW]
  simp only [Array.toList_append, List.append_assoc]
  rw [List.take_append_of_le_length (by simp; omega), List.take_of_length_le (by simp; omega)]
 have hRo : ∀ x ∈ ROW.toList, x.oneCell' = true := fun x hx => by
  rw [hROW] at hx
  simp only [Array.toList_append, List.mem_append] at hx
  rcases hx with (hx | hx) | hx
  ·exact h1c x (List.mem_of_mem_take hx)
  ·exact hzo x (zeroCells_mem hx)
  ·exact hzo x (zeroCells_mem hx)
 refine ⟨ROW, G, hGn, hGm, hRs, hRo, hRt, ?_⟩
 obtain ⟨W1, hW1⟩ : ∃ W1, W1 = w.drew.alloc (.cells ROW 59) := ⟨_, rfl⟩
 rw [← hW1] at hrz
 have hN : ∀ j, j < (n + 1) * 3 → (W1.cell? ⟨w.heap.size, j, none⟩).isSome = true := fun j hj => by
  rw [hW1, World.cell?_alloc_at (w := w.drew) ROW _ w.heap.size j rfl, Array.getElem?_eq_getElem (by omega)]; rfl
 have hNf : ∀ j, W1.frozen? ⟨w.heap.size, j, none⟩ = false := fun j => by rw [hW1]; exact World.frozen?_alloc_at (w := w.drew) ROW _ w.heap.size j rfl
 have hOb : ∀ j v, w.cell? ⟨b, j, none⟩ = some v → W1.cell? ⟨b, j, none⟩ = some v := fun j v h => by rw [hW1, World.cell?_alloc_past (w := w.drew) _ b j hbw]; exact h
 have hOv : ∀ j v, w.cell? ⟨vb, j, none⟩ = some v → W1.cell? ⟨vb, j, none⟩ = some v := fun j v h => by rw [hW1, World.cell?_alloc_past (w := w.drew) _ vb j hvw]; exact h
 have hcpA : ∀ (W : World), (∀ x, W.cell? x = W1.cell? x) → (∀ x, W.frozen? x = W1.frozen? x) → ∀ ty dc, (Builtin.copy_ #[24, 24] ty #[.slice (some ⟨w.heap.size, i * 3, none⟩) (n + 1 - i) dc, .slice (some ⟨vb, voff, none⟩) 1 vc]).run Tryd.prog W = .ok (goInt 1) (W.setCells w.heap.size (i * 3) vs) := fun W hWc hWf ty dc =>
  run_copy_sz W _ _ ty 59 3 1 w.heap.size (i * 3) (n + 1 - i) dc ⟨vb, voff, none⟩ 1 vc vs Tryd.underlying24 hsz (by simp only [Nat.min_def]; split <;> omega) (by rw [hvl])
   (fun j v hj => by rw [Addr.add_lit, hWc]; exact hOv _ v (hvs j v hj))
   (fun j hj => by rw [hWc]; exact hN _ (by omega)) (fun j hj => by rw [hWf]; exact hNf _) h1v
 have hG63 : G ≤ 9223372036854775807 := by unfold maxLen at hGm; omega
 have hGi : ¬ (G = i) := by omega
 have hGim : ¬ (G = i + 1) := by omega
 have hci : ¬ (c = i) := by omega
 have hbN : b ≠ w.heap.size := by omega
 have hdl : (cs.drop (i * 3)).length = (n - i) * 3 := by rw [List.length_drop, hcl, Nat.sub_mul]
 have hcpB : ∀ (W : World), (∀ x, W.cell? x = (W1.setCells w.heap.size (i * 3) vs).cell? x) → (∀ x, W.frozen? x = (W1.setCells w.heap.size (i * 3) vs).frozen? x) → ∀ ty dc sc, (Builtin.copy_ #[24, 24] ty #[.slice (some ⟨w.heap.size, (i + 1) * 3, none⟩) (n + 1 - (i + 1)) dc, .slice (some ⟨b, i * 3, none⟩) (n - i) sc]).run Tryd.prog W = .ok (goInt ((n - i : Nat) : Int)) (W.setCells w.heap.size ((i + 1) * 3) (cs.drop (i * 3))) := fun W hWc hWf ty dc sc =>
  run_copy_sz W _ _ ty 59 3 (n - i) w.heap.size ((i + 1) * 3) (n + 1 - (i + 1)) dc ⟨b, i * 3, none⟩ (n - i) sc (cs.drop (i * 3)) Tryd.underlying24 hsz (by simp only [Nat.min_def]; split <;> omega) hdl
   (fun j v hj => by
    rw [Addr.add_lit, hWc, World.cell?_setCells_out _ _ _ _ _ (fun h _ => absurd h hbN)]
    exact hOb _ v (hcs (i * 3 + j) v (by rwa [List.getElem?_drop] at hj)))
   (fun j hj => by rw [hWc]; exact isSome_setCellsJ _ _ _ _ (fun t ht => hN _ (by omega)) _ (hN _ (by omega)))
   (fun j hj => by rw [hWf, World.frozen?_setCells]; exact hNf _) (fun v hv => h1c v (List.mem_of_mem_drop hv))
 subst hW1
 have hE1 : ∀ x, ((w.alloc (.cells ROW 59)).drew).cell? x = (w.drew.alloc (.cells ROW 59)).cell? x := fun x => rfl
 have hE2 : ∀ x, ((w.alloc (.cells ROW 59)).drew).frozen? x = (w.drew.alloc (.cells ROW 59)).frozen? x := fun x => rfl
 have hF1 : ∀ x, (((w.alloc (.cells ROW 59)).drew.setCells w.heap.size (i * 3) vs).drew).cell? x = ((w.drew.alloc (.cells ROW 59)).setCells w.heap.size (i * 3) vs).cell? x := fun x => rfl
 have hF2 : ∀ x, (((w.alloc (.cells ROW 59)).drew.setCells w.heap.size (i * 3) vs).drew).frozen? x = ((w.drew.alloc (.cells ROW 59)).setCells w.heap.size (i * 3) vs).frozen? x := fun x => rfl
 have hw1 : IntKind.i64.wrap ((i : Int) + 1) = (i : Int) + 1 := by rw [IntKind.wrap_i64]; omega
 have hw2 : IntKind.i64.wrap ((n : Int) + 1) = (n : Int) + 1 := by rw [IntKind.wrap_i64]; omega
 have hw3 : IntKind.i64.wrap ((n : Int) + 1 - i) = (n : Int) + 1 - i := by rw [IntKind.wrap_i64]; omega
 have hb1 : (0 : Int) ≤ (i : Int) + 1 := by omega
 have hin : i ≤ n := by omega
 have htn : ((i : Int) + 1).toNat = i + 1 := by omega
 have hb3 : (i : Int) ≤ (n : Int) := by omega
 clear hkk hik hold hROW hG
 go_enter Tryd.func59, Tryd.ntmps59
 go_wp2_with (first
  | (at_builtin; refine Lib.wpList_append_run _ rfl _ _ _ _ rfl _ _ rfl rfl _ _ (hrz _) ?_)
  | (refine wpList_copy_runJ _ rfl _ _ 24 24 rfl _ _ rfl rfl (hcpA _ hE1 hE2 _ _) ?_)
  | (refine wpList_copy_runJ _ rfl _ _ 24 24 rfl _ _ rfl rfl (hcpB _ (fun _ => rfl) (fun _ => rfl) _ _ _) ?_))
 go_region_law_o (refine step_copy_runJ rfl _ _ 24 24 rfl (.slice (some ⟨w.heap.size, (i + 1) * 3, none⟩) (n + 1 - (i + 1)) (G - (i + 1))) (.slice (some ⟨b, i * 3, none⟩) (n - i) (c - i)) (by simp [Act.eval, Act.put]) (by simp [Act.eval, Act.put]) (hcpB _ hF1 hF2 3 (G - (i + 1)) (c - i)) ?_)
 go_wp2
 go_ret
 exact ⟨rfl, rfl⟩
theorem setCells_rest (b : Nat) : ∀ (vs : List Value) (o : Nat) (w : World), (w.setCells b o vs).os = w.os ∧ (w.setCells b o vs).tape = w.tape ∧ (w.setCells b o vs).output = w.output
 | [], _, _ => ⟨rfl, rfl, rfl⟩
 | v :: r, o, w => by
  have := setCells_rest b r (o + 1) (w.setCell (at_ b o) v)
  exact this
theorem cell_shape {w : World} {b o : Nat} {u : Value} (h : w.cell? (at_ b o) = some u) : ∃ t k, w.shape? b = some (t, k) ∧ k ≠ 0 := by
 simp only [World.cell?, at_] at h
 split at h
 ·rename_i cs t fr hh
  simp at h
  have := (Array.getElem?_eq_some_iff.1 h).1
  exact ⟨t, cs.size, by simp [World.shape?, hh], by omega⟩
 ·cases h
theorem fieldInfo : ∃ ti z, Tryd.prog.info? 59 = some ti ∧ ti.zero = some z ∧ z.cells.size = ti.size ∧ (∀ x ∈ z.cells.toList, x.oneCell' = true) ∧ ti.size = 3 ∧ ti.bytes = 32 := by
 obtain ⟨ti, z, h1, h2, h3, h4⟩ := zeroOne_inv (P := Tryd.prog) (e := 59) (by kernel_rfl)
 have h5 : (Tryd.prog.info? 59).map (fun i => (i.size, i.bytes)) = some (3, 32) := by kernel_rfl
 rw [h1] at h5
 simp at h5
 exact ⟨ti, z, h1, h2, h3, h4, h5.1, h5.2⟩
theorem shift_list {C xs news : List Value} {m i : Nat} (hx : C.take (m * 3) = xs) (hC : (m + 1) * 3 ≤ C.length) (hn : news.length = 3) (hi : i ≤ m) {C1 C2 : List Value}
  (h1 : C1 = C.take ((i + 1) * 3) ++ xs.drop (i * 3) ++ C.drop ((i + 1) * 3 + (xs.drop (i * 3)).length)) (h2 : C2 = C1.take (i * 3) ++ news ++ C1.drop (i * 3 + news.length)) :
  C2.length = C.length ∧ C2.take ((m + 1) * 3) = xs.take (i * 3) ++ news ++ xs.drop (i * 3) ∧ ∀ x ∈ C2, x ∈ C ∨ x ∈ news := by
 have hxl : xs.length = m * 3 := by rw [← hx, List.length_take]; omega
 have hdl : (xs.drop (i * 3)).length = (m - i) * 3 := by rw [List.length_drop, hxl, Nat.sub_mul]
 have hmi : (i + 1) * 3 + (m - i) * 3 = (m + 1) * 3 := by omega
 have htl : (C.take ((i + 1) * 3)).length = (i + 1) * 3 := by rw [List.length_take]; omega
 have e1 : C1.take (i * 3) = xs.take (i * 3) := by
  rw [h1, List.append_assoc, List.take_append_of_le_length (by omega), List.take_take, ← hx, List.take_take]
  congr 1; omega
 have e2 : C1.drop (i * 3 + news.length) = xs.drop (i * 3) ++ C.drop ((m + 1) * 3) := by
  have : i * 3 + news.length = (C.take ((i + 1) * 3)).length := by omega
  rw [this, h1, List.append_assoc, List.drop_left, hdl, hmi]
 rw [e1, e2] at h2
 have htl2 : (xs.take (i * 3)).length = i * 3 := by rw [List.length_take]; omega
 refine ⟨?_, ?_, fun x hx2 => ?_⟩
 ·rw [h2]; simp only [List.length_append, htl2, hn, hdl, List.length_drop]; omega
 ·have : (m + 1) * 3 = (xs.take (i * 3) ++ news ++ xs.drop (i * 3)).length := by simp only [List.length_append, htl2, hn, hdl]; omega
  rw [h2, ← List.append_assoc, this, List.take_left]
 ·have hsub : ∀ y ∈ xs, y ∈ C := fun y hy => by rw [← hx] at hy; exact List.mem_of_mem_take hy
  rw [h2] at hx2
  simp only [List.mem_append] at hx2
  rcases hx2 with (h | h) | h | h
  ·exact .inl (hsub x (List.mem_of_mem_take h))
  ·exact .inr h
  ·exact .inl (hsub x (List.mem_of_mem_drop h))
  ·exact .inl (List.mem_of_mem_drop h)
theorem grow_list {R xs news : List Value} {m i : Nat} (hx : xs.length = m * 3) (hR : R.take (i * 3) = xs.take (i * 3)) (hRl : (m + 1) * 3 ≤ R.length) (hn : news.length = 3) (hi : i ≤ m) {C1 C2 : List Value}
  (h1 : C1 = R.take (i * 3) ++ news ++ R.drop (i * 3 + news.length)) (h2 : C2 = C1.take ((i + 1) * 3) ++ xs.drop (i * 3) ++ C1.drop ((i + 1) * 3 + (xs.drop (i * 3)).length)) :
  C2.length = R.length ∧ C2.take ((m + 1) * 3) = xs.take (i * 3) ++ news ++ xs.drop (i * 3) ∧ ∀ x ∈ C2, x ∈ R ∨ x ∈ news ∨ x ∈ xs := by
 have hdl : (xs.drop (i * 3)).length = (m - i) * 3 := by rw [List.length_drop, hx, Nat.sub_mul]
 have htl : (xs.take (i * 3)).length = i * 3 := by rw [List.length_take]; omega
 rw [hR] at h1
 have hc1 : C1.length = R.length := by rw [h1]; simp only [List.length_append, htl, hn, List.length_drop]; omega
 have e1 : C1.take ((i + 1) * 3) = xs.take (i * 3) ++ news := by
  have : (i + 1) * 3 = (xs.take (i * 3) ++ news).length := by simp only [List.length_append, htl, hn]; omega
  rw [h1, this, List.take_left]
 rw [e1] at h2
 refine ⟨?_, ?_, fun x hx2 => ?_⟩
 ·rw [h2]; simp only [List.length_append, htl, hn, hdl, List.length_drop, hc1]; omega
 ·have : (m + 1) * 3 = (xs.take (i * 3) ++ news ++ xs.drop (i * 3)).length := by simp only [List.length_append, htl, hn, hdl]; omega
  rw [h2, this, List.take_left]
 ·rw [h2] at hx2
  simp only [List.mem_append] at hx2
  rcases hx2 with ((h | h) | h) | h
  ·exact .inr (.inr (List.mem_of_mem_take h))
  ·exact .inr (.inl h)
  ·exact .inr (.inr (List.mem_of_mem_drop h))
  ·have h := List.mem_of_mem_drop h
   rw [h1] at h
   simp only [List.mem_append] at h
   rcases h with (h | h) | h
   ·exact .inr (.inr (List.mem_of_mem_take h))
   ·exact .inr (.inl h)
   ·exact .inl (List.mem_of_mem_drop h)
theorem insSpec : InsSpec Tryd.prog 59 3 := by
 refine ⟨by kernel_rfl, fun w el v m xs i vb voff vc news hown ho hi hm hne hnl hnc => ?_⟩
 obtain ⟨ti, z, q1, q2, q3, q4, q5, q6⟩ := fieldInfo
 have hxl : xs.length = m * 3 := hown.1
 have hnews : ∀ j u, news[j]? = some u → w.cell? ⟨vb, voff + j, none⟩ = some u := fun j u hj => (hnc j u hj).1
 have h1v : ∀ u ∈ news, u.oneCell' = true := fun u hu => by
  obtain ⟨j, hj⟩ := List.getElem?_of_mem hu
  exact (hnc j u hj).2
 have hmax : (1048577 : Nat) ≤ maxLen := by simp [maxLen]
 -- at the end
 have atEnd : ∀ base c, v = .slice base m c → m ≤ c → c ≤ 9223372036854775807 → (base = none → m = 0) → i = m →
   Calls Tryd.prog 59 #[v, .int .i64 i, .slice (some (at_ vb voff)) 1 vc] w fun e w' => ∃ v' el', e = .returned v' ∧ w'.ownsRow 0 el' 3 v' (m + 1) (xs.take (i * 3) ++ news ++ xs.drop (i * 3)) ∧ Grow w w' v v' 0 ∧ OneAll w' v' := fun base c hv hmc hc hb him => by
  subst him
  have hsrc : Src Tryd.prog ti.size 24 (.slice (some (at_ vb voff)) 1 vc) 1 news w := Src.ofSlice w Tryd.underlying24 (at_ vb voff) 1 vc news (by rw [q5, hnl]) (fun j u hj => by rw [at_add]; exact hnews j u hj) h1v
  rw [← q5] at hown
  obtain ⟨v', w', el', r1, r2, r3, r4⟩ := run_append_one (P := Tryd.prog) w 24 24 24 59 el ti z Tryd.underlying24 q1 q2 q3 v i xs hown _ 1 news hsrc (by omega) (by rw [q6]; omega) (by omega) ho q4
  refine (insert_end v v' i vb voff vc w w' base c hmc hc hv hb r1).mono fun e W ⟨he, hW⟩ => ?_
  subst he; subst hW
  refine ⟨v', el', rfl, ?_, { r3 with cells := fun b hb j hj => by omega }, r4⟩
  rw [List.take_of_length_le (by omega), List.drop_of_length_le (by omega), List.append_nil, ← q5]
  exact r2
 rcases hown.2 with ⟨rfl, rfl⟩ | ⟨g, cap, cur, rfl, _, hg, hnc2, hcm, hcs, htake⟩
 ·exact atEnd none 0 rfl (by omega) (by omega) (fun _ => rfl) (by omega)
 ·have hc63 : cap ≤ 9223372036854775807 := by simp only [maxLen] at hcm; omega
  by_cases him : i = m
  ·exact atEnd _ cap rfl hnc2 hc63 (fun h => by cases h) him
  ·have hlt : i < m := by omega
   have hgb : vb ≠ g := fun e => hne (by rw [e]; rfl)
   have hcell : ∀ j u, xs[j]? = some u → w.cell? ⟨g, j, none⟩ = some u := fun j u hj => by
    have := hown.cells (g := g) rfl j u hj
    rw [add_zero_at] at this
    exact this
   have h1c : ∀ u ∈ xs, u.oneCell' = true := fun u hu => by
    rw [← htake] at hu
    exact ho g cur _ _ rfl hg u (List.mem_of_mem_take hu)
   have hcl : cur.toList.length = cap * 3 := by simpa using hcs
   by_cases hroom : m + 1 ≤ cap
   ·obtain ⟨u, hu⟩ : ∃ u, news[0]? = some u := ⟨_, List.getElem?_eq_getElem (by omega)⟩
    obtain ⟨tA, kA, s1, s2⟩ := cell_shape (hnc 0 u hu).1
    refine (insert_shift g m cap i vb voff vc xs news w hlt hroom hc63 hgb hxl hnl hcell (fun j hj => ?_) (fun j => by simp [World.frozen?, hg]) hnews h1c h1v tA kA s1 s2 hg).mono fun e W ⟨he, hW⟩ => ?_
    ·simp only [World.cell?, hg]
     have : j < cur.size := by rw [hcs]; omega
     simp [this]
    ·subst he
     have hdl : (xs.drop (i * 3)).length = (m - i) * 3 := by rw [List.length_drop, hxl, Nat.sub_mul]
     obtain ⟨c1, k1, k2⟩ := heap_setCells g el (0, 0) (xs.drop (i * 3)) ((i + 1) * 3) w.drew cur hg (by rw [hdl, hcs]; omega)
     have hc1 : c1.size = cur.size := by
      have := congrArg List.length k2
      simp only [Array.length_toList, List.length_append, List.length_take, List.length_drop, hdl] at this
      have hxl' := hxl
      omega
     obtain ⟨c2, k3, k4⟩ := heap_setCells g el (0, 0) news (i * 3) _ c1 k1 (by rw [hnl, hc1, hcs]; omega)
     rw [← hW] at k3
     obtain ⟨l1, l2, l3⟩ := shift_list (C := cur.toList) (xs := xs) (news := news) (m := m) (i := i) htake (by rw [hcl]; omega) hnl hi k2 k4
     refine ⟨_, el, rfl, ⟨?_, .inr ⟨g, cap, c2, rfl, Nat.zero_le _, k3, hroom, hcm, ?_, l2⟩⟩, ⟨?_, fun b hb hbb => ?_, fun _ _ j hj => by omega, .inl rfl, ?_, ?_, ?_⟩, fun b arr e2 fr hb hh x hx => ?_⟩
     ·simp only [List.length_append, List.length_take, hdl, hnl, hxl]; omega
     ·have : c2.size = cur.size := by simpa using l1
      rw [this, hcs]
     ·rw [hW, setCells_size, setCells_size]; exact Nat.le_refl _
     ·have : b ≠ g := fun e => hbb (by rw [e]; rfl)
      rw [hW, setCells_other g b this, setCells_other g b this]; rfl
     ·rw [hW, (setCells_rest _ _ _ _).1, (setCells_rest _ _ _ _).1]; rfl
     ·rw [hW, (setCells_rest _ _ _ _).2.1, (setCells_rest _ _ _ _).2.1]; rfl
     ·rw [hW, (setCells_rest _ _ _ _).2.2, (setCells_rest _ _ _ _).2.2]; rfl
     ·simp [Value.ownBlock] at hb; subst hb
      rw [k3] at hh; cases hh
      rcases l3 x hx with h | h
      ·exact ho g cur _ _ rfl hg x h
      ·exact h1v x h
   ·obtain ⟨ROW, G, g1, g2, g3, g4, g5, hcall⟩ := insert_grow g m cap i vb voff vc xs news w hlt hnc2 (by omega) hm hgb hxl hnl hcell hnews h1c h1v q1 q2 q3 q4 q5 q6
    refine hcall.mono fun e W ⟨he, hW⟩ => ?_
    subst he
    have hdl : (xs.drop (i * 3)).length = (m - i) * 3 := by rw [List.length_drop, hxl, Nat.sub_mul]
    have hnew : ((w.alloc (.cells ROW 59)).drew).heap[w.heap.size]? = some (.cells ROW 59 (0, 0)) := heap_alloc_at w _
    obtain ⟨c1, k1, k2⟩ := heap_setCells w.heap.size 59 (0, 0) news (i * 3) _ ROW hnew (by rw [hnl, g3]; omega)
    have hc1 : c1.size = ROW.size := by
     have := congrArg List.length k2
     simp only [Array.length_toList, List.length_append, List.length_take, List.length_drop, hnl] at this
     omega
    obtain ⟨c2, k3, k4⟩ := heap_setCells w.heap.size 59 (0, 0) (xs.drop (i * 3)) ((i + 1) * 3) _ c1 (show (((w.alloc (.cells ROW 59)).drew.setCells w.heap.size (i * 3) news).drew).heap[w.heap.size]? = _ from k1) (by rw [hdl, hc1, g3]; omega)
    rw [← hW] at k3
    have hRl : ROW.toList.length = G * 3 := by simpa using g3
    obtain ⟨l1, l2, l3⟩ := grow_list (R := ROW.toList) (xs := xs) (news := news) (m := m) (i := i) hxl g5 (by rw [hRl]; omega) hnl hi k2 k4
    refine ⟨_, 59, rfl, ⟨?_, .inr ⟨w.heap.size, G, c2, rfl, Nat.zero_le _, k3, g1, g2, ?_, l2⟩⟩, ⟨?_, fun b hb hbb => ?_, fun _ _ j hj => by omega, .inr ⟨_, rfl, Nat.le_refl _⟩, ?_, ?_, ?_⟩, fun b arr e2 fr hb hh x hx => ?_⟩
    ·simp only [List.length_append, List.length_take, hdl, hnl, hxl]; omega
    ·have : c2.size = ROW.size := by simpa using l1
     rw [this, g3]
    ·rw [hW, setCells_size]
     show _ ≤ ((w.alloc (.cells ROW 59)).drew.setCells w.heap.size (i * 3) news).heap.size
     rw [setCells_size]
     show _ ≤ (w.alloc (.cells ROW 59)).heap.size
     simp
    ·have hb' : b ≠ w.heap.size := by omega
     rw [hW, setCells_other _ b hb']
     show ((w.alloc (.cells ROW 59)).drew.setCells w.heap.size (i * 3) news).heap[b]? = _
     rw [setCells_other _ b hb']
     exact heap_alloc_lt w _ hb
    ·rw [hW, (setCells_rest _ _ _ _).1]
     show ((w.alloc (.cells ROW 59)).drew.setCells w.heap.size (i * 3) news).os = _
     rw [(setCells_rest _ _ _ _).1]; rfl
    ·rw [hW, (setCells_rest _ _ _ _).2.1]
     show ((w.alloc (.cells ROW 59)).drew.setCells w.heap.size (i * 3) news).tape = _
     rw [(setCells_rest _ _ _ _).2.1]; rfl
    ·rw [hW, (setCells_rest _ _ _ _).2.2]
     show ((w.alloc (.cells ROW 59)).drew.setCells w.heap.size (i * 3) news).output = _
     rw [(setCells_rest _ _ _ _).2.2]; rfl
    ·simp [Value.ownBlock] at hb; subst hb
     rw [k3] at hh; cases hh
     rcases l3 x hx with h | h | h
     ·exact g4 x h
     ·exact h1v x h
     ·exact h1c x h
def putL (l : List Span) (x : Span) : List Span := l.takeWhile (fun y => decide (y.fr < x.fr)) ++ x :: l.dropWhile (fun y => decide (y.fr < x.fr))
theorem putL_length (l : List Span) (x : Span) : (putL l x).length = l.length + 1 := by
 have := congrArg List.length (List.takeWhile_append_dropWhile (p := fun y : Span => decide (y.fr < x.fr)) (l := l))
 rw [List.length_append] at this
 simp only [putL, List.length_append, List.length_cons]; omega
def putE (l : List Span) (n : Nat) : Nat := if 300 < l.length + 1 then orE n 2 else n
def Row.is (r : Row) (l : List Span) : Prop := (r = none ∧ l = []) ∨ ∃ c, r = some (spansD l, c) ∧ l.length ≤ c ∧ c ≤ maxLen
def RdP (s : List UInt8) (k : Int) (b : Bool) (l : List Span) (n : Nat) (x : AV) (a : AV) (hs : List AObj) (m : Option AObj) : Prop := ∃ r : Row, r.is l ∧ a = x ∧ hs = [crd s k b r n] ∧ m = r.ob
theorem spansD_cells (l : List Span) : ∀ y ∈ spansD l, y.cells.length = 3 := by
 intro y hy
 obtain ⟨x, _, rfl⟩ := List.mem_map.1 hy
 rfl
theorem take_pos (l : List Span) (f : Span → Bool) : l.take (l.takeWhile f).length = l.takeWhile f ∧ l.drop (l.takeWhile f).length = l.dropWhile f := by
 have h := List.takeWhile_append_dropWhile (p := f) (l := l)
 generalize l.takeWhile f = a at *
 generalize l.dropWhile f = b at *
 subst h
 exact ⟨List.take_left, List.drop_left⟩
theorem spansD_put (l : List Span) (x : Span) (i : Nat) (hi : i = (l.takeWhile (fun y => decide (y.fr < x.fr))).length) : (spansD l).take i ++ x.d :: (spansD l).drop i = spansD (putL l x) := by
 obtain ⟨h1, h2⟩ := take_pos l (fun y => decide (y.fr < x.fr))
 rw [← hi] at h1 h2
 rw [putL, ← h1, ← h2]
 simp only [spansD, List.map_append, List.map_cons, List.map_take, List.map_drop]
theorem rowC_fr {l : List Span} {c i : Nat} {y : Span} (h : l[i]? = some y) : (rowC 3 (spansD l) c)[((i : Nat) : Int).toNat * 3 + 0]? = some (.d (.int .i64 y.fr)) := by
 have h1 : (spansD l)[i]? = some y.d := by rw [spansD_get, h]; rfl
 have h2 := flat_at (fs := spansD l) (spansD_cells l) (j := 0) (y := .int .i64 y.fr) h1 rfl
 have h3 := (List.getElem?_eq_some_iff.1 h2).1
 unfold rowC
 rw [Int.toNat_natCast, List.getElem?_append_left (by rw [List.length_map]; exact h3), List.getElem?_map, h2]
 rfl
theorem while_yes {α : Type} (f : α → Bool) : ∀ {l : List α} {i : Nat} {y : α}, i ≤ (l.takeWhile f).length → l[i]? = some y → f y = true → i + 1 ≤ (l.takeWhile f).length
 | [], _, _, _, h, _ => by simp at h
 | a :: l, 0, y, _, h, hf => by simp at h; subst h; simp [List.takeWhile, hf]
 | a :: l, i + 1, y, hi, h, hf => by
  simp only [List.takeWhile] at hi ⊢
  split at hi
  ·rename_i ha
   simp only [List.length_cons, ha] at hi ⊢
   simp only [List.getElem?_cons_succ] at h
   have := while_yes f (by omega) h hf
   omega
  ·simp at hi
theorem while_no {α : Type} (f : α → Bool) : ∀ {l : List α} {i : Nat} {y : α}, i ≤ (l.takeWhile f).length → l[i]? = some y → f y = false → i = (l.takeWhile f).length
 | [], _, _, _, h, _ => by simp at h
 | a :: l, 0, y, _, h, hf => by simp at h; subst h; simp [List.takeWhile, hf]
 | a :: l, i + 1, y, hi, h, hf => by
  simp only [List.takeWhile] at hi ⊢
  split at hi
  ·rename_i ha
   simp only [List.length_cons, ha] at hi ⊢
   simp only [List.getElem?_cons_succ] at h
   have := while_no f (by omega) h hf
   omega
  ·simp at hi
def L___cmap_reader__put : LCode :=
 .seq (.reg [⟨some 3, .box (.t 1), none⟩]) (.seq (.reg [Qx 4 (Ki 0)]) (.seq (.block 0 (.loop (.seq (.seq (.dreg [Qc 5 4, Qc 6 0, Q 7 (.nck (.t 6)), Q 8 (.fa 3 (.t 7)), Q 9 (.ld 
 false 1 (.t 8)), Q 10 (.len false (.t 9)), Q 11 (.bin .lss (.t 5) (.t 10)), Qc 12 11, Qd 13 0 12 true, Qg 14 (.nck (.t 13)) 12 true, Qg 15 (.fa 3 (.t 14)) 12 true, Qg 16 (.ld 
 false 1 (.t 15)) 12 true, Qd 17 4 12 true, Qg 18 (.ia 3 (.t 16) (.t 17)) 12 true, Qg 19 (.fa 0 (.t 18)) 12 true, Qg 20 (.ld false 1 (.t 19)) 12 true, Qg 21 (.fa 0 (.t 3)) 12 
 true, Qg 22 (.ld false 1 (.t 21)) 12 true, Qg 23 (.bin .lss (.t 20) (.t 22)) 12 true, Q 24 (.pick (.t 12) (.t 23) KF)]) (.cond (.t 24) .skip (.exit 0))) (.block 1 (.reg [Qc 25 4, 
 Q 26 (.bin .add (.t 25) (Ki 1)), Qa 4 26]))))) (.seq (.dreg [Qc 27 0, Qc 28 0, Qc 32 4, Q 33 (.ld true 3 (.t 3)), Q 29 (.nck (.t 28)), Q 30 (.fa 3 (.t 29)), Q 31 (.ld false 1 (.t 
 30)), ⟨some 34, .bsl 59 3 [.t 33], none⟩, ⟨some 35, .prim .call [.k (.fn (.func 59) [] []), .t 31, .t 32, .t 34] [(27, .cp (.t 0))], none⟩, Q 36 (.nck (.t 27)), Q 37 (.fa 3 (.t 
 36)), ⟨none, .st 1 (.t 37) (.t 35), none⟩]) (.seq (.reg [Qc 38 0, Q 39 (.nck (.t 38)), Q 40 (.fa 3 (.t 39)), Q 41 (.ld false 1 (.t 40)), Q 42 (.len false (.t 41)), Q 43 (.bin 
 .gtr (.t 42) (Ki 300))]) (.cond (.t 43) (.reg [Qc 44 0, Q 45 (.mkI 65 (Ki 2)), ⟨some 46, .prim .call [.k (.fn (.func 41) [] []), .t 44, .t 45] [], none⟩]) .skip)))))
def R___cmap_reader__put : List LRes := []
theorem lift___cmap_reader__put : Lifts Tryd.prog 37 47 L___cmap_reader__put R___cmap_reader__put := ⟨_, _, Tryd.func37, rfl, by kernel_rfl, by kernel_rfl, rfl⟩
theorem cput (s : List UInt8) (k : Int) (b : Bool) (r : Row) (l : List Span) (n : Nat) (x : Span) (hr : r.is l) (hl : l.length ≤ 1000) : MV Tryd.prog 37 [.ptr (.x 0) 0, .d x.d] [crd s k b r n] r.ob (RdP s k b (putL l x) (putE l n) (.tuple [])) := by
 have hf := fun r => cfail s k b r n 2
 have hn' : (if 300 < l.length + 1 then orE n 2 else n) = putE l n := rfl
 generalize putE l n = n' at *
 rcases hr with ⟨rfl, rfl⟩ | ⟨c, rfl, hc1, hc2⟩
 ·rw [if_neg (by simp)] at hn'
  subst hn'
  refine lift___cmap_reader__put.mv (by kernel_rfl) rfl rfl ?_
  simp (maxSteps := 2000000) only [go_sem, ↓reduceIte, L___cmap_reader__put, R___cmap_reader__put, crd, Span.d]
  refine run_unroll ?_
  simp (maxSteps := 2000000) only [go_sem, ↓reduceIte]
  refine PrimG.insertX (d := 35) (sz := 3) (c := 0) (i := 0) (fs := []) insSpec rfl (.inl ⟨rfl, rfl⟩) rfl rfl rfl (by decide) (by simp) (by simp) (by simp) (fun c' h1 h2 => ?_)
  simp (maxSteps := 2000000) (disch := omega) only [go_sem, ↓reduceIte]
  exact ⟨some (spansD (putL [] x), c'), .inr ⟨c', rfl, h1, h2⟩, rfl, rfl, rfl⟩
 ·refine lift___cmap_reader__put.mv (by kernel_rfl) rfl rfl ?_
  simp (maxSteps := 2000000) only [go_sem, ↓reduceIte, L___cmap_reader__put, R___cmap_reader__put, crd, Span.d]
  have hsl := spansD_length l
  refine run_loop (fun i : Nat => ⟨[(0, .ptr (.x 0) 0), (1, .d (.agg [.int .i64 x.fr, .int .i64 x.to, .str x.tx])), (3, .ptr (.l 3) 0), (4, .d (.int .i64 i))], [(3, .cells [.d (.int .i64 x.fr), .d (.int .i64 x.to), .d (.str x.tx)])], [(0, .cells [.d (.str s), .d (.int .i64 k), .d (.bool b), .rs (.x 1000) (spansD l).length c, .d (errD n)]), (1000, .cells (rowC 3 (spansD l) c))]⟩)
   (fun i => i ≤ (l.takeWhile (fun y => decide (y.fr < x.fr))).length) (fun i => l.length - i) 0 ?_ (Nat.zero_le _) ?_
  ·refine Weak.mk ?_ ?_ ?_ <;> simp (maxSteps := 2000000) only [go_sem, ↓reduceIte, Sub, Int.natCast_add, Int.natCast_mul]
  ·intro i hi
   have hwl : (l.takeWhile (fun y => decide (y.fr < x.fr))).length ≤ l.length := (List.takeWhile_sublist _).length_le
   simp (maxSteps := 2000000) (disch := omega) only [go_sem, ↓reduceIte, hsl]
   refine ⟨fun hlt => ⟨⟨by omega, hlt⟩, ?_⟩, fun hge => ?_⟩
   obtain ⟨y, hy⟩ := get_some (l := l) (i := i) (by omega)
   rw [rowC_fr hy]
   simp (maxSteps := 2000000) (disch := omega) only [go_sem, ↓reduceIte, hsl]
   refine ⟨fun hfr => ?_, fun hfr => ?_⟩
   ·refine ⟨i + 1, ?_, while_yes _ hi hy (by simpa using hfr), by omega⟩
    refine Weak.mk ?_ ?_ ?_ <;> simp (maxSteps := 2000000) only [go_sem, ↓reduceIte, Sub, Int.natCast_add, Int.natCast_mul, hsl]
   have he := while_no _ hi hy (by simpa using hfr)
   rotate_left
   have he : i = (l.takeWhile (fun y => decide (y.fr < x.fr))).length := by omega
   all_goals
    refine PrimG.insertX (d := 35) (sz := 3) (c := c) (i := i) (fs := spansD l) insSpec rfl (.inr ⟨by rw [hsl]; rfl, rfl, by rw [hsl]; exact hc1, hc2⟩) rfl rfl rfl (by decide) (spansD_cells l) (by rw [hsl]; omega) (by rw [hsl]; omega) (fun c' h1 h2 => ?_)
    have hsp := spansD_put l x i he
    simp only [Span.d] at hsp
    rw [hsp]
    have hpl := putL_length l x
    have hsl2 := spansD_length (putL l x)
    rw [hsl] at h1 ⊢
    simp (maxSteps := 2000000) (disch := omega) only [go_sem, ↓reduceIte, hsl]
    have e : l.length + 1 = (spansD (putL l x)).length := by rw [hsl2, hpl]
    have his : Row.is (some (spansD (putL l x), c')) (putL l x) := .inr ⟨c', rfl, by rw [hpl]; exact h1, h2⟩
    refine ⟨fun h300 => ?_, fun h300 => ?_⟩
    ·rw [if_pos (by omega)] at hn'
     subst hn'
     rw [e]
     refine PrimG.mvE ([.x 0]) rfl (hf (some (spansD (putL l x), c'))) rfl rfl (by repeat' (first | exact trivial | exact rfl | constructor)) rfl rfl rfl rfl (Row.ok (some (spansD (putL l x), c'))) ⟨⟨rfl, rfl⟩, rfl⟩ ?_
     simp (maxSteps := 2000000) only [go_sem, ↓reduceIte, crd]
     exact ⟨_, his, rfl, rfl, rfl⟩
    ·rw [if_neg (by omega)] at hn'
     subst hn'
     rw [e]
     exact ⟨_, his, rfl, rfl, rfl⟩
theorem putE_0 {l : List Span} {n : Nat} (x : Span) (h : putE l n = 0) : n = 0 ∧ (putL l x).length ≤ 300 := by
 unfold putE orE at h
 rw [putL_length]
 split at h
 ·split at h
  ·cases h
  ·omega
 ·exact ⟨h, by omega⟩
theorem nextT_up {s : List UInt8} {k : Nat} (h : (nextT s k).1 ≠ []) (hk : k ≤ s.length) : k < (nextT s k).2.1 := by
 have hsk := skipP_le hk
 unfold nextT tokAt at *
 generalize skipP s k = q at *
 by_cases hw : wordP s q = []
 ·rw [if_pos hw] at h ⊢
  cases hc : s[q]? with
  | none => rw [hc] at h; simp at h
  | some c =>
   rw [hc] at h
   simp only at h ⊢
   by_cases h60 : c.toNat = 60
   ·rw [if_pos h60] at h ⊢
    by_cases hx : Lib.indexByte (s.drop q) 62 < 0
    ·rw [if_pos hx] at h; simp at h
    ·rw [if_neg hx]; simp only; omega
   ·rw [if_neg h60]; simp only; omega
 ·rw [if_neg hw]
  have : (wordP s q).length ≠ 0 := by simpa using hw
  simp only; omega
def listF (s : List UInt8) (te : Nat) : Nat → Nat → Nat → List Span → Nat → Nat × List Span × Nat
 | 0, _, k, l, n => (k, l, n)
 | f + 1, c, k, l, n =>
  if n ≠ 0 then (k, l, n)
  else if (nextT s k).1 = [93] then ((nextT s k).2.1, l, if c = te + 1 then orE n (nextT s k).2.2 else orE (orE n (nextT s k).2.2) 3)
  else listF s te f (c + 1) (nextT s k).2.1 (putL l ⟨c, c, txtS (nextT s k).1⟩) (putE l (txtE (nextT s k).1 (orE n (nextT s k).2.2)))
theorem listF_end (s : List UInt8) (te f c k : Nat) (l : List Span) {n : Nat} (h : n ≠ 0) : listF s te f c k l n = (k, l, n) := by
 cases f with
 | zero => rfl
 | succ f => rw [listF, if_pos h]
theorem txtE_nil (n : Nat) : txtE [] n ≠ 0 := by
 have h1 : cBe [] = 4 := rfl
 have h2 : orE n 4 ≠ 0 := by unfold orE; split <;> omega
 have h3 : txtE1 [] n ≠ 0 := by
  unfold txtE1
  rw [h1, if_neg (fun h => h2 h.1)]
  exact h2
 unfold txtE
 rw [orE, if_neg h3]
 exact h3
theorem listF_fuel (s : List UInt8) (te : Nat) : ∀ (f f' c k : Nat) (l : List Span) (n : Nat), k ≤ s.length → s.length + 1 - k ≤ f → s.length + 1 - k ≤ f' → listF s te f c k l n = listF s te f' c k l n
 | 0, _, _, _, _, _, h, h1, _ => by omega
 | _, 0, _, _, _, _, h, _, h2 => by omega
 | f + 1, f' + 1, c, k, l, n, h, h1, h2 => by
  simp only [listF]
  split
  ·rfl
  ·split
   ·rfl
   ·generalize hq : putE l (txtE (nextT s k).1 (orE n (nextT s k).2.2)) = n'
    by_cases hn : n' = 0
    ·have ht : txtE (nextT s k).1 (orE n (nextT s k).2.2) = 0 := (putE_0 ⟨0, 0, []⟩ (hq.trans hn)).1
     have := nextT_up (fun e => by rw [e] at ht; exact txtE_nil _ ht) h
     have h3 := (nextT_le h).2
     exact listF_fuel s te f f' _ _ _ _ h3 (by omega) (by omega)
    ·rw [listF_end _ _ _ _ _ _ hn, listF_end _ _ _ _ _ _ hn]
def L___cmap_reader__list : LCode :=
 .seq (.reg [Qc 8 1, Qa 6 8]) (.block 0 (.loop (.seq (.seq (.reg [Qc 9 0, Q 10 (.nck (.t 9)), Q 11 (.fa 4 (.t 10)), Q 12 (.ld false 1 (.t 11)), Q 13 (.eqN 0 false (.t 12))]) (.cond 
 (.t 13) .skip (.exit 0))) (.seq (.block 1 (.seq (.reg [Qc 16 0, ⟨some 17, .prim .call [.k (.fn (.func 32) [] []), .t 16] [], none⟩, Qa 7 17]) (.seq (.seq (.reg [Qc 18 7, Q 19 
 (.bin .eql (.t 18) (.k (.d (.str [93]))))]) (.cond (.t 19) (.seq (.seq (.reg [Qc 20 6, Qc 21 2, Q 22 (.bin .add (.t 21) (Ki 1)), Q 23 (.bin .neq (.t 20) (.t 22))]) (.cond (.t 23) 
 (.reg [Qc 24 0, Q 25 (.mkI 65 (Ki 3)), ⟨some 26, .prim .call [.k (.fn (.func 41) [] []), .t 24, .t 25] [], none⟩]) .skip)) .ret) .skip)) (.reg [Qc 27 0, Qc 28 6, Qc 29 6, Qc 30 
 0, Qc 31 7, ⟨some 32, .prim .call [.k (.fn (.func 38) [] []), .t 30, .t 31] [], none⟩, Q 33 (.bld [(0, 1), (1, 1), (2, 1)] [.int .i64 0, .int .i64 0, .str []] [] [(0, .t 28), (1, 
 .t 29), (2, .t 32)]), ⟨some 34, .prim .call [.k (.fn (.func 37) [] []), .t 27, .t 33] [], none⟩])))) (.reg [Qc 14 6, Q 15 (.bin .add (.t 14) (Ki 1)), Qa 6 15])))))
def R___cmap_reader__list : List LRes := []
theorem lift___cmap_reader__list : Lifts Tryd.prog 40 35 L___cmap_reader__list R___cmap_reader__list := ⟨_, _, Tryd.func40, rfl, by kernel_rfl, by kernel_rfl, rfl⟩
theorem clist (s : List UInt8) (fr te k : Nat) (b : Bool) (r : Row) (l : List Span) (n : Nat) (hs : s.length ≤ 60000) (hk : k ≤ s.length) (hfr : fr ≤ 65535) (hto : te ≤ 65535) (hr : r.is l) (hl : l.length ≤ 300) :
  MV Tryd.prog 40 [.ptr (.x 0) 0, .d (.int .i64 fr), .d (.int .i64 te)] [crd s k b r n] r.ob (RdP s (listF s te (s.length + 1 - k) fr k l n).1 b (listF s te (s.length + 1 - k) fr k l n).2.1 (listF s te (s.length + 1 - k) fr k l n).2.2 (.tuple [])) := by
 generalize hR : listF s te (s.length + 1 - k) fr k l n = R
 obtain ⟨S0, hS0⟩ : ∃ S0 : Nat × Nat × Row × List Span × Nat → St, ∀ y, S0 y = ⟨[(0, .ptr (.x 0) 0), (2, .d (.int .i64 te)), (6, .d (.int .i64 y.1))], [], (0, crd s y.2.1 b y.2.2.1 y.2.2.2.2) :: mob y.2.2.1.ob⟩ := ⟨_, fun _ => rfl⟩
 refine lift___cmap_reader__list.mv (by kernel_rfl) rfl rfl ?_
 simp (maxSteps := 2000000) only [go_sem, ↓reduceIte, L___cmap_reader__list, R___cmap_reader__list]
 refine run_loop S0 (fun y => y.2.1 ≤ s.length ∧ (y.2.2.2.2 = 0 → y.1 + (s.length - y.2.1) ≤ 65535 + s.length + 1) ∧ y.2.2.1.is y.2.2.2.1 ∧ (y.2.2.2.2 = 0 → y.2.2.2.1.length ≤ 300) ∧ listF s te (s.length + 1 - y.2.1) y.1 y.2.1 y.2.2.2.1 y.2.2.2.2 = R) (fun y => if y.2.2.2.2 = 0 then s.length + 2 - y.2.1 else 0) (fr, k, r, l, n) ?_ ?_ ?_
 ·rw [hS0]
  rcases r with _ | ⟨fs, cc⟩
  all_goals
   refine Weak.mk ?_ ?_ ?_ <;> simp (maxSteps := 2000000) only [go_sem, ↓reduceIte, Sub, Int.natCast_add, Int.natCast_mul]
 ·exact ⟨hk, fun _ => by simp only; omega, hr, fun _ => hl, hR⟩
 ·rintro ⟨c, k, r, l, n⟩ ⟨hk, hc, hr, hl, hF⟩
  simp only at hk hc hr hl hF
  rw [hS0]
  have hnx := cnext s k b r n hs hk
  obtain ⟨hw1, hw2⟩ := nextT_le hk
  have htx := ctext s (nextT s k).2.1 b r (orE n (nextT s k).2.2) (nextT s k).1 (by omega)
  have hro := Row.ok r
  have hr0 := hr
  have hf3 := cfail s (nextT s k).2.1 b r (orE n (nextT s k).2.2) 3
  have hpt := fun (hq : n = 0) => cput s (nextT s k).2.1 b r l (txtE (nextT s k).1 (orE n (nextT s k).2.2)) ⟨c, c, txtS (nextT s k).1⟩ hr (by have := hl hq; omega)
  rcases r with _ | ⟨fs, cc⟩
  all_goals
   rcases Nat.eq_zero_or_pos n with hn | hn
   ·subst hn
    have hpt := hpt rfl
    have hc := hc rfl
    simp (maxSteps := 2000000) only [go_sem, ↓reduceIte, crd, show errD 0 = .nil from rfl]
    refine PrimG.mvE ([.x 0]) rfl (hnx) rfl rfl (by repeat' (first | exact trivial | exact rfl | constructor)) rfl rfl rfl rfl (hro) ⟨⟨rfl, rfl⟩, rfl⟩ ?_
    have hF2 := hF
    rw [show s.length + 1 - k = (s.length - k) + 1 by omega, listF, if_neg (by simp)] at hF2
    by_cases h93 : (nextT s k).1 = [93]
    ·rw [if_pos h93] at hF2
     by_cases hct : c = te + 1
     ·rw [if_pos hct] at hF2
      have z1 : ((c : Int) = (te : Int) + 1) = True := eq_true (by omega)
      simp (maxSteps := 2000000) (disch := omega) only [go_sem, ↓reduceIte, crd, h93, z1]
      rw [← hF2]
      exact ⟨_, hr0, rfl, rfl, rfl⟩
     ·rw [if_neg hct] at hF2
      have z1 : ((c : Int) = (te : Int) + 1) = False := eq_false (by omega)
      simp (maxSteps := 2000000) (disch := omega) only [go_sem, ↓reduceIte, crd, h93, z1]
      refine PrimG.mvE ([.x 0]) rfl (hf3) rfl rfl (by repeat' (first | exact trivial | exact rfl | constructor)) rfl rfl rfl rfl (hro) ⟨⟨rfl, rfl⟩, rfl⟩ ?_
      simp (maxSteps := 2000000) only [go_sem, ↓reduceIte, crd]
      rw [← hF2]
      exact ⟨_, hr0, rfl, rfl, rfl⟩
    ·rw [if_neg h93] at hF2
     simp (maxSteps := 2000000) only [go_sem, ↓reduceIte, crd, h93]
     refine PrimG.mvE ([.x 0]) rfl (htx) rfl rfl (by repeat' (first | exact trivial | exact rfl | constructor)) rfl rfl rfl rfl (hro) ⟨⟨rfl, rfl⟩, rfl⟩ ?_
     simp (maxSteps := 2000000) only [go_sem, ↓reduceIte, crd]
     refine PrimG.mv ([.x 0]) rfl (hpt) rfl rfl (by repeat' (first | exact trivial | exact rfl | constructor)) rfl rfl rfl rfl (hro) (fun r hs' m' hr => ?_)
     obtain ⟨r', hr', e1, e2, e3⟩ := hr
     subst e1 e2 e3
     have hup : txtE (nextT s k).1 (orE 0 (nextT s k).2.2) = 0 → k < (nextT s k).2.1 := fun h => nextT_up (fun e => by rw [e] at h; exact txtE_nil _ h) hk
     rcases r' with _ | ⟨fs', c'⟩
     all_goals
      refine ⟨⟨⟨rfl, rfl⟩, rfl⟩, ?_⟩
      simp (maxSteps := 2000000) (disch := omega) only [go_sem, ↓reduceIte, crd]
      refine ⟨(c + 1, (nextT s k).2.1, _, putL l ⟨c, c, txtS (nextT s k).1⟩, putE l (txtE (nextT s k).1 (orE 0 (nextT s k).2.2))), ?_, ⟨hw2, fun h => by have := hup (putE_0 ⟨0, 0, []⟩ h).1; simp only; omega, hr', fun h => (putE_0 _ h).2, ?_⟩, ?_⟩
      ·rw [hS0]
       refine Weak.mk ?_ ?_ ?_ <;> simp (maxSteps := 2000000) only [go_sem, ↓reduceIte, Sub, Int.natCast_add, Int.natCast_mul, crd]
      ·simp only
       rw [← hF2]
       by_cases hn0 : putE l (txtE (nextT s k).1 (orE 0 (nextT s k).2.2)) = 0
       ·have := hup (putE_0 ⟨0, 0, []⟩ hn0).1
        refine listF_fuel s te _ _ _ _ _ _ hw2 ?_ ?_ <;> omega
       ·rw [listF_end _ _ _ _ _ _ hn0, listF_end _ _ _ _ _ _ hn0]
      ·simp only
       split
       ·rename_i h
        have := hup (putE_0 ⟨0, 0, []⟩ h).1
        omega
       ·omega
   ·rw [listF_end _ _ _ _ _ _ (by omega)] at hF
    subst hF
    simp (maxSteps := 2000000) only [go_sem, ↓reduceIte, crd, errD_ne (Nat.pos_iff_ne_zero.1 hn)]
    exact ⟨_, hr0, rfl, by rw [crd_ne _ _ _ _ (Nat.pos_iff_ne_zero.1 hn)]; rfl, rfl⟩
abbrev RS := Bool × Nat × List Span × Nat
def box : AObj := .cells [.ptr (.x 0) 0]
def RdB (s : List UInt8) (t : RS) (a : AV) (hs : List AObj) (m : Option AObj) : Prop := ∃ r : Row, r.is t.2.2.1 ∧ a = .tuple [] ∧ hs = [crd s t.2.1 t.1 r t.2.2.2, box] ∧ m = r.ob
theorem codeV_le (b : Bool) (l : List UInt8) : (codeV b l).1 ≤ 65535 := by
 unfold codeV
 have h0 := u8_lt (l.getD 0 0)
 have h1 := u8_lt (l.getD 1 0)
 split <;> split <;> simp only <;> omega
theorem codeT_le (s : List UInt8) (b : Bool) {k : Nat} (n : Nat) (hk : k ≤ s.length) : (codeT s b k n).1 ≤ 65535 ∧ (codeT s b k n).2.1 ≤ s.length := by
 have := (nextT_le hk).2
 unfold codeT
 split
 ·exact ⟨codeV_le _ _, this⟩
 ·exact ⟨Nat.zero_le _, this⟩
def one1 (s : List UInt8) (x : RS) : RS :=
 let c := codeT s x.1 x.2.1 x.2.2.2
 let t := nextT s c.2.1
 (x.1, t.2.1, putL x.2.2.1 ⟨c.1, c.1, txtS t.1⟩, putE x.2.2.1 (txtE t.1 (orE c.2.2 t.2.2)))
def L_cmap_Parse_1 : LCode :=
 .seq (.reg [Q 2 (.ld false 1 (.t 0)), ⟨some 3, .prim .call [.k (.fn (.func 36) [] []), .t 2] [], none⟩, Qa 1 3]) (.dreg [Q 4 (.ld false 1 (.t 0)), Qc 5 1, Qc 6 1, Q 7 (.ld false 1 
 (.t 0)), Q 8 (.ld false 1 (.t 0)), ⟨some 9, .prim .call [.k (.fn (.func 32) [] []), .t 8] [(4, .ld false 1 (.t 0)), (5, .cp (.t 1)), (6, .cp (.t 1)), (7, .ld false 1 (.t 0))], 
 none⟩, ⟨some 10, .prim .call [.k (.fn (.func 38) [] []), .t 7, .t 9] [(4, .ld false 1 (.t 0)), (5, .cp (.t 1)), (6, .cp (.t 1))], none⟩, Q 11 (.bld [(0, 1), (1, 1), (2, 1)] [.int 
 .i64 0, .int .i64 0, .str []] [] [(0, .t 5), (1, .t 6), (2, .t 10)]), ⟨some 12, .prim .call [.k (.fn (.func 37) [] []), .t 4, .t 11] [], none⟩])
def R_cmap_Parse_1 : List LRes := []
theorem lift_cmap_Parse_1 : Lifts Tryd.prog 35 13 L_cmap_Parse_1 R_cmap_Parse_1 := ⟨_, _, Tryd.func35, rfl, by kernel_rfl, by kernel_rfl, rfl⟩
theorem cone1 (s : List UInt8) (x : RS) (r : Row) (hs : s.length ≤ 60000) (hk : x.2.1 ≤ s.length) (hr : r.is x.2.2.1) (hl : x.2.2.1.length ≤ 300) :
  MV Tryd.prog 35 [.ptr (.x 1) 0] [crd s x.2.1 x.1 r x.2.2.2, box] r.ob (RdB s (one1 s x)) := by
 obtain ⟨b, k, l, n⟩ := x
 simp only at hk hr hl ⊢
 have hcd := ccode s k b r n hs hk
 obtain ⟨hc1, hc2⟩ := codeT_le s b n hk
 have hR : one1 s (b, k, l, n) = (b, (nextT s (codeT s b k n).2.1).2.1, putL l ⟨(codeT s b k n).1, (codeT s b k n).1, txtS (nextT s (codeT s b k n).2.1).1⟩, putE l (txtE (nextT s (codeT s b k n).2.1).1 (orE (codeT s b k n).2.2 (nextT s (codeT s b k n).2.1).2.2))) := rfl
 rw [hR]
 generalize codeT s b k n = C at *
 obtain ⟨c, k1, n1⟩ := C
 simp only at *
 have hnx := cnext s k1 b r n1 hs hc2
 obtain ⟨hw1, hw2⟩ := nextT_le hc2
 generalize nextT s k1 = T at *
 obtain ⟨w, k2, e2⟩ := T
 simp only at *
 have htx := ctext s k2 b r (orE n1 e2) w (by omega)
 have hpt := cput s k2 b r l (txtE w (orE n1 e2)) ⟨c, c, txtS w⟩ hr (by omega)
 have hro := Row.ok r
 rcases r with _ | ⟨fs, cc⟩
 all_goals
  refine lift_cmap_Parse_1.mv (by kernel_rfl) rfl rfl ?_
  simp (maxSteps := 2000000) only [go_sem, ↓reduceIte, L_cmap_Parse_1, R_cmap_Parse_1, crd, box]
  refine PrimG.mvE ([.x 0]) rfl (hcd) rfl rfl (by repeat' (first | exact trivial | exact rfl | constructor)) rfl rfl rfl rfl (hro) ⟨⟨rfl, rfl⟩, rfl⟩ ?_
  simp (maxSteps := 2000000) only [go_sem, ↓reduceIte, crd]
  refine PrimG.mvE ([.x 0]) rfl (hnx) rfl rfl (by repeat' (first | exact trivial | exact rfl | constructor)) rfl rfl rfl rfl (hro) ⟨⟨rfl, rfl⟩, rfl⟩ ?_
  simp (maxSteps := 2000000) only [go_sem, ↓reduceIte, crd]
  refine PrimG.mvE ([.x 0]) rfl (htx) rfl rfl (by repeat' (first | exact trivial | exact rfl | constructor)) rfl rfl rfl rfl (hro) ⟨⟨rfl, rfl⟩, rfl⟩ ?_
  simp (maxSteps := 2000000) only [go_sem, ↓reduceIte, crd]
  refine PrimG.mv ([.x 0]) rfl (hpt) rfl rfl (by repeat' (first | exact trivial | exact rfl | constructor)) rfl rfl rfl rfl (hro) (fun r hs' m' hr => ?_)
  obtain ⟨r', hr', e1, e2, e3⟩ := hr
  subst e1 e2 e3
  rcases r' with _ | ⟨fs', c'⟩
  all_goals
   refine ⟨⟨⟨rfl, rfl⟩, rfl⟩, ?_⟩
   simp (maxSteps := 2000000) only [go_sem, ↓reduceIte, crd]
   exact ⟨_, hr', rfl, rfl, rfl⟩
def one2 (s : List UInt8) (x : RS) : RS :=
 let c := codeT s x.1 x.2.1 x.2.2.2
 let d := codeT s x.1 c.2.1 c.2.2
 let t := nextT s d.2.1
 if t.1 = [91] then (x.1, listF s d.1 (s.length + 1 - t.2.1) c.1 t.2.1 x.2.2.1 (orE d.2.2 t.2.2))
 else (x.1, t.2.1, putL x.2.2.1 ⟨c.1, d.1, txtS t.1⟩, putE x.2.2.1 (txtE t.1 (orE d.2.2 t.2.2)))
def L_cmap_Parse_2 : LCode :=
 .seq (.dreg [Q 4 (.ld false 1 (.t 0)), Q 6 (.ld false 1 (.t 0)), ⟨some 5, .prim .call [.k (.fn (.func 36) [] []), .t 4] [(6, .ld false 1 (.t 0))], none⟩, ⟨some 7, .prim .call [.k 
 (.fn (.func 36) [] []), .t 6] [], none⟩, Qc 1 5, Qc 2 7]) (.seq (.reg [Q 8 (.ld false 1 (.t 0)), ⟨some 9, .prim .call [.k (.fn (.func 32) [] []), .t 8] [], none⟩, Qa 3 9]) (.seq 
 (.reg [Qc 10 3, Q 11 (.bin .eql (.t 10) (.k (.d (.str [91]))))]) (.cond (.t 11) (.reg [Q 12 (.ld false 1 (.t 0)), Qc 13 1, Qc 14 2, ⟨some 15, .prim .call [.k (.fn (.func 40) [] 
 []), .t 12, .t 13, .t 14] [], none⟩]) (.dreg [Q 16 (.ld false 1 (.t 0)), Qc 17 1, Qc 18 2, Q 19 (.ld false 1 (.t 0)), Qc 20 3, ⟨some 21, .prim .call [.k (.fn (.func 38) [] []), 
 .t 19, .t 20] [(16, .ld false 1 (.t 0)), (17, .cp (.t 1)), (18, .cp (.t 2))], none⟩, Q 22 (.bld [(0, 1), (1, 1), (2, 1)] [.int .i64 0, .int .i64 0, .str []] [] [(0, .t 17), (1, 
 .t 18), (2, .t 21)]), ⟨some 23, .prim .call [.k (.fn (.func 37) [] []), .t 16, .t 22] [], none⟩]))))
def R_cmap_Parse_2 : List LRes := []
theorem lift_cmap_Parse_2 : Lifts Tryd.prog 39 24 L_cmap_Parse_2 R_cmap_Parse_2 := ⟨_, _, Tryd.func39, rfl, by kernel_rfl, by kernel_rfl, rfl⟩
theorem cone2 (s : List UInt8) (x : RS) (r : Row) (hs : s.length ≤ 60000) (hk : x.2.1 ≤ s.length) (hr : r.is x.2.2.1) (hl : x.2.2.1.length ≤ 300) :
  MV Tryd.prog 39 [.ptr (.x 1) 0] [crd s x.2.1 x.1 r x.2.2.2, box] r.ob (RdB s (one2 s x)) := by
 obtain ⟨b, k, l, n⟩ := x
 simp only at hk hr hl ⊢
 have hcd := ccode s k b r n hs hk
 obtain ⟨hc1, hc2⟩ := codeT_le s b n hk
 have hR : one2 s (b, k, l, n) = if (nextT s (codeT s b (codeT s b k n).2.1 (codeT s b k n).2.2).2.1).1 = [91] then (b, listF s (codeT s b (codeT s b k n).2.1 (codeT s b k n).2.2).1 (s.length + 1 - (nextT s (codeT s b (codeT s b k n).2.1 (codeT s b k n).2.2).2.1).2.1) (codeT s b k n).1 (nextT s (codeT s b (codeT s b k n).2.1 (codeT s b k n).2.2).2.1).2.1 l (orE (codeT s b (codeT s b k n).2.1 (codeT s b k n).2.2).2.2 (nextT s (codeT s b (codeT s b k n).2.1 (codeT s b k n).2.2).2.1).2.2))
  else (b, (nextT s (codeT s b (codeT s b k n).2.1 (codeT s b k n).2.2).2.1).2.1, putL l ⟨(codeT s b k n).1, (codeT s b (codeT s b k n).2.1 (codeT s b k n).2.2).1, txtS (nextT s (codeT s b (codeT s b k n).2.1 (codeT s b k n).2.2).2.1).1⟩, putE l (txtE (nextT s (codeT s b (codeT s b k n).2.1 (codeT s b k n).2.2).2.1).1 (orE (codeT s b (codeT s b k n).2.1 (codeT s b k n).2.2).2.2 (nextT s (codeT s b (codeT s b k n).2.1 (codeT s b k n).2.2).2.1).2.2))) := rfl
 generalize one2 s (b, k, l, n) = R at *
 generalize codeT s b k n = C at *
 obtain ⟨c, k1, n1⟩ := C
 simp only at *
 have hcd2 := ccode s k1 b r n1 hs hc2
 obtain ⟨hd1, hd2⟩ := codeT_le s b n1 hc2
 generalize codeT s b k1 n1 = D at *
 obtain ⟨d, k2, n2⟩ := D
 simp only at *
 have hnx := cnext s k2 b r n2 hs hd2
 obtain ⟨hw1, hw2⟩ := nextT_le hd2
 generalize nextT s k2 = T at *
 obtain ⟨w, k3, e2⟩ := T
 simp only at *
 have htx := ctext s k3 b r (orE n2 e2) w (by omega)
 have hpt := cput s k3 b r l (txtE w (orE n2 e2)) ⟨c, d, txtS w⟩ hr (by omega)
 have hls := clist s c d k3 b r l (orE n2 e2) hs hw2 hc1 hd1 hr hl
 have hro := Row.ok r
 rcases r with _ | ⟨fs, cc⟩
 all_goals
  refine lift_cmap_Parse_2.mv (by kernel_rfl) rfl rfl ?_
  simp (maxSteps := 2000000) only [go_sem, ↓reduceIte, L_cmap_Parse_2, R_cmap_Parse_2, crd, box]
  refine PrimG.mvE ([.x 0]) rfl (hcd) rfl rfl (by repeat' (first | exact trivial | exact rfl | constructor)) rfl rfl rfl rfl (hro) ⟨⟨rfl, rfl⟩, rfl⟩ ?_
  simp (maxSteps := 2000000) only [go_sem, ↓reduceIte, crd]
  refine PrimG.mvE ([.x 0]) rfl (hcd2) rfl rfl (by repeat' (first | exact trivial | exact rfl | constructor)) rfl rfl rfl rfl (hro) ⟨⟨rfl, rfl⟩, rfl⟩ ?_
  simp (maxSteps := 2000000) only [go_sem, ↓reduceIte, crd]
  refine PrimG.mvE ([.x 0]) rfl (hnx) rfl rfl (by repeat' (first | exact trivial | exact rfl | constructor)) rfl rfl rfl rfl (hro) ⟨⟨rfl, rfl⟩, rfl⟩ ?_
  simp (maxSteps := 2000000) only [go_sem, ↓reduceIte, crd]
  by_cases h91 : w = [91]
  ·rw [if_pos h91] at hR
   subst hR
   simp (maxSteps := 2000000) only [go_sem, ↓reduceIte, h91]
   refine PrimG.mv ([.x 0]) rfl (hls) rfl rfl (by repeat' (first | exact trivial | exact rfl | constructor)) rfl rfl rfl rfl (hro) (fun r hs' m' hr => ?_)
   obtain ⟨r', hr', e1, e2, e3⟩ := hr
   subst e1 e2 e3
   rcases r' with _ | ⟨fs', c'⟩
   all_goals
    refine ⟨⟨⟨rfl, rfl⟩, rfl⟩, ?_⟩
    simp (maxSteps := 2000000) only [go_sem, ↓reduceIte, crd]
    exact ⟨_, hr', rfl, rfl, rfl⟩
  ·rw [if_neg h91] at hR
   subst hR
   simp (maxSteps := 2000000) only [go_sem, ↓reduceIte, h91]
   refine PrimG.mvE ([.x 0]) rfl (htx) rfl rfl (by repeat' (first | exact trivial | exact rfl | constructor)) rfl rfl rfl rfl (hro) ⟨⟨rfl, rfl⟩, rfl⟩ ?_
   simp (maxSteps := 2000000) only [go_sem, ↓reduceIte, crd]
   refine PrimG.mv ([.x 0]) rfl (hpt) rfl rfl (by repeat' (first | exact trivial | exact rfl | constructor)) rfl rfl rfl rfl (hro) (fun r hs' m' hr => ?_)
   obtain ⟨r', hr', e1, e2, e3⟩ := hr
   subst e1 e2 e3
   rcases r' with _ | ⟨fs', c'⟩
   all_goals
    refine ⟨⟨⟨rfl, rfl⟩, rfl⟩, ?_⟩
    simp (maxSteps := 2000000) only [go_sem, ↓reduceIte, crd]
    exact ⟨_, hr', rfl, rfl, rfl⟩
def one0 (s : List UInt8) (x : RS) : RS := ((spaceT s x.2.1 x.2.2.2).1, (spaceT s x.2.1 x.2.2.2).2.1, x.2.2.1, (spaceT s x.2.1 x.2.2.2).2.2)
theorem cspace2 (s : List UInt8) (k : Nat) (b : Bool) (r : Row) (n : Nat) (hs : s.length ≤ 60000) (hk : k ≤ s.length) : MVE Tryd.prog 34 [.ptr (.x 0) 0] [crd s k b r n, box] r.ob (.tuple []) [crd s (spaceT s k n).2.1 (spaceT s k n).1 r (spaceT s k n).2.2, box] r.ob := by
 have hnx := cnext s k b r n hs hk
 obtain ⟨hl1, hl2⟩ := nextT_le hk
 have hby := cbytes s (nextT s k).2.1 b r (orE n (nextT s k).2.2) (nextT s k).1 (by omega)
 have hnx2 := cnext s (nextT s k).2.1 b r (strE s k n) hs hl2
 obtain ⟨hl3, hl4⟩ := nextT_le hl2
 have hby2 := cbytes s (nextT s (nextT s k).2.1).2.1 b r (orE (strE s k n) (nextT s (nextT s k).2.1).2.2) (nextT s (nextT s k).2.1).1 (by omega)
 have hR : spaceT s k n = (decide ((cBl (nextT s k).1).length = 2), (nextT s (nextT s k).2.1).2.1, if strE s (nextT s k).2.1 (strE s k n) = 0 ∧ ((cBl (nextT s k).1).length ≠ (cBl (nextT s (nextT s k).2.1).1).length ∨ (cBl (nextT s k).1).length < 1 ∨ 2 < (cBl (nextT s k).1).length) then 3 else strE s (nextT s k).2.1 (strE s k n)) := rfl
 have hE : orE (orE n (nextT s k).2.2) (cBe (nextT s k).1) = strE s k n := rfl
 have hE2 : orE (orE (strE s k n) (nextT s (nextT s k).2.1).2.2) (cBe (nextT s (nextT s k).2.1).1) = strE s (nextT s k).2.1 (strE s k n) := rfl
 rw [hE] at hby
 rw [hE2] at hby2
 generalize spaceT s k n = T at *
 generalize strE s (nextT s k).2.1 (strE s k n) = e at *
 generalize orE (strE s k n) (nextT s (nextT s k).2.1).2.2 = e3 at *
 generalize strE s k n = e2 at *
 generalize orE n (nextT s k).2.2 = e1 at *
 generalize nextT s (nextT s k).2.1 = Y at *
 generalize nextT s k = X at *
 obtain ⟨w, q, e0⟩ := X
 obtain ⟨w', q', e0'⟩ := Y
 simp only at *
 generalize cBl w = bs at *
 generalize cBl w' = bs' at *
 have hblen := bytesD_length bs
 have hblen' := bytesD_length bs'
 have hd2 : decide ((bs.length : Int) = 2) = decide (bs.length = 2) := by rw [Bool.eq_iff_iff]; simp only [decide_eq_true_eq]; omega
 have hf := cfail s q' b r 0 3
 have z0 : errD 0 = .nil := rfl
 have hro := Row.ok r
 rcases r with _ | ⟨fs, c⟩
 all_goals
  refine lift___cmap_reader__space.mv (by kernel_rfl) rfl rfl ?_
  simp (maxSteps := 2000000) only [go_sem, ↓reduceIte, L___cmap_reader__space, R___cmap_reader__space, crd, box]
  refine PrimG.mvE ([.x 0]) rfl (hnx) rfl rfl (by repeat' (first | exact trivial | exact rfl | constructor)) rfl rfl rfl rfl (hro) ⟨⟨rfl, rfl⟩, rfl⟩ ?_
  simp (maxSteps := 2000000) only [go_sem, ↓reduceIte, box, crd]
  refine PrimG.mvE ([.x 0]) rfl (hby) rfl rfl (by repeat' (first | exact trivial | exact rfl | constructor)) rfl rfl rfl rfl (hro) ⟨⟨rfl, rfl⟩, rfl⟩ ?_
  simp (maxSteps := 2000000) only [go_sem, ↓reduceIte, box, crd]
  refine PrimG.mvE ([.x 0]) rfl (hnx2) rfl rfl (by repeat' (first | exact trivial | exact rfl | constructor)) rfl rfl rfl rfl (hro) ⟨⟨rfl, rfl⟩, rfl⟩ ?_
  simp (maxSteps := 2000000) only [go_sem, ↓reduceIte, box, crd]
  refine PrimG.mvE ([.x 0]) rfl (hby2) rfl rfl (by repeat' (first | exact trivial | exact rfl | constructor)) rfl rfl rfl rfl (hro) ⟨⟨rfl, rfl⟩, rfl⟩ ?_
  by_cases he : e = 0
  ·subst he
   simp (maxSteps := 2000000) only [go_sem, ↓reduceIte, box, crd, z0, hblen, hblen']
   refine ⟨fun g1 => ⟨fun g2 => ⟨fun g3 => ?_, fun g3 => ?_⟩, fun g2 => ?_⟩, fun g1 => ?_⟩
   ·have hT2 : T = (decide (bs.length = 2), q', 3) := by rw [hR, if_pos ⟨rfl, .inr (.inr (by omega))⟩]
    subst hT2
    refine PrimG.mvE ([.x 0]) rfl (hf) rfl rfl (by repeat' (first | exact trivial | exact rfl | constructor)) rfl rfl rfl rfl (hro) ⟨⟨rfl, rfl⟩, rfl⟩ ?_
    simp (maxSteps := 2000000) only [go_sem, ↓reduceIte, box, crd, orE, hblen, hd2]
   ·have hT2 : T = (decide (bs.length = 2), q', 0) := by rw [hR, if_neg (fun h => by omega)]
    subst hT2
    simp (maxSteps := 2000000) only [go_sem, ↓reduceIte, box, crd, z0, hblen, hd2]
   ·have hT2 : T = (decide (bs.length = 2), q', 3) := by rw [hR, if_pos ⟨rfl, .inr (.inl (by omega))⟩]
    subst hT2
    refine PrimG.mvE ([.x 0]) rfl (hf) rfl rfl (by repeat' (first | exact trivial | exact rfl | constructor)) rfl rfl rfl rfl (hro) ⟨⟨rfl, rfl⟩, rfl⟩ ?_
    simp (maxSteps := 2000000) only [go_sem, ↓reduceIte, box, crd, orE, hblen, hd2]
   ·have hT2 : T = (decide (bs.length = 2), q', 3) := by rw [hR, if_pos ⟨rfl, .inl (by omega)⟩]
    subst hT2
    refine PrimG.mvE ([.x 0]) rfl (hf) rfl rfl (by repeat' (first | exact trivial | exact rfl | constructor)) rfl rfl rfl rfl (hro) ⟨⟨rfl, rfl⟩, rfl⟩ ?_
    simp (maxSteps := 2000000) only [go_sem, ↓reduceIte, box, crd, orE, hblen, hd2]
  ·rw [if_neg (fun h => he h.1)] at hR
   subst hR
   simp (maxSteps := 2000000) only [go_sem, ↓reduceIte, box, crd, errD_ne he, hblen, hd2]
theorem cone0 (s : List UInt8) (x : RS) (r : Row) (hs : s.length ≤ 60000) (hk : x.2.1 ≤ s.length) (hr : r.is x.2.2.1) (_ : x.2.2.1.length ≤ 300) :
  MV Tryd.prog 34 [.ptr (.x 0) 0] [crd s x.2.1 x.1 r x.2.2.2, box] r.ob (RdB s (one0 s x)) :=
 (cspace2 s x.2.1 x.1 r x.2.2.2 hs hk).mono fun a hs' m' ⟨e1, e2, e3⟩ => ⟨r, hr, e1, e2, e3⟩
end Go.Av.Tryd
set_option linter.unusedSimpArgs false
set_option maxHeartbeats 2000000
namespace Go.Av.Tryd
open Go.Proofs
theorem orE_eq0 {n e : Nat} (h : orE n e = 0) : n = 0 ∧ e = 0 := by
 unfold orE at h
 split at h
 ·exact ⟨by assumption, h⟩
 ·exact absurd h (by assumption)
theorem nextT_ge {s : List UInt8} {k : Nat} (hk : k ≤ s.length) : k ≤ (nextT s k).2.1 := by
 have hsk := skipP_le hk
 unfold nextT
 generalize skipP s k = q at *
 unfold tokAt
 split
 ·cases h : s[q]? with
  | none => simp; omega
  | some c =>
   simp only
   split
   ·split
    ·simp; omega
    ·simp only; omega
   ·simp only; omega
 ·simp only; omega
theorem cBe_ne {w : List UInt8} (h : cBe w = 0) : w ≠ [] := by
 intro e
 subst e
 exact absurd h (by decide)
theorem strE_up {s : List UInt8} {k n : Nat} (h : strE s k n = 0) (hk : k ≤ s.length) : n = 0 ∧ k < (nextT s k).2.1 := by
 unfold strE at h
 obtain ⟨h1, h2⟩ := orE_eq0 h
 exact ⟨(orE_eq0 h1).1, nextT_up (cBe_ne h2) hk⟩
theorem codeT_up {s : List UInt8} {b : Bool} {k n : Nat} (h : (codeT s b k n).2.2 = 0) (hk : k ≤ s.length) : k < (codeT s b k n).2.1 := by
 unfold codeT at *
 split at h
 ·rename_i h1
  rw [if_pos h1]
  exact (strE_up h1 hk).2
 ·rename_i h1
  exact absurd h h1
theorem txtE_up {w : List UInt8} {n : Nat} (h : txtE w n = 0) : n = 0 := by
 have h1 := (orE_eq0 h).1
 unfold txtE1 at h1
 split at h1
 ·cases h1
 ·exact (orE_eq0 h1).1
theorem codeT_err {s : List UInt8} {b : Bool} {k n : Nat} (h : (codeT s b k n).2.2 = 0) (hk : k ≤ s.length) : n = 0 := by
 unfold codeT at h
 split at h
 ·rename_i h1
  exact (strE_up h1 hk).1
 ·rename_i h1
  exact absurd h h1
def StepOK (s : List UInt8) (st : RS → RS) : Prop := ∀ x : RS, x.2.1 ≤ s.length → x.2.2.1.length ≤ 300 → (st x).2.1 ≤ s.length ∧ ((st x).2.2.2 = 0 → (st x).2.2.1.length ≤ 300 ∧ x.2.1 < (st x).2.1)
theorem one1_ok (s : List UInt8) : StepOK s (one1 s) := fun ⟨b, k, l, n⟩ hk hl => by
 have h1 := (codeT_le s b n hk).2
 refine ⟨(nextT_le h1).2, fun h => ?_⟩
 obtain ⟨h2, h3⟩ := putE_0 _ h
 have h4 := (orE_eq0 (txtE_up h2)).1
 exact ⟨h3, Nat.lt_of_lt_of_le (codeT_up h4 hk) (nextT_ge h1)⟩
theorem listF_ok (s : List UInt8) (te : Nat) : ∀ (f c k : Nat) (l : List Span) (n : Nat), k ≤ s.length → (n = 0 → l.length ≤ 300) → (listF s te f c k l n).1 ≤ s.length ∧ k ≤ (listF s te f c k l n).1 ∧ ((listF s te f c k l n).2.2 = 0 → n = 0 ∧ (listF s te f c k l n).2.1.length ≤ 300)
 | 0, c, k, l, n, hk, hl => ⟨hk, Nat.le_refl _, fun h => ⟨h, hl h⟩⟩
 | f + 1, c, k, l, n, hk, hl => by
  rw [listF]
  by_cases hn : n = 0
  ·rw [if_neg (by simpa using hn)]
   have h1 := nextT_ge hk
   have h2 := (nextT_le hk).2
   split
   ·refine ⟨h2, h1, fun h => ⟨hn, hl hn⟩⟩
   ·obtain ⟨g1, g2, g3⟩ := listF_ok s te f (c + 1) (nextT s k).2.1 (putL l ⟨c, c, txtS (nextT s k).1⟩) (putE l (txtE (nextT s k).1 (orE n (nextT s k).2.2))) h2 (fun h => (putE_0 _ h).2)
    exact ⟨g1, Nat.le_trans h1 g2, fun h => ⟨hn, (g3 h).2⟩⟩
  ·rw [if_pos hn]
   exact ⟨hk, Nat.le_refl _, fun h => absurd h hn⟩
theorem one2_ok (s : List UInt8) : StepOK s (one2 s) := fun ⟨b, k, l, n⟩ hk hl => by
 simp only at hk hl
 simp only [one2]
 have h1 := (codeT_le s b n hk).2
 have u1 := fun h => codeT_up (s := s) (b := b) (k := k) (n := n) h hk
 generalize codeT s b k n = C at *
 obtain ⟨c, k1, n1⟩ := C
 simp only at *
 have h2 := (codeT_le s b n1 h1).2
 have u2 := fun h => codeT_up (s := s) (b := b) (k := k1) (n := n1) h h1
 have v2 := fun h => codeT_err (s := s) (b := b) (k := k1) (n := n1) h h1
 generalize codeT s b k1 n1 = D at *
 obtain ⟨d, k2, n2⟩ := D
 simp only at *
 have h3 := (nextT_le h2).2
 have h4 := nextT_ge h2
 generalize nextT s k2 = T at *
 obtain ⟨w, k3, e2⟩ := T
 simp only at *
 by_cases h91 : w = [91]
 ·rw [if_pos h91]
  obtain ⟨g1, g2, g3⟩ := listF_ok s d (s.length + 1 - k3) c k3 l (orE n2 e2) h3 (fun _ => hl)
  refine ⟨g1, fun h => ⟨(g3 h).2, ?_⟩⟩
  have g4 := (orE_eq0 (g3 h).1).1
  have g5 := u2 g4
  have g6 := u1 (v2 g4)
  simp only
  omega
 ·rw [if_neg h91]
  refine ⟨h3, fun h => ?_⟩
  obtain ⟨g1, g2⟩ := putE_0 _ h
  refine ⟨g2, ?_⟩
  have g4 := (orE_eq0 (txtE_up g1)).1
  have g5 := u2 g4
  have g6 := u1 (v2 g4)
  simp only
  omega
theorem one0_ok (s : List UInt8) : StepOK s (one0 s) := fun ⟨b, k, l, n⟩ hk hl => by
 have h1 := (nextT_le hk).2
 have h2 := (nextT_le h1).2
 have h3 := nextT_ge h1
 simp only at hk hl
 refine ⟨h2, fun h => ⟨hl, ?_⟩⟩
 have g : strE s (nextT s k).2.1 (strE s k n) = 0 := by
  simp only [one0, spaceT] at h
  split at h
  ·cases h
  ·exact h
 have g2 := strE_up g h1
 have g3 := strE_up g2.1 hk
 show k < (nextT s (nextT s k).2.1).2.1
 omega
def partF (s e : List UInt8) (st : RS → RS) : Nat → RS → RS
 | 0, x => x
 | f + 1, x =>
  if x.2.2.2 ≠ 0 then x
  else if (nextT s x.2.1).1 = e then (x.1, (nextT s x.2.1).2.1, x.2.2.1, orE x.2.2.2 (nextT s x.2.1).2.2)
  else partF s e st f (st (x.1, x.2.1, x.2.2.1, if (nextT s x.2.1).1 = [] then orE (orE x.2.2.2 (nextT s x.2.1).2.2) 5 else orE x.2.2.2 (nextT s x.2.1).2.2))
theorem partF_end (s e : List UInt8) (st : RS → RS) (f : Nat) {x : RS} (h : x.2.2.2 ≠ 0) : partF s e st f x = x := by
 cases f with
 | zero => rfl
 | succ f => rw [partF, if_pos h]
theorem partF_fuel (s e : List UInt8) (st : RS → RS) (hst : StepOK s st) : ∀ (f f' : Nat) (x : RS), x.2.1 ≤ s.length → x.2.2.1.length ≤ 300 → s.length + 1 - x.2.1 ≤ f → s.length + 1 - x.2.1 ≤ f' → partF s e st f x = partF s e st f' x
 | 0, _, _, h, _, h1, _ => by omega
 | _, 0, _, h, _, _, h2 => by omega
 | f + 1, f' + 1, x, h, hl, h1, h2 => by
  simp only [partF]
  split
  ·rfl
  ·split
   ·rfl
   ·generalize hy : (x.1, x.2.1, x.2.2.1, if (nextT s x.2.1).1 = [] then orE (orE x.2.2.2 (nextT s x.2.1).2.2) 5 else orE x.2.2.2 (nextT s x.2.1).2.2) = y
    have e1 : y.2.1 = x.2.1 := by rw [← hy]
    have e2 : y.2.2.1 = x.2.2.1 := by rw [← hy]
    obtain ⟨g1, g2⟩ := hst y (by rw [e1]; exact h) (by rw [e2]; exact hl)
    by_cases hn : (st y).2.2.2 = 0
    ·obtain ⟨g3, g4⟩ := g2 hn
     rw [e1] at g4
     exact partF_fuel s e st hst f f' _ g1 g3 (by omega) (by omega)
    ·rw [partF_end _ _ _ _ hn, partF_end _ _ _ _ hn]
def L___cmap_reader__part : LCode :=
 .block 0 (.loop (.seq (.seq (.reg [Qc 8 0, Q 9 (.nck (.t 8)), Q 10 (.fa 4 (.t 9)), Q 11 (.ld false 1 (.t 10)), Q 12 (.eqN 0 false (.t 11))]) (.cond (.t 12) .skip (.exit 0))) 
 (.block 1 (.seq (.reg [Qc 13 0, Q 14 (.nck (.t 13)), Q 15 (.fa 1 (.t 14)), Q 16 (.ld false 1 (.t 15)), Qa 6 16]) (.seq (.reg [Qc 17 0, ⟨some 18, .prim .call [.k (.fn (.func 32) 
 [] []), .t 17] [], none⟩, Qa 7 18]) (.seq (.seq (.reg [Qc 19 7, Qc 20 1, Q 21 (.bin .eql (.t 19) (.t 20))]) (.cond (.t 21) .ret .skip)) (.seq (.seq (.reg [Qc 22 7, Q 23 (.bin 
 .eql (.t 22) (.k (.d (.str []))))]) (.cond (.t 23) (.reg [Qc 24 0, Q 25 (.mkI 65 (Ki 5)), ⟨some 26, .prim .call [.k (.fn (.func 41) [] []), .t 24, .t 25] [], none⟩]) .skip)) 
 (.seq (.reg [Qc 27 0, Qc 28 6, Q 29 (.nck (.t 27)), Q 30 (.fa 1 (.t 29)), ⟨none, .st 1 (.t 30) (.t 28), none⟩]) (.reg [Qc 31 2, ⟨some 32, .prim .call [.t 31] [], none⟩])))))))))
def R___cmap_reader__part : List LRes := []
theorem lift___cmap_reader__part : Lifts Tryd.prog 33 33 L___cmap_reader__part R___cmap_reader__part := ⟨_, _, Tryd.func33, rfl, by kernel_rfl, by kernel_rfl, rfl⟩
theorem cpart (s e : List UInt8) (st : RS → RS) (hst : StepOK s st) (F : FuncId) (first cap : List AV) (hfc : (first = [.ptr (.x 0) 0] ∧ cap = []) ∨ (first = [] ∧ cap = [.ptr (.x 1) 0])) (he : e ≠ [])
  (hF : ∀ (x : RS) (r : Row), x.2.1 ≤ s.length → r.is x.2.2.1 → x.2.2.1.length ≤ 300 → MV Tryd.prog F (first ++ cap) [crd s x.2.1 x.1 r x.2.2.2, box] r.ob (RdB s (st x)))
  (x : RS) (r : Row) (hs : s.length ≤ 60000) (hk : x.2.1 ≤ s.length) (hr : r.is x.2.2.1) (hl : x.2.2.1.length ≤ 300) :
  MV Tryd.prog 33 [.ptr (.x 0) 0, .d (.str e), .fn (.func F) first cap] [crd s x.2.1 x.1 r x.2.2.2, box] r.ob (RdB s (partF s e st (s.length + 1 - x.2.1) x)) := by
 generalize hR : partF s e st (s.length + 1 - x.2.1) x = R
 obtain ⟨S0, hS0⟩ : ∃ S0 : Row × RS → St, ∀ y, S0 y = ⟨[(0, .ptr (.x 0) 0), (1, .d (.str e)), (2, .fn (.func F) first cap)], [], (0, crd s y.2.2.1 y.2.1 y.1 y.2.2.2.2) :: (1, box) :: mob y.1.ob⟩ := ⟨_, fun _ => rfl⟩
 rcases hfc with ⟨rfl, rfl⟩ | ⟨rfl, rfl⟩
 all_goals
  refine lift___cmap_reader__part.mv (by kernel_rfl) rfl rfl ?_
  simp (maxSteps := 2000000) only [go_sem, ↓reduceIte, L___cmap_reader__part, R___cmap_reader__part]
  refine run_loop S0 (fun y => y.2.2.1 ≤ s.length ∧ y.1.is y.2.2.2.1 ∧ (y.2.2.2.2 = 0 → y.2.2.2.1.length ≤ 300) ∧ partF s e st (s.length + 1 - y.2.2.1) y.2 = R) (fun y => if y.2.2.2.2 = 0 then s.length + 2 - y.2.2.1 else 0) (r, x) ?_ ?_ ?_
  ·rw [hS0]
   rcases r with _ | ⟨fs, cc⟩
   all_goals
    refine Weak.mk ?_ ?_ ?_ <;> simp (maxSteps := 2000000) only [go_sem, ↓reduceIte, Sub, Int.natCast_add, Int.natCast_mul]
  ·exact ⟨hk, hr, fun _ => hl, hR⟩
  ·rintro ⟨r, b, k, l, n⟩ ⟨hk, hr, hl, hP⟩
   simp only at hk hr hl hP
   rw [hS0]
   have hnx := cnext s k b r n hs hk
   obtain ⟨hw1, hw2⟩ := nextT_le hk
   have hro := Row.ok r
   have hf5 := cfail s (nextT s k).2.1 b r (orE n (nextT s k).2.2) 5
   have hone := fun n' (h : n = 0) => hF (b, k, l, n') r hk hr (hl h)
   have hr0 := hr
   rcases r with _ | ⟨fs, cc⟩
   all_goals
    rcases Nat.eq_zero_or_pos n with hn | hn
    ·subst hn
     simp (maxSteps := 2000000) only [go_sem, ↓reduceIte, crd, box, show errD 0 = .nil from rfl]
     refine PrimG.mvE ([.x 0]) rfl (hnx) rfl rfl (by repeat' (first | exact trivial | exact rfl | constructor)) rfl rfl rfl rfl (hro) ⟨⟨rfl, rfl⟩, rfl⟩ ?_
     have hP2 := hP
     rw [show s.length + 1 - k = (s.length - k) + 1 by omega, partF, if_neg (by simp)] at hP2
     by_cases hwe : (nextT s k).1 = e
     ·rw [if_pos hwe] at hP2
      simp (maxSteps := 2000000) only [go_sem, ↓reduceIte, crd, hwe]
      subst hP2
      exact ⟨_, hr0, rfl, rfl, rfl⟩
     ·rw [if_neg hwe] at hP2
      simp only at hP2
      generalize hn1 : (if (nextT s k).1 = [] then orE (orE 0 (nextT s k).2.2) 5 else orE 0 (nextT s k).2.2) = n1 at hP2
      have hone := hone n1 rfl
      obtain ⟨g1, g2⟩ := hst (b, k, l, n1) hk (hl rfl)
      simp only [List.append_nil, List.nil_append] at hone g1 g2
      generalize st (b, k, l, n1) = y at *
      obtain ⟨b', k', l', n'⟩ := y
      simp only at g1 g2
      by_cases hw0 : (nextT s k).1 = []
      rw [if_pos hw0] at hn1
      simp (maxSteps := 2000000) only [go_sem, ↓reduceIte, crd, hwe, hw0, Ne.symm he]
      refine PrimG.mvE ([.x 0]) rfl (hf5) rfl rfl (by repeat' (first | exact trivial | exact rfl | constructor)) rfl rfl rfl rfl (hro) ⟨⟨rfl, rfl⟩, rfl⟩ ?_
      simp (maxSteps := 2000000) only [go_sem, ↓reduceIte, crd]
      rotate_left
      rw [if_neg hw0] at hn1
      simp (maxSteps := 2000000) only [go_sem, ↓reduceIte, crd, hwe, hw0]
      all_goals
       rw [hn1]
       refine PrimG.mv ([.x 0, .x 1]) rfl (hone) rfl rfl (by repeat' (first | exact trivial | exact rfl | constructor)) rfl rfl rfl rfl (hro) (fun r hs' m' hr => ?_)
       obtain ⟨r', hr', e1, e2, e3⟩ := hr
       subst e1 e2 e3
       rcases r' with _ | ⟨fs', c'⟩
       all_goals
        refine ⟨⟨⟨rfl, rfl⟩, rfl⟩, ?_⟩
        simp (maxSteps := 2000000) only [go_sem, ↓reduceIte, crd, box]
        refine ⟨(_, b', k', l', n'), ?_, ⟨g1, hr', fun h => (g2 h).1, ?_⟩, ?_⟩
        ·rw [hS0]
         refine Weak.mk ?_ ?_ ?_ <;> simp (maxSteps := 2000000) only [go_sem, ↓reduceIte, Sub, Int.natCast_add, Int.natCast_mul, crd, box]
        ·simp only
         rw [← hP2]
         by_cases hn0 : n' = 0
         ·have := (g2 hn0).2
          refine partF_fuel s e st hst _ _ _ g1 (g2 hn0).1 ?_ ?_ <;> simp only <;> omega
         ·rw [partF_end _ _ _ _ hn0, partF_end _ _ _ _ hn0]
        ·simp only
         split
         ·rename_i h
          have := (g2 h).2
          omega
         ·omega
    ·rw [partF_end _ _ _ _ (Nat.pos_iff_ne_zero.1 hn)] at hP
     subst hP
     simp (maxSteps := 2000000) only [go_sem, ↓reduceIte, crd, box, errD_ne (Nat.pos_iff_ne_zero.1 hn)]
     exact ⟨_, hr0, rfl, by rw [crd_ne _ _ _ _ (Nat.pos_iff_ne_zero.1 hn)]; rfl, rfl⟩
end Go.Av.Tryd
set_option linter.unusedSimpArgs false
namespace Go.Av.Tryd
open Go.Proofs Go.RowKit
open Go.Shelf
set_option maxRecDepth 100000
def lastLays_ren : Go.Shelf.Ren := ⟨fun | 271 => 71 | 120 => 82 | 197 => 83 | 260 => 88 | n => n, fun | 9 => 9 | 21 => 21 | 3 => 3 | 4 => 4 | 5 => 5 | 105 => 113 | 119 => 108 | 0 => 0 | 46 => 112 | 139 => 111 | 138 => 110 | n => n, fun | 3 => 0 | 4 => 1 | n => n⟩
theorem lastLays : Go.Proofs.LaysM.n271 Tryd.prog lastLays_ren where
 mixed := by kernel_rfl
 f120 := Tryd.func82.trans (congrArg some (by kernel_rfl))
 f197 := Tryd.func83.trans (congrArg some (by kernel_rfl))
 f260 := Tryd.func88.trans (congrArg some (by kernel_rfl))
 f271 := Tryd.func71.trans (congrArg some (by kernel_rfl))
 t0 := Tryd.underlying0
 a0 := Tryd.isAgg0
 z0 := Tryd.sizeOf0
 v0 := Tryd.zeroValue0
 t3 := Tryd.underlying3
 a3 := Tryd.isAgg3
 z3 := Tryd.sizeOf3
 v3 := Tryd.zeroValue3
 t4 := Tryd.underlying4
 a4 := Tryd.isAgg4
 z4 := Tryd.sizeOf4
 v4 := Tryd.zeroValue4
 t5 := Tryd.underlying5
 a5 := Tryd.isAgg5
 z5 := Tryd.sizeOf5
 v5 := Tryd.zeroValue5
 t9 := Tryd.underlying9
 a9 := Tryd.isAgg9
 z9 := Tryd.sizeOf9
 v9 := Tryd.zeroValue9
 t21 := Tryd.underlying21
 a21 := Tryd.isAgg21
 z21 := Tryd.sizeOf21
 v21 := Tryd.zeroValue21
 t46 := Tryd.underlying112
 a46 := Tryd.isAgg112
 z46 := Tryd.sizeOf112
 v46 := Tryd.zeroValue112
 t105 := Tryd.underlying113
 a105 := Tryd.isAgg113
 z105 := Tryd.sizeOf113
 v105 := Tryd.zeroValue113
 t119 := Tryd.underlying108
 a119 := Tryd.isAgg108
 z119 := Tryd.sizeOf108
 t138 := Tryd.underlying110
 a138 := Tryd.isAgg110
 z138 := Tryd.sizeOf110
 v138 := Tryd.zeroValue110
 t139 := Tryd.underlying111
 a139 := Tryd.isAgg111
 z139 := Tryd.sizeOf111
 v139 := Tryd.zeroValue111
 g3 := by kernel_rfl
 g4 := by kernel_rfl
 i0 := by kernel_rfl
 i3 := by kernel_rfl
 i4 := by kernel_rfl
 i5 := by kernel_rfl
 i9 := by kernel_rfl
 i21 := by kernel_rfl
 i46 := by kernel_rfl
 i105 := by kernel_rfl
 i138 := by kernel_rfl
 i139 := by kernel_rfl
 m3 := by kernel_rfl
 m4 := by kernel_rfl
theorem u8_tabs {f : Nat → Nat} {w : World} (hI : Inv.inv Tryd.prog f w) : Lib.Utf8Tabs 0 1 w := hI.2.2.1 _ _ (by kernel_rfl) (by kernel_rfl)
theorem below_fr {f : Nat → Nat} {w w' : World} (h : Below w.heap.size w w') (ht : ∀ b, w.heap.size ≤ b → f b = 0) : Fr f w f w' :=
 ⟨h.size, fun b hb => ⟨h.block b hb, rfl⟩, fun b hb => ht b (Nat.le_trans h.size hb), h.os, h.tape, h.output⟩
theorem strArg {f : Nat → Nat} {w : World} {vs : Array Value} {s : List UInt8} (hsz : vs.size = 1) (h : RD f w (.str s) (vs.getD 0 undef)) : vs = #[.string ⟨s.toArray⟩] := by
 match vs, hsz with
 | ⟨[v]⟩, _ => cases h; rfl
theorem decodeLast_call (s : List UInt8) (hs : s.length ≤ 1000000000) : PCall Tryd.prog 71 [.str s] (fun r => r = .tup [.int .i32 (Lib.decodeLastL s).1, .int .i64 (Lib.decodeLastL s).2]) := by
 intro f w vs hI ht hsz hrd
 obtain rfl := strArg hsz (hrd 0 _ rfl)
 refine (Any.utf8_DecodeLastRuneInString lastLays.ton271 ⟨s.toArray⟩ w (by show s.toArray.size ≤ _; simp; omega) (u8_tabs hI)).mono fun e w' ⟨he, hw⟩ => ?_
 refine ⟨_, _, f, rfl, he, ⟨_, rfl, rfl, fun i y hi => ?_⟩, below_fr hw ht⟩
 match i, hi with
 | 0, hi => cases hi; exact .int _ _
 | 1, hi => cases hi; exact .int _ _
 | (i + 2), hi => simp at hi
end Go.Av.Tryd
set_option linter.unusedSimpArgs false
set_option maxRecDepth 100000
namespace Go.Av.Tryd
open Go.Proofs
def L_cmap_behind : LCode :=
 .seq (.reg [Qx 4 (.k (.d (.str []))), Qx 5 KF]) (.seq (.reg [Qc 10 0, ⟨some 11, .call 71 [.t 10], none⟩, Qc 9 11, Q 12 (.ext 0 (.t 9)), Q 13 (.ext 1 (.t 9)), Qa 6 12, Qa 7 13]) 
 (.seq (.reg [Qc 14 6, Q 15 (.cvI .i64 (.t 14)), Qc 16 1, Q 17 (.bin .add (.t 15) (.t 16)), Qa 8 17]) (.seq (.seq (.reg [Qc 18 8, Q 19 (.bin .gtr (.t 18) (Ki 1114111)), Qc 20 19, 
 Qd 21 8 20 false, Qg 22 (.bin .geq (.t 21) (Ki 55296)) 20 false, Qd 23 22 20 false, Qd 24 8 23 true, Qg 25 (.bin .lss (.t 24) (Ki 57344)) 23 true, Qg 26 (.pick (.t 23) (.t 25) 
 KF) 20 false, Q 27 (.pick (.t 20) KT (.t 26))]) (.cond (.t 27) (.seq (.reg [Qx 4 (.k (.d (.str []))), Qx 5 KF]) .ret) .skip)) (.seq (.seq (.reg [Qc 28 6, Q 29 (.cvI .i64 (.t 
 28)), Q 30 (.bin .lss (.t 29) (Ki 55296)), Qc 31 30, Qd 32 8 31 true, Qg 33 (.bin .geq (.t 32) (Ki 57344)) 31 true, Q 34 (.pick (.t 31) (.t 33) KF)]) (.cond (.t 34) (.seq (.reg 
 [Qx 4 (.k (.d (.str []))), Qx 5 KF]) .ret) .skip)) (.seq (.reg [Qc 35 0, Qc 36 0, Q 37 (.len true (.t 36)), Qc 38 7, Q 39 (.bin .sub (.t 37) (.t 38)), Q 40 (.subS (.t 35) none 
 (some (.t 39))), Qc 41 8, Q 42 (.cvI .i32 (.t 41)), Q 43 (.i2s (.t 42)), Q 44 (.bin .add (.t 40) (.t 43)), Qa 4 44, Qx 5 KT]) .ret)))))
def R_cmap_behind : List LRes := [.tmp 4, .tmp 5]
theorem lift_cmap_behind : Lifts Tryd.prog 53 45 L_cmap_behind R_cmap_behind := ⟨_, _, Tryd.func53, rfl, by kernel_rfl, by kernel_rfl, rfl⟩
theorem behind_call (s : List UInt8) (m : Int) {rs : List Nat} (hrs : runesM s = some rs) (h0 : rs ≠ []) (hs : s.length ≤ 1000000) (h1 : 0 ≤ m) (h2 : m ≤ 1000000) : PCall Tryd.prog 53 [.str s, .int .i64 m] (fun r => r = onRes (onM s m.toNat)) := by
 obtain ⟨n, rfl⟩ := Int.eq_ofNat_of_zero_le h1
 obtain ⟨e1, e2⟩ := runesM_enc s.length (Nat.le_refl _) hrs
 have hlast := last_get h0
 have hlv := e2 _ (List.mem_of_getElem? hlast)
 have hlv' := hlv
 unfold vrune at hlv'
 have hsplit : s = encM rs.dropLast ++ enc (rs.getLastD 0) := by
  rw [← e1]
  obtain ⟨a, b, rfl⟩ : ∃ a b, rs = a ++ [b] := ⟨rs.dropLast, rs.getLast h0, (List.dropLast_concat_getLast h0).symm⟩
  rw [encM_append, List.dropLast_concat]; simp [encM]
 have hdec : Lib.decodeLastL s = (rs.getLastD 0, (enc (rs.getLastD 0)).length) := by rw [hsplit]; exact last_enc hlv _
 have hel := enc_len hlv
 have hlen : s.length = (encM rs.dropLast).length + (enc (rs.getLastD 0)).length := by conv => lhs; rw [hsplit, List.length_append]
 have htake : s.take (encM rs.dropLast).length = encM rs.dropLast := by
  conv => lhs; rw [hsplit]
  simp
 refine lift_cmap_behind.call rfl ?_
 simp (maxSteps := 2000000) only [go_sem, ↓reduceIte, L_cmap_behind, R_cmap_behind]
 refine CallG.of (decodeLast_call s (by omega)) ?_
 rw [hdec]
 unfold onM
 simp only [hrs, if_neg h0, Int.toNat_natCast]
 have hfin : encM rs.dropLast ++ enc (rs.getLastD 0 + n) = encM (rs.dropLast ++ [rs.getLastD 0 + n]) := by rw [encM_append]; simp [encM]
 have henc : vrune (rs.getLastD 0 + n) → (Utf8.encode ((rs.getLastD 0 : Int) + n)).data.toList = enc (rs.getLastD 0 + n) := fun h => by rw [← Int.natCast_add]; exact encode_enc h
 generalize rs.getLastD 0 = k at *
 generalize encM rs.dropLast = pre at *
 by_cases hb : 1114111 < k + n ∨ (55295 < k + n ∧ k + n < 57344) ∨ (k ≤ 55295 ∧ 57344 ≤ k + n)
 ·rw [if_pos hb]
  by_cases hA : 1114111 < k + n
  ·have zA : (1114111 < (k : Int) + n) = True := eq_true (by omega)
   simp (maxSteps := 2000000) (disch := omega) only [go_sem, ↓reduceIte, zA]
   simp [onRes]
  ·by_cases hB : 55295 < k + n ∧ k + n < 57344
   ·have zA : (1114111 < (k : Int) + n) = False := eq_false (by omega)
    have zB : (55296 ≤ (k : Int) + n) = True := eq_true (by omega)
    have zC : ((k : Int) + n < 57344) = True := eq_true (by omega)
    simp (maxSteps := 2000000) (disch := omega) only [go_sem, ↓reduceIte, zA, zB, zC]
    simp [onRes]
   ·have zA : (1114111 < (k : Int) + n) = False := eq_false (by omega)
    have zB : (55296 ≤ (k : Int) + n) = True := eq_true (by omega)
    have zC : ((k : Int) + n < 57344) = False := eq_false (by omega)
    have zD : ((k : Int) < 55296) = True := eq_true (by omega)
    have zE : (57344 ≤ (k : Int) + n) = True := eq_true (by omega)
    simp (maxSteps := 2000000) (disch := omega) only [go_sem, ↓reduceIte, zA, zB, zC, zD, zE]
    simp [onRes]
 ·rw [if_neg hb]
  have zA : (1114111 < (k : Int) + n) = False := eq_false (by omega)
  have hv := henc (by unfold vrune; omega)
  have hw32 : IntKind.i32.wrap ((k : Int) + n) = (k : Int) + n := by rw [IntWalk.i32_in _ (by omega)]
  have hcut : cutI s 0 ((s.length : Int) - (enc k).length) = pre := by
   unfold cutI
   rw [show ((s.length : Int) - (enc k).length).toNat = pre.length by omega, htake]; rfl
  have hfl := enc_len (r := k + n) (by unfold vrune; omega)
  by_cases hB : 55295 < k + n
  ·have zB : (55296 ≤ (k : Int) + n) = True := eq_true (by omega)
   have zC : ((k : Int) + n < 57344) = False := eq_false (by omega)
   have zE : (57344 ≤ (k : Int) + n) = True := eq_true (by omega)
   have zD : ((k : Int) < 55296) = False := eq_false (by omega)
   simp (maxSteps := 2000000) (disch := omega) only [go_sem, ↓reduceIte, zA, zB, zC, zE, zD, hw32, hv, hcut, hfin]
   refine ⟨by omega, by omega, ?_⟩
   simp [onRes]
  ·have zB : (55296 ≤ (k : Int) + n) = False := eq_false (by omega)
   have zE : (57344 ≤ (k : Int) + n) = False := eq_false (by omega)
   have zD : ((k : Int) < 55296) = True := eq_true (by omega)
   simp (maxSteps := 2000000) (disch := omega) only [go_sem, ↓reduceIte, zA, zB, zE, zD, hw32, hv, hcut, hfin]
   refine ⟨by omega, by omega, ?_⟩
   simp [onRes]
def L_cmap_Text : LCode :=
 .seq (.reg [Qx 4 (.k (.d (.str []))), Qx 5 KF]) (.seq (.seq (.reg [Qc 8 0, Q 9 (.len false (.t 8)), Q 10 (.cp (Ki 0))]) (.block 0 (.loop (.seq (.reg [Q 11 (.bin .lss (.t 10) (.t 
 9))]) (.seq (.cond (.t 11) .skip (.exit 0)) (.seq (.block 1 (.seq (.reg [Q 12 (.ia 3 (.t 8) (.t 10)), Q 13 (.ld true 3 (.t 12)), ⟨some 7, .allo [.int .i64 0, .int .i64 0, .str 
 []], none⟩, ⟨none, .st 3 (.t 7) (.t 13), none⟩]) (.seq (.reg [Qc 14 1, Q 15 (.fa 0 (.t 7)), Q 16 (.ld false 1 (.t 15)), Q 17 (.bin .geq (.t 14) (.t 16)), Qc 18 17, Qd 19 1 18 
 true, Qg 20 (.fa 1 (.t 7)) 18 true, Qg 21 (.ld false 1 (.t 20)) 18 true, Qg 22 (.bin .leq (.t 19) (.t 21)) 18 true, Q 23 (.pick (.t 18) (.t 22) KF)]) (.cond (.t 23) (.seq (.reg 
 [Q 24 (.fa 2 (.t 7)), Q 25 (.ld false 1 (.t 24)), Qc 26 1, Q 27 (.fa 0 (.t 7)), Q 28 (.ld false 1 (.t 27)), Q 29 (.bin .sub (.t 26) (.t 28)), ⟨some 30, .call 53 [.t 25, .t 29], 
 none⟩, Q 31 (.ext 0 (.t 30)), Q 32 (.ext 1 (.t 30)), Qa 4 31, Qa 5 32]) .ret) .skip)))) (.reg [Q 33 (.bin .add (.t 10) (Ki 1)), Qc 10 33]))))))) (.seq (.reg [Qx 4 (.k (.d (.str 
 []))), Qx 5 KF]) .ret))
def R_cmap_Text : List LRes := [.tmp 4, .tmp 5]
theorem lift_cmap_Text : Lifts Tryd.prog 24 34 L_cmap_Text R_cmap_Text := ⟨_, _, Tryd.func24, rfl, by kernel_rfl, by kernel_rfl, rfl⟩
def spanOK (x : Span) : Prop := x.wf ∧ x.to - x.fr ≤ 1000000 ∧ ∃ rs, runesM x.tx = some rs ∧ rs ≠ []
theorem text_call (l : List Span) (c : Int) (hw : ∀ x ∈ l, spanOK x) (hc : -9223372036854775808 ≤ c ∧ c ≤ 9223372036854775807) (hl : l.length ≤ 1000000) : PCall Tryd.prog 24 [.list (spansD l), .int .i64 c] (fun r => r = onRes (codeM l c)) := by
 have hI : ((spansD l).length : Int) = (l.length : Int) := by rw [spansD_length]
 refine lift_cmap_Text.call rfl ?_
 generalize hR : codeM l c = R
 simp (maxSteps := 2000000) only [go_sem, ↓reduceIte, L_cmap_Text, R_cmap_Text, hI]
 refine run_loop (fun i : Nat => ⟨[(0, .d (.list (spansD l))), (1, .d (.int .i64 c)), (8, .d (.list (spansD l))), (9, .d (.int .i64 l.length)), (10, .d (.int .i64 i))], [], []⟩)
  (fun i => i ≤ l.length ∧ codeM (l.drop i) c = R) (fun i => l.length - i) 0 ?_ ?_ ?_
 ·refine weak_mk ?_ trivial
  simp (maxSteps := 2000000) only [go_sem, ↓reduceIte, Sub, Int.natCast_add, Int.natCast_mul]
 ·exact ⟨Nat.zero_le _, hR⟩
 ·rintro i ⟨hi, hF⟩
  simp (maxSteps := 2000000) only [go_sem, ↓reduceIte, hI]
  refine ⟨fun hlt => ?_, fun hge => ?_⟩
  ·obtain ⟨x, hx⟩ := get_some (l := l) (i := i) (by omega)
   obtain ⟨⟨w1, w2, w3, w4, w5⟩, w6, rs, w7, w8⟩ := hw x (List.mem_of_getElem? hx)
   rw [drop_at hx, codeM] at hF
   by_cases hA : x.fr ≤ c ∧ c ≤ x.to
   ·rw [if_pos hA] at hF
    have z1 := eq_true hA.1
    have z2 := eq_true hA.2
    simp (maxSteps := 2000000) (disch := omega) only [go_sem, ↓reduceIte, hI, getI_nat, spansD_get, hx, Span.d, z1, z2]
    refine CallG.of (behind_call x.tx (c - x.fr) w7 w8 (by omega) (by omega) (by omega)) ?_
    rw [hF]
    cases R <;> (simp only [onRes]; simp (maxSteps := 2000000) (disch := omega) only [go_sem, ↓reduceIte])
   ·rw [if_neg hA] at hF
    by_cases hA1 : x.fr ≤ c
    ·have z1 := eq_true hA1
     have z2 : (c ≤ x.to) = False := eq_false (by omega)
     simp (maxSteps := 2000000) (disch := omega) only [go_sem, ↓reduceIte, hI, getI_nat, spansD_get, hx, Span.d, z1, z2]
     refine ⟨i + 1, ?_, ⟨by omega, hF⟩, by omega⟩
     refine weak_mk ?_ trivial
     simp (maxSteps := 2000000) only [go_sem, ↓reduceIte, Sub, Int.natCast_add, Int.natCast_mul]
    ·have z1 := eq_false hA1
     simp (maxSteps := 2000000) (disch := omega) only [go_sem, ↓reduceIte, hI, getI_nat, spansD_get, hx, Span.d, z1]
     refine ⟨i + 1, ?_, ⟨by omega, hF⟩, by omega⟩
     refine weak_mk ?_ trivial
     simp (maxSteps := 2000000) only [go_sem, ↓reduceIte, Sub, Int.natCast_add, Int.natCast_mul]
  ·have : l.drop i = [] := List.drop_eq_nil_of_le (by omega)
   rw [this] at hF
   simp only [codeM] at hF
   subst hF
   rfl
end Go.Av.Tryd
