import Derived.Test.YtkkdhgibaimboaaDoorEBld
import Derived.Shelf.Strings.Builder1
/- strings.Builder's String. -/
set_option linter.unusedSimpArgs false
namespace Go.Av.Tryd
open Go.Proofs
section
open Go.Shelf Go.RowKit
set_option maxHeartbeats 2000000
set_option maxRecDepth 100000
theorem bstr_row (b g cap : Nat) (p : Value) (cur : Array Value) (el : TypeId) (l : List UInt8) (w : World) (hbk : w.heap[b]? = some (.cells #[p, .slice (some ⟨g, 0, none⟩) l.length cap] el (0, 0))) (h0 : l ≠ [])
    (hg : w.heap[g]? = some (.cells cur 5 (0, 0))) (hnc : l.length ≤ cap) (hcm : cap ≤ maxLen) (hcs : cur.size = cap) (hcell : ∀ (j : Nat) (x : UInt8), l[j]? = some x → w.cell? ((⟨g, 0, none⟩ : Addr).add j) = some (.int .u8 x.toNat)) :
    Calls Tryd.prog 100 #[.pointer (some ⟨b, 0, none⟩)] w fun e w' => e = .returned (.string ⟨l.toArray⟩) ∧ w' = w.drew.freeze ⟨g, 0, none⟩ l.length := by
  have hl0 : l.length ≠ 0 := by simpa using h0
  have c1 : w.drew.cell? ⟨b, 1, none⟩ = some (.slice (some ⟨g, 0, none⟩) l.length cap) := by
    have : w.drew.heap[b]? = some (.cells #[p, .slice (some ⟨g, 0, none⟩) l.length cap] el (0, 0)) := hbk
    rw [Lib.cell_of_heap this]; rfl
  have hSD : (Builtin.unsafeSliceData_ #[117] 181 #[.slice (some ⟨g, 0, none⟩) l.length cap]).run Tryd.prog w.drew = .ok (.pointer (some ⟨g, 0, none⟩)) w.drew :=
    Lib.run_unsafeSliceData_row _ _ _ _ _ _ (by omega)
  have hUS : (Builtin.unsafeString_ #[181, 3] 9 #[.pointer (some ⟨g, 0, none⟩), .int .i64 l.length]).run Tryd.prog w.drew = .ok (.string ⟨l.toArray⟩) (w.drew.freeze ⟨g, 0, none⟩ l.length) := by
    refine Lib.run_unsafeString_row w.drew 181 3 9 5 Tryd.underlying181 (by kernel_rfl) g cur.size (by have hg' : w.drew.heap[g]? = some (.cells cur 5 (0, 0)) := hg; simp [World.shape?, hg']) l h0 (by omega) (by unfold maxLen at hcm; omega) ?_
    intro j x hx
    exact hcell j x hx
  go_enter Tryd.func100, Tryd.ntmps100
  go_wp2
  go_region
  all_goals (go_wp2; go_ret; exact ⟨rfl, rfl⟩)

theorem bstr_nil (b : Nat) (p : Value) (el : TypeId) (w : World) (hbk : w.heap[b]? = some (.cells #[p, .slice none 0 0] el (0, 0))) :
    Calls Tryd.prog 100 #[.pointer (some ⟨b, 0, none⟩)] w fun e w' => e = .returned (.string ⟨#[]⟩) ∧ w' = w.drew := by
  have hUS : ∀ (W : World) (q : Option Addr), (Builtin.unsafeString_ #[181, 3] 9 #[.pointer q, .int .i64 0]).run Tryd.prog W = .ok (.string .empty) W := fun W q => Lib.run_unsafeString_none W _ _ _ q
  have c1 : w.drew.cell? ⟨b, 1, none⟩ = some (.slice none 0 0) := by
    have : w.drew.heap[b]? = some (.cells #[p, .slice none 0 0] el (0, 0)) := hbk
    rw [Lib.cell_of_heap this]; rfl
  have hSD : (Builtin.unsafeSliceData_ #[117] 181 #[.slice none 0 0]).run Tryd.prog w.drew = .ok (.pointer none) w.drew := rfl
  go_enter Tryd.func100, Tryd.ntmps100
  go_wp2
  go_region
  all_goals (go_wp2; go_ret; exact ⟨rfl, rfl⟩)

theorem bstr_room (b g cap : Nat) (p : Value) (el : TypeId) (w : World) (hc0 : cap ≠ 0) (hbk : w.heap[b]? = some (.cells #[p, .slice (some ⟨g, 0, none⟩) 0 cap] el (0, 0))) :
    Calls Tryd.prog 100 #[.pointer (some ⟨b, 0, none⟩)] w fun e w' => e = .returned (.string ⟨#[]⟩) ∧ w' = w.drew := by
  have hUS : ∀ (W : World) (q : Option Addr), (Builtin.unsafeString_ #[181, 3] 9 #[.pointer q, .int .i64 0]).run Tryd.prog W = .ok (.string .empty) W := fun W q => Lib.run_unsafeString_none W _ _ _ q
  have c1 : w.drew.cell? ⟨b, 1, none⟩ = some (.slice (some ⟨g, 0, none⟩) 0 cap) := by
    have : w.drew.heap[b]? = some (.cells #[p, .slice (some ⟨g, 0, none⟩) 0 cap] el (0, 0)) := hbk
    rw [Lib.cell_of_heap this]; rfl
  have hSD : (Builtin.unsafeSliceData_ #[117] 181 #[.slice (some ⟨g, 0, none⟩) 0 cap]).run Tryd.prog w.drew = .ok (.pointer (some ⟨g, 0, none⟩)) w.drew :=
    Lib.run_unsafeSliceData_row _ _ _ _ _ _ hc0
  clear hc0
  go_enter Tryd.func100, Tryd.ntmps100
  go_wp2
  go_region
  all_goals (go_wp2; go_ret; exact ⟨rfl, rfl⟩)

theorem bstr_noroom (b g : Nat) (p : Value) (el : TypeId) (cur : Array Value) (w : World) (hbk : w.heap[b]? = some (.cells #[p, .slice (some ⟨g, 0, none⟩) 0 0] el (0, 0))) (hg : w.heap[g]? = some (.cells cur 5 (0, 0))) :
    Calls Tryd.prog 100 #[.pointer (some ⟨b, 0, none⟩)] w fun e w' => e = .returned (.string ⟨#[]⟩) ∧ w' = w.drew.alloc (.view ⟨g, 0, none⟩ 5) := by
  have hUS : ∀ (W : World) (q : Option Addr), (Builtin.unsafeString_ #[181, 3] 9 #[.pointer q, .int .i64 0]).run Tryd.prog W = .ok (.string .empty) W := fun W q => Lib.run_unsafeString_none W _ _ _ q
  have hlt : b < w.heap.size := by
    rcases Nat.lt_or_ge b w.heap.size with h' | h'
    · exact h'
    · simp [Array.getElem?_eq_none h'] at hbk
  have c1 : w.drew.cell? ⟨b, 1, none⟩ = some (.slice (some ⟨g, 0, none⟩) 0 0) := by
    have : w.drew.heap[b]? = some (.cells #[p, .slice (some ⟨g, 0, none⟩) 0 0] el (0, 0)) := hbk
    rw [Lib.cell_of_heap this]; rfl
  have hSD : (Builtin.unsafeSliceData_ #[117] 181 #[.slice (some ⟨g, 0, none⟩) 0 0]).run Tryd.prog w.drew = .ok (.pointer (some ⟨w.drew.heap.size, 0, none⟩)) (w.drew.alloc (.view ⟨g, 0, none⟩ 5)) :=
    Lib.run_unsafeSliceData_zero w.drew _ _ 5 Tryd.underlying181 ⟨g, 0, none⟩ 0 (5, cur.size) (by have hg' : w.drew.heap[g]? = some (.cells cur 5 (0, 0)) := hg; simp [World.shape?, hg'])
  have c2 : (w.drew.alloc (.view ⟨g, 0, none⟩ 5)).cell? ⟨b, 1, none⟩ = some (.slice (some ⟨g, 0, none⟩) 0 0) := by
    have : (w.drew.alloc (.view ⟨g, 0, none⟩ 5)).heap[b]? = _ := (Lib.alloc_old w.drew _ b hlt).trans hbk
    rw [Lib.cell_of_heap this]; rfl
  have c3 : (w.alloc (.view ⟨g, 0, none⟩ 5)).drew.cell? ⟨b, 1, none⟩ = some (.slice (some ⟨g, 0, none⟩) 0 0) := c2
  have c0 : w.cell? ⟨b, 1, none⟩ = some (.slice (some ⟨g, 0, none⟩) 0 0) := c1
  go_enter Tryd.func100, Tryd.ntmps100
  go_wp2
  go_region
  all_goals (go_wp2; go_ret; exact ⟨rfl, rfl⟩)
end

theorem heap_freeze_ne (w : World) (g n b : Nat) (h : b ≠ g) : (w.freeze ⟨g, 0, none⟩ n).heap[b]? = w.heap[b]? := by
  unfold World.freeze
  split
  · rfl
  · simp only [Array.getElem?_modify]
    rw [if_neg (fun e => h e.symm)]

theorem heap_freeze_at (w : World) (g n : Nat) {cur : Array Value} {e : TypeId} {fz : Nat × Nat} (h : w.heap[g]? = some (.cells cur e fz)) : ∃ fz', (w.freeze ⟨g, 0, none⟩ n).heap[g]? = some (.cells cur e fz') := by
  unfold World.freeze
  split
  · exact ⟨fz, h⟩
  · obtain ⟨lo, hi⟩ := fz
    simp only [Array.getElem?_modify, if_true, h, Option.map_some]
    exact ⟨_, rfl⟩

theorem freeze_size (w : World) (g n : Nat) : (w.freeze ⟨g, 0, none⟩ n).heap.size = w.heap.size := by
  unfold World.freeze
  split
  · rfl
  · simp

theorem freeze_rest (w : World) (g n : Nat) : (w.freeze ⟨g, 0, none⟩ n).os = w.os ∧ (w.freeze ⟨g, 0, none⟩ n).tape = w.tape ∧ (w.freeze ⟨g, 0, none⟩ n).output = w.output := by
  unfold World.freeze
  split <;> exact ⟨rfl, rfl, rfl⟩

theorem Ext.freeze {f : Nat → Nat} {w : World} {g n : Nat} {cur : Array Value} {e : TypeId} {fz : Nat × Nat} (h : w.heap[g]? = some (.cells cur e fz)) : Ext f w f (w.freeze ⟨g, 0, none⟩ n) := by
  refine ⟨by rw [freeze_size]; exact Nat.le_refl _, fun _ => Nat.le_refl _, fun b i _ => ?_⟩
  by_cases hb : b = g
  · subst hb
    obtain ⟨fz', h'⟩ := heap_freeze_at w b n h
    simp [World.cell?, at_, h, h']
  · simp only [World.cell?, at_]
    rw [heap_freeze_ne w g n b hb]

/-- The end of a walk by hand: what is told of one object. -/
theorem one_final {E : Entry} {n : Nat} {G : Ghost} {σ : St} {ts : Array Value} {w : World} (h : SR E n G σ ts w) {x : D} {v : Value} (hr : RD G.f w x v) {o : AObj} (ho : σ.obj (.x 0) = some o) :
    ∃ G', SR E 1 G' ⟨[(0, .d x)], [], numO 0 [o]⟩ #[v] w :=
  ⟨_, h.final (q0 := none) (r := .d x) (v := v) (.d _ _ hr) (fun q hq => by simp [AV.lab?] at hq) (fun _ _ e => by cases e) (hs' := [o]) (fun i o' hi => by
    cases i with
    | zero => simp at hi; subst hi; exact ho
    | succ i => simp at hi)⟩

/-- What String leaves. -/
def Bld.said : Bld → AObj
  | .has s => .cells [.ptr (.x 0) 0, .d (.list (bytesD s))]
  | b => b.obj

theorem string_call (b : Bld) (hl : b.bytes.length ≤ 1000000000) : MCallE Tryd.prog 100 [.ptr (.x 0) 0] [b.obj] (.d (.str b.bytes)) [b.said] := by
  refine ⟨by kernel_rfl, fun G w vs hI hown hsr => ?_⟩
  have hv : vs = #[.pointer (some (at_ (G.b (.x 0)) 0))] := by
    have h1 := hsr.slot 0 (.ptr (.x 0) 0) rfl
    have h2 := hsr.size
    match vs, h2 with
    | ⟨[v]⟩, _ =>
      have h1 : AVR G w (.ptr (.x 0) 0) v := h1
      cases h1; rfl
  subst hv
  have hob : St.obj ⟨initA 0 [.ptr (.x 0) 0], [], numO 0 [b.obj]⟩ (.x 0) = some b.obj := rfl
  obtain ⟨a0, c1, hbo, hc1⟩ : ∃ a0 c1, b.obj = .cells [a0, c1] ∧ ((c1 = .ns ∧ b.bytes = [] ∧ b.said = b.obj) ∨ ∃ s, b = .has s ∧ c1 = .own (.c (.x 0) 1) 5 1 (bytesD s)) := by
    cases b with
    | new => exact ⟨_, _, rfl, .inl ⟨rfl, rfl, rfl⟩⟩
    | nul => exact ⟨_, _, rfl, .inl ⟨rfl, rfl, rfl⟩⟩
    | has s => exact ⟨_, _, rfl, .inr ⟨s, rfl, rfl⟩⟩
  have ho := hsr.obj _ _ hob
  rw [hbo] at ho
  obtain ⟨arr, el, g1, g2, g3⟩ := ho
  obtain ⟨p, v, rfl⟩ : ∃ p v, arr = #[p, v] := by
    match arr, g2 with
    | ⟨[p, v]⟩, _ => exact ⟨p, v, rfl⟩
  have hcell := (g3 1 c1 rfl).1
  have hcell : AVR G w c1 v := hcell
  rcases hc1 with ⟨rfl, hb0, hsd⟩ | ⟨s, rfl, rfl⟩
  · cases hcell
    refine (bstr_nil _ p el w g1).mono fun e w' ⟨e1, e2⟩ => ?_
    subst e2
    obtain ⟨G', h5⟩ := one_final (hsr.drew) (x := .str b.bytes) (v := .string ⟨#[]⟩) (by rw [hb0]; exact .str []) hob
    exact ⟨_, _, G', _, ⟨rfl, rfl⟩, e1, rfl, by rw [hsd]; exact h5⟩
  · cases hcell with
    | own _ _ _ _ _ hq hrd hsz =>
      have h1 := hsr.erase (.c (.x 0) 1)
      have hob1 : (St.erase ⟨initA 0 [.ptr (.x 0) 0], [], numO 0 [Bld.obj (.has s)]⟩ (.c (.x 0) 1)).obj (.x 0) = some (.cells [.ptr (.x 0) 0, .d (.list (bytesD s))]) := by
        rw [St.obj_erase, hob]
        simp [Bld.obj, eraseObj, amod, AV.erase]
      obtain ⟨k, xs, hown', hfb⟩ := hsr.lam _ _ _ _ hq
      have hk : k = s.length := by have := own_len hrd hown'; rwa [bytesD_length] at this
      subst hk
      rcases hown'.2 with ⟨rfl, h0⟩ | ⟨g, cap, cur, rfl, _, hg, hnc, hcm, hcs, htk⟩
      · have hs0 : s = [] := by simpa using h0
        subst hs0
        refine (bstr_nil _ p el w g1).mono fun e w' ⟨e1, e2⟩ => ?_
        subst e2
        obtain ⟨G', h5⟩ := one_final (h1.drew) (x := .str []) (v := .string ⟨#[]⟩) (.str []) hob1
        exact ⟨_, _, G', _, ⟨rfl, rfl⟩, e1, rfl, h5⟩
      · by_cases hs0 : s = []
        · subst hs0
          by_cases hc0 : cap = 0
          · subst hc0
            refine (bstr_noroom _ g p el cur w g1 hg).mono fun e w' ⟨e1, e2⟩ => ?_
            subst e2
            obtain ⟨G', h5⟩ := one_final ((h1.drew).alloc (.view ⟨g, 0, none⟩ 5) 0) (x := .str []) (v := .string ⟨#[]⟩) (.str []) hob1
            exact ⟨_, _, G', _, ⟨rfl, rfl⟩, e1, rfl, h5⟩
          · refine (bstr_room _ g cap p el w hc0 g1).mono fun e w' ⟨e1, e2⟩ => ?_
            subst e2
            obtain ⟨G', h5⟩ := one_final (h1.drew) (x := .str []) (v := .string ⟨#[]⟩) (.str []) hob1
            exact ⟨_, _, G', _, ⟨rfl, rfl⟩, e1, rfl, h5⟩
        · refine (bstr_row _ g cap p cur el s w g1 hs0 hg hnc hcm (by simpa using hcs) (fun j x hx => ?_)).mono fun e w' ⟨e1, e2⟩ => ?_
          · have hlt : j < s.length := (List.getElem?_eq_some_iff.1 hx).1
            have hadd : (⟨g, 0, none⟩ : Addr).add j = at_ g j := add_zero_at g j
            rw [hadd]
            generalize hL : bytesD s = L at hrd
            have hLl : L.length = s.length := by rw [← hL, bytesD_length]
            have hLj : L[j]? = some (.int .u8 x.toNat) := by rw [← hL]; simp [bytesD, hx]
            generalize hvv : Value.slice (some ⟨g, 0, none⟩) s.length cap = vv at hrd
            cases hrd with
            | nils => cases hvv
            | emp a c => simp at hLj
            | list l b o cap' sz vs hcap hsz' hb' hc' hr' =>
              simp only [Value.slice.injEq, Option.some.injEq] at hvv
              obtain ⟨e0, _, _⟩ := hvv
              simp only [at_, Addr.mk.injEq] at e0
              obtain ⟨rfl, rfl, _⟩ := e0
              have hm := List.mem_of_getElem? hLj
              have hsz1 : sz = 1 := by have := (hsz' _ hm).1; simpa [D.cells] using this.symm
              subst hsz1
              have q1 := hc' j (by omega)
              have q2 := hr' j _ 0 _ hLj rfl
              rw [Nat.zero_add] at q1
              rw [q1]
              have e3 : j * 1 + 0 = j := by omega
              rw [e3] at q2
              cases hvs : vs j <;> rw [hvs] at q2 <;> cases q2
              rfl
          · subst e2
            have hX := h1.drew.world' (w' := w.drew.freeze ⟨g, 0, none⟩ s.length) (f' := G.f) (fun b => b = g) (fun b hb => by
              subst hb
              refine ⟨fun r o hr e => ?_, fun q v' p' hq' hvb => ?_, ?_⟩
              · have hr' : ∃ o', St.obj ⟨initA 0 [.ptr (.x 0) 0], [], numO 0 [Bld.obj (.has s)]⟩ r = some o' := by
                  rw [St.obj_erase] at hr
                  cases h0 : St.obj ⟨initA 0 [.ptr (.x 0) 0], [], numO 0 [Bld.obj (.has s)]⟩ r with
                  | none => simp [h0] at hr
                  | some o' => exact ⟨o', rfl⟩
                obtain ⟨o', hr'⟩ := hr'
                exact hsr.lamObj _ _ _ _ _ hq rfl r o' hr' e
              · simp only [updf] at hq'
                split at hq'
                · cases hq'
                · rename_i hne
                  exact hne (hsr.lamInj _ _ _ _ _ _ _ hq' hq hvb rfl)
              · exact hsr.newLam _ _ _ _ _ hq rfl) (Ext.freeze (w := w.drew) hg) (fun b hb hne => ⟨heap_freeze_ne _ _ _ _ hne, rfl⟩) (fun b hb => h1.drew.top b (by rw [freeze_size] at hb; exact hb)) (freeze_rest _ _ _).1 (freeze_rest _ _ _).2.1 (freeze_rest _ _ _).2.2
            obtain ⟨G', h5⟩ := one_final hX (x := .str s) (v := .string ⟨s.toArray⟩) (.str s) hob1
            exact ⟨_, _, G', _, ⟨rfl, rfl⟩, e1, rfl, h5⟩
end Go.Av.Tryd
