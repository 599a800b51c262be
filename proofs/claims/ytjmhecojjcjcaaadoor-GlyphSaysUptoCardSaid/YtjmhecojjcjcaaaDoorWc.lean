import Derived.Test.YtjmhecojjcjcaaaDoorWb
import Derived.Test.YtjmhecojjcjcaaaDoorAvG
import Derived.Test.YtjmhecojjcjcaaaDoorWa
import Derived.Shelf.Strings.Search3
import Derived.Shelf.LaysM
set_option linter.unusedSimpArgs false
set_option maxRecDepth 100000
namespace Go.Av.Tryd
open Go.Proofs
theorem ofT_map {P : Program} {k : Nat} {t kt e : TypeId} {ds : List D} (hu : P.underlying t = some (.map kt e)) (h : OfT P k t ds) : ∃ ks vs m, k = m + 1 ∧ ds = [.map ks vs] ∧ ks.length = vs.length ∧
  (∀ x ∈ ks, (∃ i n, P.underlying kt = some (.int i) ∧ x = .int i n) ∨ (∃ s, P.underlying kt = some .string ∧ x = .str s)) ∧ ∀ x ∈ vs, ∃ cs, x = mkD cs ∧ OfT P m e cs := by
 cases k with
 | zero => exact h.elim
 | succ k => unfold OfT at h; rw [hu] at h; obtain ⟨ks, vs, h1, h2, _, h3, h4⟩ := h; exact ⟨ks, vs, k, rfl, h1, h2, h3, h4⟩
theorem zip_map {α : Type} {g : α → D} : ∀ (ks vs : List D), ks.length = vs.length → (∀ x ∈ ks, ∃ n : Int, x = .int .i64 n) → (∀ x ∈ vs, ∃ y : α, x = g y) → ∃ l : List (Int × α), ks = iKeys l ∧ vs = l.map fun p => g p.2
 | [], [], _, _, _ => ⟨[], rfl, rfl⟩
 | [], _ :: _, h, _, _ => by simp at h
 | _ :: _, [], h, _, _ => by simp at h
 | k :: ks, v :: vs, h, h1, h2 => by
  obtain ⟨l, e1, e2⟩ := zip_map ks vs (by simpa using h) (fun x hx => h1 x (by simp [hx])) (fun x hx => h2 x (by simp [hx]))
  obtain ⟨n, rfl⟩ := h1 k (by simp)
  obtain ⟨y, rfl⟩ := h2 v (by simp)
  exact ⟨(n, y) :: l, by rw [e1]; rfl, by rw [e2]; rfl⟩
theorem u_int : Tryd.prog.cellsOf 3 = 1 := by kernel_rfl
theorem u_bool : Tryd.prog.cellsOf 4 = 1 := by kernel_rfl
theorem u_str : Tryd.prog.cellsOf 9 = 1 := by kernel_rfl
theorem u_mii : Tryd.prog.cellsOf 22 = 1 := by kernel_rfl
theorem u_mis : Tryd.prog.cellsOf 23 = 1 := by kernel_rfl
theorem u_spans : Tryd.prog.cellsOf 24 = 1 := by kernel_rfl
theorem u_span : Tryd.prog.cellsOf 59 = 3 := by kernel_rfl
theorem u_font : Tryd.prog.cellsOf 26 = 5 := by kernel_rfl
theorem wf64 {n : Int} (h : (Lit.int .i64 n).wf = true) : -9223372036854775808 ≤ n ∧ n ≤ 9223372036854775807 := by
 have := wf_i64 h; omega
def Span.in64 (s : Span) : Prop := -9223372036854775808 ≤ s.fr ∧ s.fr ≤ 9223372036854775807 ∧ -9223372036854775808 ≤ s.to ∧ s.to ≤ 9223372036854775807
theorem span_of {k : Nat} {ds : List D} (h : OfT Tryd.prog k 59 ds) : ∃ s : Span, mkD ds = s.d ∧ s.in64 := by
 cases k with
 | zero => exact h.elim
 | succ k =>
  unfold OfT at h
  rw [Tryd.underlying59] at h
  obtain ⟨h1, h2⟩ := h
  rw [u_span] at h1
  match ds, h1 with
  | [a, b, c], _ =>
   have f0 : OfT Tryd.prog k 3 (([a, b, c].drop 0).take (Tryd.prog.cellsOf 3)) := h2 0 _ rfl
   have f1 : OfT Tryd.prog k 3 (([a, b, c].drop 1).take (Tryd.prog.cellsOf 3)) := h2 1 _ rfl
   have f2 : OfT Tryd.prog k 9 (([a, b, c].drop 2).take (Tryd.prog.cellsOf 9)) := h2 2 _ rfl
   simp only [u_int, u_str, List.drop_zero, List.drop_succ_cons, List.take_succ_cons, List.take_zero] at f0 f1 f2
   obtain ⟨n0, e0, w0⟩ := f0.int Tryd.underlying3
   obtain ⟨n1, e1, w1⟩ := f1.int Tryd.underlying3
   obtain ⟨s, e2, _⟩ := f2.string Tryd.underlying9
   simp only [List.cons.injEq, and_true] at e0 e1 e2
   obtain ⟨a1, a2⟩ := wf64 w0
   obtain ⟨b1, b2⟩ := wf64 w1
   exact ⟨⟨n0, n1, s⟩, by rw [e0, e1, e2]; rfl, a1, a2, b1, b2⟩
theorem spans_of {k : Nat} {ds : List D} (h : OfT Tryd.prog k 24 ds) : ∃ l : List Span, ds = [.list (spansD l)] ∧ l.length ≤ maxLen ∧ ∀ s ∈ l, s.in64 := by
 obtain ⟨l, m, _, h1, h2, h3⟩ := h.slice Tryd.underlying24
 obtain ⟨ys, rfl⟩ := all_mapped (g := fun y : { s : Span // s.in64 } => y.1.d) (l := l) fun x hx => by
  obtain ⟨cs, h4, h5⟩ := h3 x hx
  obtain ⟨s, h6, h7⟩ := span_of h5
  exact ⟨⟨s, h7⟩, by rw [h4, h6]⟩
 refine ⟨ys.map (·.1), by rw [h1]; simp [spansD, Function.comp_def], by simpa using h2, fun s hs => ?_⟩
 obtain ⟨y, _, rfl⟩ := List.mem_map.1 hs
 exact y.2
theorem fnt_of {k : Nat} {ds : List D} (h : OfT Tryd.prog k 26 ds) : ∃ x : Fnt, D.agg ds = x.d ∧ x.wf := by
 cases k with
 | zero => exact h.elim
 | succ k =>
  unfold OfT at h
  rw [Tryd.underlying26] at h
  obtain ⟨h1, h2⟩ := h
  rw [u_font] at h1
  match ds, h1 with
  | [a, b, c, d, e], _ =>
   have f0 : OfT Tryd.prog k 4 (([a, b, c, d, e].drop 0).take (Tryd.prog.cellsOf 4)) := h2 0 _ rfl
   have f1 : OfT Tryd.prog k 22 (([a, b, c, d, e].drop 1).take (Tryd.prog.cellsOf 22)) := h2 1 _ rfl
   have f2 : OfT Tryd.prog k 3 (([a, b, c, d, e].drop 2).take (Tryd.prog.cellsOf 3)) := h2 2 _ rfl
   have f3 : OfT Tryd.prog k 23 (([a, b, c, d, e].drop 3).take (Tryd.prog.cellsOf 23)) := h2 3 _ rfl
   have f4 : OfT Tryd.prog k 24 (([a, b, c, d, e].drop 4).take (Tryd.prog.cellsOf 24)) := h2 4 _ rfl
   simp only [u_int, u_bool, u_mii, u_mis, u_spans, List.drop_zero, List.drop_succ_cons, List.take_succ_cons, List.take_zero] at f0 f1 f2 f3 f4
   obtain ⟨wd, e0⟩ := f0.bool Tryd.underlying4
   obtain ⟨kw, vw, m1, _, e1, l1, k1, v1⟩ := ofT_map Tryd.underlying22 f1
   obtain ⟨ms, e2, _⟩ := f2.int Tryd.underlying3
   obtain ⟨kn, vn, m3, _, e3, l3, k3, v3⟩ := ofT_map Tryd.underlying23 f3
   obtain ⟨cs, e4, l4, w4⟩ := spans_of f4
   have keys : ∀ ks : List D, (∀ x ∈ ks, (∃ i n, Tryd.prog.underlying 3 = some (.int i) ∧ x = .int i n) ∨ (∃ s, Tryd.prog.underlying 3 = some .string ∧ x = .str s)) → ∀ x ∈ ks, ∃ n : Int, x = .int .i64 n := fun ks h x hx => by
    rcases h x hx with ⟨i, n, q1, q2⟩ | ⟨s, q1, _⟩
    ·rw [Tryd.underlying3] at q1; cases q1; exact ⟨n, q2⟩
    ·rw [Tryd.underlying3] at q1; cases q1
   obtain ⟨ws, rfl, rfl⟩ := zip_map (g := D.int .i64) kw vw l1 (keys kw k1) fun x hx => by
    obtain ⟨cs, q1, q2⟩ := v1 x hx
    obtain ⟨n, q3, _⟩ := q2.int Tryd.underlying3
    exact ⟨n, by rw [q1, q3]; rfl⟩
   obtain ⟨ns, rfl, rfl⟩ := zip_map (g := D.str) kn vn l3 (keys kn k3) fun x hx => by
    obtain ⟨cs, q1, q2⟩ := v3 x hx
    obtain ⟨n, q3, _⟩ := q2.string Tryd.underlying9
    exact ⟨n, by rw [q1, q3]; rfl⟩
   simp only [List.cons.injEq, and_true] at e0 e1 e2 e3 e4
   refine ⟨⟨wd, ws, ms, ns, cs⟩, by rw [e0, e1, e2, e3, e4]; rfl, fun s hs => w4 s hs, by unfold maxLen at l4; omega⟩
open Go.Shelf
set_option maxRecDepth 100000
def containsLays_ren : Go.Shelf.Ren := ⟨fun | 144 => 84 | 143 => 89 | 219 => 92 | 217 => 74 | 225 => 93 | 224 => 94 | 267 => 95 | 266 => 85 | 314 => 96 | n => n, fun | 9 => 9 | 4 => 4 | 3 => 3 | 5 => 5 | 46 => 112 | 146 => 127 | 51 => 125 | n => n, fun | 1 => 2 | n => n⟩
theorem containsLays : Go.Proofs.LaysM.n144 Tryd.prog containsLays_ren where
 mixed := by kernel_rfl
 f143 := Tryd.func89.trans (congrArg some (by kernel_rfl))
 f144 := Tryd.func84.trans (congrArg some (by kernel_rfl))
 f217 := Tryd.func74.trans (congrArg some (by kernel_rfl))
 f219 := Tryd.func92.trans (congrArg some (by kernel_rfl))
 f224 := Tryd.func94.trans (congrArg some (by kernel_rfl))
 f225 := Tryd.func93.trans (congrArg some (by kernel_rfl))
 f266 := Tryd.func85.trans (congrArg some (by kernel_rfl))
 f267 := Tryd.func95.trans (congrArg some (by kernel_rfl))
 f314 := Tryd.func96.trans (congrArg some (by kernel_rfl))
 t3 := Tryd.underlying3
 a3 := Tryd.isAgg3
 z3 := Tryd.sizeOf3
 v3 := Tryd.zeroValue3
 t4 := Tryd.underlying4
 a4 := Tryd.isAgg4
 z4 := Tryd.sizeOf4
 v4 := Tryd.zeroValue4
 t5 := Tryd.underlying5
 a5 := Tryd.isAgg5
 z5 := Tryd.sizeOf5
 v5 := Tryd.zeroValue5
 t9 := Tryd.underlying9
 a9 := Tryd.isAgg9
 z9 := Tryd.sizeOf9
 v9 := Tryd.zeroValue9
 t46 := Tryd.underlying112
 a46 := Tryd.isAgg112
 z46 := Tryd.sizeOf112
 v46 := Tryd.zeroValue112
 t51 := Tryd.underlying125
 a51 := Tryd.isAgg125
 z51 := Tryd.sizeOf125
 v51 := Tryd.zeroValue125
 t146 := Tryd.underlying127
 a146 := Tryd.isAgg127
 z146 := Tryd.sizeOf127
 v146 := Tryd.zeroValue127
 g1 := by kernel_rfl
 i3 := by kernel_rfl
 i4 := by kernel_rfl
 i5 := by kernel_rfl
 i9 := by kernel_rfl
 i46 := by kernel_rfl
 i51 := by kernel_rfl
 i146 := by kernel_rfl
 m1 := by kernel_rfl
 s1_3 := fun w h => Go.Proofs.cell_of_shapedOpen_int (zero := #[.int .i64 0]) (t := 3) h (of_decide_eq_true (by kernel_rfl)) (by kernel_rfl) rfl (by kernel_rfl) (by kernel_rfl) Tryd.underlying3
end Go.Av.Tryd
