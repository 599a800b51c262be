import Derived.Test.YtccakidkdefioaaWb
import Derived.Test.YtccakidkdefioaaAvG
set_option linter.unusedSimpArgs false
set_option maxRecDepth 100000
namespace Go.Av.Try
open Go.Proofs
theorem w_int : Try.prog.cellsOf 3 = 1 := by kernel_rfl
theorem w_str : Try.prog.cellsOf 9 = 1 := by kernel_rfl
theorem w_point : Try.prog.cellsOf 40 = 2 := by kernel_rfl
theorem w_box : Try.prog.cellsOf 42 = 4 := by kernel_rfl
theorem w_glyph : Try.prog.cellsOf 44 = 10 := by kernel_rfl
theorem point_of {k : Nat} {ds : List D} (h : OfT Try.prog k 40 ds) : ∃ x y : Int, ds = [.int .i64 x, .int .i64 y] := by
 cases k with
 | zero => exact h.elim
 | succ k =>
  unfold OfT at h
  rw [Try.underlying40] at h
  obtain ⟨h1, h2⟩ := h
  rw [w_point] at h1
  match ds, h1 with
  | [a, b], _ =>
   have f0 : OfT Try.prog k 3 (([a, b].drop 0).take (Try.prog.cellsOf 3)) := h2 0 _ rfl
   have f1 : OfT Try.prog k 3 (([a, b].drop 1).take (Try.prog.cellsOf 3)) := h2 1 _ rfl
   simp only [w_int, List.drop_zero, List.drop_succ_cons, List.take_succ_cons, List.take_zero] at f0 f1
   obtain ⟨n0, e0, _⟩ := f0.int Try.underlying3
   obtain ⟨n1, e1, _⟩ := f1.int Try.underlying3
   simp only [List.cons.injEq, and_true] at e0 e1
   exact ⟨n0, n1, by rw [e0, e1]⟩
theorem box_of {k : Nat} {ds : List D} (h : OfT Try.prog k 42 ds) : ∃ x y u v : Int, ds = [.int .i64 x, .int .i64 y, .int .i64 u, .int .i64 v] := by
 cases k with
 | zero => exact h.elim
 | succ k =>
  unfold OfT at h
  rw [Try.underlying42] at h
  obtain ⟨h1, h2⟩ := h
  rw [w_box] at h1
  match ds, h1 with
  | [a, b, c, d], _ =>
   have f0 : OfT Try.prog k 3 (([a, b, c, d].drop 0).take (Try.prog.cellsOf 3)) := h2 0 _ rfl
   have f1 : OfT Try.prog k 3 (([a, b, c, d].drop 1).take (Try.prog.cellsOf 3)) := h2 1 _ rfl
   have f2 : OfT Try.prog k 3 (([a, b, c, d].drop 2).take (Try.prog.cellsOf 3)) := h2 2 _ rfl
   have f3 : OfT Try.prog k 3 (([a, b, c, d].drop 3).take (Try.prog.cellsOf 3)) := h2 3 _ rfl
   simp only [w_int, List.drop_zero, List.drop_succ_cons, List.take_succ_cons, List.take_zero] at f0 f1 f2 f3
   obtain ⟨n0, e0, _⟩ := f0.int Try.underlying3
   obtain ⟨n1, e1, _⟩ := f1.int Try.underlying3
   obtain ⟨n2, e2, _⟩ := f2.int Try.underlying3
   obtain ⟨n3, e3, _⟩ := f3.int Try.underlying3
   simp only [List.cons.injEq, and_true] at e0 e1 e2 e3
   exact ⟨n0, n1, n2, n3, by rw [e0, e1, e2, e3]⟩
theorem gl_of {k : Nat} {ds : List D} (h : OfT Try.prog k 44 ds) : ∃ g : Gl, mkD ds = g.d := by
 cases k with
 | zero => exact h.elim
 | succ k =>
  unfold OfT at h
  rw [Try.underlying44] at h
  obtain ⟨h1, h2⟩ := h
  rw [w_glyph] at h1
  match ds, h1 with
  | [a, b, c, d, e, f, g, i, j, m], _ =>
   have f0 : OfT Try.prog k 9 (([a, b, c, d, e, f, g, i, j, m].drop 0).take (Try.prog.cellsOf 9)) := h2 0 _ rfl
   have f1 : OfT Try.prog k 40 (([a, b, c, d, e, f, g, i, j, m].drop 1).take (Try.prog.cellsOf 40)) := h2 1 _ rfl
   have f2 : OfT Try.prog k 40 (([a, b, c, d, e, f, g, i, j, m].drop 3).take (Try.prog.cellsOf 40)) := h2 2 _ rfl
   have f3 : OfT Try.prog k 3 (([a, b, c, d, e, f, g, i, j, m].drop 5).take (Try.prog.cellsOf 3)) := h2 3 _ rfl
   have f4 : OfT Try.prog k 42 (([a, b, c, d, e, f, g, i, j, m].drop 6).take (Try.prog.cellsOf 42)) := h2 4 _ rfl
   simp only [w_int, w_str, w_point, w_box, List.drop_zero, List.drop_succ_cons, List.take_succ_cons, List.take_zero] at f0 f1 f2 f3 f4
   obtain ⟨s, e0, _⟩ := f0.string Try.underlying9
   obtain ⟨n1, n2, e1⟩ := point_of f1
   obtain ⟨n3, n4, e2⟩ := point_of f2
   obtain ⟨n5, e3, _⟩ := f3.int Try.underlying3
   obtain ⟨n6, n7, n8, n9, e4⟩ := box_of f4
   simp only [List.cons.injEq, and_true] at e0 e1 e2 e3 e4
   exact ⟨⟨s, n1, n2, n3, n4, n5, n6, n7, n8, n9⟩, by rw [e0, e1.1, e1.2, e2.1, e2.2, e3, e4.1, e4.2.1, e4.2.2.1, e4.2.2.2]; rfl⟩
theorem all_gls : ∀ {l : List D}, (∀ x ∈ l, ∃ g : Gl, x = g.d) → ∃ gs : List Gl, l = glsD gs
 | [], _ => ⟨[], rfl⟩
 | x :: r, h => by
  obtain ⟨g, hg⟩ := h x (by simp)
  obtain ⟨gs, hr⟩ := all_gls (l := r) fun y hy => h y (by simp [hy])
  exact ⟨g :: gs, by rw [hg, hr]; rfl⟩
theorem gls_of {k : Nat} {x : D} (h : OfT Try.prog k 22 [x]) : ∃ l : List Gl, x = .list (glsD l) ∧ l.length ≤ maxLen := by
 obtain ⟨l, m, _, h1, h2, h3⟩ := h.slice Try.underlying22
 obtain ⟨gs, rfl⟩ := all_gls (l := l) fun y hy => by
  obtain ⟨cs, h4, h5⟩ := h3 y hy
  obtain ⟨g, h6⟩ := gl_of h5
  exact ⟨g, by rw [h4, h6]⟩
 cases h1
 exact ⟨gs, rfl, by rw [glsD_length] at h2; exact h2⟩
theorem bk_gls : ∀ {l : List Gl}, ∀ g ∈ l, g.tx.length + 1 ≤ bkL (glsD l)
 | [], g, h => by cases h
 | x :: r, g, h => by
  have e : bkL (glsD (x :: r)) = bkD x.d + bkL (glsD r) := rfl
  have e2 : x.tx.length + 1 ≤ bkD x.d := by simp only [Gl.d, bkD, bkL]; omega
  rcases List.mem_cons.1 h with rfl | h
  ·omega
  ·have := bk_gls g h
   omega
theorem gls_small {l : List Gl} (h : bkD (.list (glsD l)) ≤ 1048576) : ∀ g ∈ l, g.tx.length ≤ 1000000000 := fun g hg => by
 have := bk_gls g hg
 simp only [bkD] at h
 omega
end Go.Av.Try
