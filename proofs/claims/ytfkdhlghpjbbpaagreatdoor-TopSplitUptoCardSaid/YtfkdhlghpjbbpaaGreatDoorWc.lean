import Derived.Test.YtfkdhlghpjbbpaaGreatDoorWb
import Derived.Test.YtfkdhlghpjbbpaaGreatDoorAvI
import Derived.Test.YtfkdhlghpjbbpaaGreatDoorAvJ
import Derived.Test.YtfkdhlghpjbbpaaGreatDoorWa
set_option linter.unusedSimpArgs false
set_option maxRecDepth 100000
set_option maxHeartbeats 4000000
namespace Go.Av.Tryz
open Go.Proofs
abbrev Fl := List (List UInt8 × Fnt)
def q0W (l : Fl) : D := .map (l.map fun p => .str p.1) (l.map fun p => p.2.d)
def q85 : Fl → List UInt8 → Option Fnt
 | [], _ => none
 | p :: r, s => if s = p.1 then some p.2 else q85 r s
theorem z5U (l : Fl) (s : List UInt8) : q2x (l.map fun p => .str p.1) (l.map fun p => p.2.d) (.str s) = (q85 l s).map Fnt.d := by
 induction l with
 | nil => rfl
 | cons p r ih =>
  simp only [List.map_cons, q2x, q8Z, beq_iff_eq, q85] at ih ⊢
  split
  ·rfl
  ·exact ih
def fnt0 : Fnt := ⟨false, [], 0, [], []⟩
theorem j5j : Tryz.prog.underlying 25 = some (.map 9 62) := by kernel_rfl
theorem z8k : Tryz.prog.underlying 9 = some .string := by kernel_rfl
theorem fntZ : Program.zeroOf Tryz.prog 62 = some fnt0.d := by kernel_rfl
def PT.chs (q : PT) (fl : Fl) (l : List Val) : PT :=
 match l with
 | [a, b] => if a.kind = 4 ∧ b.kind = 2 then (match q85 fl a.s with
  | some f => { q with s := { q.s with font := some f, size := b.n } }
  | none => q.er 6) else q.er 8
 | _ => q.er 8
def q1k : q0j :=
 .seq (.reg [⟨some 3, .box (.t 1), none⟩]) (.seq (.seq (.reg [Q 6 (.fa 1 (.t 3)), Q 7 (.ld false 1 (.t 6)), Q 8 (.len false (.t 7)), Q 9 (.bin .neq (.t 8) (Ki 2)), Qc 10 9, Qg 11 
 (.fa 1 (.t 3)) 10 false, Qg 12 (.ld false 1 (.t 11)) 10 false, Qg 13 (.ia 5 (.t 12) (Ki 0)) 10 false, Qg 14 (.fa 0 (.t 13)) 10 false, Qg 15 (.ld false 1 (.t 14)) 10 false, Qg 16 
 (.bin .neq (.t 15) (Ki 4)) 10 false, Q 17 (.pick (.t 10) KT (.t 16)), Qc 18 17, Qg 19 (.fa 1 (.t 3)) 18 false, Qg 20 (.ld false 1 (.t 19)) 18 false, Qg 21 (.ia 5 (.t 20) (Ki 1)) 
 18 false, Qg 22 (.fa 0 (.t 21)) 18 false, Qg 23 (.ld false 1 (.t 22)) 18 false, Qg 24 (.bin .neq (.t 23) (Ki 2)) 18 false, Q 25 (.pick (.t 18) KT (.t 24))]) (.cond (.t 25) (.seq 
 (.reg [Qc 26 0, Q 27 (.mkI 76 (Ki 8)), ⟨some 28, .prim .call [.k (.fn (.func 66) [] []), .t 26, .t 27] [], none⟩]) .ret) .skip)) (.seq (.fam [Qc 30 0, Q 31 (.nck (.t 30)), Q 32 
 (.fa 0 (.t 31)), Q 33 (.ld false 1 (.t 32)), Q 34 (.fa 1 (.t 3)), Q 35 (.ld false 1 (.t 34)), Q 36 (.ia 5 (.t 35) (Ki 0)), Q 37 (.fa 2 (.t 36)), Q 38 (.ld false 1 (.t 37)), ⟨some 
 39, .prim (.lookup 25 true) [.t 33, .t 38] [], none⟩, Qc 29 39, Q 40 (.ext 0 (.t 29)), Q 41 (.ext 1 (.t 29)), ⟨some 4, .allo [.bool false, .map [] [], .int .i64 0, .map [] [], 
 .list []], none⟩, ⟨none, .st 5 (.t 4) (.t 40), none⟩, Qa 5 41] [[], [0], [1], [2], [], [4], [5], [6], [7], [3, 8], [9], [10], [10], [], [13, 11, 0, 1, 2, 3, 4, 5, 6, 7, 8, 9, 10, 
 11, 13], [12, 14, 0, 1, 2, 3, 4, 5, 6, 7, 8, 9, 10, 11, 12, 13, 14]]) (.seq (.seq (.reg [Qc 42 5, Q 43 (.not (.t 42))]) (.cond (.t 43) (.seq (.reg [Qc 44 0, Q 45 (.mkI 76 (Ki 
 6)), ⟨some 46, .prim .call [.k (.fn (.func 66) [] []), .t 44, .t 45] [], none⟩]) .ret) .skip)) (.reg [Qc 47 0, Qc 48 0, Q 49 (.fa 1 (.t 3)), Q 50 (.ld false 1 (.t 49)), Q 51 (.ia 
 5 (.t 50) (Ki 1)), Q 52 (.fa 1 (.t 51)), Q 53 (.ld false 1 (.t 52)), Q 54 (.nck (.t 47)), Q 55 (.fa 1 (.t 54)), Q 56 (.fa 6 (.t 55)), ⟨none, .st 1 (.t 56) (.t 4), none⟩, Q 57 
 (.nck (.t 48)), Q 58 (.fa 1 (.t 57)), Q 59 (.fa 7 (.t 58)), ⟨none, .st 1 (.t 59) (.t 53), none⟩]))))
def q1o : List LRes := []
theorem q2C : q0t Tryz.prog 48 60 q1k q1o := ⟨_, _, Tryz.func48, rfl, by kernel_rfl, by kernel_rfl, rfl⟩
theorem j4j (fl : Fl) (q : PT) (c : Option Nat) (o : OpV) (hl : o.args.length ≤ 1000) {m : Option AObj} (hm : rowM m = true) :
  MVE Tryz.prog 48 [.ptr (.x 0) 0, .d o.d] [pob (q0W fl) q c] m (.tuple []) [pob (q0W fl) (q.chs fl o.args) c] m := by
 refine q2C.mv (by kernel_rfl) rfl rfl ?_
 generalize hM : mob m = M
 have ha : aget M 1000 = m := hM ▸ q0O m
 have hn := hm
 unfold rowM at hn
 have hMM : ∀ o : AObj, Sub ((0, o) :: M) ((0, o) :: M) := fun o => hM ▸ subM o m
 generalize hE : pob (q0W fl) (q.chs fl o.args) c = oE
 obtain ⟨nm, args⟩ := o
 have hvl := q2k args
 simp only at hl hE
 simp (maxSteps := 2000000) (disch := omega) only [go_sem, ↓reduceIte, q1k, q1o, I, OpV.d]
 refine ⟨fun h1 => ?_, fun h1 => ?_⟩
 ·obtain ⟨a, b, rfl⟩ : ∃ a b, args = [a, b] := by
   match args, h1 with
   | [a, b], _ => exact ⟨a, b, rfl⟩
   | [], h1 => simp [q05] at h1
   | [_], h1 => simp [q05] at h1
   | _ :: _ :: _ :: _, h1 => simp [q05] at h1; omega
  have hg0 : getI (q05 [a, b]) 0 = some a.d := rfl
  have hg1 : getI (q05 [a, b]) 1 = some b.d := rfl
  simp (maxSteps := 2000000) (disch := omega) only [go_sem, ↓reduceIte, hg0, hg1, Val.d_eq]
  have hbad : ¬ (a.kind = 4 ∧ b.kind = 2) → pob (q0W fl) (q.er 8) c = oE := fun h => by rw [← hE]; simp only [PT.chs, h, ↓reduceIte]
  refine ⟨fun h2 => ⟨fun h3 => ?_, fun h3 => ?_⟩, fun h2 => ?_⟩
  ·refine q0b.poM rfl (q5S (q0W fl) q c 8 hm) (q0d _ _ _) (q0d _ _ _) hm hM rfl rfl rfl ⟨⟨rfl, rfl⟩, rfl⟩ ?_
   simp (maxSteps := 2000000) only [go_sem, ↓reduceIte, ha, hn]
   rw [hbad fun h => h3 h.2]
  ·refine j0H (pX (q0W fl) q c) M 15 [0, 3] [4] q.bad (fun _ => _) (fun _ => .refl _) (by kernel_rfl) (fun _ => rfl) (fun _ => rfl) (fun _ => rfl) (fun b0 => ?_)
   simp (maxSteps := 2000000) only [go_sem, ↓reduceIte, pX, pob, PT.wb, hg0, Val.d_eq]
   refine FR.prim (q5r.lookup (ks := fl.map fun p => .str p.1) (vs := fl.map fun p => p.2.d) (key := .str a.s) rfl rfl j5j z8k rfl (fun k hk => by obtain ⟨p, _, rfl⟩ := List.mem_map.1 hk; rfl) fntZ) j0S ?_
   rw [z5U]
   cases hlk : q85 fl a.s with
   | none =>
    simp (maxSteps := 2000000) only [go_sem, ↓reduceIte, Fnt.d, fnt0]
    refine ⟨_, rfl, rfl, _, GhoB.j5a 4 (D.cells fnt0.d) rfl (z3f (q0d (q0W fl) q c).no hm hM), ?_⟩
    simp (maxSteps := 2000000) only [go_sem, ↓reduceIte, AV.frzP, q9Y, Option.isSome_none]
    refine q0b.poM rfl (q5S (q0W fl) q c 6 hm) (q0d _ _ _) (q0d _ _ _) hm hM rfl rfl rfl ⟨⟨rfl, rfl⟩, rfl⟩ ?_
    simp (maxSteps := 2000000) only [go_sem, ↓reduceIte, ha, hn]
    rw [← hE]
    simp only [PT.chs, h2, h3, hlk, and_self, ↓reduceIte]
   | some f =>
    simp (maxSteps := 2000000) only [go_sem, ↓reduceIte, Fnt.d]
    refine ⟨_, rfl, rfl, _, GhoB.j5a 4 (D.cells f.d) rfl (z3f (q0d (q0W fl) q c).no hm hM), ?_⟩
    simp (maxSteps := 2000000) only [go_sem, ↓reduceIte, AV.frzP, q9Y, Option.isSome_some, Fnt.d, hg1, Val.d_eq, ha, hn]
    rw [← hE]
    simp only [PT.chs, h2, h3, hlk, and_self, ↓reduceIte, pob, I, q7h]
  ·refine q0b.poM rfl (q5S (q0W fl) q c 8 hm) (q0d _ _ _) (q0d _ _ _) hm hM rfl rfl rfl ⟨⟨rfl, rfl⟩, rfl⟩ ?_
   simp (maxSteps := 2000000) only [go_sem, ↓reduceIte, ha, hn]
   rw [hbad fun h => h2 h.1]
 ·have e : q.chs fl args = q.er 8 := by
   match args, h1 with
   | [a, b], h1 => simp [q05] at h1
   | [], _ => rfl
   | [_], _ => rfl
   | _ :: _ :: _ :: _, _ => rfl
  refine q0b.poM rfl (q5S (q0W fl) q c 8 hm) (q0d _ _ _) (q0d _ _ _) hm hM rfl rfl rfl ⟨⟨rfl, rfl⟩, rfl⟩ ?_
  simp (maxSteps := 2000000) only [go_sem, ↓reduceIte, ha, hn]
  rw [← hE, e]
end Go.Av.Tryz
set_option linter.unusedSimpArgs false
set_option maxRecDepth 100000
set_option maxHeartbeats 4000000
namespace Go.Av.Tryz
open Go.Proofs
def svOK (q : PT) : Option Nat → Prop
 | none => q.saved = []
 | some c => q.saved.length ≤ c ∧ c ≤ maxLen
def PT.sv (q : PT) (back : Bool) : PT :=
 if back = true then (match q.saved.getLast? with
  | none => q.er 10
  | some x => { q with s := x, saved := q.saved.dropLast })
 else if q.saved.length = 8 then q.er 10 else { q with saved := q.saved ++ [q.s] }
def z6u (fd : D) (q : PT) (o : AObj) (m : Option AObj) : Prop := ∃ c, svOK q c ∧ o = pob fd q c ∧ m = svO q.saved c
instance : Inhabited PSt := ⟨⟨m60, none, 0, 0, 0, 0, 0, 0⟩⟩
def pZ (fd : D) (q : PT) (c : Option Nat) (s : PSt) : AObj := pob fd { q with s := s } c
theorem z4K (l : List Gph) : outV l = .ns ∨ ∃ a b c d, outV l = .own a b c d := by
 cases l with
 | nil => exact .inl rfl
 | cons g l => exact .inr ⟨_, _, _, _, rfl⟩
theorem svSl : q22 Tryz.prog 84 = some (83, 13, 104) := by kernel_rfl
theorem svZ : q9k Tryz.prog 83 = true := by kernel_rfl
theorem svT : isSl Tryz.prog 84 = true := by kernel_rfl
theorem z1s (l : List PSt) : ∀ y ∈ l.map PSt.d, y.cells.length = 13 := fun y hy => by
 obtain ⟨s, _, rfl⟩ := List.mem_map.1 hy; rfl
theorem j2B (l : List PSt) (x : PSt) (c : Nat) : List.take 13 (List.drop (l.length * 13) (rowC 13 ((l ++ [x]).map PSt.d) c)) =
  [.d (I x.ctm.1), .d (I x.ctm.2.1), .d (I x.ctm.2.2.1), .d (I x.ctm.2.2.2.1), .d (I x.ctm.2.2.2.2.1), .d (I x.ctm.2.2.2.2.2), .d (q7h x.font), .d (I x.size), .d (I x.char), .d (I x.word), .d (I x.scale), .d (I x.lead), .d (I x.rise)] := by
 have h1 : ((l.map PSt.d).flatMap D.cells).length = l.length * 13 := by rw [q0B (z1s l), List.length_map]
 have h2 : l.length * 13 = (((l.map PSt.d).flatMap D.cells).map AV.d).length := by rw [List.length_map, h1]
 rw [rowC, List.map_append, List.flatMap_append, List.map_append, List.append_assoc, h2, List.drop_left]
 rfl
theorem j4v (l : List PSt) (c : Nat) (h : l.length ≤ c) : (rowC 13 (l.map PSt.d) c).length = c * 13 := q3O (z1s l) (by rw [List.length_map]; exact h)
def q0h : q0j :=
 .seq (.reg [Qc 5 0, Q 6 (.nck (.t 5)), Q 7 (.fa 14 (.t 6)), Q 8 (.ld false 1 (.t 7)), Q 9 (.len false (.t 8)), Qa 4 9]) (.block 0 (.seq (.seq (.reg [Qc 24 1, Q 25 (.not (.t 24)), 
 Qc 26 25, Qd 27 4 26 true, Qg 28 (.bin .eql (.t 27) (Ki 8)) 26 true, Q 29 (.pick (.t 26) (.t 28) KF), Qa 23 29]) (.cond (.t 23) .skip (.reg [Qc 30 1, Qc 31 30, Qd 32 4 31 true, 
 Qg 33 (.bin .eql (.t 32) (Ki 0)) 31 true, Q 34 (.pick (.t 31) (.t 33) KF), Qa 23 34]))) (.cond (.t 23) (.reg [Qc 35 0, Q 36 (.mkI 76 (Ki 10)), ⟨some 37, .prim .call [.k (.fn 
 (.func 66) [] []), .t 35, .t 36] [], none⟩]) (.seq (.reg [Qc 39 1, Qa 38 39]) (.cond (.t 38) (.fam [Qc 40 0, Qc 41 0, Qc 42 0, Q 43 (.nck (.t 42)), Q 44 (.fa 14 (.t 43)), Q 45 
 (.ld false 1 (.t 44)), Qc 46 4, Q 47 (.bin .sub (.t 46) (Ki 1)), Q 48 (.ia 13 (.t 45) (.t 47)), Q 49 (.ld true 13 (.t 48)), Qc 50 0, Q 51 (.nck (.t 50)), Q 52 (.fa 14 (.t 51)), Q 
 53 (.ld false 1 (.t 52)), Qc 54 4, Q 55 (.bin .sub (.t 54) (Ki 1)), Q 56 (.sub 13 (.t 53) none (some (.t 55))), Q 57 (.nck (.t 40)), Q 58 (.fa 1 (.t 57)), ⟨none, .st 13 (.t 58) 
 (.t 49), none⟩, Q 59 (.nck (.t 41)), Q 60 (.fa 14 (.t 59)), ⟨none, .st 1 (.t 60) (.t 56), none⟩] [[], [], [], [2], [3], [4], [], [6], [5, 7], [8], [], [10], [11], [12], [], [14], 
 [13, 15], [0, 0, 2, 3, 4, 5, 6, 7, 8, 9, 13], [17, 0, 2, 3, 4, 5, 6, 7, 8, 9, 13], [18, 9, 0, 2, 3, 4, 5, 6, 7, 8, 9, 13], [1, 0, 1, 2, 3, 4, 5, 6, 7, 8, 9, 10, 11, 12, 13, 14, 
 15, 16, 17, 18, 19], [20, 0, 1, 2, 3, 4, 5, 6, 7, 8, 9, 10, 11, 12, 13, 14, 15, 16, 17, 18, 19], [21, 16, 19, 0, 1, 2, 3, 4, 5, 6, 7, 8, 9, 10, 11, 12, 13, 14, 15, 16, 17, 18, 
 19]]) (.dreg [Qc 10 0, Qc 11 0, Qc 15 0, Q 12 (.nck (.t 11)), Q 13 (.fa 14 (.t 12)), Q 14 (.ld false 1 (.t 13)), Q 16 (.nck (.t 15)), Q 17 (.fa 1 (.t 16)), Q 18 (.ld true 13 (.t 
 17)), ⟨some 19, .bsl 83 13 [.t 18], none⟩, ⟨some 20, .prim (.bi .append [84, 84]) [.t 14, .t 19] [(10, .cp (.t 0))], none⟩, Q 21 (.nck (.t 10)), Q 22 (.fa 14 (.t 21)), ⟨none, .st 
 1 (.t 22) (.t 20), none⟩]))))))
def q0i : List LRes := []
theorem q2T : q0t Tryz.prog 44 61 q0h q0i := ⟨_, _, Tryz.func44, rfl, by kernel_rfl, by kernel_rfl, rfl⟩
theorem j5v (fd : D) (q : PT) (c : Option Nat) (hc : svOK q c) (hq : q.saved.length ≤ 8) (back : Bool) :
  MV Tryz.prog 44 [.ptr (.x 0) 0, .d (.bool back)] [pob fd q c] (svO q.saved c) (fun r hs' m' => r = .tuple [] ∧ ∃ o', hs' = [o'] ∧ z6u fd (q.sv back) o' m') := by
 have hm := z2B q.saved c
 generalize hmm : svO q.saved c = m at *
 refine q2T.mv (by kernel_rfl) rfl rfl ?_
 generalize hM : mob m = M
 have ha : aget M 1000 = m := hM ▸ q0O m
 have hn := hm
 unfold rowM at hn
 have hMM : ∀ o : AObj, Sub ((0, o) :: M) ((0, o) :: M) := fun o => hM ▸ subM o m
 cases c with
 | none =>
  have hs : q.saved = [] := hc
  cases back with
  | true =>
   have e : q.sv true = q.er 10 := by simp [PT.sv, hs]
   rw [e]
   simp (maxSteps := 2000000) only [go_sem, ↓reduceIte, q0h, q0i, I, pob, svV]
   refine q0b.poM rfl (q5S fd q none 10 hm) (q0d _ _ _) (q0d _ _ _) hm hM rfl rfl rfl ⟨⟨rfl, rfl⟩, rfl⟩ ?_
   simp (maxSteps := 2000000) only [go_sem, ↓reduceIte, ha, hn]
   exact ⟨_, rfl, none, hs, rfl, hmm.symm⟩
  | false =>
   have e : q.sv false = { q with saved := q.saved ++ [q.s] } := by simp [PT.sv, hs]
   rw [e]
   subst hM; subst hmm
   simp (maxSteps := 2000000) only [go_sem, ↓reduceIte, q0h, q0i, I, pob, svV, svO, mob]
   refine q0b.appX (c := 0) (fs := []) (ys := [q.s.d]) svSl svZ svT (.inl ⟨.inl rfl, rfl⟩) (.inl rfl) (by simp) (fun y hy => by simp at hy; subst hy; rfl) (fun y hy => by cases hy) (by simp only [List.length_cons, List.length_nil, maxLen]; omega) (fun c' hc1 hc2 => ?_)
   rcases z4K q.out with ho | ⟨o1, o2, o3, o4, ho⟩ <;> simp (maxSteps := 2000000) only [go_sem, ↓reduceIte, St.q23, AV.drop, AV.has, List.length_nil, List.length_cons, List.nil_append, q6S, ho] <;> refine ⟨_, rfl, some c', ⟨by simp only [List.length_append, List.length_map, List.length_cons, List.length_nil] at hc1 ⊢; rw [hs]; simpa using hc1, hc2⟩, ?_, ?_⟩
   ·simp [pob, svV, ho, I, hs]
   ·simp [svO, List.map_append, hs]
   ·simp [pob, svV, ho, I, hs]
   ·simp [svO, List.map_append, hs]
 | some c =>
  have hc' : q.saved.length ≤ c ∧ c ≤ maxLen := hc
  cases back with
  | true =>
   rcases List.eq_nil_or_concat q.saved with hs | ⟨l, x, hs⟩
   ·have e : q.sv true = q.er 10 := by simp [PT.sv, hs]
    rw [e]
    have hz : (q.saved.length : Int) = 0 := by rw [hs]; rfl
    simp (maxSteps := 2000000) only [go_sem, ↓reduceIte, q0h, q0i, I, pob, svV, hz]
    refine q0b.poM rfl (q5S fd q (some c) 10 hm) (q0d _ _ _) (q0d _ _ _) hm hM rfl rfl rfl ⟨⟨rfl, rfl⟩, rfl⟩ ?_
    simp (maxSteps := 2000000) only [go_sem, ↓reduceIte, ha, hn]
    exact ⟨_, rfl, some c, hc, rfl, hmm.symm⟩
   ·rw [List.concat_eq_append] at hs
    have e : q.sv true = { q with s := x, saved := l } := by simp [PT.sv, hs]
    rw [e]
    have hlen : q.saved.length = l.length + 1 := by rw [hs]; simp
    have hz : ((q.saved.length : Int) = 0) = False := eq_false (by omega)
    subst hM; subst hmm
    simp (maxSteps := 2000000) only [go_sem, ↓reduceIte, q0h, q0i, I, pob, svV, svO, mob, hz]
    refine j0H (pZ fd q (some c)) [(1000, AObj.cells (rowC 13 (q.saved.map PSt.d) c))] 20 [0, 4] [999998] q.s (fun _ => _) (fun _ => .refl _) (by kernel_rfl) (fun _ => rfl) (fun _ => rfl) (fun _ => rfl) (fun b0 => ?_)
    have hw : IntKind.i64.wrap ((q.saved.length : Int) - 1) = l.length := by rw [hlen, Int.natCast_add, Int.natCast_one, Int.add_sub_cancel]; exact IntWalk.i64_in _ (by omega)
    have hz1 : (0 ≤ (l.length : Int) ∧ (l.length : Int) < q.saved.length) = True := eq_true (by omega)
    have hz2 : (l.length * 13 + 13 ≤ (rowC 13 (q.saved.map PSt.d) c).length) = True := eq_true (by rw [j4v _ _ hc'.1]; omega)
    have hz3 := j2B l x c
    rw [← hs] at hz3
    have hz4 : (0 ≤ (l.length : Int) ∧ (l.length : Int) ≤ c) = True := eq_true (by omega)
    simp (maxSteps := 2000000) (disch := omega) only [go_sem, ↓reduceIte, pZ, pob, svV, hw, hz1, hz2, hz3, hz4, Int.toNat_natCast]
    refine ⟨x, StF.x0 rfl rfl rfl rfl (by simp) rfl, ?_⟩
    refine ⟨_, GhoB.j4u (sz := 13) (c := c) (fs := l.map PSt.d) (gs := [x.d]) (by rw [hs, List.map_append]; rfl) (z1s _) (z1s [x]) (by simp; omega), ?_⟩
    simp (maxSteps := 2000000) only [go_sem, ↓reduceIte, q6S]
    exact ⟨_, rfl, some c, ⟨by simp only; omega, hc'.2⟩, rfl, rfl⟩
  | false =>
   by_cases h8 : q.saved.length = 8
   ·have e : q.sv false = q.er 10 := by simp [PT.sv, h8]
    rw [e]
    have hz : (q.saved.length : Int) = 8 := by omega
    simp (maxSteps := 2000000) only [go_sem, ↓reduceIte, q0h, q0i, I, pob, svV, hz]
    refine q0b.poM rfl (q5S fd q (some c) 10 hm) (q0d _ _ _) (q0d _ _ _) hm hM rfl rfl rfl ⟨⟨rfl, rfl⟩, rfl⟩ ?_
    simp (maxSteps := 2000000) only [go_sem, ↓reduceIte, ha, hn]
    exact ⟨_, rfl, some c, hc, rfl, hmm.symm⟩
   ·have e : q.sv false = { q with saved := q.saved ++ [q.s] } := by simp [PT.sv, h8]
    rw [e]
    have hz : ((q.saved.length : Int) = 8) = False := eq_false (by omega)
    subst hM; subst hmm
    simp (maxSteps := 2000000) only [go_sem, ↓reduceIte, q0h, q0i, I, pob, svV, svO, mob, hz]
    refine q0b.appX (c := c) (fs := q.saved.map PSt.d) (ys := [q.s.d]) svSl svZ svT (.inr ⟨by rw [List.length_map]; rfl, rfl, by rw [List.length_map]; exact hc'.1, hc'.2⟩) (.inl rfl) (by simp) (fun y hy => by simp at hy; subst hy; rfl) (z1s _) (by simp only [List.length_map, List.length_cons, List.length_nil, maxLen] at hc' ⊢; omega) (fun c' hc1 hc2 => ?_)
    rcases z4K q.out with ho | ⟨o1, o2, o3, o4, ho⟩ <;> simp (maxSteps := 2000000) only [go_sem, ↓reduceIte, St.q23, AV.drop, AV.has, List.length_nil, List.length_cons, List.nil_append, q6S, ho] <;> refine ⟨_, rfl, some c', ⟨by simp only [List.length_append, List.length_map, List.length_cons, List.length_nil] at hc1 ⊢; omega, hc2⟩, ?_, ?_⟩
    ·simp [pob, svV, ho, I]
    ·simp [svO, List.map_append]
    ·simp [pob, svV, ho, I]
    ·simp [svO, List.map_append]
end Go.Av.Tryz
set_option linter.unusedSimpArgs false
set_option maxRecDepth 100000
set_option maxHeartbeats 4000000
namespace Go.Av.Tryz
open Go.Proofs
def setAt (s : List UInt8) : Option Nat :=
 if s = [84, 99] then some 9 else if s = [84, 119] then some 10 else if s = [84, 122] then some 11 else if s = [84, 76] then some 12 else if s = [84, 115] then some 13 else none
theorem j5i : Tryz.prog.underlying 108 = some (.map 9 106) := by kernel_rfl
def j0L (b : Nat) : List UE := [.m 3,
 .v 4 (.d (.addr (at_ b 0))), .v 5 (.d (.addr (at_ b 0))), .v 6 (.d (.addr (at_ b 1))), .v 7 (.d (.addr (at_ b 9))), .u [84, 99] (.addr (at_ b 9)),
 .v 8 (.d (.addr (at_ b 0))), .v 9 (.d (.addr (at_ b 0))), .v 10 (.d (.addr (at_ b 1))), .v 11 (.d (.addr (at_ b 10))), .u [84, 119] (.addr (at_ b 10)),
 .v 12 (.d (.addr (at_ b 0))), .v 13 (.d (.addr (at_ b 0))), .v 14 (.d (.addr (at_ b 1))), .v 15 (.d (.addr (at_ b 11))), .u [84, 122] (.addr (at_ b 11)),
 .v 16 (.d (.addr (at_ b 0))), .v 17 (.d (.addr (at_ b 0))), .v 18 (.d (.addr (at_ b 1))), .v 19 (.d (.addr (at_ b 12))), .u [84, 76] (.addr (at_ b 12)),
 .v 20 (.d (.addr (at_ b 0))), .v 21 (.d (.addr (at_ b 0))), .v 22 (.d (.addr (at_ b 1))), .v 23 (.d (.addr (at_ b 13))), .u [84, 115] (.addr (at_ b 13)),
 .v 24 (.mp (.l 3)), .v 2 (.mp (.l 3))]
def q1g : q0j :=
 .seq (.reg [Qx 2 (.k (.d (.map [] [])))]) (.seq (.fam [⟨some 3, .prim (.mkMap 108) [] [], none⟩, Qc 4 0, Q 5 (.nck (.t 4)), Q 6 (.fa 1 (.t 5)), Q 7 (.fa 8 (.t 6)), ⟨none, .prim 
 (.mapUpd 108) [.t 3, .k (.d (.str [84, 99])), .t 7] [], none⟩, Qc 8 0, Q 9 (.nck (.t 8)), Q 10 (.fa 1 (.t 9)), Q 11 (.fa 9 (.t 10)), ⟨none, .prim (.mapUpd 108) [.t 3, .k (.d 
 (.str [84, 119])), .t 11] [], none⟩, Qc 12 0, Q 13 (.nck (.t 12)), Q 14 (.fa 1 (.t 13)), Q 15 (.fa 10 (.t 14)), ⟨none, .prim (.mapUpd 108) [.t 3, .k (.d (.str [84, 122])), .t 15] 
 [], none⟩, Qc 16 0, Q 17 (.nck (.t 16)), Q 18 (.fa 1 (.t 17)), Q 19 (.fa 11 (.t 18)), ⟨none, .prim (.mapUpd 108) [.t 3, .k (.d (.str [84, 76])), .t 19] [], none⟩, Qc 20 0, Q 21 
 (.nck (.t 20)), Q 22 (.fa 1 (.t 21)), Q 23 (.fa 12 (.t 22)), ⟨none, .prim (.mapUpd 108) [.t 3, .k (.d (.str [84, 115])), .t 23] [], none⟩, Qc 24 3, Qa 2 24] [[], [], [1], [2], 
 [3], [0, 4], [], [6], [7], [8], [0, 9], [], [11], [12], [13], [0, 14], [], [16], [17], [18], [0, 19], [], [21], [22], [23], [0, 24], [0, 1, 2, 3, 4, 5, 6, 7, 8, 9, 10, 11, 12, 
 13, 14, 15, 16, 17, 18, 19, 20, 21, 22, 23, 24, 25], [26, 0, 1, 2, 3, 4, 5, 6, 7, 8, 9, 10, 11, 12, 13, 14, 15, 16, 17, 18, 19, 20, 21, 22, 23, 24, 25, 26]]) .ret)
def q1i : List LRes := [.tmp 2]
theorem q2z : q0t Tryz.prog 42 25 q1g q1i := ⟨_, _, Tryz.func42, rfl, by kernel_rfl, by kernel_rfl, rfl⟩
theorem z4V (b : Nat) : q0u Tryz.prog 42 [.addr (at_ b 0)] (fun r => ∃ ks vs, r = .one (.map ks vs) ∧ (∀ k ∈ ks, q0K .string k = true) ∧ ∀ s, q2x ks vs (.str s) = (setAt s).map fun o => .addr (at_ b o)) := by
 refine q2z.call rfl ?_
 simp (maxSteps := 2000000) only [go_sem, ↓reduceIte, q1g, q1i]
 refine j2I [(0, .d (.addr (at_ b 0)))] (j0L b) rfl j5i z8k (fun p hp => ?_) (fun p hp => ?_) (by kernel_rfl) (by kernel_rfl) rfl ?_ (fun b0 ks vs h1 h2 => ?_)
 ·simp at hp; subst hp; rfl
 ·simp at hp; subst hp; exact ⟨rfl, rfl⟩
 ·refine ⟨⟨rfl, rfl⟩, ⟨.inl ⟨_, rfl, rfl, rfl⟩, .inl rfl⟩, ⟨.inl ⟨_, rfl, rfl, rfl⟩, .inl rfl⟩, ⟨.inl ⟨_, rfl, rfl, rfl⟩, .inl rfl⟩, ⟨.inl ⟨_, rfl, rfl, rfl⟩, .inl rfl⟩, ⟨_, rfl, by simp, _, rfl, rfl⟩, ⟨.inl ⟨_, rfl, rfl, rfl⟩, .inl rfl⟩, ⟨.inl ⟨_, rfl, rfl, rfl⟩, .inl rfl⟩, ⟨.inl ⟨_, rfl, rfl, rfl⟩, .inl rfl⟩, ⟨.inl ⟨_, rfl, rfl, rfl⟩, .inl rfl⟩, ⟨_, rfl, by simp, _, rfl, rfl⟩, ⟨.inl ⟨_, rfl, rfl, rfl⟩, .inl rfl⟩, ⟨.inl ⟨_, rfl, rfl, rfl⟩, .inl rfl⟩, ⟨.inl ⟨_, rfl, rfl, rfl⟩, .inl rfl⟩, ⟨.inl ⟨_, rfl, rfl, rfl⟩, .inl rfl⟩, ⟨_, rfl, by simp, _, rfl, rfl⟩, ⟨.inl ⟨_, rfl, rfl, rfl⟩, .inl rfl⟩, ⟨.inl ⟨_, rfl, rfl, rfl⟩, .inl rfl⟩, ⟨.inl ⟨_, rfl, rfl, rfl⟩, .inl rfl⟩, ⟨.inl ⟨_, rfl, rfl, rfl⟩, .inl rfl⟩, ⟨_, rfl, by simp, _, rfl, rfl⟩, ⟨.inl ⟨_, rfl, rfl, rfl⟩, .inl rfl⟩, ⟨.inl ⟨_, rfl, rfl, rfl⟩, .inl rfl⟩, ⟨.inl ⟨_, rfl, rfl, rfl⟩, .inl rfl⟩, ⟨.inl ⟨_, rfl, rfl, rfl⟩, .inl rfl⟩, ⟨_, rfl, by simp, _, rfl, rfl⟩, ⟨.inl ⟨_, rfl, rfl, rfl⟩, .inr (by simp)⟩, ⟨.inr ⟨_, rfl, rfl, rfl⟩, .inr (by simp)⟩, trivial⟩
 ·refine ⟨_, GhoB.frzM (a := 3) (ks := ks) (vs := vs) rfl, ?_⟩
  simp (maxSteps := 2000000) only [go_sem, ↓reduceIte, q4G, j0L, List.filterMap_cons, List.filterMap_nil, UE.z1o, AV.frzM, amap]
  refine ⟨ks, vs, rfl, h2, fun s => ?_⟩
  rw [h1]
  simp only [j0L, entU, true_and, eq_comm (b := s), setAt]
  split
  ·rfl
  split
  ·rfl
  split
  ·rfl
  split
  ·rfl
  split <;> rfl
end Go.Av.Tryz
set_option linter.unusedSimpArgs false
set_option maxRecDepth 100000
set_option maxHeartbeats 4000000
namespace Go.Av.Tryz
open Go.Proofs
def ng (x : Int) : Int := IntKind.i64.wrap (0 - x)
def m6L (l : List Int) : M6 := (l.getD 0 0, l.getD 1 0, l.getD 2 0, l.getD 3 0, l.getD 4 0, l.getD 5 0)
def PT.nu (q : PT) (l : List Val) (k : Nat) : PT := q.er (kErr (q8v l k))
def PT.st (q : PT) (l : List Val) : PT := (q.er (kErr (strM l))).shw ((strM l).getD [])
def PT.ld (q : PT) (x : Int) : PT := { q with s := { q.s with lead := x } }
def PT.tj (q : PT) : List Val → PT
 | [v] => if v.kind = 5 then q.lst v.l else q.er 8
 | _ => q.er 8
def PT.ins (q : PT) (o : OpV) : PT :=
 if o.nm = [84, 100] then (q.nu o.args 2).mv ((q3T o.args 2).getD 0 0) ((q3T o.args 2).getD 1 0)
 else if o.nm = [84, 68] then ((q.nu o.args 2).ld (ng ((q3T o.args 2).getD 1 0))).mv ((q3T o.args 2).getD 0 0) ((q3T o.args 2).getD 1 0)
 else if o.nm = [84, 109] then { q.nu o.args 6 with tm := m6L (q3T o.args 6), lm := m6L (q3T o.args 6) }
 else if o.nm = [84, 42] then (q.nu o.args 0).mv 0 (ng (q.nu o.args 0).s.lead)
 else if o.nm = [84, 106] then q.st o.args
 else if o.nm = [39] then (q.mv 0 (ng q.s.lead)).st o.args
 else if o.nm = [84, 74] then q.tj o.args
 else q
theorem q6Q (l : List Val) (k : Nat) : (q3T l k).length = k := by
 unfold q3T q8v
 split
 ·rename_i h; exact h.1
 ·simp
theorem len2 {α : Type} {l : List α} (h : l.length = 2) : ∃ a b, l = [a, b] := by
 match l, h with
 | [a, b], _ => exact ⟨a, b, rfl⟩
theorem len6 {α : Type} {l : List α} (h : l.length = 6) : ∃ a b c d e f, l = [a, b, c, d, e, f] := by
 match l, h with
 | [a, b, c, d, e, f], _ => exact ⟨a, b, c, d, e, f, rfl⟩
structure OpV.ok (o : OpV) : Prop where
 n : o.args.length ≤ 1000
 s : ∀ v ∈ o.args, v.s.length ≤ 1000000 ∧ (v.kind = 2 → Lim v.n) ∧ v.l.length ≤ 100000 ∧ ∀ w ∈ v.l, w.s.length ≤ 1000000 ∧ (w.kind = 2 → Lim w.n)
theorem j0V {o : OpV} (ho : o.ok) : ((strM o.args).getD []).length ≤ 1000000 := by
 obtain ⟨nm, args⟩ := o
 match args, ho with
 | [], _ => simp [strM]
 | [v], ho =>
  simp only [strM]
  split
  ·exact (ho.s v (by simp)).1
  ·simp
 | _ :: _ :: _, _ => simp [strM]
theorem z7O {q : PT} (h : q.ok) (x y : Int) : (q.mv x y).ok := ⟨fun hb => h.out (q5R hb), h.font⟩
def q1m : q0j :=
 .seq (.reg [⟨some 3, .box (.t 1), none⟩]) (.seq (.reg [Q 6 (.fa 0 (.t 3)), Q 7 (.ld false 1 (.t 6))]) (.block 0 (.seq (.reg [Q 9 (.bin .eql (.t 7) (.k (.d (.str [84, 100])))), Qa 8 
 9]) (.cond (.t 8) (.seq (.reg [Qc 10 0, Q 11 (.ld true 2 (.t 3)), ⟨some 12, .prim .call [.k (.fn (.func 43) [] []), .t 10, .t 11, .k (.d (.int .i64 2))] [], none⟩, Qa 4 12]) 
 (.dreg [Qc 13 0, Qc 14 4, Q 15 (.ia 1 (.t 14) (Ki 0)), Q 16 (.ld false 1 (.t 15)), Qc 17 4, Q 18 (.ia 1 (.t 17) (Ki 1)), Q 19 (.ld false 1 (.t 18)), ⟨some 20, .prim .call [.k 
 (.fn (.func 68) [] []), .t 13, .t 16, .t 19] [], none⟩])) (.seq (.reg [Q 22 (.bin .eql (.t 7) (.k (.d (.str [84, 68])))), Qa 21 22]) (.cond (.t 21) (.seq (.reg [Qc 23 0, Q 24 
 (.ld true 2 (.t 3)), ⟨some 25, .prim .call [.k (.fn (.func 43) [] []), .t 23, .t 24, .k (.d (.int .i64 2))] [], none⟩, Qa 5 25]) (.seq (.reg [Qc 26 0, Qc 27 5, Q 28 (.ia 1 (.t 
 27) (Ki 1)), Q 29 (.ld false 1 (.t 28)), Q 30 (.neg (.t 29)), Q 31 (.nck (.t 26)), Q 32 (.fa 1 (.t 31)), Q 33 (.fa 11 (.t 32)), ⟨none, .st 1 (.t 33) (.t 30), none⟩]) (.dreg [Qc 
 34 0, Qc 35 5, Q 36 (.ia 1 (.t 35) (Ki 0)), Q 37 (.ld false 1 (.t 36)), Qc 38 5, Q 39 (.ia 1 (.t 38) (Ki 1)), Q 40 (.ld false 1 (.t 39)), ⟨some 41, .prim .call [.k (.fn (.func 
 68) [] []), .t 34, .t 37, .t 40] [], none⟩]))) (.seq (.reg [Q 43 (.bin .eql (.t 7) (.k (.d (.str [84, 109])))), Qa 42 43]) (.cond (.t 42) (.seq (.reg [Qc 44 0, Qc 45 0, Q 46 (.ld 
 true 2 (.t 3)), ⟨some 47, .prim .call [.k (.fn (.func 43) [] []), .t 45, .t 46, .k (.d (.int .i64 6))] [], none⟩, ⟨some 48, .call 46 [.t 47], none⟩, Q 49 (.nck (.t 44)), Q 50 
 (.fa 15 (.t 49)), ⟨none, .st 6 (.t 50) (.t 48), none⟩]) (.reg [Qc 51 0, Qc 52 0, Q 53 (.nck (.t 52)), Q 54 (.fa 15 (.t 53)), Q 55 (.ld true 6 (.t 54)), Q 56 (.nck (.t 51)), Q 57 
 (.fa 21 (.t 56)), ⟨none, .st 6 (.t 57) (.t 55), none⟩])) (.seq (.reg [Q 59 (.bin .eql (.t 7) (.k (.d (.str [84, 42])))), Qa 58 59]) (.cond (.t 58) (.seq (.reg [Qc 60 0, Q 61 (.ld 
 true 2 (.t 3)), ⟨some 62, .prim .call [.k (.fn (.func 43) [] []), .t 60, .t 61, .k (.d (.int .i64 0))] [], none⟩]) (.reg [Qc 63 0, Qc 64 0, Q 65 (.nck (.t 64)), Q 66 (.fa 1 (.t 
 65)), Q 67 (.fa 11 (.t 66)), Q 68 (.ld false 1 (.t 67)), Q 69 (.neg (.t 68)), ⟨some 70, .prim .call [.k (.fn (.func 68) [] []), .t 63, .k (.d (.int .i64 0)), .t 69] [], none⟩])) 
 (.seq (.reg [Q 72 (.bin .eql (.t 7) (.k (.d (.str [84, 106])))), Qa 71 72]) (.cond (.t 71) (.reg [Qc 73 0, Qc 74 0, Q 75 (.ld true 2 (.t 3)), ⟨some 76, .prim .call [.k (.fn 
 (.func 70) [] []), .t 74, .t 75, .k (.d (.int .i64 0))] [], none⟩, ⟨some 77, .prim .call [.k (.fn (.func 69) [] []), .t 73, .t 76] [], none⟩]) (.seq (.reg [Q 79 (.bin .eql (.t 7) 
 (.k (.d (.str [39])))), Qa 78 79]) (.cond (.t 78) (.seq (.reg [Qc 80 0, Qc 81 0, Q 82 (.nck (.t 81)), Q 83 (.fa 1 (.t 82)), Q 84 (.fa 11 (.t 83)), Q 85 (.ld false 1 (.t 84)), Q 
 86 (.neg (.t 85)), ⟨some 87, .prim .call [.k (.fn (.func 68) [] []), .t 80, .k (.d (.int .i64 0)), .t 86] [], none⟩]) (.reg [Qc 88 0, Qc 89 0, Q 90 (.ld true 2 (.t 3)), ⟨some 91, 
 .prim .call [.k (.fn (.func 70) [] []), .t 89, .t 90, .k (.d (.int .i64 0))] [], none⟩, ⟨some 92, .prim .call [.k (.fn (.func 69) [] []), .t 88, .t 91] [], none⟩])) (.seq (.reg 
 [Q 94 (.bin .eql (.t 7) (.k (.d (.str [84, 74])))), Qa 93 94]) (.cond (.t 93) (.seq (.seq (.reg [Q 95 (.fa 1 (.t 3)), Q 96 (.ld false 1 (.t 95)), Q 97 (.len false (.t 96)), Q 98 
 (.bin .neq (.t 97) (Ki 1)), Qc 99 98, Qg 100 (.fa 1 (.t 3)) 99 false, Qg 101 (.ld false 1 (.t 100)) 99 false, Qg 102 (.ia 5 (.t 101) (Ki 0)) 99 false, Qg 103 (.fa 0 (.t 102)) 99 
 false, Qg 104 (.ld false 1 (.t 103)) 99 false, Qg 105 (.bin .neq (.t 104) (Ki 5)) 99 false, Q 106 (.pick (.t 99) KT (.t 105))]) (.cond (.t 106) (.seq (.reg [Qc 107 0, Q 108 (.mkI 
 76 (Ki 8)), ⟨some 109, .prim .call [.k (.fn (.func 66) [] []), .t 107, .t 108] [], none⟩]) .ret) .skip)) (.reg [Qc 110 0, Q 111 (.fa 1 (.t 3)), Q 112 (.ld false 1 (.t 111)), Q 
 113 (.ia 5 (.t 112) (Ki 0)), Q 114 (.fa 3 (.t 113)), Q 115 (.ld false 1 (.t 114)), ⟨some 116, .prim .call [.k (.fn (.func 71) [] []), .t 110, .t 115] [], none⟩])) 
 .skip))))))))))))))))
def q1q : List LRes := []
theorem q2E : q0t Tryz.prog 49 117 q1m q1q := ⟨_, _, Tryz.func49, rfl, by kernel_rfl, by kernel_rfl, rfl⟩
theorem j4l (fd : D) (q : PT) (c : Option Nat) (o : OpV) (hq : q.ok) (ho : o.ok) {m : Option AObj} (hm : rowM m = true) :
  MVE Tryz.prog 49 [.ptr (.x 0) 0, .d o.d] [pob fd q c] m (.tuple []) [pob fd (q.ins o) c] m := by
 refine q2E.mv (by kernel_rfl) rfl rfl ?_
 generalize hM : mob m = M
 have ha : aget M 1000 = m := hM ▸ q0O m
 have hn := hm
 unfold rowM at hn
 have hMM : ∀ o : AObj, Sub ((0, o) :: M) ((0, o) :: M) := fun o => hM ▸ subM o m
 obtain ⟨nm, args⟩ := o
 have hvl := q2k args
 simp (maxSteps := 2000000) only [go_sem, ↓reduceIte, q1m, q1q, I, OpV.d]
 refine ⟨fun h1 => ?_, fun h1 => ?_⟩
 ·have e : q.ins ⟨nm, args⟩ = (q.nu args 2).mv ((q3T args 2).getD 0 0) ((q3T args 2).getD 1 0) := by simp only [PT.ins]; rw [if_pos h1]
  rw [e]
  refine q0b.poM rfl (q68 fd q c ⟨nm, args⟩ 2 ho.n (by decide) hm) (q0d _ _ _) (q0d _ _ _) hm hM rfl rfl rfl ⟨⟨rfl, rfl⟩, rfl⟩ ?_
  rw [PT.nu]
  obtain ⟨a, b, hab⟩ := len2 (q6Q args 2)
  simp only [hab]
  generalize q.er (kErr (q8v args 2)) = q1
  simp (maxSteps := 2000000) only [go_sem, ↓reduceIte, nmD, List.getD_cons_zero, List.getD_cons_succ]
  refine q0b.poM rfl (j2n fd q1 c a b hm) (q0d _ _ _) (q0d _ _ _) hm hM rfl rfl rfl ⟨⟨rfl, rfl⟩, rfl⟩ ?_
  simp (maxSteps := 2000000) only [go_sem, ↓reduceIte, ha, hn]
 refine ⟨fun h2 => ?_, fun h2 => ?_⟩
 ·have e : q.ins ⟨nm, args⟩ = ((q.nu args 2).ld (ng ((q3T args 2).getD 1 0))).mv ((q3T args 2).getD 0 0) ((q3T args 2).getD 1 0) := by simp only [PT.ins]; rw [if_neg h1, if_pos h2]
  rw [e]
  refine q0b.poM rfl (q68 fd q c ⟨nm, args⟩ 2 ho.n (by decide) hm) (q0d _ _ _) (q0d _ _ _) hm hM rfl rfl rfl ⟨⟨rfl, rfl⟩, rfl⟩ ?_
  rw [PT.nu]
  obtain ⟨a, b, hab⟩ := len2 (q6Q args 2)
  simp only [hab]
  generalize q.er (kErr (q8v args 2)) = q1
  simp only [List.getD_cons_zero, List.getD_cons_succ]
  generalize hE : pob fd ((q1.ld (ng b)).mv a b) c = oE
  simp (maxSteps := 2000000) only [go_sem, ↓reduceIte, nmD, pob, I]
  refine q0b.poM rfl (j2n fd (q1.ld (ng b)) c a b hm) (q0d _ _ _) (q0d _ _ _) hm hM rfl rfl rfl ⟨⟨rfl, rfl⟩, rfl⟩ ?_
  simp (maxSteps := 2000000) only [go_sem, ↓reduceIte, ha, hn]
  exact congrArg (fun x => [x]) hE
 refine ⟨fun h3 => ?_, fun h3 => ?_⟩
 ·have e : q.ins ⟨nm, args⟩ = { q.nu args 6 with tm := m6L (q3T args 6), lm := m6L (q3T args 6) } := by simp only [PT.ins]; rw [if_neg h1, if_neg h2, if_pos h3]
  rw [e]
  refine q0b.poM rfl (q68 fd q c ⟨nm, args⟩ 6 ho.n (by decide) hm) (q0d _ _ _) (q0d _ _ _) hm hM rfl rfl rfl ⟨⟨rfl, rfl⟩, rfl⟩ ?_
  rw [PT.nu]
  obtain ⟨a1, a2, a3, a4, a5, a6, hab⟩ := len6 (q6Q args 6)
  simp only [hab]
  generalize q.er (kErr (q8v args 6)) = q1
  simp (maxSteps := 2000000) only [go_sem, ↓reduceIte, nmD]
  refine q0k.of (j0r a1 a2 a3 a4 a5 a6) ?_
  simp (maxSteps := 2000000) only [go_sem, ↓reduceIte, pob, m6D, mat, I, m6L, List.getD_cons_zero, List.getD_cons_succ, ha, hn]
 refine ⟨fun h4 => ?_, fun h4 => ?_⟩
 ·have e : q.ins ⟨nm, args⟩ = (q.nu args 0).mv 0 (ng (q.nu args 0).s.lead) := by simp only [PT.ins]; rw [if_neg h1, if_neg h2, if_neg h3, if_pos h4]
  rw [e]
  refine q0b.poM rfl (q68 fd q c ⟨nm, args⟩ 0 ho.n (by decide) hm) (q0d _ _ _) (q0d _ _ _) hm hM rfl rfl rfl ⟨⟨rfl, rfl⟩, rfl⟩ ?_
  rw [PT.nu]
  generalize q.er (kErr (q8v args 0)) = q1
  generalize hE : pob fd (q1.mv 0 (ng q1.s.lead)) c = oE
  simp (maxSteps := 2000000) only [go_sem, ↓reduceIte, nmD, pob, I]
  refine q0b.poM rfl (j2n fd q1 c 0 (ng q1.s.lead) hm) (q0d _ _ _) (q0d _ _ _) hm hM rfl rfl rfl ⟨⟨rfl, rfl⟩, rfl⟩ ?_
  simp (maxSteps := 2000000) only [go_sem, ↓reduceIte, ha, hn]
  exact congrArg (fun x => [x]) hE
 refine ⟨fun h5 => ?_, fun h5 => ?_⟩
 ·have e : q.ins ⟨nm, args⟩ = q.st args := by simp only [PT.ins]; rw [if_neg h1, if_neg h2, if_neg h3, if_neg h4, if_pos h5]
  rw [e]
  refine q0b.poM rfl (pstr fd q c ⟨nm, args⟩ ho.n hm) (q0d _ _ _) (q0d _ _ _) hm hM rfl rfl rfl ⟨⟨rfl, rfl⟩, rfl⟩ ?_
  rw [PT.st]
  have hs := j0V ho
  have hq1 := q6E hq (kErr (strM args))
  generalize q.er (kErr (strM args)) = q1 at *
  generalize (strM args).getD [] = s1 at *
  simp (maxSteps := 2000000) only [go_sem, ↓reduceIte]
  refine q0b.poM rfl (j4p fd q1 c s1 hq1 hs hm) (q0d _ _ _) (q0d _ _ _) hm hM rfl rfl rfl ⟨⟨rfl, rfl⟩, rfl⟩ ?_
  simp (maxSteps := 2000000) only [go_sem, ↓reduceIte, ha, hn]
 refine ⟨fun h6 => ?_, fun h6 => ?_⟩
 ·have e : q.ins ⟨nm, args⟩ = (q.mv 0 (ng q.s.lead)).st args := by simp only [PT.ins]; rw [if_neg h1, if_neg h2, if_neg h3, if_neg h4, if_neg h5, if_pos h6]
  rw [e]
  generalize hE : pob fd ((q.mv 0 (ng q.s.lead)).st args) c = oE
  simp (maxSteps := 2000000) only [go_sem, ↓reduceIte, pob, I]
  refine q0b.poM rfl (j2n fd q c 0 (ng q.s.lead) hm) (q0d _ _ _) (q0d _ _ _) hm hM rfl rfl rfl ⟨⟨rfl, rfl⟩, rfl⟩ ?_
  have hq0 := z7O hq 0 (ng q.s.lead)
  generalize q.mv 0 (ng q.s.lead) = q0 at *
  simp (maxSteps := 2000000) only [go_sem, ↓reduceIte]
  refine q0b.poM rfl (pstr fd q0 c ⟨nm, args⟩ ho.n hm) (q0d _ _ _) (q0d _ _ _) hm hM rfl rfl rfl ⟨⟨rfl, rfl⟩, rfl⟩ ?_
  rw [PT.st] at hE
  have hs := j0V ho
  have hq1 := q6E hq0 (kErr (strM args))
  generalize q0.er (kErr (strM args)) = q1 at *
  generalize (strM args).getD [] = s1 at *
  simp (maxSteps := 2000000) only [go_sem, ↓reduceIte]
  refine q0b.poM rfl (j4p fd q1 c s1 hq1 hs hm) (q0d _ _ _) (q0d _ _ _) hm hM rfl rfl rfl ⟨⟨rfl, rfl⟩, rfl⟩ ?_
  simp (maxSteps := 2000000) only [go_sem, ↓reduceIte, ha, hn]
  exact congrArg (fun x => [x]) hE
 refine ⟨fun h7 => ?_, fun h7 => ?_⟩
 ·have e : q.ins ⟨nm, args⟩ = q.tj args := by simp only [PT.ins]; rw [if_neg h1, if_neg h2, if_neg h3, if_neg h4, if_neg h5, if_neg h6, if_pos h7]
  rw [e]
  simp (maxSteps := 2000000) (disch := omega) only [go_sem, ↓reduceIte, hvl]
  refine ⟨fun h8 => ?_, fun h8 => ?_⟩
  ·obtain ⟨v, rfl⟩ : ∃ v, args = [v] := by
    match args, h8 with
    | [v], _ => exact ⟨v, rfl⟩
    | [], h8 => simp at h8
    | _ :: _ :: _, h8 => simp at h8; omega
   have hg : getI (q05 [v]) 0 = some v.d := rfl
   simp (maxSteps := 2000000) (disch := omega) only [go_sem, ↓reduceIte, hg, Val.d_eq]
   refine ⟨fun h9 => ?_, fun h9 => ?_⟩
   ·have e2 : q.tj [v] = q.er 8 := if_neg h9
    rw [e2]
    refine q0b.poM rfl (q5S fd q c 8 hm) (q0d _ _ _) (q0d _ _ _) hm hM rfl rfl rfl ⟨⟨rfl, rfl⟩, rfl⟩ ?_
    simp (maxSteps := 2000000) only [go_sem, ↓reduceIte, ha, hn]
   ·have e2 : q.tj [v] = q.lst v.l := if_pos h9
    rw [e2]
    have hv := ho.s v (by simp)
    refine q0b.poM rfl (j57 fd q c v.l hq hv.2.2.1 hv.2.2.2 hm) (q0d _ _ _) (q0d _ _ _) hm hM rfl rfl rfl ⟨⟨rfl, rfl⟩, rfl⟩ ?_
    simp (maxSteps := 2000000) only [go_sem, ↓reduceIte, ha, hn]
  ·have e2 : q.tj args = q.er 8 := by
    match args, h8 with
    | [v], h8 => simp at h8
    | [], _ => rfl
    | _ :: _ :: _, _ => rfl
   rw [e2]
   refine q0b.poM rfl (q5S fd q c 8 hm) (q0d _ _ _) (q0d _ _ _) hm hM rfl rfl rfl ⟨⟨rfl, rfl⟩, rfl⟩ ?_
   simp (maxSteps := 2000000) only [go_sem, ↓reduceIte, ha, hn]
 ·have e : q.ins ⟨nm, args⟩ = q := by simp only [PT.ins]; rw [if_neg h1, if_neg h2, if_neg h3, if_neg h4, if_neg h5, if_neg h6, if_neg h7]
  rw [e]
  simp (maxSteps := 2000000) only [go_sem, ↓reduceIte, ha, hn]
end Go.Av.Tryz
set_option linter.unusedSimpArgs false
set_option maxRecDepth 100000
set_option maxHeartbeats 4000000
namespace Go.Av.Tryz
open Go.Proofs
def PT.setN (q : PT) (k : Nat) (x : Int) : PT :=
 { q with s := { q.s with char := if k = 9 then x else q.s.char, word := if k = 10 then x else q.s.word, scale := if k = 11 then x else q.s.scale, lead := if k = 12 then x else q.s.lead, rise := if k = 13 then x else q.s.rise } }
def PT.cm (q : PT) (m : M6) : PT := { q.er (errO (catF m q.s.ctm)) with s := { q.s with ctm := (catF m q.s.ctm).getD m60 } }
def PT.dop (q : PT) (fl : Fl) (o : OpV) : PT :=
 match setAt o.nm with
 | some k => (q.nu o.args 1).setN k (if o.nm = [84, 122] then IntKind.i64.wrap (((q3T o.args 1).getD 0 0).tdiv 100) else (q3T o.args 1).getD 0 0)
 | none => if o.nm = [113] ∨ o.nm = [81] then q.sv (decide (o.nm = [81]))
  else if o.nm = [99, 109] then (q.nu o.args 6).cm (m6L (q3T o.args 6))
  else if o.nm = [66, 84] ∨ o.nm = [69, 84] then q.tx (decide (o.nm = [66, 84]))
  else if o.nm = [84, 102] then q.chs fl o.args
  else q.ins o
theorem ptrZ : Program.zeroOf Tryz.prog 106 = some .nilp := by kernel_rfl
def doZ (b : Nat) (nm : List UInt8) (x : List D × List D) (i : Nat) : AV :=
 match i with
 | 0 => .d (.addr (at_ b 0))
 | 1 => .d (.map x.1 x.2)
 | 2 => .ptr (.l 3) 0
 | 3 => .d (.str nm)
 | 4 => .tuple [.d (((setAt nm).map fun o => D.addr (at_ b o)).getD .nilp), .d (.bool ((setAt nm).map fun o => D.addr (at_ b o)).isSome)]
 | 5 => .tuple [.d (((setAt nm).map fun o => D.addr (at_ b o)).getD .nilp), .d (.bool ((setAt nm).map fun o => D.addr (at_ b o)).isSome)]
 | 6 => .d (((setAt nm).map fun o => D.addr (at_ b o)).getD .nilp)
 | 7 => .d (.bool ((setAt nm).map fun o => D.addr (at_ b o)).isSome)
 | 8 => .d (((setAt nm).map fun o => D.addr (at_ b o)).getD .nilp)
 | _ => .d (.bool ((setAt nm).map fun o => D.addr (at_ b o)).isSome)
def doΦ (b : Nat) (x : List D × List D) : Prop := (∀ k ∈ x.1, q0K .string k = true) ∧ ∀ s, q2x x.1 x.2 (.str s) = (setAt s).map fun o => .addr (at_ b o)
theorem q8H (q : PT) (b : Bool) : (q.tx b).saved = q.saved := by
 unfold PT.tx; split <;> rfl
theorem z0t (q : PT) (fl : Fl) (l : List Val) : (q.chs fl l).saved = q.saved := by
 unfold PT.chs
 split
 ·split
  ·split <;> rfl
  ·rfl
 ·rfl
theorem z4Y {q : PT} (h : q.ok) (t : List UInt8) : (q.shw t).saved = q.saved := by
 unfold PT.shw
 split
 ·split
  ·split
   ·exact (z4f h _).2.2.2.1
   ·rfl
  ·rfl
 ·rfl
theorem z9T {q : PT} (h : q.ok) (l : List Val) : (q.lst l).saved = q.saved := by
 induction l generalizing q with
 | nil => rfl
 | cons v l ih =>
  rw [PT.lst, ih (j3h h v)]
  unfold PT.ls1
  split
  ·exact z4Y h _
  ·split <;> rfl
theorem z7j {q : PT} (h : q.ok) (l : List Val) : (q.st l).saved = q.saved := z4Y (q6E h _) _
theorem j2V {q : PT} (h : q.ok) (l : List Val) : (q.tj l).saved = q.saved := by
 unfold PT.tj
 split
 ·split
  ·exact z9T h _
  ·rfl
 ·rfl
theorem z0I (q : PT) (h : q.ok) (o : OpV) : (q.ins o).saved = q.saved := by
 unfold PT.ins
 split
 ·rfl
 split
 ·rfl
 split
 ·rfl
 split
 ·rfl
 split
 ·exact z7j h _
 split
 ·exact z7j (z7O h _ _) _
 split
 ·exact j2V h _
 ·rfl
theorem z6k {s : List UInt8} {k : Nat} (h : setAt s = some k) : (k = 11 ∧ s = [84, 122]) ∨ (¬ s = [84, 122] ∧ (k = 9 ∨ k = 10 ∨ k = 12 ∨ k = 13)) := by
 unfold setAt at h
 split at h
 ·rename_i e; subst e; cases h; exact .inr ⟨by decide, .inl rfl⟩
 split at h
 ·rename_i e; subst e; cases h; exact .inr ⟨by decide, .inr (.inl rfl)⟩
 split at h
 ·rename_i e; cases h; exact .inl ⟨rfl, e⟩
 split at h
 ·rename_i e; subst e; cases h; exact .inr ⟨by decide, .inr (.inr (.inl rfl))⟩
 split at h
 ·rename_i e; subst e; cases h; exact .inr ⟨by decide, .inr (.inr (.inr rfl))⟩
 ·cases h
theorem j28 (b : Nat) : ∃ x, doΦ b x := by
 refine ⟨([.str [84, 99], .str [84, 119], .str [84, 122], .str [84, 76], .str [84, 115]], [.addr (at_ b 9), .addr (at_ b 10), .addr (at_ b 11), .addr (at_ b 12), .addr (at_ b 13)]), fun k hk => ?_, fun s => ?_⟩
 ·simp at hk; rcases hk with rfl | rfl | rfl | rfl | rfl <;> rfl
 ·simp only [q2x, q8Z, beq_iff_eq, setAt]
  split
  ·rfl
  split
  ·rfl
  split
  ·rfl
  split
  ·rfl
  split <;> rfl
def q11 : q0j :=
 .seq (.reg [⟨some 3, .box (.t 1), none⟩]) (.seq (.fam [Qc 7 0, ⟨some 8, .prim .call [.k (.fn (.func 42) [] []), .t 7] [], none⟩, Q 9 (.fa 0 (.t 3)), Q 10 (.ld false 1 (.t 9)), 
 ⟨some 11, .prim (.lookup 108 true) [.t 8, .t 10] [], none⟩, Qc 6 11, Q 12 (.ext 0 (.t 6)), Q 13 (.ext 1 (.t 6)), Qa 4 12, Qa 5 13] [[], [0], [], [2], [1, 3], [4], [5], [5], [6, 
 1, 0, 1, 2, 3, 4, 5, 6], [7, 8, 0, 1, 2, 3, 4, 5, 6, 7, 8]]) (.block 0 (.seq (.reg [Qc 18 5, Qa 17 18]) (.cond (.t 17) (.seq (.reg [Qc 19 4, Qc 20 0, Q 21 (.ld true 2 (.t 3)), 
 ⟨some 22, .prim .call [.k (.fn (.func 43) [] []), .t 20, .t 21, .k (.d (.int .i64 1))] [], none⟩, Q 23 (.ia 1 (.t 22) (Ki 0)), Q 24 (.ld false 1 (.t 23)), Q 25 (.nck (.t 19)), 
 ⟨none, .st 1 (.t 25) (.t 24), none⟩]) (.seq (.reg [Q 26 (.fa 0 (.t 3)), Q 27 (.ld false 1 (.t 26)), Q 28 (.bin .eql (.t 27) (.k (.d (.str [84, 122]))))]) (.cond (.t 28) (.reg [Qc 
 29 4, Q 30 (.nck (.t 29)), Q 31 (.ld false 1 (.t 30)), Q 32 (.bin .quo (.t 31) (Ki 100)), Q 33 (.nck (.t 29)), ⟨none, .st 1 (.t 33) (.t 32), none⟩]) .skip))) (.seq (.reg [Q 35 
 (.fa 0 (.t 3)), Q 36 (.ld false 1 (.t 35)), Q 37 (.bin .eql (.t 36) (.k (.d (.str [113])))), Qc 38 37, Qg 39 (.fa 0 (.t 3)) 38 false, Qg 40 (.ld false 1 (.t 39)) 38 false, Qg 41 
 (.bin .eql (.t 40) (.k (.d (.str [81])))) 38 false, Q 42 (.pick (.t 38) KT (.t 41)), Qa 34 42]) (.cond (.t 34) (.reg [Qc 43 0, Q 44 (.fa 0 (.t 3)), Q 45 (.ld false 1 (.t 44)), Q 
 46 (.bin .eql (.t 45) (.k (.d (.str [81])))), ⟨some 47, .prim .call [.k (.fn (.func 44) [] []), .t 43, .t 46] [], none⟩]) (.seq (.reg [Q 49 (.fa 0 (.t 3)), Q 50 (.ld false 1 (.t 
 49)), Q 51 (.bin .eql (.t 50) (.k (.d (.str [99, 109])))), Qa 48 51]) (.cond (.t 48) (.fam [Qc 52 0, Qc 53 0, Qc 54 0, Q 55 (.ld true 2 (.t 3)), ⟨some 56, .prim .call [.k (.fn 
 (.func 43) [] []), .t 54, .t 55, .k (.d (.int .i64 6))] [], none⟩, ⟨some 57, .call 46 [.t 56], none⟩, Qc 58 0, Q 59 (.nck (.t 58)), Q 60 (.fa 1 (.t 59)), Q 61 (.fa 0 (.t 60)), Q 
 62 (.ld true 6 (.t 61)), ⟨some 63, .prim .call [.k (.fn (.func 45) [] []), .t 53, .t 57, .t 62] [], none⟩, Q 64 (.nck (.t 52)), Q 65 (.fa 1 (.t 64)), Q 66 (.fa 0 (.t 65)), ⟨none, 
 .st 6 (.t 66) (.t 63), none⟩] [[], [], [], [], [2, 3], [4, 4], [], [6], [7], [8], [9], [1, 5, 10, 5], [0, 0, 1, 2, 3, 4, 5, 6, 7, 8, 9, 10, 11], [12, 0, 1, 2, 3, 4, 5, 6, 7, 8, 
 9, 10, 11], [13, 0, 1, 2, 3, 4, 5, 6, 7, 8, 9, 10, 11], [14, 11, 11, 0, 1, 2, 3, 4, 5, 6, 7, 8, 9, 10, 11]]) (.seq (.reg [Q 68 (.fa 0 (.t 3)), Q 69 (.ld false 1 (.t 68)), Q 70 
 (.bin .eql (.t 69) (.k (.d (.str [66, 84])))), Qc 71 70, Qg 72 (.fa 0 (.t 3)) 71 false, Qg 73 (.ld false 1 (.t 72)) 71 false, Qg 74 (.bin .eql (.t 73) (.k (.d (.str [69, 84])))) 
 71 false, Q 75 (.pick (.t 71) KT (.t 74)), Qa 67 75]) (.cond (.t 67) (.reg [Qc 76 0, Q 77 (.fa 0 (.t 3)), Q 78 (.ld false 1 (.t 77)), Q 79 (.bin .eql (.t 78) (.k (.d (.str [66, 
 84])))), ⟨some 80, .prim .call [.k (.fn (.func 47) [] []), .t 76, .t 79] [], none⟩]) (.seq (.reg [Q 82 (.fa 0 (.t 3)), Q 83 (.ld false 1 (.t 82)), Q 84 (.bin .eql (.t 83) (.k (.d 
 (.str [84, 102])))), Qa 81 84]) (.cond (.t 81) (.reg [Qc 85 0, Q 86 (.ld true 2 (.t 3)), ⟨some 87, .prim .call [.k (.fn (.func 48) [] []), .t 85, .t 86] [], none⟩]) (.reg [Qc 14 
 0, Q 15 (.ld true 2 (.t 3)), ⟨some 16, .prim .call [.k (.fn (.func 49) [] []), .t 14, .t 15] [], none⟩])))))))))))))
def q13 : List LRes := []
theorem q3g : q0t Tryz.prog 31 88 q11 q13 := ⟨_, _, Tryz.func31, rfl, by kernel_rfl, by kernel_rfl, rfl⟩
theorem pdo (fl : Fl) (q : PT) (c : Option Nat) (hc : svOK q c) (hs8 : q.saved.length ≤ 8) (o : OpV) (hq : q.ok) (ho : o.ok) :
  MV Tryz.prog 31 [.ptr (.x 0) 0, .d o.d] [pob (q0W fl) q c] (svO q.saved c) (fun r hs' m' => r = .tuple [] ∧ ∃ o', hs' = [o'] ∧ z6u (q0W fl) (q.dop fl o) o' m') := by
 have hcs : ∀ q' : PT, q'.saved = q.saved → svOK q' c := fun q' h => by cases c <;> simpa only [svOK, h] using hc
 have hm := z2B q.saved c
 generalize hmm : svO q.saved c = m at *
 refine q3g.mv (by kernel_rfl) rfl rfl ?_
 generalize hM : mob m = M
 have ha : aget M 1000 = m := hM ▸ q0O m
 have hn := hm
 unfold rowM at hn
 have hMM : ∀ o : AObj, Sub ((0, o) :: M) ((0, o) :: M) := fun o => hM ▸ subM o m
 obtain ⟨nm, args⟩ := o
 simp (maxSteps := 2000000) only [go_sem, ↓reduceIte, q11, q13, OpV.d]
 refine fun b0 => j3V b0 ⟨[(0, .d (.addr (at_ (b0 0) 0))), (3, .ptr (.l 3) 0)], _, _⟩ (GhoB.j2M fun G w hG t y ht => ?_) (doΦ (b0 0)) ?_ [(0, .d (.addr (at_ (b0 0) 0))), (3, .ptr (.l 3) 0)] [7, 8, 9, 10, 11, 6, 12, 13, 4, 5] (doZ (b0 0) nm) 1 rfl (by decide) (by decide) (fun p hp => ?_) (fun p hp => ?_) (fun j hj => ?_) (fun i d o hl hd hi x hx τ N hk hL hH hN => ?_) (fun d o hl hd τ N hk hL hH hN => ?_) (fun x hx => ?_)
 ·by_cases h0 : 0 = t
  ·subst h0; cases ht; exact ⟨_, rfl, j1g hG 0⟩
  ·by_cases h3 : 3 = t
   ·subst h3; cases ht; exact ⟨_, rfl, fun _ h => h⟩
   ·simp [aget, h0, h3] at ht
 ·exact j28 _
 ·simp at hp; rcases hp with rfl | rfl <;> rfl
 ·simp at hp; rcases hp with rfl | rfl <;> rfl
 ·match j with
  | 0 => exact .inl fun _ _ => rfl
  | 1 => exact .inr (.inl rfl)
  | 2 => exact .inl fun _ _ => rfl
  | 3 => exact .inl fun _ _ => rfl
  | 4 => exact .inl fun _ _ => rfl
  | 5 => exact .inl fun _ _ => rfl
  | 6 => exact .inl fun _ _ => rfl
  | 7 => exact .inl fun _ _ => rfl
  | 8 => exact .inl fun _ _ => rfl
  | n + 9 => exact .inl fun _ _ => rfl
 ·have e0 := hk (0, .d (.addr (at_ (b0 0) 0))) (by simp [q47])
  have e3 := hk (3, .ptr (.l 3) 0) (by simp [q47])
  simp only at e0 e3 hL hH
  match i, hl, hd, hi, hk, hN with
  | 0, hl, hd, _, hk, hN =>
   cases hl; cases hd
   exact q6F (z := doZ (b0 0) nm x 0) (by simp (maxSteps := 2000000) only [go_sem, ↓reduceIte, e0, doZ]) hN
  | 1, _, _, hi, _, _ => exact absurd rfl hi
  | 2, hl, hd, _, hk, hN =>
   cases hl; cases hd
   exact q6F (z := doZ (b0 0) nm x 2) (by simp (maxSteps := 2000000) only [go_sem, ↓reduceIte, e3, doZ]) hN
  | 3, hl, hd, _, hk, hN =>
   cases hl; cases hd
   have e9 := hk (9, .ptr (.l 3) 0) (by simp [q47, doZ])
   simp only at e9
   exact q6F (z := doZ (b0 0) nm x 3) (by simp (maxSteps := 2000000) only [go_sem, ↓reduceIte, e9, hL, doZ]) hN
  | 4, hl, hd, _, hk, hN =>
   cases hl; cases hd
   have e8 := hk (8, .d (.map x.1 x.2)) (by simp [q47, doZ])
   have e10 := hk (10, .d (.str nm)) (by simp [q47, doZ])
   refine q8f (q0b.lookup (ks := x.1) (vs := x.2) (key := .str nm) (q44 e8) (q44 e10) j5i z8k rfl hx.1 ptrZ ?_)
   rw [hx.2]; exact hN
  | 5, hl, hd, _, hk, hN =>
   cases hl; cases hd
   have e11 := hk (11, doZ (b0 0) nm x 4) (by simp [q47])
   simp only [doZ] at e11
   exact q6F (z := doZ (b0 0) nm x 5) (by simp (maxSteps := 2000000) only [go_sem, ↓reduceIte, e11, doZ]) hN
  | 6, hl, hd, _, hk, hN =>
   cases hl; cases hd
   have e6 := hk (6, doZ (b0 0) nm x 5) (by simp [q47])
   simp only [doZ] at e6
   exact q6F (z := doZ (b0 0) nm x 6) (by simp (maxSteps := 2000000) only [go_sem, ↓reduceIte, e6, doZ]) hN
  | 7, hl, hd, _, hk, hN =>
   cases hl; cases hd
   have e6 := hk (6, doZ (b0 0) nm x 5) (by simp [q47])
   simp only [doZ] at e6
   exact q6F (z := doZ (b0 0) nm x 7) (by simp (maxSteps := 2000000) only [go_sem, ↓reduceIte, e6, doZ]) hN
  | 8, hl, hd, _, hk, hN =>
   cases hl; cases hd
   have e12 := hk (12, doZ (b0 0) nm x 6) (by simp [q47])
   refine z5w ?_
   rw [show τ.ev (.t 12) = _ from q44 e12]
   exact hN
  | 9, hl, hd, _, hk, hN =>
   cases hl; cases hd
   have e13 := hk (13, doZ (b0 0) nm x 7) (by simp [q47])
   refine z5w ?_
   rw [show τ.ev (.t 13) = _ from q44 e13]
   exact hN
 ·cases hl; cases hd
  obtain ⟨x, hx⟩ := j28 (b0 0)
  have e7 := hk x hx (7, .d (.addr (at_ (b0 0) 0))) (by simp [q47, doZ])
  refine q8f (q0b.j55 (ds := [.addr (at_ (b0 0) 0)]) rfl (z4V (b0 0)) (by kernel_rfl) ?_ (fun y ⟨ks, vs, h1, h2, h3⟩ => ?_) (fun r ⟨ks, vs, h1, _⟩ => ⟨_, h1⟩))
  ·simp only [evL, List.map_cons, List.map_nil]
   exact congrArg (fun z => [z]) (q44 e7)
  ·cases h1
   exact hN (ks, vs) ⟨h2, h3⟩
 ·cases hk : setAt nm with
  | none =>
   refine ⟨⟨[(0, .ptr (.x 0) 0), (3, .ptr (.l 3) 0), (4, .d .nilp), (5, .d (.bool false))], _, _⟩, GhoB.j2M fun G w hG t y ht => ?_, ?_⟩
   ·by_cases h0 : 0 = t
    ·subst h0; cases ht; exact ⟨_, rfl, z5d hG 0⟩
    ·by_cases h3 : 3 = t
     ·subst h3; cases ht; exact ⟨_, rfl, fun _ h => h⟩
     ·by_cases h4 : 4 = t
      ·subst h4; cases ht; exact ⟨_, rfl, fun _ h => by simpa [doZ, hk] using h⟩
      ·by_cases h5 : 5 = t
       ·subst h5; cases ht; exact ⟨_, rfl, fun _ h => by simpa [doZ, hk] using h⟩
       ·simp [aget, h0, h3, h4, h5] at ht
   ·show POP Tryz.prog .normal _ _ _
    simp (maxSteps := 2000000) only [go_sem, ↓reduceIte]
    refine ⟨fun h1 => ⟨fun h2 => ?_, fun h2 => ?_⟩, fun h1 => ?_⟩
    ·have e : q.dop fl ⟨nm, args⟩ = q.sv (decide (nm = [81])) := by simp only [PT.dop, hk]; rw [if_pos (.inr h2)]
     rw [e]
     refine q0b.poP (Post := z6u (q0W fl) (q.sv (decide (nm = [81])))) rfl (by rw [← hmm]; exact j5v (q0W fl) q c hc hs8 (decide (nm = [81]))) (q0d _ _ _) hm hM rfl rfl rfl ⟨⟨rfl, rfl⟩, rfl⟩ (fun o1 m1 hp => ?_)
     obtain ⟨c1, hc1, rfl, rfl⟩ := hp
     have hn1 := z2B (q.sv (decide (nm = [81]))).saved c1
     unfold rowM at hn1
     refine ⟨q0d _ _ _, ?_⟩
     have ha1 := q0O (svO (q.sv (decide (nm = [81]))).saved c1)
     generalize mob (svO (q.sv (decide (nm = [81]))).saved c1) = M1 at *
     simp (maxSteps := 2000000) only [go_sem, ↓reduceIte, ha1, hn1]
     exact ⟨_, rfl, c1, hc1, rfl, rfl⟩
    ·refine ⟨fun h3 => ?_, fun h3 => ?_⟩
     ·have e : q.dop fl ⟨nm, args⟩ = (q.nu args 6).cm (m6L (q3T args 6)) := by simp only [PT.dop, hk]; rw [if_neg (fun h => h.elim h1 h2), if_pos h3]
      rw [e]
      have hnum : MVE Tryz.prog 43 [.ptr (.x 0) 0, .d (OpV.d ⟨nm, args⟩), .d (I 6)] [pX (q0W fl) q c q.bad] m (.d (.list (nmD (q3T args 6)))) [pX (q0W fl) q c (orE q.bad (kErr (q8v args 6)))] m := q68 (q0W fl) (q.wb q.bad) c ⟨nm, args⟩ 6 ho.n (by decide) hm
      have hcat : ∀ n a b, MVE Tryz.prog 45 [.ptr (.x 0) 0, .d (m6D a), .d (m6D b)] [pX (q0W fl) q c n] m (.d (m6D ((catF a b).getD m60))) [pX (q0W fl) q c (orE n (errO (catF a b)))] m := fun n a b => z3k (q0W fl) (q.wb n) c a b hm
      obtain ⟨a1, a2, a3, a4, a5, a6, hab⟩ := len6 (q6Q args 6)
      rw [hab] at hnum
      refine z2w (pX (q0W fl) q c) M 12 [0, 3] [] q.bad (by kernel_rfl) rfl rfl rfl ?_
      simp (maxSteps := 2000000) only [go_sem, ↓reduceIte, pX, pob, PT.wb, OpV.d]
      refine FR.prim (q5r.mve rfl hM hnum (q4v _ _ _ _) (q4v _ _ _ _) hm rfl rfl ⟨⟨rfl, rfl⟩, rfl⟩) rfl ?_
      refine FR.call (j0r a1 a2 a3 a4 a5 a6) rfl ?_
      simp (maxSteps := 2000000) only [go_sem, ↓reduceIte, pX, pob, PT.wb]
      refine FR.prim (q5r.mve rfl hM (hcat _ (a1, a2, a3, a4, a5, a6) q.s.ctm) (q4v _ _ _ _) (q4v _ _ _ _) hm rfl rfl ⟨⟨rfl, rfl⟩, rfl⟩) rfl ?_
      simp (maxSteps := 2000000) only [go_sem, ↓reduceIte, pX, pob, PT.wb, m6D, mat, I, ha, hn]
      rw [hab]
      exact ⟨_, rfl, c, hcs _ rfl, rfl, hmm.symm⟩
     ·refine ⟨fun h4 => ⟨fun h5 => ?_, fun h5 => ⟨fun h6 => ?_, fun h6 => ?_⟩⟩, fun h4 => ?_⟩
      ·have e : q.dop fl ⟨nm, args⟩ = q.tx (decide (nm = [66, 84])) := by simp only [PT.dop, hk]; rw [if_neg (fun h => h.elim h1 h2), if_neg h3, if_pos (.inr h5)]
       rw [e]
       refine q0b.poM rfl (j5y (q0W fl) q c (decide (nm = [66, 84])) hm) (q0d _ _ _) (q0d _ _ _) hm hM rfl rfl rfl ⟨⟨rfl, rfl⟩, rfl⟩ ?_
       simp (maxSteps := 2000000) only [go_sem, ↓reduceIte, ha, hn]
       exact ⟨_, rfl, c, hcs _ (q8H q _), rfl, by rw [q8H]; exact hmm.symm⟩
      ·have e : q.dop fl ⟨nm, args⟩ = q.chs fl args := by simp only [PT.dop, hk]; rw [if_neg (fun h => h.elim h1 h2), if_neg h3, if_neg (fun h => h.elim h4 h5), if_pos h6]
       rw [e]
       refine q0b.poM rfl (j4j fl q c ⟨nm, args⟩ ho.n hm) (q0d _ _ _) (q0d _ _ _) hm hM rfl rfl rfl ⟨⟨rfl, rfl⟩, rfl⟩ ?_
       simp (maxSteps := 2000000) only [go_sem, ↓reduceIte, ha, hn]
       exact ⟨_, rfl, c, hcs _ (z0t q fl args), rfl, by rw [z0t]; exact hmm.symm⟩
      ·have e : q.dop fl ⟨nm, args⟩ = q.ins ⟨nm, args⟩ := by simp only [PT.dop, hk]; rw [if_neg (fun h => h.elim h1 h2), if_neg h3, if_neg (fun h => h.elim h4 h5), if_neg h6]
       rw [e]
       refine q0b.poM rfl (j4l (q0W fl) q c ⟨nm, args⟩ hq ho hm) (q0d _ _ _) (q0d _ _ _) hm hM rfl rfl rfl ⟨⟨rfl, rfl⟩, rfl⟩ ?_
       simp (maxSteps := 2000000) only [go_sem, ↓reduceIte, ha, hn]
       exact ⟨_, rfl, c, hcs _ (z0I q hq _), rfl, by rw [z0I q hq]; exact hmm.symm⟩
      ·have e : q.dop fl ⟨nm, args⟩ = q.tx (decide (nm = [66, 84])) := by simp only [PT.dop, hk]; rw [if_neg (fun h => h.elim h1 h2), if_neg h3, if_pos (.inl h4)]
       rw [e]
       refine q0b.poM rfl (j5y (q0W fl) q c (decide (nm = [66, 84])) hm) (q0d _ _ _) (q0d _ _ _) hm hM rfl rfl rfl ⟨⟨rfl, rfl⟩, rfl⟩ ?_
       simp (maxSteps := 2000000) only [go_sem, ↓reduceIte, ha, hn]
       exact ⟨_, rfl, c, hcs _ (q8H q _), rfl, by rw [q8H]; exact hmm.symm⟩
    ·have e : q.dop fl ⟨nm, args⟩ = q.sv (decide (nm = [81])) := by simp only [PT.dop, hk]; rw [if_pos (.inl h1)]
     rw [e]
     refine q0b.poP (Post := z6u (q0W fl) (q.sv (decide (nm = [81])))) rfl (by rw [← hmm]; exact j5v (q0W fl) q c hc hs8 (decide (nm = [81]))) (q0d _ _ _) hm hM rfl rfl rfl ⟨⟨rfl, rfl⟩, rfl⟩ (fun o1 m1 hp => ?_)
     obtain ⟨c1, hc1, rfl, rfl⟩ := hp
     have hn1 := z2B (q.sv (decide (nm = [81]))).saved c1
     unfold rowM at hn1
     refine ⟨q0d _ _ _, ?_⟩
     have ha1 := q0O (svO (q.sv (decide (nm = [81]))).saved c1)
     generalize mob (svO (q.sv (decide (nm = [81]))).saved c1) = M1 at *
     simp (maxSteps := 2000000) only [go_sem, ↓reduceIte, ha1, hn1]
     exact ⟨_, rfl, c1, hc1, rfl, rfl⟩
  | some k =>
   refine ⟨⟨[(0, .ptr (.x 0) 0), (3, .ptr (.l 3) 0), (4, .ptr (.x 0) k), (5, .d (.bool true))], _, _⟩, GhoB.j2M fun G w hG t y ht => ?_, ?_⟩
   ·by_cases h0 : 0 = t
    ·subst h0; cases ht; exact ⟨_, rfl, z5d hG 0⟩
    ·by_cases h3 : 3 = t
     ·subst h3; cases ht; exact ⟨_, rfl, fun _ h => h⟩
     ·by_cases h4 : 4 = t
      ·subst h4; cases ht
       refine ⟨_, rfl, fun v h => z5d hG k v ?_⟩
       simpa [doZ, hk] using h
      ·by_cases h5 : 5 = t
       ·subst h5; cases ht; exact ⟨_, rfl, fun _ h => by simpa [doZ, hk] using h⟩
       ·simp [aget, h0, h3, h4, h5] at ht
   ·show POP Tryz.prog .normal _ _ _
    have e : q.dop fl ⟨nm, args⟩ = (q.nu args 1).setN k (if nm = [84, 122] then IntKind.i64.wrap (((q3T args 1).getD 0 0).tdiv 100) else (q3T args 1).getD 0 0) := by simp only [PT.dop, hk]
    rw [e]
    simp (maxSteps := 2000000) only [go_sem, ↓reduceIte]
    refine q0b.poM rfl (q68 (q0W fl) q c ⟨nm, args⟩ 1 ho.n (by decide) hm) (q0d _ _ _) (q0d _ _ _) hm hM rfl rfl rfl ⟨⟨rfl, rfl⟩, rfl⟩ ?_
    rw [PT.nu]
    obtain ⟨a, hab⟩ : ∃ a, q3T args 1 = [a] := List.length_eq_one_iff.1 (q6Q args 1)
    simp only [hab, List.getD_cons_zero]
    have hc1 : svOK (q.er (kErr (q8v args 1))) c := by cases c <;> exact hc
    have hm1 : m = svO (q.er (kErr (q8v args 1))).saved c := hmm.symm
    generalize q.er (kErr (q8v args 1)) = q1 at *
    rcases z6k hk with ⟨rfl, hz⟩ | ⟨hz, rfl | rfl | rfl | rfl⟩
    ·simp (maxSteps := 2000000) only [go_sem, ↓reduceIte, pob, nmD, I, hz, ha, hn]
     exact ⟨_, rfl, c, by cases c <;> exact hc1, rfl, hm1⟩
    all_goals
     simp (maxSteps := 2000000) only [go_sem, ↓reduceIte, pob, nmD, I, hz, ha, hn]
     exact ⟨_, rfl, c, by cases c <;> exact hc1, rfl, hm1⟩
end Go.Av.Tryz
set_option linter.unusedSimpArgs false
set_option maxRecDepth 100000
set_option maxHeartbeats 4000000
namespace Go.Av.Tryz
open Go.Proofs
def q00 : PT := ⟨⟨q9i, none, 0, 0, 0, 1000, 0, 0⟩, [], q9i, q9i, false, [], 0⟩
def PT.run (fl : Fl) (q : PT) : List OpV → PT
 | [] => q
 | o :: l => if (q.dop fl o).bad = 0 then PT.run fl (q.dop fl o) l else q.dop fl o
def opsD (l : List OpV) : D := .list (l.map OpV.d)
def q9a (q : PT) : Res := if q.bad = 0 then .tup [.list (q4J q.out), .nil] else .tup [.list [], errD q.bad]
def q89 (fl : Fl) (l : List OpV) : Res := if l.length > 2000 then .tup [.list [], errD 2] else q9a (q00.run fl l)
structure PT.inv (q : PT) : Prop where
 ok : q.ok
 n : q.saved.length ≤ 8
 f : ∀ s ∈ q.saved, ∀ f, s.font = some f → f.ok
theorem j5I {q : PT} (h : q.inv) (b : Bool) : (q.sv b).inv := by
 unfold PT.sv
 split
 ·split
  ·exact ⟨q6E h.ok 10, h.n, h.f⟩
  ·rename_i x hx
   have hm := List.mem_of_getLast? hx
   refine ⟨⟨h.ok.out, h.f x hm⟩, by simp only [List.length_dropLast]; have := h.n; omega, fun s hs => h.f s (List.dropLast_subset _ hs)⟩
 ·split
  ·exact ⟨q6E h.ok 10, h.n, h.f⟩
  ·refine ⟨⟨h.ok.out, h.ok.font⟩, by have := h.n; simp only [List.length_append, List.length_cons, List.length_nil]; omega, fun s hs => ?_⟩
   rcases List.mem_append.1 hs with hs | hs
   ·exact h.f s hs
   ·simp at hs; subst hs; exact h.ok.font
theorem q8C {q q' : PT} (h : q.inv) (hs : q'.saved = q.saved) (hok : q'.ok) : q'.inv := ⟨hok, by rw [hs]; exact h.n, by rw [hs]; exact h.f⟩
theorem j6i {q : PT} (h : q.ok) (b : Bool) : (q.tx b).ok := by
 unfold PT.tx
 split
 ·exact ⟨fun hb => h.out (q5R hb), h.font⟩
 ·exact ⟨h.out, h.font⟩
theorem z9R {fl : Fl} {s : List UInt8} {f : Fnt} (h : q85 fl s = some f) : ∃ p ∈ fl, p.2 = f := by
 induction fl with
 | nil => cases h
 | cons p l ih =>
  simp only [q85] at h
  split at h
  ·cases h; exact ⟨p, by simp, rfl⟩
  ·obtain ⟨p', h1, h2⟩ := ih h; exact ⟨p', by simp [h1], h2⟩
theorem j4W {q : PT} (h : q.ok) {fl : Fl} (hf : ∀ p ∈ fl, p.2.ok) (l : List Val) : (q.chs fl l).ok := by
 unfold PT.chs
 split
 ·split
  ·split
   ·rename_i f hlk
    refine ⟨h.out, fun g hg => ?_⟩
    cases hg
    obtain ⟨p, h1, rfl⟩ := z9R hlk
    exact hf p h1
   ·exact q6E h 6
  ·exact q6E h 8
 ·exact q6E h 8
theorem j5F {q : PT} (h : q.ok) (l : List Val) : (q.st l).ok := (j3o (q6E h _) _).1
theorem j6h {q : PT} (h : q.ok) (l : List Val) : (q.tj l).ok := by
 unfold PT.tj
 split
 ·split
  ·exact j3i h _
  ·exact q6E h 8
 ·exact q6E h 8
theorem j5c {q : PT} (h : q.ok) (o : OpV) : (q.ins o).ok := by
 unfold PT.ins
 split
 ·exact z7O (q6E h _) _ _
 split
 ·exact z7O (q := (q.nu o.args 2).ld (ng ((q3T o.args 2).getD 1 0))) ⟨fun hb => h.out (q5R (n := q.bad) hb), h.font⟩ _ _
 split
 ·exact ⟨fun hb => h.out (q5R hb), h.font⟩
 split
 ·exact z7O (q6E h _) _ _
 split
 ·exact j5F h _
 split
 ·exact j5F (z7O h _ _) _
 split
 ·exact j6h h _
 ·exact h
theorem z5k {q : PT} (h : q.inv) {fl : Fl} (hf : ∀ p ∈ fl, p.2.ok) (o : OpV) : (q.dop fl o).inv := by
 unfold PT.dop
 split
 ·exact q8C h rfl ⟨fun hb => h.ok.out (q5R hb), h.ok.font⟩
 ·split
  ·exact j5I h _
  ·split
   ·exact q8C h rfl ⟨fun hb => h.ok.out (q5R (q5R hb)), h.ok.font⟩
   ·split
    ·exact q8C h (q8H q _) (j6i h.ok _)
    ·split
     ·exact q8C h (z0t q fl _) (j4W h.ok hf _)
     ·exact q8C h (z0I q h.ok o) (j5c h.ok o)
theorem q0b.loP {P : Program} [Inv P] {d : Option Nat} {f : LX} {args : List LX} {N : St → Prop} {σ : St} {g : FuncId} {first cap xs : List AV} {o : AObj} {m : Option AObj} {z : AV} {Post : AObj → Option AObj → Prop} (k : Nat) (hf : σ.ev f = .fn (.func g) first cap) (hc : MV P g xs [o] m (fun r hs' m' => r = z ∧ ∃ o', hs' = [o'] ∧ Post o' m')) (ho : PO o) (hm : rowM m = true) (hH : σ.H = mob m) (hL : aget σ.L k = some (o.ren [.l k]))
  (hx : q4a [] 0 (first ++ (evL σ args ++ cap)) = renL [.l k] xs) (hwx : labL 1 xs = true) (hz : z.q1e = true ∧ z.q5u 1 = true)
  (hK : ∀ o1 m1, Post o1 m1 → PO o1 ∧ N (putO ⟨amap (AV.q4y [.l k]) (amap (AV.drop (.x 1000)) σ.ρ), aset (amap (q0f (.x 1000)) σ.L) k (o1.ren [.l k]), mob m1⟩ d (z.ren [.l k]))) : q0b P d .call (f :: args) N σ := by
 have h1 : σ.obj (.x 1000) = m := by
  show aget σ.H 1000 = m
  rw [hH]; exact q0O m
 refine q0b.mv [.l k] hf hc hx hwx ⟨hL, trivial⟩ (by simp [wfMO, ho.wf]) rfl rfl h1 hm fun r hs' m1 ⟨e1, o1, e2, hp⟩ => ?_
 subst e1; subst e2
 obtain ⟨ho1, hK⟩ := hK o1 m1 hp
 refine ⟨⟨hz, by simp [q3F, ho1.wf, isLocal]⟩, ?_⟩
 have e : q7D σ.q23 [.l k] [o1] m1 = ⟨amap (AV.q4y [.l k]) (amap (AV.drop (.x 1000)) σ.ρ), aset (amap (q0f (.x 1000)) σ.L) k (o1.ren [.l k]), mob m1⟩ := by
  have e1 : adel (amap (q0f (.x 1000)) σ.H) 1000 = [] := by
   rw [hH]
   cases m <;> rfl
  simp only [q7D, q3S, q4d, St.q23, e1]
  cases m1 <;> rfl
 rw [e]; exact hK
def outL : List Gph → AV
 | [] => .ns
 | g :: l => .own (.c (.l 19) 28) 55 10 (q4J (g :: l))
def pobL (fd : D) (q : PT) (c : Option Nat) : AObj :=
 .cells [.d fd, .d (I q.s.ctm.1), .d (I q.s.ctm.2.1), .d (I q.s.ctm.2.2.1), .d (I q.s.ctm.2.2.2.1), .d (I q.s.ctm.2.2.2.2.1), .d (I q.s.ctm.2.2.2.2.2), .d (q7h q.s.font), .d (I q.s.size), .d (I q.s.char), .d (I q.s.word), .d (I q.s.scale), .d (I q.s.lead), .d (I q.s.rise),
  svV q.saved c, .d (I q.tm.1), .d (I q.tm.2.1), .d (I q.tm.2.2.1), .d (I q.tm.2.2.2.1), .d (I q.tm.2.2.2.2.1), .d (I q.tm.2.2.2.2.2), .d (I q.lm.1), .d (I q.lm.2.1), .d (I q.lm.2.2.1), .d (I q.lm.2.2.2.1), .d (I q.lm.2.2.2.2.1), .d (I q.lm.2.2.2.2.2),
  .d (.bool q.inn), outL q.out, .d (errD q.bad)]
theorem j0t (fd : D) (q : PT) (c : Option Nat) : (pob fd q c).ren [.l 19] = pobL fd q c := by
 obtain ⟨s, saved, tm, lm, inn, out, bad⟩ := q
 cases c <;> cases out <;> rfl
theorem j0s (fd : D) (q : PT) (c : Option Nat) : q0f (.l 8) (pobL fd q c) = pobL fd q c := by
 obtain ⟨s, saved, tm, lm, inn, out, bad⟩ := q
 cases c <;> cases out <;> rfl
theorem z3v (fl : Fl) (q : PT) (o : OpV) (l : List OpV) : q.run fl (o :: l) = if (q.dop fl o).bad = 0 then (q.dop fl o).run fl l else q.dop fl o := rfl
def q3u : q0j :=
 .seq (.reg [⟨some 4, .nils 55 10, none⟩, Qx 5 (.k (.d .nil))]) (.seq (.seq (.reg [Qc 9 0, Q 10 (.len false (.t 9)), Q 11 (.bin .gtr (.t 10) (Ki 2000))]) (.cond (.t 11) (.seq (.reg 
 [Q 12 (.mkI 76 (Ki 2)), ⟨some 4, .nils 55 10, none⟩, Qa 5 12]) .ret) .skip)) (.seq (.reg [Qc 13 1, ⟨some 14, .call 30 [], none⟩, Q 15 (.bld [(0, 6), (6, 1), (7, 1), (8, 1), (9, 
 1), (10, 1), (11, 1), (12, 1)] [.int .i64 0, .int .i64 0, .int .i64 0, .int .i64 0, .int .i64 0, .int .i64 0, .nilp, .int .i64 0, .int .i64 0, .int .i64 0, .int .i64 0, .int .i64 
 0, .int .i64 0] [] [(0, .t 14), (5, .k (.d (.int .i64 1000)))]), ⟨some 16, .call 30 [], none⟩, ⟨some 17, .call 30 [], none⟩, Q 18 (.bld [(0, 1), (1, 13), (14, 1), (15, 6), (21, 
 6), (27, 1), (28, 1), (29, 1)] [.map [] [], .int .i64 0, .int .i64 0, .int .i64 0, .int .i64 0, .int .i64 0, .int .i64 0, .nilp, .int .i64 0, .int .i64 0, .int .i64 0, .int .i64 
 0, .int .i64 0, .int .i64 0, .list [], .int .i64 0, .int .i64 0, .int .i64 0, .int .i64 0, .int .i64 0, .int .i64 0, .int .i64 0, .int .i64 0, .int .i64 0, .int .i64 0, .int .i64 
 0, .int .i64 0, .bool false, .list [], .nil] [false, false, false, false, false, false, false, false, false, false, false, false, false, false, true, false, false, false, false, 
 false, false, false, false, false, false, false, false, false, true, false] [(0, .t 13), (1, .t 15), (3, .t 16), (4, .t 17)]), ⟨some 19, .box (.t 18), none⟩, Qa 6 19]) (.seq 
 (.seq (.reg [Qc 20 0, Q 21 (.len false (.t 20)), Q 22 (.cp (Ki 0))]) (.block 0 (.loop (.seq (.reg [Q 23 (.bin .lss (.t 22) (.t 21))]) (.seq (.cond (.t 23) .skip (.exit 0)) (.seq 
 (.block 1 (.seq (.reg [Q 24 (.ia 2 (.t 20) (.t 22)), Q 25 (.ld true 2 (.t 24)), ⟨some 8, .allo [.str [], .list []], none⟩, ⟨none, .st 2 (.t 8) (.t 25), none⟩]) (.seq (.reg [Qc 26 
 6, Q 27 (.ld true 2 (.t 8)), ⟨some 28, .prim .call [.k (.fn (.func 31) [] []), .t 26, .t 27] [], none⟩]) (.seq (.reg [Qc 29 6, Q 30 (.nck (.t 29)), Q 31 (.fa 29 (.t 30)), Q 32 
 (.ld false 1 (.t 31)), Q 33 (.eqN 0 true (.t 32))]) (.cond (.t 33) (.seq (.dreg [Qc 34 6, Q 35 (.nck (.t 34)), Q 36 (.fa 29 (.t 35)), Q 37 (.ld false 1 (.t 36)), Q 4 (.cp (.k (.d 
 (.list [])))), Qc 5 37]) .ret) .skip))))) (.reg [Q 38 (.bin .add (.t 22) (Ki 1)), Qc 22 38]))))))) (.seq (.reg [Qc 39 6, Q 40 (.nck (.t 39)), Q 41 (.fa 28 (.t 40)), Q 42 (.ld 
 false 1 (.t 41)), Qa 4 42, Qx 5 (.k (.d .nil))]) .ret))))
def q3v : List LRes := [.tmp 4, .tmp 5]
theorem q48 : q0t Tryz.prog 11 43 q3u q3v := ⟨_, _, Tryz.func11, rfl, by kernel_rfl, by kernel_rfl, rfl⟩
theorem z4L (fl : Fl) (l : List OpV) (hl : l.length ≤ 1000000) (hf : ∀ p ∈ fl, p.2.ok) (ho : ∀ o ∈ l, o.ok) :
  q0u Tryz.prog 11 [opsD l, q0W fl] (fun r => r = q89 fl l) := by
 refine q48.call rfl ?_
 have hlen : (l.map OpV.d).length = l.length := List.length_map ..
 simp (maxSteps := 2000000) (disch := omega) only [go_sem, ↓reduceIte, q3u, q3v, opsD, hlen]
 refine ⟨fun h1 => ?_, fun h1 => ?_⟩
 ·have e : q89 fl l = .tup [.list [], errD 2] := if_pos (by omega)
  rw [e]; rfl
 ·refine q0k.of q5c ?_
  simp (maxSteps := 2000000) only [go_sem, ↓reduceIte, mat]
  refine q0k.of q5c ?_
  simp (maxSteps := 2000000) only [go_sem, ↓reduceIte, mat]
  refine q0k.of q5c ?_
  simp (maxSteps := 2000000) only [go_sem, ↓reduceIte, mat, q0W, I]
  have e : q89 fl l = q9a (q00.run fl l) := if_neg (by omega)
  rw [e]
  have hq0 : q00.inv := ⟨⟨fun _ => Nat.zero_le _, fun f h => by cases h⟩, Nat.zero_le _, fun s h => by cases h⟩
  refine q0s (fun y : Nat × PT × Option Nat => ⟨[(0, .d (.list (l.map OpV.d))), (1, .d (q0W fl)), (4, .own (.t 4) 55 10 []), (6, .ptr (.l 19) 0), (20, .d (.list (l.map OpV.d))), (21, .d (.int .i64 l.length)), (22, .d (.int .i64 y.1))], [(19, pobL (q0W fl) y.2.1 y.2.2)], mob (svO y.2.1.saved y.2.2)⟩)
   (fun y => y.1 ≤ l.length ∧ y.2.1.inv ∧ svOK y.2.1 y.2.2 ∧ y.2.1.bad = 0 ∧ q00.run fl l = y.2.1.run fl (l.drop y.1)) (fun y => l.length - y.1) (0, q00, none) ?_ ⟨Nat.zero_le _, hq0, rfl, rfl, rfl⟩ ?_
  ·refine Weak.mk ?_ ?_ ?_
   ·simp (maxSteps := 2000000) only [go_sem, ↓reduceIte, Sub, q0W, hlen]
   ·simp (maxSteps := 2000000) only [go_sem, ↓reduceIte, Sub, pobL, q00, svV, outL, q9i, I, q0W, q7h, errD]
   ·simp (maxSteps := 2000000) only [go_sem, ↓reduceIte, Sub, svO, mob, q00]
  ·intro ⟨i, q, c⟩ ⟨hi, hq, hc, hb, hr⟩
   simp only at hi hq hc hb hr ⊢
   rw [hr]
   simp (maxSteps := 2000000) (disch := omega) only [go_sem, ↓reduceIte]
   refine ⟨fun hlt => ?_, fun hge => ?_⟩
   ·obtain ⟨o, hx⟩ := get_some (l := l) (i := i) (by omega)
    have hg : getI (l.map OpV.d) (i : Int) = some o.d := by rw [q0c, List.getElem?_map, hx]; rfl
    have hdr : l.drop i = o :: l.drop (i + 1) := q1J hx
    rw [hdr, z3v]
    simp (maxSteps := 2000000) (disch := omega) only [go_sem, ↓reduceIte, hg, OpV.d]
    have hd8 := j0s (q0W fl) q c
    simp only [q0f] at hd8
    rw [hd8]
    have hom := ho o (List.mem_of_getElem? hx)
    have hq1 := z5k hq hf o
    refine q0b.loP 19 rfl (pdo fl q c hc hq.n o hq.ok hom) (q0d _ _ _) (z2B _ _) rfl (by rw [j0t]; rfl) rfl rfl ⟨rfl, rfl⟩ (fun o1 m1 hp => ?_)
    obtain ⟨c1, hc1, rfl, rfl⟩ := hp
    refine ⟨q0d _ _ _, ?_⟩
    rw [j0t]
    generalize q.dop fl o = q1 at *
    by_cases hb1 : q1.bad = 0
    ·have he : errD q1.bad = .nil := by rw [hb1]; rfl
     simp only [hb1, ↓reduceIte]
     simp (maxSteps := 2000000) (disch := omega) only [go_sem, ↓reduceIte, pobL, he]
     refine ⟨(i + 1, q1, c1), Weak.mk ?_ ?_ ?_, ⟨by simp only; omega, hq1, hc1, hb1, rfl⟩, by simp only; omega⟩
     ·simp (maxSteps := 2000000) only [go_sem, ↓reduceIte, Sub, Int.natCast_add]
     ·simp (maxSteps := 2000000) only [go_sem, ↓reduceIte, Sub, he]
     ·cases hs : svO q1.saved c1 <;> simp (maxSteps := 2000000) only [go_sem, ↓reduceIte, Sub, hs]
    ·have he := q3n hb1
     simp only [hb1, ↓reduceIte]
     simp (maxSteps := 2000000) (disch := omega) only [go_sem, ↓reduceIte, pobL, he]
     rw [q9a, if_neg hb1, he]
   ·have hie : i = l.length := by omega
    subst hie
    rw [List.drop_length]
    have e2 : PT.run fl q [] = q := rfl
    rw [e2, q9a, if_pos hb]
    cases ho : q.out with
    | nil =>
     simp (maxSteps := 2000000) only [go_sem, ↓reduceIte, pobL, ho, outL]
     rfl
    | cons g r =>
     simp (maxSteps := 2000000) only [go_sem, ↓reduceIte, pobL, ho, outL]
end Go.Av.Tryz
set_option linter.unusedSimpArgs false
set_option maxRecDepth 100000
namespace Go.Av.Tryz
open Go.Proofs
def q39 (l : List Span) : Bool := decide (l.length ≤ 310) && l.all fun x => decide (x.tx.length ≤ 60)
def q1C : q0j :=
 .seq (.reg [Qx 2 KF]) (.seq (.seq (.reg [Qc 4 0, Q 5 (.len false (.t 4)), Q 6 (.bin .gtr (.t 5) (Ki 310))]) (.cond (.t 6) (.seq (.reg [Qx 2 KF]) .ret) .skip)) (.seq (.seq (.reg [Qx 
 3 (Ki 0)]) (.block 0 (.loop (.seq (.seq (.reg [Qc 7 3, Qc 8 0, Q 9 (.len false (.t 8)), Q 10 (.bin .lss (.t 7) (.t 9))]) (.cond (.t 10) .skip (.exit 0))) (.seq (.block 1 (.seq 
 (.reg [Qc 13 0, Qc 14 3, Q 15 (.ia 3 (.t 13) (.t 14)), Q 16 (.fa 2 (.t 15)), Q 17 (.ld false 1 (.t 16)), Q 18 (.len true (.t 17)), Q 19 (.bin .gtr (.t 18) (Ki 60))]) (.cond (.t 
 19) (.seq (.reg [Qx 2 KF]) .ret) .skip))) (.reg [Qc 11 3, Q 12 (.bin .add (.t 11) (Ki 1)), Qa 3 12])))))) (.seq (.reg [Qx 2 KT]) .ret)))
def q1H : List LRes := [.tmp 2]
theorem q4q : q0t Tryz.prog 39 20 q1C q1H := ⟨_, _, Tryz.func39, rfl, by kernel_rfl, by kernel_rfl, rfl⟩
theorem z0Z (l : List Span) (hl : l.length ≤ 9223372036854775807) : q0u Tryz.prog 39 [.list (q19 l)] (fun r => r = .one (.bool (q39 l))) := by
 refine q4q.call rfl ?_
 have hI : ((q19 l).length : Int) = (l.length : Int) := by rw [q59]
 unfold q39
 by_cases h310 : l.length ≤ 310
 ·have z1 : (310 < (l.length : Int)) = False := eq_false (by omega)
  rw [decide_eq_true h310, Bool.true_and]
  generalize hR : (l.all fun x => decide (x.tx.length ≤ 60)) = R
  simp (maxSteps := 2000000) only [go_sem, ↓reduceIte, q1C, q1H, hI, z1]
  refine q0s (fun i : Nat => ⟨[(0, .d (.list (q19 l))), (3, .d (.int .i64 i))], [], []⟩)
   (fun i => i ≤ l.length ∧ ((l.drop i).all fun x => decide (x.tx.length ≤ 60)) = R) (fun i => l.length - i) 0 ?_ ?_ ?_
  ·refine q0e ?_ trivial
   simp (maxSteps := 2000000) only [go_sem, ↓reduceIte, Sub, Int.natCast_add, Int.natCast_mul]
  ·exact ⟨Nat.zero_le _, hR⟩
  ·rintro i ⟨hi, hF⟩
   simp (maxSteps := 2000000) only [go_sem, ↓reduceIte, hI]
   refine ⟨fun hlt => ?_, fun hge => ?_⟩
   ·obtain ⟨x, hx⟩ := get_some (l := l) (i := i) (by omega)
    rw [q1J hx, List.all_cons] at hF
    by_cases h60 : x.tx.length ≤ 60
    ·have z2 : (60 < (x.tx.length : Int)) = False := eq_false (by omega)
     rw [decide_eq_true h60, Bool.true_and] at hF
     simp (maxSteps := 2000000) (disch := omega) only [go_sem, ↓reduceIte, q0c, q0o, hx, Span.d, z2]
     refine ⟨i + 1, ?_, ⟨by omega, hF⟩, by omega⟩
     refine q0e ?_ trivial
     simp (maxSteps := 2000000) only [go_sem, ↓reduceIte, Sub, Int.natCast_add, Int.natCast_mul]
    ·have z2 : (60 < (x.tx.length : Int)) = True := eq_true (by omega)
     rw [decide_eq_false h60, Bool.false_and] at hF
     simp (maxSteps := 2000000) (disch := omega) only [go_sem, ↓reduceIte, q0c, q0o, hx, Span.d, z2]
     rw [← hF]
   ·have : l.drop i = [] := List.drop_eq_nil_of_le (by omega)
    rw [this] at hF
    rw [← hF]; rfl
 ·have z1 : (310 < (l.length : Int)) = True := eq_true (by omega)
  rw [decide_eq_false h310, Bool.false_and]
  simp (maxSteps := 2000000) only [go_sem, ↓reduceIte, q1C, q1H, hI, z1]
def okN (p : Int × List UInt8) : Bool := decide (p.2.length ≤ 100)
def q4N (x : Fnt) : Bool := q39 x.cs && (decide (x.ws.length ≤ 400) && (decide (x.ns.length ≤ 300) && (x.ns.all okN && decide (z2e x.cs x.wide = 0))))
def q7t (l : List (Int × List UInt8)) : List (D × D) := l.map fun p => (.int .i64 p.1, .str p.2)
theorem j05 (l : List (Int × List UInt8)) : (q2O l).zip (q8s l) = q7t l := by
 induction l with
 | nil => rfl
 | cons p r ih => simp only [q2O, q8s, q7t, List.map_cons, List.zip_cons_cons] at ih ⊢; rw [ih]
theorem j0n (l : List (Int × List UInt8)) (i : Nat) {k v : D} (h : (q7t l)[i]? = some (k, v)) : ∃ p, l[i]? = some p ∧ k = .int .i64 p.1 ∧ v = .str p.2 := by
 unfold q7t at h
 rw [List.getElem?_map] at h
 cases hp : l[i]? with
 | none => rw [hp] at h; cases h
 | some p => rw [hp] at h; cases h; exact ⟨p, rfl, rfl, rfl⟩
theorem z08 : ∀ (l : List (Int × List UInt8)) (i : Nat), (q7t l).eraseIdx i = q7t (l.eraseIdx i)
 | [], i => by simp [q7t]
 | p :: r, 0 => by simp [q7t]
 | p :: r, i + 1 => by have := z08 r i; simp only [q7t, List.map_cons, List.eraseIdx_cons_succ] at this ⊢; rw [this]
theorem z3R {α : Type} (f : α → Bool) : ∀ (l : List α) (i : Nat) (p : α), l[i]? = some p → f p = true → (l.eraseIdx i).all f = l.all f
 | [], i, p, h, _ => by simp at h
 | a :: r, 0, p, h, hf => by simp at h; subst h; simp [hf]
 | a :: r, i + 1, p, h, hf => by
  have := z3R f r i p (by simpa using h) hf
  simp only [List.eraseIdx_cons_succ, List.all_cons, this]
theorem j3A {α : Type} (f : α → Bool) {l : List α} {i : Nat} {p : α} (h : l[i]? = some p) (hf : f p = false) : l.all f = false := by
 rw [Bool.eq_false_iff]; intro h2
 have := List.all_eq_true.1 h2 p (List.mem_of_getElem? h)
 rw [hf] at this; cases this
structure Fnt.wf (x : Fnt) : Prop where
 cs : ∀ s ∈ x.cs, -9223372036854775808 ≤ s.fr ∧ s.fr ≤ 9223372036854775807 ∧ -9223372036854775808 ≤ s.to ∧ s.to ≤ 9223372036854775807
 cl : x.cs.length ≤ 9223372036854775807
def q2Z : q0j :=
 .seq (.reg [⟨some 1, .box (.t 0), none⟩, Qx 2 KF]) (.seq (.seq (.reg [Q 5 (.fa 4 (.t 1)), Q 6 (.ld false 1 (.t 5)), ⟨some 7, .call 39 [.t 6], none⟩, Q 8 (.not (.t 7)), Qc 9 8, Qg 
 10 (.fa 1 (.t 1)) 9 false, Qg 11 (.ld false 1 (.t 10)) 9 false, ⟨some 12, .prim (.bi .len [58]) [.t 11] [], some (9, false)⟩, Qg 13 (.bin .gtr (.t 12) (Ki 400)) 9 false, Q 14 
 (.pick (.t 9) KT (.t 13)), Qc 15 14, Qg 16 (.fa 3 (.t 1)) 15 false, Qg 17 (.ld false 1 (.t 16)) 15 false, ⟨some 18, .prim (.bi .len [59]) [.t 17] [], some (15, false)⟩, Qg 19 
 (.bin .gtr (.t 18) (Ki 300)) 15 false, Q 20 (.pick (.t 15) KT (.t 19))]) (.cond (.t 20) (.seq (.reg [Qx 2 KF]) .ret) .skip)) (.seq (.seq (.reg [Q 21 (.fa 3 (.t 1)), Q 22 (.ld 
 false 1 (.t 21)), ⟨some 23, .prim (.range 59) [.t 22] [], none⟩]) (.block 0 (.loop (.seq (.reg [⟨some 24, .prim (.next false 0) [.t 23] [], none⟩, Q 25 (.ext 0 (.t 24))]) (.seq 
 (.cond (.t 25) .skip (.exit 0)) (.block 1 (.seq (.reg [⟨some 26, .prim .entry [.t 23] [], none⟩, Q 27 (.ext 1 (.t 26)), Qa 4 27]) (.seq (.reg [Qc 28 4, Q 29 (.len true (.t 28)), 
 Q 30 (.bin .gtr (.t 29) (Ki 100))]) (.cond (.t 30) (.seq (.reg [Qx 2 KF]) .ret) .skip))))))))) (.seq (.reg [Q 31 (.fa 4 (.t 1)), Q 32 (.ld false 1 (.t 31)), Q 33 (.fa 0 (.t 1)), 
 Q 34 (.ld false 1 (.t 33)), ⟨some 35, .call 40 [.t 32, .t 34], none⟩, Q 36 (.bin .eql (.t 35) (Ki 0)), Qa 2 36]) .ret)))
def q21 : List LRes := [.tmp 2]
theorem q4C : q0t Tryz.prog 25 37 q2Z q21 := ⟨_, _, Tryz.func25, rfl, by kernel_rfl, by kernel_rfl, rfl⟩
theorem z1Q (x : Fnt) (hx : x.wf) : q0u Tryz.prog 25 [x.d] (fun r => r = .one (.bool (q4N x))) := by
 refine q4C.call rfl ?_
 unfold q4N
 have hwl : (q2O x.ws).length = x.ws.length := by simp [q2O]
 have hnl : (q2O x.ns).length = x.ns.length := by simp [q2O]
 simp (maxSteps := 2000000) only [go_sem, ↓reduceIte, q2Z, q21, Fnt.d]
 refine q0k.of (z0Z x.cs hx.cl) ?_
 cases hls : q39 x.cs with
 | false =>
  simp (maxSteps := 2000000) only [go_sem, ↓reduceIte]
 | true =>
  have hcs : ∀ s ∈ x.cs, s.wf := fun s hs => by
   obtain ⟨a, b, c, d⟩ := hx.cs s hs
   unfold q39 at hls
   simp only [Bool.and_eq_true, List.all_eq_true, decide_eq_true_eq] at hls
   exact ⟨a, b, c, d, by have := hls.2 s hs; omega⟩
  simp (maxSteps := 2000000) only [go_sem, ↓reduceIte]
  refine q0b.z9U rfl j11 ?_
  rw [hwl]
  by_cases h400 : x.ws.length ≤ 400
  ·have z1 : (400 < (x.ws.length : Int)) = False := eq_false (by omega)
   rw [decide_eq_true h400]
   simp (maxSteps := 2000000) only [go_sem, ↓reduceIte, z1]
   refine q0b.z9U rfl j36 ?_
   rw [hnl]
   by_cases h300 : x.ns.length ≤ 300
   ·have z2 : (300 < (x.ns.length : Int)) = False := eq_false (by omega)
    rw [decide_eq_true h300]
    simp (maxSteps := 2000000) only [go_sem, ↓reduceIte, z2]
    refine q0b.rangeMap rfl j36 ?_
    rw [j05]
    generalize hR : x.ns.all okN = R
    simp (maxSteps := 2000000) only [go_sem, ↓reduceIte]
    refine q0s (fun y : List (Int × List UInt8) × List (D × D) => ⟨[(1, .ptr (.l 1) 0), (23, .ptr (.l 23) 0)],
      [(1, .cells [.d (.bool x.wide), .d (.map (q2O x.ws) (q8K x.ws)), .d (.int .i64 x.miss), .d (.map (q2O x.ns) (q8s x.ns)), .d (.list (q19 x.cs))]), (23, .miter (q7t y.1) y.2)], []⟩)
     (fun y => y.1.all okN = R) (fun y => y.1.length) (x.ns, []) ?_ ?_ ?_
    ·refine Weak.mk ?_ ?_ ?_ <;> simp (maxSteps := 2000000) only [go_sem, ↓reduceIte, Sub, Int.natCast_add, Int.natCast_mul]
    ·exact hR
    ·rintro ⟨rem, cur⟩ hF
     simp only at hF
     simp (maxSteps := 2000000) only [go_sem, ↓reduceIte]
     refine q0b.z98 rfl rfl (fun h0 => ?_) (fun i k v hik => ?_)
     ·have hrem : rem = [] := by cases rem with | nil => rfl | cons a r => cases h0
      subst hrem
      simp only [List.all_nil] at hF
      subst hF
      simp (maxSteps := 2000000) only [go_sem, ↓reduceIte]
      refine q0k.of (z1p x.cs x.wide hcs) ?_
      simp (maxSteps := 2000000) only [go_sem, ↓reduceIte]
      have e : ((z2e x.cs x.wide : Nat) : Int) = 0 ↔ z2e x.cs x.wide = 0 := by omega
      simp only [e, Bool.true_and]
     ·obtain ⟨p, hp, rfl, rfl⟩ := j0n rem i hik
      rw [z08]
      simp (maxSteps := 2000000) only [go_sem, ↓reduceIte]
      refine q0b.z6H rfl rfl ?_
      by_cases h100 : p.2.length ≤ 100
      ·have z3 : (100 < (p.2.length : Int)) = False := eq_false (by omega)
       simp (maxSteps := 2000000) only [go_sem, ↓reduceIte, z3]
       have hlt := (List.getElem?_eq_some_iff.1 hp).1
       refine ⟨(rem.eraseIdx i, [(.int .i64 p.1, .str p.2)]), ?_, ?_, ?_⟩
       ·refine Weak.mk ?_ ?_ ?_ <;> simp (maxSteps := 2000000) only [go_sem, ↓reduceIte, Sub, Int.natCast_add, Int.natCast_mul]
       ·simp only
        rw [z3R okN rem i p hp (by unfold okN; exact decide_eq_true h100)]; exact hF
       ·simp only
        rw [List.length_eraseIdx, if_pos hlt]; omega
      ·have z3 : (100 < (p.2.length : Int)) = True := eq_true (by omega)
       simp (maxSteps := 2000000) only [go_sem, ↓reduceIte, z3]
       rw [j3A okN hp (by unfold okN; exact decide_eq_false h100)] at hF
       rw [← hF]; rfl
   ·have z2 : (300 < (x.ns.length : Int)) = True := eq_true (by omega)
    rw [decide_eq_false h300]
    simp (maxSteps := 2000000) only [go_sem, ↓reduceIte, z2]
  ·have z1 : (400 < (x.ws.length : Int)) = True := eq_true (by omega)
   rw [decide_eq_false h400]
   simp (maxSteps := 2000000) only [go_sem, ↓reduceIte, z1]
theorem z6V {x : Fnt} (hx : x.wf) (h : q4N x = true) : x.ok := by
 unfold q4N at h
 simp only [Bool.and_eq_true, decide_eq_true_eq] at h
 obtain ⟨h1, h2, h3, h4, h5⟩ := h
 unfold q39 at h1
 simp only [Bool.and_eq_true, List.all_eq_true, decide_eq_true_eq] at h1
 obtain ⟨h6, h7⟩ := h1
 refine ⟨fun s hs => ?_, by omega, fun p hp => ?_⟩
 ·obtain ⟨a, b, c, d⟩ := hx.cs s hs
  have key : ∀ (m : Int), 0 ≤ m → m ≤ 65535 → ∀ (l : List Span) (prev : Option Int), q4A m prev l = 0 → s ∈ l → 0 ≤ s.fr ∧ s.to ≤ 65535 ∧ ∃ rs, q0X s.tx = some rs ∧ rs ≠ [] := by
   intro m m0 m1 l
   induction l with
   | nil => intro _ _ hs; cases hs
   | cons y r ih =>
    intro prev hf hs
    simp only [q4A] at hf
    split at hf
    ·rename_i hy
     rcases List.mem_cons.1 hs with rfl | hs
     ·unfold q5b at hy
      split at hy
      ·cases hy
      ·split at hy
       ·cases hy
       ·rename_i q1 q2
        cases hrs : q0X s.tx with
        | none => exact absurd (.inr (.inr (.inl hrs))) q2
        | some rs =>
         refine ⟨by omega, by omega, rs, rfl, fun e => ?_⟩
         subst e
         have := (q7a s.tx.length (Nat.le_refl _) hrs).1
         exact q2 (.inr (.inr (.inr (.inl this.symm))))
     ·exact ih _ hf hs
    ·rename_i hy; exact absurd hf hy
  have hf : q4A (z4B x.wide) none x.cs = 0 := by
   unfold z2e at h5
   split at h5
   ·cases h5
   ·exact h5
  obtain ⟨k1, k2, k3⟩ := key (z4B x.wide) (by unfold z4B; split <;> omega) (by unfold z4B; split <;> omega) x.cs none hf hs
  exact ⟨⟨a, b, c, d, by have := h7 s hs; omega⟩, by omega, k3⟩
 ·have := List.all_eq_true.1 h4 p hp
  unfold okN at this
  simp only [decide_eq_true_eq] at this
  omega
end Go.Av.Tryz
set_option linter.unusedSimpArgs false
set_option maxRecDepth 100000
set_option maxHeartbeats 8000000
namespace Go.Av.Tryz
open Go.Proofs
def putF : Fl → List UInt8 → Fnt → Fl
 | [], n, f => [(n, f)]
 | p :: r, n, f => if n = p.1 then (p.1, f) :: r else p :: putF r n f
def q5J (l : Fl) : Fl := l.foldl (fun a p => putF a p.1 p.2) []
abbrev q8j (fl : Fl) : List D := fl.map fun p => .str p.1
abbrev z1x (fl : Fl) : List D := fl.map fun p => p.2.d
theorem z64 {n : List UInt8} {f : Fnt} : ∀ {fl : Fl}, q85 fl n = none → putF fl n f = fl ++ [(n, f)]
 | [], _ => rfl
 | p :: r, h => by
  simp only [q85] at h
  split at h
  ·cases h
  ·rename_i hne
   simp only [putF, if_neg hne, z64 h, List.cons_append]
theorem z65 {n : List UInt8} {f : Fnt} : ∀ {fl : Fl}, (q85 fl n).isSome = true → q8j (putF fl n f) = q8j fl ∧ z1x (putF fl n f) = mset (q8j fl) (z1x fl) (.str n) f.d
 | [], h => by simp [q85] at h
 | p :: r, h => by
  simp only [q85] at h
  simp only [putF, q8j, z1x, List.map_cons, mset, q8Z, beq_iff_eq]
  split
  ·exact ⟨rfl, rfl⟩
  ·rename_i hne
   rw [if_neg hne] at h
   obtain ⟨h1, h2⟩ := z65 (f := f) h
   exact ⟨congrArg _ h1, congrArg _ h2⟩
theorem z63 (fl : Fl) (n : List UInt8) (f : Fnt) : (putF fl n f).length ≤ fl.length + 1 := by
 induction fl with
 | nil => simp [putF]
 | cons p r ih => simp only [putF]; split <;> simp only [List.length_cons] <;> omega
theorem z2l (fl : Fl) : ∀ k ∈ q8j fl, q0K .string k = true := fun k hk => by
 obtain ⟨p, _, rfl⟩ := List.mem_map.1 hk; rfl
theorem z5z (l : Fl) (p : List UInt8 × Fnt) : q5J (l ++ [p]) = putF (q5J l) p.1 p.2 := by simp [q5J]
theorem z7C (l : Fl) : (q5J l).length ≤ l.length := by
 have key : ∀ (l a : Fl), (l.foldl (fun a p => putF a p.1 p.2) a).length ≤ a.length + l.length := by
  intro l
  induction l with
  | nil => intro a; simp
  | cons p l ih => intro a; have h1 := ih (putF a p.1 p.2); have h2 := z63 a p.1 p.2; simp only [List.foldl_cons, List.length_cons]; omega
 have h := key l []
 rw [List.length_nil, Nat.zero_add] at h
 exact h
def namD (p : List UInt8 × Fnt) : D := .agg [.str p.1, .bool p.2.wide, .map (q2O p.2.ws) (q8K p.2.ws), .int .i64 p.2.miss, .map (q2O p.2.ns) (q8s p.2.ns), .list (q19 p.2.cs)]
def okW (p : Int × Int) : Bool := decide (Lim p.2)
def FoOK (p : List UInt8 × Fnt) : Prop := p.1.length ≤ 50 ∧ p.2.ok ∧ Lim p.2.miss ∧ ∀ x ∈ p.2.ws, Lim x.2
theorem z2o : Tryz.prog.underlying 25 = some (.map 9 62) := j5j
def z07 (l : List (Int × Int)) : List (D × D) := l.map fun p => (.int .i64 p.1, .int .i64 p.2)
theorem z8s (l : List (Int × Int)) : (q2O l).zip (q8K l) = z07 l := by
 induction l with
 | nil => rfl
 | cons p r ih => simp only [q2O, q8K, z07, List.map_cons, List.zip_cons_cons] at ih ⊢; rw [ih]
theorem z7X (l : List (Int × Int)) (i : Nat) {k v : D} (h : (z07 l)[i]? = some (k, v)) : ∃ p, l[i]? = some p ∧ k = .int .i64 p.1 ∧ v = .int .i64 p.2 := by
 simp only [z07, List.getElem?_map, Option.map_eq_some_iff, Prod.mk.injEq] at h
 obtain ⟨p, h1, h2, h3⟩ := h
 exact ⟨p, h1, h2.symm, h3.symm⟩
theorem q9O : ∀ (l : List (Int × Int)) (i : Nat), (z07 l).eraseIdx i = z07 (l.eraseIdx i)
 | [], _ => rfl
 | _ :: _, 0 => rfl
 | p :: r, i + 1 => congrArg _ (q9O r i)
theorem z7N {σ : St} {fl : Fl} {t : Nat} (hl : aget σ.L 8 = some (.mobj (q8j fl) (z1x fl))) (ht : aget σ.ρ t = some (.mp (.l 8))) (hH : σ.H = []) : Gh σ ⟨[(t, .d (q0W fl))], [], []⟩ := by
 refine Gh.trans (τ := ⟨amap (AV.frzM 8 (q8j fl) (z1x fl)) σ.ρ, [], σ.H⟩) (fun E n G ts w h => ⟨_, h.frzM hl⟩) (Gh.wk ⟨fun s x hx => ?_, fun r ob h => ?_⟩)
 ·simp only [aget] at hx
  split at hx
  ·rename_i e; subst e; cases hx
   rw [q0g, ht]; rfl
  ·cases hx
 ·cases r with
  | l q => cases h
  | x q => cases h
theorem j3X {α : Type} {l : List α} {i : Nat} {x : α} (h : l[i]? = some x) : l.drop i = x :: l.drop (i + 1) := by
 obtain ⟨h1, h2⟩ := List.getElem?_eq_some_iff.1 h
 rw [List.drop_eq_getElem_cons h1, h2]
def foB (p : List UInt8 × Fnt) : Bool := decide (p.1.length ≤ 50) && (q4N p.2 && (decide (Lim p.2.miss) && p.2.ws.all okW))
def foG (acc : Fl) : Fl → Fl × Bool
 | [] => (acc, true)
 | p :: r => if foB p = true then foG (putF acc p.1 p.2) r else (acc, false)
def foR (l : Fl) : Fl × Bool := if 5 < l.length then ([], false) else foG [] l
theorem j3c : ∀ (l acc fl : Fl) (b : Bool), foG acc l = (fl, b) → fl.length ≤ acc.length + l.length ∧ (b = true → fl = l.foldl (fun a p => putF a p.1 p.2) acc ∧ ∀ p ∈ l, foB p = true)
 | [], acc, fl, b, h => by cases h; exact ⟨by simp, fun _ => ⟨rfl, fun p hp => by cases hp⟩⟩
 | p :: r, acc, fl, b, h => by
  rw [foG] at h
  split at h
  ·rename_i hp
   obtain ⟨h1, h2⟩ := j3c r _ fl b h
   have := z63 acc p.1 p.2
   refine ⟨by simp only [List.length_cons]; omega, fun hb => ?_⟩
   obtain ⟨h3, h4⟩ := h2 hb
   refine ⟨h3, fun q hq => ?_⟩
   rcases List.mem_cons.1 hq with rfl | hq
   ·exact hp
   ·exact h4 q hq
  ·cases h; exact ⟨by simp, fun h => by cases h⟩
theorem j46 (l : Fl) (hw : ∀ p ∈ l, p.2.wf) : (foR l).1.length ≤ 5 ∧ ((foR l).2 = true → (foR l).1 = q5J l ∧ l.length ≤ 5 ∧ ∀ p ∈ l, FoOK p) := by
 unfold foR
 split
 ·exact ⟨Nat.zero_le _, fun h => by cases h⟩
 ·rename_i h5
  obtain ⟨h1, h2⟩ := j3c l [] _ _ rfl
  refine ⟨by simp only [List.length_nil] at h1; omega, fun hb => ?_⟩
  obtain ⟨h3, h4⟩ := h2 hb
  refine ⟨h3, by omega, fun p hp => ?_⟩
  have := h4 p hp
  simp only [foB, Bool.and_eq_true, decide_eq_true_eq, List.all_eq_true] at this
  exact ⟨this.1, z6V (hw p hp) this.2.1, this.2.2.1, fun x hx => by have := this.2.2.2 x hx; simpa [okW] using this⟩
def q1Q : q0j :=
 .seq (.reg [Qx 2 (.k (.d (.map [] []))), Qx 3 KF]) (.seq (.reg [⟨some 8, .prim (.mkMap 25) [] [], none⟩, Qa 4 8]) (.seq (.seq (.reg [Qc 9 0, Q 10 (.len false (.t 9)), Q 11 (.bin 
 .gtr (.t 10) (Ki 5))]) (.cond (.t 11) (.seq (.alt [([], Qc 12 4)] [Qa 2 12, Qx 3 KF]) .ret) .skip)) (.seq (.seq (.reg [Qx 5 (Ki 0)]) (.block 0 (.loop (.seq (.seq (.reg [Qc 13 5, 
 Qc 14 0, Q 15 (.len false (.t 14)), Q 16 (.bin .lss (.t 13) (.t 15))]) (.cond (.t 16) .skip (.exit 0))) (.seq (.block 1 (.seq (.seq (.reg [Qc 19 0, Qc 20 5, Q 21 (.ia 6 (.t 19) 
 (.t 20)), Q 22 (.fa 0 (.t 21)), Q 23 (.ld false 1 (.t 22)), Q 24 (.len true (.t 23)), Q 25 (.bin .gtr (.t 24) (Ki 50)), Qc 26 25, Qd 27 0 26 false, Qd 28 5 26 false, Qg 29 (.ia 6 
 (.t 27) (.t 28)) 26 false, Qg 30 (.fa 1 (.t 29)) 26 false, Qg 31 (.ld true 5 (.t 30)) 26 false, ⟨some 32, .call 25 [.t 31], some (26, false)⟩, Qg 33 (.not (.t 32)) 26 false, Q 34 
 (.pick (.t 26) KT (.t 33)), Qc 35 34, Qd 36 0 35 false, Qd 37 5 35 false, Qg 38 (.ia 6 (.t 36) (.t 37)) 35 false, Qg 39 (.fa 1 (.t 38)) 35 false, Qg 40 (.fa 2 (.t 39)) 35 false, 
 Qg 41 (.ld false 1 (.t 40)) 35 false, ⟨some 42, .call 26 [.t 41], some (35, false)⟩, Qg 43 (.bin .gtr (.t 42) (Ki 0)) 35 false, Q 44 (.pick (.t 35) KT (.t 43))]) (.cond (.t 44) 
 (.seq (.alt [([], Qc 45 4)] [Qa 2 45, Qx 3 KF]) .ret) .skip)) (.seq (.seq (.reg [Qc 46 0, Qc 47 5, Q 48 (.ia 6 (.t 46) (.t 47)), Q 49 (.fa 1 (.t 48)), Q 50 (.fa 1 (.t 49)), Q 51 
 (.ld false 1 (.t 50)), ⟨some 52, .prim (.range 58) [.t 51] [], none⟩]) (.block 2 (.loop (.seq (.reg [⟨some 53, .prim (.next false 0) [.t 52] [], none⟩, Q 54 (.ext 0 (.t 53))]) 
 (.seq (.cond (.t 54) .skip (.exit 2)) (.block 3 (.seq (.reg [⟨some 55, .prim .entry [.t 52] [], none⟩, Q 56 (.ext 1 (.t 55)), Qa 7 56]) (.seq (.reg [Qc 57 7, ⟨some 58, .call 26 
 [.t 57], none⟩, Q 59 (.bin .gtr (.t 58) (Ki 0))]) (.cond (.t 59) (.seq (.alt [([], Qc 60 4)] [Qa 2 60, Qx 3 KF]) .ret) .skip))))))))) (.dreg [Qc 61 4, Qc 62 0, Qc 63 5, Q 64 (.ia 
 6 (.t 62) (.t 63)), Q 65 (.fa 0 (.t 64)), Q 66 (.ld false 1 (.t 65)), Qc 67 0, Qc 68 5, Q 69 (.ia 6 (.t 67) (.t 68)), Q 70 (.fa 1 (.t 69)), Q 71 (.ld true 5 (.t 70)), ⟨none, 
 .prim (.mapUpd 25) [.t 61, .t 66, .t 71] [], none⟩])))) (.reg [Qc 17 5, Q 18 (.bin .add (.t 17) (Ki 1)), Qa 5 18])))))) (.seq (.alt [([], Qc 72 4)] [Qa 2 72, Qx 3 KT]) .ret))))
def q1W : List LRes := [.tmp 2, .tmp 3]
theorem q27 : q0t Tryz.prog 8 73 q1Q q1W := ⟨_, _, Tryz.func8, rfl, by kernel_rfl, by kernel_rfl, rfl⟩
theorem z5y (l : Fl) (hl : l.length ≤ 1000000000) (hw : ∀ p ∈ l, p.2.wf ∧ p.1.length ≤ 9223372036854775807 ∧ i64 p.2.miss) :
  q0u Tryz.prog 8 [.list (l.map namD)] (fun r => r = .tup [q0W (foR l).1, .bool (foR l).2]) := by
 refine q27.call rfl ?_
 generalize hR : foR l = R
 have hlen : (l.map namD).length = l.length := List.length_map ..
 simp (maxSteps := 2000000) only [go_sem, ↓reduceIte, q1Q, q1W]
 refine q0b.mkMap z2o ?_
 simp (maxSteps := 2000000) (disch := omega) only [go_sem, ↓reduceIte, hlen]
 refine ⟨fun h1 => ?_, fun h1 => ?_⟩
 ·refine q3C.ghost (q3C.step rfl (fun _ _ _ h => by cases h) rfl ?_)
  refine ⟨_, z7N (fl := []) (t := 12) rfl rfl rfl, ?_⟩
  simp (maxSteps := 2000000) only [go_sem, ↓reduceIte]
  unfold foR at hR
  rw [if_pos (by omega)] at hR
  rw [← hR]
 ·refine q0s (fun i : Nat => ⟨[(0, .d (.list (l.map namD))), (4, .mp (.l 8)), (5, .d (.int .i64 i))], [(8, .mobj (q8j (q5J (l.take i))) (z1x (q5J (l.take i))))], []⟩) (fun i => i ≤ l.length ∧ foG (q5J (l.take i)) (l.drop i) = R) (fun i => l.length - i) 0 ?_ ⟨Nat.zero_le _, by unfold foR at hR; rw [if_neg (by omega)] at hR; exact hR⟩ ?_
  ·refine Weak.mk ?_ ?_ ?_ <;> simp (maxSteps := 2000000) only [go_sem, ↓reduceIte, Sub, Int.natCast_add, Int.natCast_mul, q5J, List.take_zero, List.foldl_nil, List.map_nil]
  ·intro i ⟨hi, hG⟩
   have hfl := z7C (l.take i)
   rw [List.length_take] at hfl
   simp (maxSteps := 2000000) (disch := omega) only [go_sem, ↓reduceIte, hlen]
   refine ⟨fun hlt => ?_, fun hge => ?_⟩
   ·obtain ⟨p, hx⟩ := get_some (l := l) (i := i) (by omega)
    have hg : getI (l.map namD) (i : Int) = some (namD p) := by rw [q0c, List.getElem?_map, hx]; rfl
    have htk : l.take (i + 1) = l.take i ++ [p] := by rw [List.take_add_one, hx]; rfl
    obtain ⟨hpw, hpn, hpm⟩ := hw p (List.mem_of_getElem? hx)
    have hsn := z5z (l.take i) p
    rw [← htk] at hsn
    rw [j3X hx, foG] at hG
    generalize hF : q5J (l.take i) = F at *
    by_cases h50 : p.1.length ≤ 50
    ·have z1 : (50 < (p.1.length : Int)) = False := eq_false (by omega)
     simp (maxSteps := 2000000) (disch := omega) only [go_sem, ↓reduceIte, hg, namD, z1]
     refine q0k.of (z1Q p.2 hpw) ?_
     cases hlf : q4N p.2 with
     | false =>
      simp (maxSteps := 2000000) (disch := omega) only [go_sem, ↓reduceIte, hg, namD]
      refine q3C.ghost (q3C.step rfl (fun _ _ _ h => by cases h) rfl ?_)
      refine ⟨_, z7N (fl := F) (t := 45) rfl rfl rfl, ?_⟩
      simp (maxSteps := 2000000) only [go_sem, ↓reduceIte]
      rw [if_neg (by simp [foB, hlf])] at hG
      rw [← hG]
     | true =>
      have hfo := z6V hpw hlf
      simp (maxSteps := 2000000) (disch := omega) only [go_sem, ↓reduceIte, hg, namD]
      refine q0k.of (z2f p.2.miss) ?_
      by_cases hms : Lim p.2.miss
      ·have z2 : (0 < fltI p.2.miss) = False := eq_false (by rw [z9p hms]; decide)
       simp (maxSteps := 2000000) (disch := omega) only [go_sem, ↓reduceIte, hg, namD, z2]
       refine q0b.rangeMap rfl j11 ?_
       rw [z8s]
       simp (maxSteps := 2000000) only [go_sem, ↓reduceIte]
       refine q0s (fun y : List (Int × Int) × List (D × D) => ⟨[(0, .d (.list (l.map namD))), (4, .mp (.l 8)), (5, .d (.int .i64 i)), (52, .ptr (.l 52) 0)],
         [(8, .mobj (q8j F) (z1x F)), (52, .miter (z07 y.1) y.2)], []⟩)
        (fun y => (∀ x ∈ p.2.ws, x ∈ y.1 ∨ Lim x.2) ∧ ∀ x ∈ y.1, x ∈ p.2.ws) (fun y => y.1.length) (p.2.ws, []) ?_ ⟨fun x hx => .inl hx, fun x hx => hx⟩ ?_
       ·refine Weak.mk ?_ ?_ ?_ <;> simp (maxSteps := 2000000) only [go_sem, ↓reduceIte, Sub, Int.natCast_add, Int.natCast_mul]
       ·rintro ⟨rem, cur⟩ ⟨hW, hS⟩
        simp only at hW hS
        simp (maxSteps := 2000000) only [go_sem, ↓reduceIte]
        refine q0b.z98 rfl rfl (fun h0 => ?_) (fun q k v hik => ?_)
        ·have hrem : rem = [] := by cases rem with | nil => rfl | cons a r => cases h0
         subst hrem
         have hpok : foB p = true := by
          simp only [foB, Bool.and_eq_true, decide_eq_true_eq, List.all_eq_true]
          exact ⟨h50, hlf, hms, fun x hx => by simpa [okW] using (hW x hx).resolve_left (by simp)⟩
         rw [if_pos hpok, ← hsn] at hG
         have hD : ∀ (f : Fnt), f.d = .agg [.bool f.wide, .map (q2O f.ws) (q8K f.ws), .int .i64 f.miss, .map (q2O f.ns) (q8s f.ns), .list (q19 f.cs)] := fun _ => rfl
         simp (maxSteps := 2000000) (disch := omega) only [go_sem, ↓reduceIte, hg, namD]
         cases hlk : q85 F p.1 with
         | none =>
          have hpn := z64 (f := p.2) hlk
          rw [hpn] at hsn
          have hnk := z5U F p.1
          rw [hlk] at hnk
          refine q0b.z6X (ks := q8j F) (vs := z1x F) (key := .str p.1) (v := p.2.d) (s := 8) rfl rfl rfl rfl z2o z8k rfl (z2l F) hnk ?_
          simp (maxSteps := 2000000) (disch := omega) only [go_sem, ↓reduceIte]
          refine ⟨i + 1, ?_, ⟨by omega, hG⟩, by omega⟩
          rw [hsn]
          refine Weak.mk ?_ ?_ ?_ <;> simp (maxSteps := 2000000) only [go_sem, ↓reduceIte, Sub, Int.natCast_add, Int.natCast_mul, List.map_append, List.map_cons, List.map_nil, q8j, z1x]
         | some f0 =>
          obtain ⟨k1, k2⟩ := z65 (n := p.1) (f := p.2) (fl := F) (by rw [hlk]; rfl)
          rw [← hsn] at k1 k2
          have hnk := z5U F p.1
          rw [hlk] at hnk
          refine q0b.j5k (ks := q8j F) (vs := z1x F) (key := .str p.1) (v := p.2.d) (s := 8) rfl rfl rfl rfl z2o z8k rfl (z2l F) (by rw [hnk]; rfl) ?_
          simp (maxSteps := 2000000) (disch := omega) only [go_sem, ↓reduceIte]
          refine ⟨i + 1, ?_, ⟨by omega, hG⟩, by omega⟩
          rw [k1, k2]
          refine Weak.mk ?_ ?_ ?_ <;> simp (maxSteps := 2000000) only [go_sem, ↓reduceIte, Sub, Int.natCast_add, Int.natCast_mul]
        ·obtain ⟨x, hx1, rfl, rfl⟩ := z7X rem q hik
         rw [q9O]
         simp (maxSteps := 2000000) only [go_sem, ↓reduceIte]
         refine q0b.z6H rfl rfl ?_
         simp (maxSteps := 2000000) only [go_sem, ↓reduceIte]
         refine q0k.of (z2f x.2) ?_
         have hlt2 := (List.getElem?_eq_some_iff.1 hx1).1
         by_cases hL : Lim x.2
         ·have z3 : (0 < fltI x.2) = False := eq_false (by rw [z9p hL]; decide)
          simp (maxSteps := 2000000) only [go_sem, ↓reduceIte, z3]
          refine ⟨(rem.eraseIdx q, [(.int .i64 x.1, .int .i64 x.2)]), ?_, ⟨fun y hy => ?_, fun y hy => hS y (List.mem_of_mem_eraseIdx hy)⟩, ?_⟩
          ·refine Weak.mk ?_ ?_ ?_ <;> simp (maxSteps := 2000000) only [go_sem, ↓reduceIte, Sub, Int.natCast_add, Int.natCast_mul]
          ·rcases hW y hy with h | h
           ·by_cases e : y = x
            ·subst e; exact .inr hL
            ·refine .inl ?_
             obtain ⟨j, hj⟩ := List.getElem?_of_mem h
             have hjq : j ≠ q := fun e2 => by subst e2; rw [hx1] at hj; cases hj; exact e rfl
             have this : ∀ j, (rem.eraseIdx q)[j]? = if j < q then rem[j]? else rem[j + 1]? := fun j => List.getElem?_eraseIdx ..
             rcases Nat.lt_or_ge j q with h5 | h5
             ·exact List.mem_of_getElem? (i := j) (by rw [this, if_pos h5]; exact hj)
             ·exact List.mem_of_getElem? (i := j - 1) (by rw [this, if_neg (by omega), show j - 1 + 1 = j by omega]; exact hj)
           ·exact .inr h
          ·simp only
           rw [List.length_eraseIdx, if_pos hlt2]; omega
         ·have z3 : (0 < fltI x.2) = True := eq_true (by rw [z9o hL]; decide)
          simp (maxSteps := 2000000) only [go_sem, ↓reduceIte, z3]
          refine q3C.ghost (q3C.step rfl (fun _ _ _ h => by cases h) rfl ?_)
          refine ⟨_, z7N (fl := F) (t := 60) rfl rfl rfl, ?_⟩
          simp (maxSteps := 2000000) only [go_sem, ↓reduceIte]
          have hno : ¬ foB p = true := fun hb => by
           simp only [foB, Bool.and_eq_true, decide_eq_true_eq, List.all_eq_true] at hb
           rcases List.getElem?_eq_some_iff.1 hx1 with ⟨_, he⟩
           have := hb.2.2.2 x (hS x (List.mem_of_getElem? hx1))
           exact hL (by simpa [okW] using this)
          rw [if_neg hno] at hG
          rw [← hG]
      ·have z2 : (0 < fltI p.2.miss) = True := eq_true (by rw [z9o hms]; decide)
       simp (maxSteps := 2000000) (disch := omega) only [go_sem, ↓reduceIte, hg, namD, z2]
       refine q3C.ghost (q3C.step rfl (fun _ _ _ h => by cases h) rfl ?_)
       refine ⟨_, z7N (fl := F) (t := 45) rfl rfl rfl, ?_⟩
       simp (maxSteps := 2000000) only [go_sem, ↓reduceIte]
       rw [if_neg (by simp [foB, hms])] at hG
       rw [← hG]
    ·have z1 : (50 < (p.1.length : Int)) = True := eq_true (by omega)
     simp (maxSteps := 2000000) (disch := omega) only [go_sem, ↓reduceIte, hg, namD, z1]
     refine q3C.ghost (q3C.step rfl (fun _ _ _ h => by cases h) rfl ?_)
     refine ⟨_, z7N (fl := F) (t := 45) rfl rfl rfl, ?_⟩
     simp (maxSteps := 2000000) only [go_sem, ↓reduceIte]
     rw [if_neg (by simp [foB]; omega)] at hG
     rw [← hG]
   ·have hie : l.take i = l := List.take_of_length_le (by omega)
    rw [hie, List.drop_eq_nil_of_le (by omega), foG] at hG
    rw [hie]
    refine q3C.ghost (q3C.step rfl (fun _ _ _ h => by cases h) rfl ?_)
    refine ⟨_, z7N (fl := q5J l) (t := 72) rfl rfl rfl, ?_⟩
    simp (maxSteps := 2000000) only [go_sem, ↓reduceIte]
    rw [← hG]
theorem z7D (l : Fl) (hl : l.length ≤ 1000000000) (hw : ∀ p ∈ l, p.2.wf ∧ p.1.length ≤ 9223372036854775807 ∧ i64 p.2.miss) :
  q0u Tryz.prog 8 [.list (l.map namD)] (fun r => ∃ fl b, r = .tup [q0W fl, .bool b] ∧ fl.length ≤ 5 ∧ (b = true → fl = q5J l ∧ l.length ≤ 5 ∧ ∀ p ∈ l, FoOK p)) :=
 (z5y l hl hw).mono fun r hr => ⟨_, _, hr, j46 l fun p hp => (hw p hp).1⟩
end Go.Av.Tryz
set_option linter.unusedSimpArgs false
set_option maxRecDepth 100000
set_option maxHeartbeats 8000000
namespace Go.Av.Tryz
open Go.Proofs
theorem z4g (l : List Gph) : (q4J l).length = l.length := by simp [q4J]
def q06 : q0j :=
 .seq (.reg [Qx 4 KF]) (.seq (.seq (.reg [Qc 6 0, Q 7 (.len false (.t 6)), Qc 8 1, Q 9 (.len false (.t 8)), Q 10 (.bin .neq (.t 7) (.t 9))]) (.cond (.t 10) (.seq (.reg [Qx 4 KF]) 
 .ret) .skip)) (.seq (.seq (.reg [Qx 5 (Ki 0)]) (.block 0 (.loop (.seq (.seq (.reg [Qc 11 5, Qc 12 0, Q 13 (.len false (.t 12)), Q 14 (.bin .lss (.t 11) (.t 13))]) (.cond (.t 14) 
 .skip (.exit 0))) (.seq (.block 1 (.seq (.dreg [Qc 17 0, Qc 18 5, Q 19 (.ia 10 (.t 17) (.t 18)), Q 20 (.ld true 10 (.t 19)), Qc 21 1, Qc 22 5, Q 23 (.ia 10 (.t 21) (.t 22)), Q 24 
 (.ld true 10 (.t 23)), ⟨some 25, .prim (.eq .neq 55) [.t 20, .t 24] [], none⟩]) (.cond (.t 25) (.seq (.reg [Qx 4 KF]) .ret) .skip))) (.reg [Qc 15 5, Q 16 (.bin .add (.t 15) (Ki 
 1)), Qa 5 16])))))) (.seq (.reg [Qx 4 KT]) .ret)))
def q1a : List LRes := [.tmp 4]
theorem q2s : q0t Tryz.prog 14 26 q06 q1a := ⟨_, _, Tryz.func14, rfl, by kernel_rfl, by kernel_rfl, rfl⟩
theorem q6U (l : List Gph) (h : l.length ≤ 1000000) : q0u Tryz.prog 14 [.list (q4J l), .list (q4J l)] (fun r => r = .one (.bool true)) := by
 refine q2s.call rfl ?_
 have hI : ((q4J l).length : Int) = (l.length : Int) := by rw [z4g]
 simp (maxSteps := 2000000) only [go_sem, ↓reduceIte, q06, q1a, hI]
 refine q0s (fun i : Nat => ⟨[(0, .d (.list (q4J l))), (1, .d (.list (q4J l))), (5, .d (.int .i64 i))], [], []⟩)
  (fun i => i ≤ l.length) (fun i => l.length - i) 0 ?_ (Nat.zero_le _) ?_
 ·refine Weak.mk ?_ ?_ ?_ <;> simp (maxSteps := 2000000) only [go_sem, ↓reduceIte, Sub, Int.natCast_add, Int.natCast_mul]
 ·intro i hi
  simp (maxSteps := 2000000) (disch := omega) only [go_sem, ↓reduceIte, hI]
  intro hlt
  obtain ⟨x, hx⟩ := get_some (l := l) (i := i) (by omega)
  have hg : getI (q4J l) (i : Int) = some x.d := by rw [q0c, q4J, List.getElem?_map, hx]; rfl
  simp (maxSteps := 2000000) (disch := omega) only [go_sem, ↓reduceIte, hg, Gph.d, I]
  refine q0b.j4z (cs := _) (ks := [2, 0, 0, 0, 0, 0, 0, 0, 0, 0]) rfl rfl (by kernel_rfl) (by kernel_rfl) (by kernel_rfl) rfl (by kernel_rfl) ?_
  simp (maxSteps := 2000000) (disch := omega) only [go_sem, ↓reduceIte]
  refine ⟨i + 1, ?_, by omega, by omega⟩
  refine Weak.mk ?_ ?_ ?_ <;> simp (maxSteps := 2000000) only [go_sem, ↓reduceIte, Sub, Int.natCast_add, Int.natCast_mul]
def z7i (l : List Int) : Bool := l.all fun n => decide (-1000000 ≤ n ∧ n ≤ 1000000)
def q1S : q0j :=
 .seq (.reg [Qx 2 KF]) (.seq (.seq (.reg [Qx 3 (Ki 0)]) (.block 0 (.loop (.seq (.seq (.reg [Qc 4 3, Qc 5 0, Q 6 (.len false (.t 5)), Q 7 (.bin .lss (.t 4) (.t 6))]) (.cond (.t 7) 
 .skip (.exit 0))) (.seq (.block 1 (.seq (.reg [Qc 10 0, Qc 11 3, Q 12 (.ia 1 (.t 10) (.t 11)), Q 13 (.ld false 1 (.t 12)), Q 14 (.bin .lss (.t 13) (Ki (-1000000))), Qc 15 14, Qd 
 16 0 15 false, Qd 17 3 15 false, Qg 18 (.ia 1 (.t 16) (.t 17)) 15 false, Qg 19 (.ld false 1 (.t 18)) 15 false, Qg 20 (.bin .gtr (.t 19) (Ki 1000000)) 15 false, Q 21 (.pick (.t 
 15) KT (.t 20))]) (.cond (.t 21) (.seq (.reg [Qx 2 KF]) .ret) .skip))) (.reg [Qc 8 3, Q 9 (.bin .add (.t 8) (Ki 1)), Qa 3 9])))))) (.seq (.reg [Qx 2 KT]) .ret))
def q1Y : List LRes := [.tmp 2]
theorem q29 : q0t Tryz.prog 17 22 q1S q1Y := ⟨_, _, Tryz.func17, rfl, by kernel_rfl, by kernel_rfl, rfl⟩
theorem z8f (l : List Int) (h : l.length ≤ 1000000) : q0u Tryz.prog 17 [.list (nmD l)] (fun r => r = .one (.bool (z7i l))) := by
 refine q29.call rfl ?_
 have hI : ((nmD l).length : Int) = (l.length : Int) := by rw [z5X]
 unfold z7i
 generalize hR : (l.all fun n => decide (-1000000 ≤ n ∧ n ≤ 1000000)) = R
 simp (maxSteps := 2000000) only [go_sem, ↓reduceIte, q1S, q1Y, hI]
 refine q0s (fun i : Nat => ⟨[(0, .d (.list (nmD l))), (3, .d (.int .i64 i))], [], []⟩)
  (fun i => i ≤ l.length ∧ ((l.drop i).all fun n => decide (-1000000 ≤ n ∧ n ≤ 1000000)) = R) (fun i => l.length - i) 0 ?_ ⟨Nat.zero_le _, hR⟩ ?_
 ·refine Weak.mk ?_ ?_ ?_ <;> simp (maxSteps := 2000000) only [go_sem, ↓reduceIte, Sub, Int.natCast_add, Int.natCast_mul]
 ·intro i ⟨hi, hF⟩
  simp (maxSteps := 2000000) (disch := omega) only [go_sem, ↓reduceIte, hI]
  refine ⟨fun hlt => ?_, fun hge => ?_⟩
  ·obtain ⟨x, hx⟩ := get_some (l := l) (i := i) (by omega)
   have hg : getI (nmD l) (i : Int) = some (.int .i64 x) := by rw [q0c, nmD, List.getElem?_map, hx]; rfl
   rw [q1J hx, List.all_cons] at hF
   simp (maxSteps := 2000000) (disch := omega) only [go_sem, ↓reduceIte, hg]
   by_cases h1 : x < -1000000
   ·have e : decide (-1000000 ≤ x ∧ x ≤ 1000000) = false := decide_eq_false (by omega)
    rw [e, Bool.false_and] at hF
    exact ⟨fun h => absurd h1 h, fun _ => by rw [← hF]⟩
   ·refine ⟨fun _ => ⟨fun h2 => ?_, fun h2 => ?_⟩, fun h => absurd h h1⟩
    ·have e : decide (-1000000 ≤ x ∧ x ≤ 1000000) = false := decide_eq_false (by omega)
     rw [e, Bool.false_and] at hF
     rw [← hF]
    ·have e : decide (-1000000 ≤ x ∧ x ≤ 1000000) = true := decide_eq_true (by omega)
     rw [e, Bool.true_and] at hF
     refine ⟨i + 1, ?_, ⟨by omega, hF⟩, by omega⟩
     refine Weak.mk ?_ ?_ ?_ <;> simp (maxSteps := 2000000) only [go_sem, ↓reduceIte, Sub, Int.natCast_add, Int.natCast_mul]
  ·have hd : l.drop i = [] := List.drop_eq_nil_of_le (by omega)
   rw [hd, List.all_nil] at hF
   rw [← hF]
end Go.Av.Tryz
set_option linter.unusedSimpArgs false
set_option maxRecDepth 100000
namespace Go.Av.Tryz
open Go.Proofs
theorem z2x (x : Fnt) (t : List UInt8) : ∀ s : List UInt8, s.length % 2 = 0 → q5T x (s ++ t) = q5T x s ++ q5T x t
 | [], _ => rfl
 | [c], h => by simp at h
 | c :: d :: r, h => by
  have := z2x x t r (by simp at h; omega)
  simp only [List.cons_append, q5T, this]
theorem z8c (x : Fnt) (s t : List UInt8) {a b : List Sgn} (ha : q4F x s = some a) (hb : q4F x t = some b) : q4F x (s ++ t) = some (a ++ b) := by
 unfold q4F at *
 split at ha
 ·rename_i hw
  rw [if_pos hw] at hb
  rw [if_pos hw]
  split at ha
  ·rename_i h1
   split at hb
   ·rename_i h2
    cases ha; cases hb
    rw [if_pos (by rw [List.length_append]; omega), z2x x t s h1]
   ·cases hb
  ·cases ha
 ·rename_i hw
  rw [if_neg hw] at hb
  rw [if_neg hw]
  cases ha; cases hb
  simp [q9h]
theorem z8e {x : Fnt} {s : List UInt8} (h : q4F x s = none) : x.wide = true := by
 unfold q4F at h
 split at h
 ·assumption
 ·cases h
theorem z9u {q : PT} (h : q.bad ≠ 0) : ∀ (l : List Sgn), q.gls l = q
 | [] => rfl
 | a :: l => by rw [PT.gls, if_neg h]; exact z9u h l
theorem j30 (q : PT) : ∀ (a b : List Sgn), q.gls (a ++ b) = (q.gls a).gls b := by
 intro a
 induction a generalizing q with
 | nil => intro b; rfl
 | cons x a ih => intro b; simp only [List.cons_append, PT.gls]; exact ih _ b
end Go.Av.Tryz
set_option linter.unusedSimpArgs false
set_option maxRecDepth 100000
namespace Go.Av.Tryz
open Go.Proofs
def numW (n : Int) : Val := .mk 2 n [] [] []
def strW (s : List UInt8) : Val := .mk 3 0 s [] []
def namW (s : List UInt8) : Val := .mk 4 0 s [] []
def lisW (l : List Val) : Val := .mk 5 0 [] l []
def q45 (size char scale : Int) : List OpV := [⟨[66, 84], []⟩, ⟨[84, 102], [namW [70], numW size]⟩, ⟨[84, 99], [numW char]⟩, ⟨[84, 122], [numW scale]⟩]
def q04 (x : Fnt) (size char scale : Int) : PT := ⟨⟨q9i, some x, size, char, 0, IntKind.i64.wrap (scale.tdiv 100), 0, 0⟩, [], q9i, q9i, true, [], 0⟩
theorem j1M (x : Fnt) (size char scale : Int) (l : List OpV) : q00.run [([70], x)] (q45 size char scale ++ l) = (q04 x size char scale).run [([70], x)] l := by
 rfl
theorem j2L (q : PT) (hq : q.ok) (s t : List UInt8) (h : ∀ f, q.s.font = some f → f.wide = true → s.length % 2 = 0 ∧ t.length % 2 = 0) (hf : q.s.font.isSome = true) (hi : q.inn = true) :
  q.shw (s ++ t) = (q.shw s).shw t ∧ ((q.shw s).bad ≠ 0 → (q.shw s).shw t = q.shw s) := by
 obtain ⟨f, hf⟩ := Option.isSome_iff_exists.1 hf
 have some_of : ∀ u : List UInt8, (f.wide = true → u.length % 2 = 0) → ∃ l, q4F f u = some l := fun u hu => by
  cases h : q4F f u with
  | some l => exact ⟨l, rfl⟩
  | none =>
   have hw := z8e h
   unfold q4F at h
   rw [if_pos hw, if_pos (hu hw)] at h; cases h
 obtain ⟨a, ha⟩ := some_of s fun hw => (h f hf hw).1
 obtain ⟨b, hb⟩ := some_of t fun hw => (h f hf hw).2
 have hab := z8c f s t ha hb
 have e : ∀ (q' : PT) (u : List UInt8) (l : List Sgn), q'.s.font = some f → q'.inn = true → q4F f u = some l → q'.shw u = q'.gls l := fun q' u l h1 h2 h3 => by
  simp only [PT.shw, h1, h2, h3, ↓reduceIte]
 have h1 := e q s a hf hi ha
 obtain ⟨k1, k2, k3, _, _⟩ := z4f hq a
 have h2 := e (q.gls a) t b (by rw [k2]; exact hf) (by rw [k3]; exact hi) hb
 rw [e q (s ++ t) (a ++ b) hf hi hab, h1, h2, j30]
 exact ⟨rfl, fun hbad => z9u hbad b⟩
theorem j2O (x : Fnt) (hx : x.ok) (size char scale : Int) (s t : List UInt8) (h : x.wide = true → s.length % 2 = 0 ∧ t.length % 2 = 0) :
  q89 [([70], x)] (q45 size char scale ++ [⟨[84, 106], [strW s]⟩, ⟨[84, 106], [strW t]⟩]) = q89 [([70], x)] (q45 size char scale ++ [⟨[84, 106], [strW (s ++ t)]⟩]) ∧
  q89 [([70], x)] (q45 size char scale ++ [⟨[84, 74], [lisW [strW s, strW t]]⟩]) = q89 [([70], x)] (q45 size char scale ++ [⟨[84, 106], [strW (s ++ t)]⟩]) := by
 have hq : (q04 x size char scale).ok := ⟨fun _ => Nat.zero_le _, fun f hf => by cases hf; exact hx⟩
 obtain ⟨h1, h2⟩ := j2L (q04 x size char scale) hq s t (fun f hf hw => by cases hf; exact h hw) rfl rfl
 generalize hq4 : q04 x size char scale = q at *
 have e1 : ∀ (q' : PT) (u : List UInt8), q'.dop [([70], x)] ⟨[84, 106], [strW u]⟩ = q'.shw u := fun q' u => by
  have : q'.dop [([70], x)] ⟨[84, 106], [strW u]⟩ = (q'.er 0).shw u := rfl
  rw [this, er0]
 have e2 : q.dop [([70], x)] ⟨[84, 74], [lisW [strW s, strW t]]⟩ = (q.shw s).shw t := rfl
 have hp : ∀ l, (q45 size char scale ++ l).length ≤ 2000 → q89 [([70], x)] (q45 size char scale ++ l) = q9a (q.run [([70], x)] l) := fun l hl => by
  unfold q89
  rw [if_neg (by omega), j1M, hq4]
 rw [hp _ (by simp [q45]), hp _ (by simp [q45]), hp _ (by simp [q45])]
 simp only [z3v, e1, e2, h1]
 have hr : ∀ q', PT.run [([70], x)] q' [] = q' := fun _ => rfl
 simp only [hr, ite_self, and_true]
 split
 ·rfl
 ·rename_i hb
  rw [h2 hb]
def z4X : List UInt8 := [66, 84, 32, 47, 70, 32, 49, 48, 32, 84, 102, 32, 40, 97, 41, 32, 84, 106, 32, 69, 84]
def z2y : List OpV := [⟨[66, 84], []⟩, ⟨[84, 102], [namW [70], numW 10000]⟩, ⟨[84, 106], [strW [97]]⟩, ⟨[69, 84], []⟩]
def z7e : Fl := [([70], ⟨false, [], 500, [], []⟩)]
theorem z5o {α : Type} {l : List α} {i : Nat} {x : α} (h : l[i]? = some x) : l.drop i = x :: l.drop (i + 1) := by
 obtain ⟨hi, rfl⟩ := List.getElem?_eq_some_iff.1 h
 exact List.drop_eq_getElem_cons hi
/-! ### Blanks, words -/
def z3x : List UInt8 := [40, 41, 60, 62, 91, 93, 123, 125, 47, 37]
def q8F (c : UInt8) : Bool := decide (c ∈ z3x)
def q6n (note : Bool) : List UInt8 → Nat → Nat
 | [], at_ => at_
 | c :: r, at_ =>
  if note = true then q6n (decide (c.toNat ≠ 10) && decide (c.toNat ≠ 13)) r (at_ + 1)
  else if c.toNat = 37 then q6n true r (at_ + 1)
  else if q77 c.toNat = true then q6n false r (at_ + 1)
  else at_
def q3j (s : List UInt8) (at_ : Nat) : Nat := q6n false (s.drop at_) at_
def q8O (s : List UInt8) : List UInt8 := s.takeWhile fun c => !q77 c.toNat && !q8F c
def q2r (s : List UInt8) (at_ : Nat) : List UInt8 := q8O (s.drop at_)
def q5l (s : List UInt8) (n : Int) : Nat := (min (max n 0) s.length).toNat
theorem q99 : ∀ (s : List UInt8) (b : Bool) (k : Nat), k ≤ q6n b s k ∧ q6n b s k ≤ k + s.length
 | [], b, k => by simp [q6n]
 | c :: r, b, k => by
  unfold q6n
  simp only [List.length_cons]
  split
  ·have := q99 r (decide (c.toNat ≠ 10) && decide (c.toNat ≠ 13)) (k + 1); omega
  ·split
   ·have := q99 r true (k + 1); omega
   ·split
    ·have := q99 r false (k + 1); omega
    ·omega
theorem q4h {s : List UInt8} {k : Nat} (h : k ≤ s.length) : k ≤ q3j s k ∧ q3j s k ≤ s.length := by
 have := q99 (s.drop k) false k
 rw [List.length_drop] at this
 unfold q3j
 omega
theorem q3Q (s : List UInt8) (k : Nat) : (q2r s k).length ≤ s.length - k := by
 have := (List.takeWhile_sublist (fun c : UInt8 => !q77 c.toNat && !q8F c) (l := s.drop k)).length_le
 rw [List.length_drop] at this
 exact this
theorem z7y {c : UInt8} (h : c.toNat < 128) : (Utf8.encode (c.toNat : Int)).data.toList = [c] := by
 have : ∀ n : Fin 128, (Utf8.encode ((n.val : Nat) : Int)).data.toList = [UInt8.ofNat n.val] := by decide +kernel
 have := this ⟨c.toNat, h⟩
 simp only at this
 rw [this]
 simp
def q9P : List UInt8 → Nat → Nat → Int → Option (Nat × Nat × Int)
 | [], n, d, p => some (n, d, p)
 | c :: r, n, d, p =>
  if c.toNat = 46 ∧ p < 0 then q9P r n d 0
  else if c.toNat < 48 ∨ 57 < c.toNat then none
  else q9P r (if p < 3 ∧ n ≤ 1000000000 then 10 * n + (c.toNat - 48) else n) (d + 1) (if 0 ≤ p then p + 1 else p)
def finP (neg : Bool) : Option (Nat × Nat × Int) → Int × Nat
 | none => (0, 4)
 | some (n, d, p) => if d = 0 then (0, 4) else if 1000000000 < n * 10 ^ (3 - p.toNat) then (0, 1) else (if neg = true then -((n * 10 ^ (3 - p.toNat) : Nat) : Int) else ((n * 10 ^ (3 - p.toNat) : Nat) : Int), 0)
def j0P : List UInt8 → Bool × List UInt8
 | [] => (false, [])
 | c :: r => if c.toNat = 45 then (true, r) else if c.toNat = 43 then (false, r) else (false, c :: r)
def q6g (s : List UInt8) : Int × Nat := finP (j0P s).1 (q9P (j0P s).2 0 0 (-1))
def resP (p : Int × Nat) : Res := .tup [.int .i64 p.1, errD p.2]
def q7y : q0j :=
 .seq (.reg [Qx 2 (Ki 0), Qx 3 (.k (.d .nil))]) (.seq (.reg [Qc 11 0, Qa 4 11]) (.seq (.reg [Qx 5 KF]) (.seq (.seq (.reg [Qc 12 4, Q 13 (.bin .neq (.t 12) (.k (.d (.str [])))), Qc 
 14 13, Qd 15 4 14 true, Qg 16 (.idxS (.t 15) (Ki 0)) 14 true, Qg 17 (.bin .eql (.t 16) (Kb 45)) 14 true, Qd 18 17 14 true, Qd 19 4 18 false, Qg 20 (.idxS (.t 19) (Ki 0)) 18 
 false, Qg 21 (.bin .eql (.t 20) (Kb 43)) 18 false, Qg 22 (.pick (.t 18) KT (.t 21)) 14 true, Q 23 (.pick (.t 14) (.t 22) KF)]) (.cond (.t 23) (.dreg [Qc 24 4, Q 25 (.idxS (.t 24) 
 (Ki 0)), Q 26 (.bin .eql (.t 25) (Kb 45)), Qc 27 4, Q 28 (.subS (.t 27) (some (Ki 1)) none), Qc 5 26, Qc 4 28]) .skip)) (.seq (.reg [Qx 6 (Ki 0), Qx 7 (Ki 0), Qx 8 (Ki (-1))]) 
 (.seq (.seq (.reg [Qc 29 4, Q 30 (.len true (.t 29)), Q 31 (.cp (Ki 0))]) (.block 0 (.loop (.seq (.reg [Q 32 (.bin .lss (.t 31) (.t 30))]) (.seq (.cond (.t 32) .skip (.exit 0)) 
 (.seq (.block 1 (.seq (.reg [Qc 33 31, Qa 9 33]) (.seq (.reg [Qc 34 4, Qc 35 9, Q 36 (.idxS (.t 34) (.t 35)), Qa 10 36]) (.block 2 (.seq (.reg [Qc 56 10, Q 57 (.bin .eql (.t 56) 
 (Kb 46)), Qc 58 57, Qd 59 8 58 true, Qg 60 (.bin .lss (.t 59) (Ki 0)) 58 true, Q 61 (.pick (.t 58) (.t 60) KF), Qa 55 61]) (.cond (.t 55) (.reg [Qx 8 (Ki 0)]) (.seq (.reg [Qc 63 
 10, Q 64 (.bin .lss (.t 63) (Kb 48)), Qc 65 64, Qd 66 10 65 false, Qg 67 (.bin .gtr (.t 66) (Kb 57)) 65 false, Q 68 (.pick (.t 65) KT (.t 67)), Qa 62 68]) (.cond (.t 62) (.seq 
 (.reg [Q 69 (.mkI 76 (Ki 4)), Qx 2 (Ki 0), Qa 3 69]) .ret) (.seq (.reg [Qc 37 7, Q 38 (.bin .add (.t 37) (Ki 1)), Qa 7 38]) (.seq (.seq (.reg [Qc 39 8, Q 40 (.bin .lss (.t 39) 
 (Ki 3)), Qc 41 40, Qd 42 6 41 true, Qg 43 (.bin .leq (.t 42) (Ki 1000000000)) 41 true, Q 44 (.pick (.t 41) (.t 43) KF)]) (.cond (.t 44) (.reg [Qc 45 6, Q 46 (.bin .mul (Ki 10) 
 (.t 45)), Qc 47 10, Q 48 (.bin .sub (.t 47) (Kb 48)), Q 49 (.cvI .i64 (.t 48)), Q 50 (.bin .add (.t 46) (.t 49)), Qa 6 50]) .skip)) (.seq (.reg [Qc 51 8, Q 52 (.bin .geq (.t 51) 
 (Ki 0))]) (.cond (.t 52) (.reg [Qc 53 8, Q 54 (.bin .add (.t 53) (Ki 1)), Qa 8 54]) .skip)))))))))))) (.reg [Q 70 (.bin .add (.t 31) (Ki 1)), Qc 31 70]))))))) (.seq (.seq (.reg 
 [Qc 71 7, Q 72 (.bin .eql (.t 71) (Ki 0))]) (.cond (.t 72) (.seq (.reg [Q 73 (.mkI 76 (Ki 4)), Qx 2 (Ki 0), Qa 3 73]) .ret) .skip)) (.seq (.seq (.reg [Qc 74 8, Q 75 (.mm true (.t 
 74) (Ki 0)), Qa 8 75]) (.block 3 (.loop (.seq (.seq (.reg [Qc 76 8, Q 77 (.bin .lss (.t 76) (Ki 3))]) (.cond (.t 77) .skip (.exit 3))) (.seq (.block 4 (.reg [Qc 80 6, Q 81 (.bin 
 .mul (.t 80) (Ki 10)), Qa 6 81])) (.reg [Qc 78 8, Q 79 (.bin .add (.t 78) (Ki 1)), Qa 8 79])))))) (.seq (.seq (.reg [Qc 82 6, Q 83 (.bin .gtr (.t 82) (Ki 1000000000))]) (.cond 
 (.t 83) (.seq (.reg [Q 84 (.mkI 76 (Ki 1)), Qx 2 (Ki 0), Qa 3 84]) .ret) .skip)) (.seq (.seq (.reg [Qc 85 5]) (.cond (.t 85) (.reg [Qc 86 6, Q 87 (.neg (.t 86)), Qa 6 87]) 
 .skip)) (.seq (.reg [Qc 88 6, Qa 2 88, Qx 3 (.k (.d .nil))]) .ret))))))))))
def q7B : List LRes := [.tmp 2, .tmp 3]
theorem z1L : q0t Tryz.prog 113 89 q7y q7B := ⟨_, _, Tryz.func113, rfl, by kernel_rfl, by kernel_rfl, rfl⟩
theorem z7Z (s : List UInt8) (hs : s.length ≤ 1000000) : q0u Tryz.prog 113 [.str s] (fun r => r = resP (q6g s)) := by
 refine z1L.call rfl ?_
 unfold q6g
 cases s with
 | nil =>
  have hs0 : j0P [] = (false, []) := rfl
  have hR : resP (finP false (q9P [] 0 0 (-1))) = .tup [.int .i64 0, .iface 76 (.int .i64 4)] := rfl
  rw [hs0, hR]
  simp (maxSteps := 2000000) (disch := omega) only [go_sem, ↓reduceIte, q7y, q7B]
  refine q10 ?_
  simp (maxSteps := 2000000) (disch := omega) only [go_sem, ↓reduceIte]
 | cons c r =>
  have hc8 := q4e c
  have hne : (c :: r = []) = False := by simp
  have hg0 : getI (c :: r) 0 = some c := rfl
  have hcut : cutI (c :: r) 1 ((r.length + 1 : Nat) : Int) = r := by
   show cutI (c :: r) ((1 : Nat) : Int) _ = r
   rw [q94]; simp
  have hlr : r.length + 1 ≤ 1000000 := by simpa using hs
  generalize hst : j0P (c :: r) = st
  dsimp only [j0P] at hst
  obtain ⟨R, hR⟩ : ∃ R, finP st.1 (q9P st.2 0 0 (-1)) = R := ⟨_, rfl⟩
  rw [hR]
  simp (maxSteps := 2000000) (disch := omega) only [go_sem, ↓reduceIte, q7y, q7B, hne, hg0, hcut]
  refine ⟨fun a1 => ⟨fun a2 => ⟨by omega, ?_⟩, fun a2 => ?_⟩, fun a1 => ⟨by omega, ?_⟩⟩
  rw [if_neg (by omega), if_pos (by omega)] at hst
  subst hst
  obtain ⟨T, hT⟩ : ∃ T, T = r := ⟨_, rfl⟩
  obtain ⟨N, hN⟩ : ∃ N, N = false := ⟨_, rfl⟩
  have hdec : decide ((c.toNat : Int) = 45) = false := by simp [a1]
  simp only [hdec]
  rw [← hT, ← hN] at hR
  have hlT : T.length ≤ 1000000 := by rw [hT]; omega
  rotate_left
  rw [if_neg (by omega), if_neg (by omega)] at hst
  subst hst
  obtain ⟨T, hT⟩ : ∃ T, T = c :: r := ⟨_, rfl⟩
  obtain ⟨N, hN⟩ : ∃ N, N = false := ⟨_, rfl⟩
  rw [← hT, ← hN] at hR
  have hlT : T.length ≤ 1000000 := by rw [hT]; exact hs
  rotate_left
  rw [if_pos (by omega)] at hst
  subst hst
  obtain ⟨T, hT⟩ : ∃ T, T = r := ⟨_, rfl⟩
  obtain ⟨N, hN⟩ : ∃ N, N = true := ⟨_, rfl⟩
  have hdec : decide ((c.toNat : Int) = 45) = true := by simp [a1]
  simp only [hdec]
  rw [← hT, ← hN] at hR
  have hlT : T.length ≤ 1000000 := by rw [hT]; omega
  rotate_left
  all_goals
   refine q0s (fun y : Nat × Nat × Nat × Int => ⟨[(4, .d (.str T)), (5, .d (.bool N)), (6, .d (.int .i64 y.2.1)), (7, .d (.int .i64 y.2.2.1)), (8, .d (.int .i64 y.2.2.2)), (30, .d (.int .i64 (T.length : Nat))), (31, .d (.int .i64 y.1))], [], []⟩)
    (fun y => y.1 ≤ T.length ∧ y.2.1 ≤ 10000000009 ∧ y.2.2.1 ≤ y.1 ∧ -1 ≤ y.2.2.2 ∧ y.2.2.2 ≤ y.1 ∧ finP N (q9P (T.drop y.1) y.2.1 y.2.2.1 y.2.2.2) = R) (fun y => T.length - y.1) (0, 0, 0, -1) ?_ ?_ ?_
   ·refine q0e ?_ trivial
    simp (maxSteps := 2000000) only [go_sem, ↓reduceIte, Sub, Int.natCast_add, Int.natCast_mul, hT, hN]
   ·exact ⟨by simp, by simp, by simp, by simp, by simp, by simpa using hR⟩
   ·rintro ⟨i, n, d, p⟩ ⟨hi, hn, hd, hp, hp2, hF⟩
    simp only at hi hn hd hp hp2 hF
    simp (maxSteps := 2000000) only [go_sem, ↓reduceIte]
    refine ⟨fun q1 => ?_, fun q1 => ?_⟩
    ·obtain ⟨x, hx⟩ := get_some (l := T) (i := i) (by omega)
     have hx8 := q4e x
     rw [drop_cons hx] at hF
     unfold q9P at hF
     by_cases e1 : x.toNat = 46 ∧ p < 0
     ·rw [if_pos e1] at hF
      have e1a : (x.toNat : Int) = 46 := by omega
      simp (maxSteps := 2000000) (disch := omega) only [go_sem, ↓reduceIte, q0c, hx, e1a, e1.2]
      refine ⟨(i + 1, n, d, 0), ?_, ⟨by simp only; omega, hn, by simp only; omega, by simp, by simp only; omega, hF⟩, by simp only; omega⟩
      refine q0e ?_ trivial
      simp (maxSteps := 2000000) only [go_sem, ↓reduceIte, Sub, Int.natCast_add, Int.natCast_mul]
     ·rw [if_neg e1] at hF
      by_cases e2 : x.toNat < 48 ∨ 57 < x.toNat
      ·rw [if_pos e2] at hF
       subst hF
       have hres : resP (finP N none) = .tup [.int .i64 0, .iface 76 (.int .i64 4)] := rfl
       rw [hres]
       simp (maxSteps := 2000000) only [go_sem, ↓reduceIte, q0c, hx]
       refine ⟨fun a => ⟨fun b => by omega, fun b => fun c => by omega⟩, fun a => fun b c => by omega⟩
      ·rw [if_neg e2] at hF
       have hne46 : ¬ ((x.toNat : Int) = 46) := by omega
       have h48 : ¬ ((x.toNat : Int) < 48) := by omega
       have h57 : ¬ (57 < (x.toNat : Int)) := by omega
       obtain ⟨k, hk⟩ : ∃ k, x.toNat - 48 = k := ⟨_, rfl⟩
       have hk' : (x.toNat : Int) - 48 = (k : Int) := by omega
       rw [hk] at hF
       simp (maxSteps := 2000000) (disch := omega) only [go_sem, ↓reduceIte, q0c, hx, hne46, h48, h57, hk']
       refine ⟨fun b1 => ⟨fun b2 => ⟨fun b3 => ?_, fun b3 => ?_⟩, fun b2 => ⟨fun b3 => ?_, fun b3 => ?_⟩⟩, fun b1 => ⟨fun b3 => ?_, fun b3 => ?_⟩⟩
       ·rw [if_pos ⟨b1, by omega⟩, if_pos b3] at hF
        refine ⟨(i + 1, 10 * n + k, d + 1, p + 1), ?_, ⟨by simp only; omega, by simp only; omega, by simp only; omega, by simp only; omega, by simp only; omega, hF⟩, by simp only; omega⟩
        refine q0e ?_ trivial
        simp (maxSteps := 2000000) only [go_sem, ↓reduceIte, Sub, Int.natCast_add, Int.natCast_mul]
       ·rw [if_pos ⟨b1, by omega⟩, if_neg b3] at hF
        refine ⟨(i + 1, 10 * n + k, d + 1, p), ?_, ⟨by simp only; omega, by simp only; omega, by simp only; omega, by simp only; omega, by simp only; omega, hF⟩, by simp only; omega⟩
        refine q0e ?_ trivial
        simp (maxSteps := 2000000) only [go_sem, ↓reduceIte, Sub, Int.natCast_add, Int.natCast_mul]
       ·rw [if_neg (fun h => b2 (by omega)), if_pos b3] at hF
        refine ⟨(i + 1, n, d + 1, p + 1), ?_, ⟨by simp only; omega, by simp only; omega, by simp only; omega, by simp only; omega, by simp only; omega, hF⟩, by simp only; omega⟩
        refine q0e ?_ trivial
        simp (maxSteps := 2000000) only [go_sem, ↓reduceIte, Sub, Int.natCast_add, Int.natCast_mul]
       ·rw [if_neg (fun h => b2 (by omega)), if_neg b3] at hF
        refine ⟨(i + 1, n, d + 1, p), ?_, ⟨by simp only; omega, by simp only; omega, by simp only; omega, by simp only; omega, by simp only; omega, hF⟩, by simp only; omega⟩
        refine q0e ?_ trivial
        simp (maxSteps := 2000000) only [go_sem, ↓reduceIte, Sub, Int.natCast_add, Int.natCast_mul]
       ·rw [if_neg (fun h => b1 h.1), if_pos b3] at hF
        refine ⟨(i + 1, n, d + 1, p + 1), ?_, ⟨by simp only; omega, by simp only; omega, by simp only; omega, by simp only; omega, by simp only; omega, hF⟩, by simp only; omega⟩
        refine q0e ?_ trivial
        simp (maxSteps := 2000000) only [go_sem, ↓reduceIte, Sub, Int.natCast_add, Int.natCast_mul]
       ·rw [if_neg (fun h => b1 h.1), if_neg b3] at hF
        refine ⟨(i + 1, n, d + 1, p), ?_, ⟨by simp only; omega, by simp only; omega, by simp only; omega, by simp only; omega, by simp only; omega, hF⟩, by simp only; omega⟩
        refine q0e ?_ trivial
        simp (maxSteps := 2000000) only [go_sem, ↓reduceIte, Sub, Int.natCast_add, Int.natCast_mul]
    ·rw [List.drop_eq_nil_of_le (by omega)] at hF
     unfold q9P at hF
     dsimp only [finP] at hF
     refine ⟨fun c1 => ?_, fun c1 => ?_⟩
     ·rw [if_pos (by omega)] at hF
      subst hF
      simp [resP, errD]
     ·rw [if_neg (by omega)] at hF
      have hmx : (if p < 0 then 0 else p) = ((p.toNat : Nat) : Int) := by split <;> omega
      rw [hmx]
      have hP9 : p.toNat ≤ 1000000 := by omega
      generalize p.toNat = P at hF hP9 ⊢
      refine q0s (fun k : Nat => ⟨[(5, .d (.bool N)), (6, .d (.int .i64 (n * 10 ^ k : Nat))), (8, .d (.int .i64 (P + k : Nat)))], [], []⟩)
       (fun k => k ≤ 3 - P) (fun k => 3 - k) 0 ?_ ?_ ?_
      ·refine q0e ?_ trivial
       simp (maxSteps := 2000000) only [go_sem, ↓reduceIte, Sub, Int.natCast_add, Int.natCast_mul, Nat.pow_zero, Nat.mul_one, Nat.add_zero]
      ·omega
      ·intro k hk
       have h10 : 10 ^ k ≤ 10 ^ 3 := Nat.pow_le_pow_right (by decide) (by omega)
       have hM : n * 10 ^ k ≤ 10000000009 * 10 ^ 3 := Nat.mul_le_mul hn h10
       simp (maxSteps := 2000000) only [go_sem, ↓reduceIte]
       refine ⟨fun c2 => ?_, fun c2 => ?_⟩
       ·have hs1 : n * 10 ^ (k + 1) = n * 10 ^ k * 10 := by rw [Nat.pow_succ, Nat.mul_assoc]
        generalize hMM : n * 10 ^ k = M at hM hs1 ⊢
        simp (disch := omega) only [IntWalk.i64_in, IntWalk.u8_in]
        refine ⟨k + 1, ?_, by omega, by omega⟩
        refine q0e ?_ trivial
        simp (maxSteps := 2000000) only [go_sem, ↓reduceIte, Sub, Int.natCast_add, Int.natCast_mul, hs1]
        rw [Int.add_assoc]
       ·have hk3 : k = 3 - P := by omega
        rw [← hk3] at hF
        generalize hMM : n * 10 ^ k = M at hM hF ⊢
        refine ⟨fun c3 => ?_, fun c3 => ?_⟩
        ·rw [if_pos (by omega)] at hF
         subst hF
         simp [resP, errD]
        ·rw [if_neg (by omega)] at hF
         subst hF
         cases N
         ·simp (maxSteps := 2000000) (disch := omega) only [go_sem, ↓reduceIte, resP, errD]
         ·simp (maxSteps := 2000000) (disch := omega) only [go_sem, ↓reduceIte, resP, errD, Int.zero_sub]
end Go.Av.Tryz
