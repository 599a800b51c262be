import Derived.Test.YtfkdhlghpjbbpaaGreatDoorWa
import Derived.Test.YtfkdhlghpjbbpaaGreatDoorAvF
import Derived.Lib.Bytealg
import Derived.Lib.UnsafeStr
import Derived.Test.YtfkdhlghpjbbpaaGreatDoorWb
import Derived.Test.YtfkdhlghpjbbpaaGreatDoorAvG
import Derived.Shelf.RegionOpenPlain
import Derived.WalkKit
import Derived.Lib.Walk
import Derived.Lib.SliceRun
import Derived.Lib.JoinLaws
import Derived.Lib.AppendZerosOnto
import Derived.Lib.Overlaps
import Derived.Laws.Externs
import Derived.Laws.IdiomCopy
import Derived.Laws.NewBlocks
import Derived.Test.YtfkdhlghpjbbpaaGreatDoorWc
import Derived.Shelf.Strings.Search3
import Derived.Shelf.LaysM
import Derived.Test.YtfkdhlghpjbbpaaGreatDoorAvE
set_option linter.unusedSimpArgs false
namespace Go.Av.Tryz
open Go.Proofs
theorem indexByte_none {l : List UInt8} {c : UInt8} : Lib.indexByte l c = -1 ↔ c ∉ l := by
 induction l with
 | nil => simp [Lib.indexByte]
 | cons b l ih =>
  have hge := Lib.indexByte_ge l c
  simp only [Lib.indexByte, List.mem_cons, not_or]
  by_cases h : b = c
  ·simp [h]
  ·rw [if_neg (by simpa using h)]
   by_cases h2 : Lib.indexByte l c = -1
   ·rw [if_pos (by simpa using h2)]
    simp only [true_iff]
    exact ⟨fun e => h e.symm, ih.1 h2⟩
   ·rw [if_neg (by simpa using h2)]
    constructor
    ·intro e; omega
    ·intro e; exact absurd (ih.2 e.2) h2
theorem q8h {l : List UInt8} {c : UInt8} : (0 ≤ Lib.indexByte l c) ↔ c ∈ l := by
 have h := indexByte_none (l := l) (c := c)
 have hge := Lib.indexByte_ge l c
 constructor
 ·intro h1
  by_cases hc : c ∈ l
  ·exact hc
  ·have := h.2 hc; omega
 ·intro h1
  by_cases hc : Lib.indexByte l c = -1
  ·exact absurd h1 (h.1 hc)
  ·omega
def q2d : q0j :=
 .seq (.reg [Qx 4 (Ki 0)]) (.seq (.reg [Qc 5 0, Qc 6 1, ⟨some 7, .prim .call [.k (.fn (.func 147) [] []), .t 5, .t 6] [], none⟩, Qa 4 7]) .ret)
def q2f : List LRes := [.tmp 4]
theorem q3r : q0t Tryz.prog 139 8 q2d q2f := ⟨_, _, Tryz.func139, rfl, by kernel_rfl, by kernel_rfl, rfl⟩
theorem q5n (s : List UInt8) (c : UInt8) : q0u Tryz.prog 139 [.str s, .int .u8 c.toNat] (fun r => r = .one (.int .i64 (Lib.indexByte s c))) := by
 refine q3r.call rfl ?_
 simp (maxSteps := 2000000) only [go_sem, ↓reduceIte, q2d, q2f]
 refine q0b.entry Tryz.func147 (by kernel_rfl) (by kernel_rfl) (by kernel_rfl) (e := Extern.BytealgIndexByte.indexByte) (by kernel_rfl) (.d (.int .i64 (Lib.indexByte s c))) (fun G w vs hl hv => ?_) ?_
 ·match vs, hl with
  | [v, u], _ =>
   have h0 : AVR G w (.d (.str s)) v := hv 0 _ rfl
   have h1 : AVR G w (.d (.int .u8 c.toNat)) u := hv 1 _ rfl
   have h0 := h0.dinv
   have h1 := h1.dinv
   cases h0; cases h1
   refine ⟨_, Lib.run_indexByteString _ _ w, ?_⟩
   have e : (((c.toNat : Int).toNat).toUInt8) = c := by simp
   rw [e]
   exact .d _ _ (.int _ _)
 simp (maxSteps := 2000000) only [go_sem, ↓reduceIte]
def q4S : q0j :=
 .seq (.reg [Qx 4 (Ki 0)]) (.seq (.reg [Qc 5 0, Qc 6 1, ⟨some 7, .call 139 [.t 5, .t 6], none⟩, Qa 4 7]) .ret)
def q4X : List LRes := [.tmp 4]
theorem q6l : q0t Tryz.prog 124 8 q4S q4X := ⟨_, _, Tryz.func124, rfl, by kernel_rfl, by kernel_rfl, rfl⟩
theorem q7q (s : List UInt8) (c : UInt8) : q0u Tryz.prog 124 [.str s, .int .u8 c.toNat] (fun r => r = .one (.int .i64 (Lib.indexByte s c))) := by
 refine q6l.call rfl ?_
 simp (maxSteps := 2000000) only [go_sem, ↓reduceIte, q4S, q4X]
 refine q0k.of (q5n s c) ?_
 simp (maxSteps := 2000000) only [go_sem, ↓reduceIte]
/-! ### One byte in a string -/
def q2A : q0j :=
 .seq (.reg [Qx 4 (Ki 0)]) (.seq (.reg [Qc 14 1, Q 15 (.len true (.t 14)), Qa 5 15]) (.seq (.block 0 (.seq (.reg [Qc 17 5, Q 18 (.bin .eql (.t 17) (Ki 0)), Qc 19 18, Qd 20 1 19 
 false, Qd 21 0 19 false, Qg 22 (.bin .eql (.t 20) (.t 21)) 19 false, Q 23 (.pick (.t 19) KT (.t 22)), Qa 16 23]) (.cond (.t 16) (.seq (.reg [Qx 4 (Ki 0)]) .ret) (.seq (.reg [Qc 
 25 5, Q 26 (.bin .eql (.t 25) (Ki 1)), Qa 24 26]) (.cond (.t 24) (.seq (.reg [Qc 27 0, Qc 28 1, Q 29 (.idxS (.t 28) (Ki 0)), ⟨some 30, .call 139 [.t 27, .t 29], none⟩, Qa 4 30]) 
 .ret) (.seq (.reg [Qc 32 5, Qc 33 0, Q 34 (.len true (.t 33)), Q 35 (.bin .geq (.t 32) (.t 34)), Qa 31 35]) (.cond (.t 31) (.seq (.reg [Qx 4 (Ki (-1))]) .ret) (.seq .bad (.cond 
 (.t 36) (.seq (.reg [Qc 45 0, Qc 46 1, ⟨some 47, .prim .call [.k (.fn (.func 138) [] []), .t 45, .t 46] [], none⟩, Qa 4 47]) .ret) .skip))))))))) (.seq (.reg [Qc 48 1, Q 49 
 (.idxS (.t 48) (Ki 0)), Qa 6 49]) (.seq (.reg [Qc 50 1, Q 51 (.idxS (.t 50) (Ki 1)), Qa 7 51]) (.seq (.reg [Qx 8 (Ki 0)]) (.seq (.reg [Qc 52 0, Q 53 (.len true (.t 52)), Qc 54 5, 
 Q 55 (.bin .sub (.t 53) (.t 54)), Q 56 (.bin .add (.t 55) (Ki 1)), Qa 9 56]) (.seq (.reg [Qx 10 (Ki 0)]) (.seq (.block 1 (.loop (.seq (.seq (.reg [Qc 57 8, Qc 58 9, Q 59 (.bin 
 .lss (.t 57) (.t 58))]) (.cond (.t 59) .skip (.exit 1))) (.block 2 (.seq (.seq (.reg [Qc 60 0, Qc 61 8, Q 62 (.idxS (.t 60) (.t 61)), Qc 63 6, Q 64 (.bin .neq (.t 62) (.t 63))]) 
 (.cond (.t 64) (.seq (.reg [Qc 65 0, Qc 66 8, Q 67 (.bin .add (.t 66) (Ki 1)), Qc 68 9, Q 69 (.subS (.t 65) (some (.t 67)) (some (.t 68))), Qc 70 6, ⟨some 71, .call 139 [.t 69, 
 .t 70], none⟩, Qa 11 71]) (.seq (.seq (.reg [Qc 72 11, Q 73 (.bin .lss (.t 72) (Ki 0))]) (.cond (.t 73) (.seq (.reg [Qx 4 (Ki (-1))]) .ret) .skip)) (.reg [Qc 74 8, Qc 75 11, Q 76 
 (.bin .add (.t 75) (Ki 1)), Q 77 (.bin .add (.t 74) (.t 76)), Qa 8 77]))) .skip)) (.seq (.seq (.reg [Qc 78 0, Qc 79 8, Q 80 (.bin .add (.t 79) (Ki 1)), Q 81 (.idxS (.t 78) (.t 
 80)), Qc 82 7, Q 83 (.bin .eql (.t 81) (.t 82)), Qc 84 83, Qd 85 0 84 true, Qd 86 8 84 true, Qd 87 8 84 true, Qd 88 5 84 true, Qg 89 (.bin .add (.t 87) (.t 88)) 84 true, Qg 90 
 (.subS (.t 85) (some (.t 86)) (some (.t 89))) 84 true, Qd 91 1 84 true, Qg 92 (.bin .eql (.t 90) (.t 91)) 84 true, Q 93 (.pick (.t 84) (.t 92) KF)]) (.cond (.t 93) (.seq (.reg 
 [Qc 94 8, Qa 4 94]) .ret) .skip)) (.seq (.reg [Qc 95 8, Q 96 (.bin .add (.t 95) (Ki 1)), Qa 8 96]) (.seq (.reg [Qc 97 10, Q 98 (.bin .add (.t 97) (Ki 1)), Qa 10 98]) (.seq .bad 
 (.cond (.t 107) (.seq (.reg [Qc 108 0, Qc 109 8, Q 110 (.subS (.t 108) (some (.t 109)) none), Qc 111 1, ⟨some 112, .prim .call [.k (.fn (.func 138) [] []), .t 110, .t 111] [], 
 none⟩, Qa 12 112]) (.seq (.seq (.reg [Qc 113 12, Q 114 (.bin .geq (.t 113) (Ki 0))]) (.cond (.t 114) (.seq (.reg [Qc 115 12, Qc 116 8, Q 117 (.bin .add (.t 115) (.t 116)), Qa 4 
 117]) .ret) .skip)) (.seq (.reg [Qx 4 (Ki (-1))]) .ret))) (.seq .bad (.cond (.t 132) (.seq (.reg [Qc 133 0, Qc 134 8, Q 135 (.subS (.t 133) (some (.t 134)) none), Qc 136 1, ⟨some 
 137, .call 140 [.t 135, .t 136], none⟩, Qa 13 137]) (.seq (.seq (.reg [Qc 138 13, Q 139 (.bin .lss (.t 138) (Ki 0))]) (.cond (.t 139) (.seq (.reg [Qx 4 (Ki (-1))]) .ret) .skip)) 
 (.seq (.reg [Qc 140 8, Qc 141 13, Q 142 (.bin .add (.t 140) (.t 141)), Qa 4 142]) .ret))) .skip)))))))))))) (.seq (.reg [Qx 4 (Ki (-1))]) .ret)))))))))
def q2B : List LRes := [.tmp 4]
theorem q38 : q0t Tryz.prog 123 143 q2A q2B := ⟨_, _, Tryz.func123, rfl, by kernel_rfl, by kernel_rfl, rfl⟩
theorem z00 (s : List UInt8) (c : UInt8) : q0u Tryz.prog 123 [.str s, .str [c]] (fun r => r = .one (.int .i64 (Lib.indexByte s c))) := by
 refine q38.call rfl ?_
 simp (maxSteps := 2000000) only [go_sem, ↓reduceIte, q2A, q2B]
 refine ⟨fun h => ?_, fun h => ?_⟩
 ·subst h
  simp [Lib.indexByte]
 ·have : getI [c] 0 = some c := rfl
  simp (maxSteps := 2000000) only [go_sem, ↓reduceIte, this]
  refine q0k.of (q5n s c) ?_
  simp (maxSteps := 2000000) only [go_sem, ↓reduceIte]
def q6s : q0j :=
 .seq (.reg [Qx 4 (Ki 0)]) (.seq (.reg [Qc 5 0, Qc 6 1, ⟨some 7, .call 123 [.t 5, .t 6], none⟩, Qa 4 7]) .ret)
def q6v : List LRes := [.tmp 4]
theorem q8o : q0t Tryz.prog 106 8 q6s q6v := ⟨_, _, Tryz.func106, rfl, by kernel_rfl, by kernel_rfl, rfl⟩
def q5i : q0j :=
 .seq (.reg [Qx 4 KF]) (.seq (.reg [Qc 5 0, Qc 6 1, ⟨some 7, .call 106 [.t 5, .t 6], none⟩, Q 8 (.bin .geq (.t 7) (Ki 0)), Qa 4 8]) .ret)
def q5k : List LRes := [.tmp 4]
theorem q6M : q0t Tryz.prog 82 9 q5i q5k := ⟨_, _, Tryz.func82, rfl, by kernel_rfl, by kernel_rfl, rfl⟩
theorem z1B (s : List UInt8) (c : UInt8) : q0u Tryz.prog 82 [.str s, .str [c]] (fun r => r = .one (.bool (decide (c ∈ s)))) := by
 have h : q0u Tryz.prog 106 [.str s, .str [c]] (fun r => r = .one (.int .i64 (Lib.indexByte s c))) := by
  refine q8o.call rfl ?_
  simp (maxSteps := 2000000) only [go_sem, ↓reduceIte, q6s, q6v]
  refine q0k.of (z00 s c) ?_
  simp (maxSteps := 2000000) only [go_sem, ↓reduceIte]
 refine q6M.call rfl ?_
 simp (maxSteps := 2000000) only [go_sem, ↓reduceIte, q5i, q5k]
 refine q0k.of h ?_
 simp (maxSteps := 2000000) only [go_sem, ↓reduceIte]
 congr 2
 simp only [q8h]
def q4T : q0j :=
 .seq (.reg [Qx 4 (Ki 0)]) (.block 0 (.seq (.reg [Qc 161 1, Q 162 (.bin .leq (.k (.d (.int .i32 0))) (.t 161)), Qc 163 162, Qd 164 1 163 true, Qg 165 (.bin .lss (.t 164) (.k (.d 
 (.int .i32 128)))) 163 true, Q 166 (.pick (.t 163) (.t 165) KF), Qa 160 166]) (.cond (.t 160) (.seq (.reg [Qc 167 0, Qc 168 1, Q 169 (.cvI .u8 (.t 168)), ⟨some 170, .call 124 [.t 
 167, .t 169], none⟩, Qa 4 170]) .ret) (.seq (.reg [Qc 172 1, Q 173 (.bin .eql (.t 172) (.k (.d (.int .i32 65533)))), Qa 171 173]) (.cond (.t 171) (.seq (.seq (.reg [Qc 174 0, 
 ⟨some 175, .prim (.range 9) [.t 174] [], none⟩]) (.block 9 (.loop (.seq (.reg [⟨some 176, .prim (.next true 0) [.t 175] [], none⟩, Q 177 (.ext 0 (.t 176))]) (.seq (.cond (.t 177) 
 .skip (.exit 9)) (.block 10 (.seq (.reg [Q 178 (.ext 1 (.t 176)), Q 179 (.ext 2 (.t 176)), Qa 5 178, Qa 6 179]) (.seq (.reg [Qc 180 6, Q 181 (.bin .eql (.t 180) (.k (.d (.int 
 .i32 65533))))]) (.cond (.t 181) (.seq (.reg [Qc 182 5, Qa 4 182]) .ret) .skip))))))))) (.seq (.reg [Qx 4 (Ki (-1))]) .ret)) (.seq (.reg [Qc 184 1, ⟨some 185, .call 136 [.t 184], 
 none⟩, Q 186 (.not (.t 185)), Qa 183 186]) (.cond (.t 183) (.seq (.reg [Qx 4 (Ki (-1))]) .ret) .bad)))))))
def q4Y : List LRes := [.tmp 4]
theorem q6m : q0t Tryz.prog 122 187 q4T q4Y := ⟨_, _, Tryz.func122, rfl, by kernel_rfl, by kernel_rfl, rfl⟩
theorem z1G (s : List UInt8) (c : UInt8) (hc : c.toNat < 128) : q0u Tryz.prog 122 [.str s, .int .i32 c.toNat] (fun r => r = .one (.int .i64 (Lib.indexByte s c))) := by
 refine q6m.call rfl ?_
 simp (maxSteps := 2000000) only [go_sem, ↓reduceIte, q4T, q4Y]
 refine ⟨fun _ => ⟨fun _ => ?_, fun h => ?_⟩, fun h => ?_⟩
 ·simp (disch := omega) only [IntWalk.i64_in, IntWalk.u8_in]
  refine q0k.of (q7q s c) ?_
  simp (maxSteps := 2000000) only [go_sem, ↓reduceIte]
 ·exfalso; omega
 ·exfalso; omega
def q3Z : q0j :=
 .seq (.reg [Qx 4 KF]) (.seq (.reg [Qc 5 0, Qc 6 1, ⟨some 7, .call 122 [.t 5, .t 6], none⟩, Q 8 (.bin .geq (.t 7) (Ki 0)), Qa 4 8]) .ret)
def q35 : List LRes := [.tmp 4]
theorem q5A : q0t Tryz.prog 104 9 q3Z q35 := ⟨_, _, Tryz.func104, rfl, by kernel_rfl, by kernel_rfl, rfl⟩
theorem q8S (s : List UInt8) (c : UInt8) (hc : c.toNat < 128) : q0u Tryz.prog 104 [.str s, .int .i32 c.toNat] (fun r => r = .one (.bool (decide (c ∈ s)))) := by
 refine q5A.call rfl ?_
 simp (maxSteps := 2000000) only [go_sem, ↓reduceIte, q3Z, q35]
 refine q0k.of (z1G s c hc) ?_
 simp (maxSteps := 2000000) only [go_sem, ↓reduceIte]
 congr 2
 simp only [q8h]
def q3N (s : List UInt8) : Bool := decide (s ≠ []) && (decide (s.length ≤ 200) && !decide ((0 : UInt8) ∈ s))
def q6t : q0j :=
 .seq (.reg [Qx 2 KF]) (.seq (.reg [Qc 3 0, Q 4 (.bin .neq (.t 3) (.k (.d (.str [])))), Qc 5 4, Qd 6 0 5 true, Qg 7 (.len true (.t 6)) 5 true, Qg 8 (.bin .leq (.t 7) (Ki 200)) 5 
 true, Q 9 (.pick (.t 5) (.t 8) KF), Qc 10 9, Qd 11 0 10 true, ⟨some 12, .call 104 [.t 11, .k (.d (.int .i32 0))], some (10, true)⟩, Qg 13 (.not (.t 12)) 10 true, Q 14 (.pick (.t 
 10) (.t 13) KF), Qa 2 14]) .ret)
def q6w : List LRes := [.tmp 2]
theorem q8p : q0t Tryz.prog 79 15 q6t q6w := ⟨_, _, Tryz.func79, rfl, by kernel_rfl, by kernel_rfl, rfl⟩
theorem q6O (s : List UInt8) : q0u Tryz.prog 79 [.str s] (fun r => r = .one (.bool (q3N s))) := by
 refine q8p.call rfl ?_
 simp (maxSteps := 2000000) only [go_sem, ↓reduceIte, q6t, q6w]
 refine ⟨fun h1 => ⟨fun h2 => ?_, fun h2 => ?_⟩, fun h1 => ?_⟩
 ·refine q0k.of (q8S s 0 (by decide)) ?_
  simp (maxSteps := 2000000) only [go_sem, ↓reduceIte]
  have h3 : s.length ≤ 200 := by omega
  simp [q3N, h1, h3]
 ·have h3 : ¬ s.length ≤ 200 := by omega
  simp [q3N, h3]
 ·simp [q3N, h1]
theorem j3q {v x : Val} (h : x ∈ v.l) : SizeOf.sizeOf x < SizeOf.sizeOf v := by
 cases v with
 | mk k n s l f =>
  have := List.sizeOf_lt_of_mem h
  simp only [Val.l] at this
  simp only [Val.mk.sizeOf_spec]
  omega
theorem j3p {v : Val} {x : Fld} (h : x ∈ v.f) : SizeOf.sizeOf x.v < SizeOf.sizeOf v := by
 cases v with
 | mk k n s l f =>
  have := List.sizeOf_lt_of_mem h
  simp only [Val.f] at this
  have h2 : SizeOf.sizeOf x.v < SizeOf.sizeOf x := by cases x; simp only [Fld.v, Fld.mk.sizeOf_spec]; omega
  simp only [Val.mk.sizeOf_spec]
  omega
mutual
def Val.sm (m : Nat) : Val → Bool
 | .mk _ _ s l f => decide (s.length ≤ m) && (decide (l.length ≤ m) && (decide (f.length ≤ m) && (smL m l && smF m f)))
def smL (m : Nat) : List Val → Bool
 | [] => true
 | v :: r => v.sm m && smL m r
def Fld.sm (m : Nat) : Fld → Bool
 | .mk nm v => decide (nm.length ≤ m) && v.sm m
def smF (m : Nat) : List Fld → Bool
 | [] => true
 | x :: r => x.sm m && smF m r
end
theorem j4B {m : Nat} {l : List Val} : smL m l = true ↔ ∀ x ∈ l, x.sm m = true := by induction l with | nil => simp [smL] | cons v r ih => simp [smL, ih]
theorem j4A {m : Nat} {l : List Fld} : smF m l = true ↔ ∀ x ∈ l, x.sm m = true := by induction l with | nil => simp [smF] | cons v r ih => simp [smF, ih]
theorem Val.q9S {m : Nat} {v : Val} : v.sm m = true ↔ v.s.length ≤ m ∧ v.l.length ≤ m ∧ v.f.length ≤ m ∧ (∀ x ∈ v.l, x.sm m = true) ∧ ∀ x ∈ v.f, x.sm m = true := by
 cases v; simp [Val.sm, j4B, j4A, Val.s, Val.l, Val.f]
theorem Fld.q9S {m : Nat} {x : Fld} : x.sm m = true ↔ x.name.length ≤ m ∧ x.v.sm m = true := by
 cases x; simp [Fld.sm, Fld.name, Fld.v]
/-! ### How great -/
mutual
def szV (deep : Nat) : Val → Int → Bool × Int
 | .mk _ _ _ l f, left =>
  if 8 < deep then (false, left - 1)
  else if left - 1 < 0 then (false, left - 1)
  else match szL (deep + 1) l (left - 1) with
   | (false, r) => (false, r)
   | (true, r) => szF (deep + 1) f r
def szL (deep : Nat) : List Val → Int → Bool × Int
 | [], left => (true, left)
 | v :: r, left => match szV deep v left with
  | (false, q) => (false, q)
  | (true, q) => szL deep r q
def szF (deep : Nat) : List Fld → Int → Bool × Int
 | [], left => (true, left)
 | .mk _ v :: r, left => match szV deep v left with
  | (false, q) => (false, q)
  | (true, q) => szF deep r q
end
mutual
theorem z7l (deep : Nat) : ∀ (v : Val) (left : Int), 0 ≤ left → -1 ≤ (szV deep v left).2 ∧ (szV deep v left).2 ≤ left ∧ ((szV deep v left).1 = true → 0 ≤ (szV deep v left).2)
 | .mk k n s l f, left, h => by
  unfold szV
  split
  ·simp; omega
  ·split
   ·simp; omega
   ·have h1 := j3u (deep + 1) l (left - 1) (by omega)
    split
    ·rename_i r hr; rw [hr] at h1; simp at h1 ⊢; omega
    ·rename_i r hr
     rw [hr] at h1
     simp at h1
     have h2 := j3s (deep + 1) f r h1.2.2
     refine ⟨h2.1, by omega, h2.2.2⟩
theorem j3u (deep : Nat) : ∀ (l : List Val) (left : Int), 0 ≤ left → -1 ≤ (szL deep l left).2 ∧ (szL deep l left).2 ≤ left ∧ ((szL deep l left).1 = true → 0 ≤ (szL deep l left).2)
 | [], left, h => by simp [szL]; omega
 | v :: r, left, h => by
  have h1 := z7l deep v left h
  unfold szL
  split
  ·rename_i q hq; rw [hq] at h1; simp at h1 ⊢; omega
  ·rename_i q hq
   rw [hq] at h1
   simp at h1
   have h2 := j3u deep r q h1.2.2
   exact ⟨h2.1, by omega, h2.2.2⟩
theorem j3s (deep : Nat) : ∀ (l : List Fld) (left : Int), 0 ≤ left → -1 ≤ (szF deep l left).2 ∧ (szF deep l left).2 ≤ left ∧ ((szF deep l left).1 = true → 0 ≤ (szF deep l left).2)
 | [], left, h => by simp [szF]; omega
 | .mk nm v :: r, left, h => by
  have h1 := z7l deep v left h
  unfold szF
  split
  ·rename_i q hq; rw [hq] at h1; simp at h1 ⊢; omega
  ·rename_i q hq
   rw [hq] at h1
   simp at h1
   have h2 := j3s deep r q h1.2.2
   exact ⟨h2.1, by omega, h2.2.2⟩
end
theorem j5M (deep : Nat) (v : Val) (left : Int) : szV deep v left = if 8 < deep then (false, left - 1) else if left - 1 < 0 then (false, left - 1) else
  match szL (deep + 1) v.l (left - 1) with
   | (false, r) => (false, r)
   | (true, r) => szF (deep + 1) v.f r := by
 cases v; simp only [szV, Val.l, Val.f]
def q9s : q0j :=
 .seq (.reg [⟨some 3, .box (.t 0), none⟩, Qx 6 KF]) (.seq (.reg [Qc 11 2, Q 12 (.nck (.t 11)), Q 13 (.ld false 1 (.t 12)), Q 14 (.bin .sub (.t 13) (Ki 1)), Q 15 (.nck (.t 11)), 
 ⟨none, .st 1 (.t 15) (.t 14), none⟩]) (.seq (.seq (.reg [Qc 16 1, Q 17 (.bin .gtr (.t 16) (Ki 8)), Qc 18 17, Qd 19 2 18 false, Qg 20 (.nck (.t 19)) 18 false, Qg 21 (.ld false 1 
 (.t 20)) 18 false, Qg 22 (.bin .lss (.t 21) (Ki 0)) 18 false, Q 23 (.pick (.t 18) KT (.t 22))]) (.cond (.t 23) (.seq (.reg [Qx 6 KF]) .ret) .skip)) (.seq (.seq (.reg [Q 24 (.fa 3 
 (.t 3)), Q 25 (.ld false 1 (.t 24)), Q 26 (.len false (.t 25)), Q 27 (.cp (Ki 0))]) (.block 0 (.loop (.seq (.reg [Q 28 (.bin .lss (.t 27) (.t 26))]) (.seq (.cond (.t 28) .skip 
 (.exit 0)) (.seq (.block 1 (.seq (.reg [Q 29 (.ia 5 (.t 25) (.t 27)), Q 30 (.ld true 5 (.t 29)), ⟨some 8, .allo [.int .i64 0, .int .i64 0, .str [], .list [], .list []], none⟩, 
 ⟨none, .st 5 (.t 8) (.t 30), none⟩]) (.seq (.reg [Q 31 (.ld true 5 (.t 8)), Qc 32 1, Q 33 (.bin .add (.t 32) (Ki 1)), Qc 34 2, ⟨some 35, .prim .call [.k (.fn (.func 58) [] []), 
 .t 31, .t 33, .t 34] [], none⟩, Q 36 (.not (.t 35))]) (.cond (.t 36) (.seq (.reg [Qx 6 KF]) .ret) .skip)))) (.reg [Q 37 (.bin .add (.t 27) (Ki 1)), Qc 27 37]))))))) (.seq (.seq 
 (.reg [Q 38 (.fa 4 (.t 3)), Q 39 (.ld false 1 (.t 38)), Q 40 (.len false (.t 39)), Q 41 (.cp (Ki 0))]) (.block 2 (.loop (.seq (.reg [Q 42 (.bin .lss (.t 41) (.t 40))]) (.seq 
 (.cond (.t 42) .skip (.exit 2)) (.seq (.block 3 (.seq (.reg [Q 43 (.ia 6 (.t 39) (.t 41)), Q 44 (.ld true 6 (.t 43)), ⟨some 10, .allo [.str [], .int .i64 0, .int .i64 0, .str [], 
 .list [], .list []], none⟩, ⟨none, .st 6 (.t 10) (.t 44), none⟩]) (.seq (.reg [Q 45 (.fa 1 (.t 10)), Q 46 (.ld true 5 (.t 45)), Qc 47 1, Q 48 (.bin .add (.t 47) (Ki 1)), Qc 49 2, 
 ⟨some 50, .prim .call [.k (.fn (.func 58) [] []), .t 46, .t 48, .t 49] [], none⟩, Q 51 (.not (.t 50))]) (.cond (.t 51) (.seq (.reg [Qx 6 KF]) .ret) .skip)))) (.reg [Q 52 (.bin 
 .add (.t 41) (Ki 1)), Qc 41 52]))))))) (.seq (.reg [Qx 6 KT]) .ret)))))
def q9A : List LRes := [.tmp 6]
theorem z0Y : q0t Tryz.prog 58 53 q9s q9A := ⟨_, _, Tryz.func58, rfl, by kernel_rfl, by kernel_rfl, rfl⟩
theorem j0Q : ∀ (m : Nat) (v : Val), SizeOf.sizeOf v ≤ m → ∀ (deep : Nat) (left : Int), 1 ≤ deep → deep ≤ 9 → 0 ≤ left → left ≤ 300 → v.sm 1048576 = true →
  q4U Tryz.prog 58 [.d v.d, .d (.int .i64 deep), .ptr (.x 0) 0] [.cells [.d (.int .i64 left)]] (.d (.bool (szV deep v left).1)) [.cells [.d (.int .i64 (szV deep v left).2)]] := by
 intro m
 induction m with
 | zero => intro v h; cases v; simp at h
 | succ m ih =>
  intro v hv deep left hd1 hd2 hl1 hl2 hsm
  obtain ⟨_, hll, hfl, hsl, hsf⟩ := Val.q9S.1 hsm
  have hvl := q2k v.l
  have hfl' := q9I v.f
  generalize hR : szV deep v left = R
  rw [j5M] at hR
  rw [Val.d_eq]
  refine z0Y.q2b (by kernel_rfl) rfl ?_
  simp (maxSteps := 2000000) (disch := omega) only [go_sem, ↓reduceIte, q9s, q9A]
  refine ⟨fun h8 => ⟨fun h0 => ?_, fun h0 => ?_⟩, fun h8 => ?_⟩
  ·rw [if_neg (by omega), if_pos (by omega)] at hR
   subst hR
   exact ⟨rfl, rfl⟩
  ·rw [if_neg (by omega), if_neg (by omega)] at hR
   refine q0s (fun y : Nat × Int => ⟨[(1, .d (.int .i64 deep)), (2, .ptr (.x 0) 0), (3, .ptr (.l 3) 0), (25, .d (.list (q05 v.l))), (26, .d (.int .i64 (q05 v.l).length)), (27, .d (.int .i64 y.1))],
     [(3, .cells [.d (.int .i64 v.kind), .d (.int .i64 v.n), .d (.str v.s), .d (.list (q05 v.l)), .d (.list (q37 v.f))])], [(0, .cells [.d (.int .i64 y.2)])]⟩)
    (fun y => y.1 ≤ v.l.length ∧ 0 ≤ y.2 ∧ y.2 ≤ 300 ∧ (match szL (deep + 1) (v.l.drop y.1) y.2 with
     | (false, r) => (false, r)
     | (true, r) => szF (deep + 1) v.f r) = R) (fun y => v.l.length - y.1) (0, left - 1) ?_ ?_ ?_
   ·refine Weak.mk ?_ ?_ ?_ <;> simp (maxSteps := 2000000) only [go_sem, ↓reduceIte, Sub, Int.natCast_add, Int.natCast_mul]
   ·exact ⟨by simp, by simp only; omega, by simp only; omega, by simpa using hR⟩
   ·rintro ⟨i, q⟩ ⟨hi, hq1, hq2, hF⟩
    simp only at hi hq1 hq2 hF
    simp (maxSteps := 2000000) only [go_sem, ↓reduceIte, hvl]
    refine ⟨fun hlt => ?_, fun hge => ?_⟩
    ·obtain ⟨x, hx⟩ := get_some (l := v.l) (i := i) (by omega)
     rw [q1J hx] at hF
     have hc := ih x (by have := j3q (List.mem_of_getElem? hx); omega) (deep + 1) q (by omega) (by omega) hq1 hq2 (hsl x (List.mem_of_getElem? hx))
     have hbd := z7l (deep + 1) x q hq1
     unfold szL at hF
     rw [Val.d_eq] at hc
     generalize hS : szV (deep + 1) x q = S at hc hbd hF
     obtain ⟨sb, sq⟩ := S
     simp only [Int.natCast_add, Int.natCast_one] at hc
     simp (maxSteps := 2000000) (disch := omega) only [go_sem, ↓reduceIte, q0c, q8I, hx, Val.d_eq]
     refine q0b.mc1 (.x 0) rfl (hc) rfl rfl rfl rfl ⟨rfl, rfl⟩ ?_
     cases sb
     ·simp only at hF
      subst hF
      simp (maxSteps := 2000000) only [go_sem, ↓reduceIte]
     ·simp only at hF hbd
      simp (maxSteps := 2000000) (disch := omega) only [go_sem, ↓reduceIte]
      refine ⟨(i + 1, sq), ?_, ⟨by simp only; omega, by simp only; exact hbd.2.2 trivial, by simp only; omega, hF⟩, by simp only; omega⟩
      refine Weak.mk ?_ ?_ ?_ <;> simp (maxSteps := 2000000) only [go_sem, ↓reduceIte, Sub, Int.natCast_add, Int.natCast_mul, hvl]
    ·have h0' : v.l.drop i = [] := List.drop_eq_nil_of_le (by omega)
     rw [h0'] at hF
     simp only [szL] at hF
     refine q0s (fun y : Nat × Int => ⟨[(1, .d (.int .i64 deep)), (2, .ptr (.x 0) 0), (3, .ptr (.l 3) 0), (39, .d (.list (q37 v.f))), (40, .d (.int .i64 (q37 v.f).length)), (41, .d (.int .i64 y.1))],
       [(3, .cells [.d (.int .i64 v.kind), .d (.int .i64 v.n), .d (.str v.s), .d (.list (q05 v.l)), .d (.list (q37 v.f))])], [(0, .cells [.d (.int .i64 y.2)])]⟩)
      (fun y => y.1 ≤ v.f.length ∧ 0 ≤ y.2 ∧ y.2 ≤ 300 ∧ szF (deep + 1) (v.f.drop y.1) y.2 = R) (fun y => v.f.length - y.1) (0, q) ?_ ?_ ?_
     ·refine Weak.mk ?_ ?_ ?_ <;> simp (maxSteps := 2000000) only [go_sem, ↓reduceIte, Sub, Int.natCast_add, Int.natCast_mul]
     ·exact ⟨by simp, hq1, hq2, by simpa using hF⟩
     ·rintro ⟨j, q'⟩ ⟨hj, hr1, hr2, hG⟩
      simp only at hj hr1 hr2 hG
      simp (maxSteps := 2000000) only [go_sem, ↓reduceIte, hfl']
      refine ⟨fun hlt => ?_, fun hge => ?_⟩
      ·obtain ⟨x, hx⟩ := get_some (l := v.f) (i := j) (by omega)
       rw [q1J hx] at hG
       have hc := ih x.v (by have := j3p (List.mem_of_getElem? hx); omega) (deep + 1) q' (by omega) (by omega) hr1 hr2 (Fld.q9S.1 (hsf x (List.mem_of_getElem? hx))).2
       have hbd := z7l (deep + 1) x.v q' hr1
       have hG' : (match szV (deep + 1) x.v q' with
         | (false, q) => (false, q)
         | (true, q) => szF (deep + 1) (v.f.drop (j + 1)) q) = R := by
        rw [← hG]; cases x; simp only [szF, Fld.v]
       rw [Val.d_eq] at hc
       generalize hS : szV (deep + 1) x.v q' = S at hc hbd hG'
       obtain ⟨sb, sq⟩ := S
       simp only [Int.natCast_add, Int.natCast_one] at hc
       simp (maxSteps := 2000000) (disch := omega) only [go_sem, ↓reduceIte, q0c, z0D, hx, Fld.d_eq]
       refine q0b.mc1 (.x 0) rfl (hc) rfl rfl rfl rfl ⟨rfl, rfl⟩ ?_
       cases sb
       ·simp only at hG'
        subst hG'
        simp (maxSteps := 2000000) only [go_sem, ↓reduceIte]
       ·simp only at hG' hbd
        simp (maxSteps := 2000000) (disch := omega) only [go_sem, ↓reduceIte]
        refine ⟨(j + 1, sq), ?_, ⟨by simp only; omega, by simp only; exact hbd.2.2 trivial, by simp only; omega, hG'⟩, by simp only; omega⟩
        refine Weak.mk ?_ ?_ ?_ <;> simp (maxSteps := 2000000) only [go_sem, ↓reduceIte, Sub, Int.natCast_add, Int.natCast_mul, hfl']
      ·have h0' : v.f.drop j = [] := List.drop_eq_nil_of_le (by omega)
       rw [h0'] at hG
       simp only [szF] at hG
       subst hG
       simp (maxSteps := 2000000) only [go_sem, ↓reduceIte]
  ·rw [if_pos (by omega)] at hR
   subst hR
   exact ⟨rfl, rfl⟩
def q0v : q0j :=
 .seq (.reg [Qx 4 (Ki 0)]) (.seq (.seq (.reg [Qc 6 0, Q 7 (.len false (.t 6)), Q 8 (.cp (Ki 0))]) (.block 0 (.loop (.seq (.reg [Q 9 (.bin .lss (.t 8) (.t 7))]) (.seq (.cond (.t 9) 
 .skip (.exit 0)) (.seq (.block 1 (.seq (.reg [Qc 10 8, Qa 5 10]) (.seq (.reg [Qc 11 1, Qc 12 0, Qc 13 5, Q 14 (.ia 5 (.t 12) (.t 13)), Q 15 (.ld true 5 (.t 14)), ⟨some 16, .prim 
 .call [.t 11, .t 15] [], none⟩]) (.cond (.t 16) (.seq (.reg [Qc 17 5, Qa 4 17]) .ret) .skip)))) (.reg [Q 18 (.bin .add (.t 8) (Ki 1)), Qc 8 18]))))))) (.seq (.reg [Qx 4 (Ki 
 (-1))]) .ret))
def q0w : List LRes := [.tmp 4]
theorem q0P : q0t Tryz.prog 105 19 q0v q0w := ⟨_, _, Tryz.func105, rfl, by kernel_rfl, by kernel_rfl, rfl⟩
theorem z1F (g : Nat) (hg : q4n Tryz.prog g = true) (l : List Val) (hl : l.length ≤ 1000000000) (p : Val → Bool) (hp : ∀ x ∈ l, q0u Tryz.prog g [x.d] (fun r => r = .one (.bool (p x)))) :
  q4U Tryz.prog 105 [.d (.list (q05 l)), .fn (.func g) [] []] [] (.d (.int .i64 (match l.findIdx? p with | some i => (i : Int) | none => -1))) [] := by
 have hll := q2k l
 refine q0P.q2b (by kernel_rfl) rfl ?_
 simp (maxSteps := 2000000) only [go_sem, ↓reduceIte, q0v, q0w]
 refine q0s (fun i : Nat => ⟨[(0, .d (.list (q05 l))), (1, .fn (.func g) [] []), (7, .d (.int .i64 (q05 l).length)), (8, .d (.int .i64 i))], [], []⟩)
  (fun i => i ≤ l.length ∧ ∀ j, j < i → ∀ x, l[j]? = some x → p x = false) (fun i => l.length - i) 0 ?_ ?_ ?_
 ·refine Weak.mk ?_ ?_ ?_ <;> simp (maxSteps := 2000000) only [go_sem, ↓reduceIte, Sub, Int.natCast_add, Int.natCast_mul]
 ·exact ⟨by simp, fun j hj => absurd hj (by simp)⟩
 ·rintro i ⟨hi, hn⟩
  simp (maxSteps := 2000000) only [go_sem, ↓reduceIte, hll]
  refine ⟨fun hlt => ?_, fun hge => ?_⟩
  ·obtain ⟨x, hx⟩ := get_some (l := l) (i := i) (by omega)
   have hc := (hp x (List.mem_of_getElem? hx)).q6f hg
   simp only [List.map_cons, List.map_nil, Res.av] at hc
   rw [Val.d_eq] at hc
   simp (maxSteps := 2000000) (disch := omega) only [go_sem, ↓reduceIte, q0c, q8I, hx, Val.d_eq]
   refine q0b.q2b ([]) ([]) rfl (hc) rfl rfl (by simp only [q17, St.obj, aget, AObj.ren, AV.ren, AV.ren1, renL, q5B, renR, renQ, List.getD_cons_zero, List.getD_cons_succ, and_true, and_self, Nat.reduceEqDiff, ↓reduceIte, reduceCtorEq]) rfl rfl rfl ⟨rfl, rfl⟩ ?_
   cases hpx : p x
   ·simp (maxSteps := 2000000) (disch := omega) only [go_sem, ↓reduceIte]
    refine ⟨i + 1, ?_, ⟨by omega, fun j hj y hy => ?_⟩, by omega⟩
    ·refine Weak.mk ?_ ?_ ?_ <;> simp (maxSteps := 2000000) only [go_sem, ↓reduceIte, Sub, Int.natCast_add, Int.natCast_mul, hll]
    ·rcases Nat.lt_or_ge j i with h | h
     ·exact hn j h y hy
     ·have : j = i := by omega
      subst this
      rw [hx] at hy; cases hy; exact hpx
   ·simp (maxSteps := 2000000) only [go_sem, ↓reduceIte]
    have : l.findIdx? p = some i := by
     rw [List.findIdx?_eq_some_iff_getElem]
     obtain ⟨h1, h2⟩ := List.getElem?_eq_some_iff.1 hx
     refine ⟨h1, by rw [h2]; exact hpx, fun j hj => ?_⟩
     have := hn j hj _ (List.getElem?_eq_getElem (by omega))
     simp [this]
    rw [this]
  ·have : l.findIdx? p = none := by
    rw [List.findIdx?_eq_none_iff]
    intro x hx
    obtain ⟨j, hj⟩ := List.getElem?_of_mem hx
    exact hn j (by have := (List.getElem?_eq_some_iff.1 hj).1; omega) x hj
   rw [this]
def q0q : q0j :=
 .seq (.reg [Qx 4 KF]) (.seq (.reg [Qc 5 0, Qc 6 1, ⟨some 7, .prim .call [.k (.fn (.func 105) [] []), .t 5, .t 6] [], none⟩, Q 8 (.bin .geq (.t 7) (Ki 0)), Qa 4 8]) .ret)
def q0r : List LRes := [.tmp 4]
theorem q0L : q0t Tryz.prog 80 9 q0q q0r := ⟨_, _, Tryz.func80, rfl, by kernel_rfl, by kernel_rfl, rfl⟩
theorem q8R (g : Nat) (hg : q4n Tryz.prog g = true) (l : List Val) (hl : l.length ≤ 1000000000) (p : Val → Bool) (hp : ∀ x ∈ l, q0u Tryz.prog g [x.d] (fun r => r = .one (.bool (p x)))) :
  q4U Tryz.prog 80 [.d (.list (q05 l)), .fn (.func g) [] []] [] (.d (.bool (l.any p))) [] := by
 have hany : (match l.findIdx? p with | some i => decide (0 ≤ (i : Int)) | none => false) = l.any p := by
  cases h : l.findIdx? p with
  | none =>
   rw [List.findIdx?_eq_none_iff] at h
   simp only [Bool.false_eq]
   rw [List.any_eq_false]
   exact fun x hx => by simp [h x hx]
  | some i =>
   rw [List.findIdx?_eq_some_iff_getElem] at h
   obtain ⟨h1, h2, _⟩ := h
   have : l.any p = true := List.any_eq_true.2 ⟨_, List.getElem_mem h1, h2⟩
   rw [this]; simp
 refine q0L.q2b (by kernel_rfl) rfl ?_
 simp (maxSteps := 2000000) only [go_sem, ↓reduceIte, q0q, q0r]
 refine q0b.q2b ([]) ([]) rfl (z1F g hg l hl p hp) rfl rfl (by simp only [q17, St.obj, aget, AObj.ren, AV.ren, AV.ren1, renL, q5B, renR, renQ, List.getD_cons_zero, List.getD_cons_succ, and_true, and_self, Nat.reduceEqDiff, ↓reduceIte, reduceCtorEq]) rfl rfl rfl ⟨rfl, rfl⟩ ?_
 simp (maxSteps := 2000000) only [go_sem, ↓reduceIte]
 rw [← hany]
 cases l.findIdx? p <;> simp
mutual
def q8N : Val → Bool
 | .mk k n s l f =>
  let n0 := decide (n = 0)
  let s0 := decide (s = [])
  let l0 := decide (l.length = 0)
  let f0 := decide (f.length = 0)
  if k = 0 then n0 && (s0 && (l0 && f0))
  else if k = 1 then (decide (n = 0) || decide (n = 1)) && (s0 && (l0 && f0))
  else if k = 2 then decide (Lim n) && (s0 && (l0 && f0))
  else if k = 3 then n0 && (decide (s.length ≤ 200) && (l0 && f0))
  else if k = 4 then n0 && (q3N s && (l0 && f0))
  else if k = 5 then n0 && (s0 && (j00 l && f0))
  else if k = 6 then n0 && (s0 && (l0 && q8M none f))
  else if k = 7 then decide (1 ≤ n ∧ n ≤ 60) && (s0 && (l0 && f0))
  else false
def j00 : List Val → Bool
 | [] => true
 | v :: r => q8N v && j00 r
def q8M (p : Option (List UInt8)) : List Fld → Bool
 | [] => true
 | .mk nm v :: r => (q3N nm && (q8N v && (match p with | some q => Op.bytesLess q nm | none => true))) && q8M (some nm) r
end
theorem j21 (l : List Val) : j00 l = !l.any (fun v => !q8N v) := by
 induction l with
 | nil => rfl
 | cons v r ih => simp [j00, ih]
theorem j22 (v : Val) : q8N v = (
  let n0 := decide (v.n = 0)
  let s0 := decide (v.s = [])
  let l0 := decide (v.l.length = 0)
  let f0 := decide (v.f.length = 0)
  if v.kind = 0 then n0 && (s0 && (l0 && f0))
  else if v.kind = 1 then (decide (v.n = 0) || decide (v.n = 1)) && (s0 && (l0 && f0))
  else if v.kind = 2 then decide (Lim v.n) && (s0 && (l0 && f0))
  else if v.kind = 3 then n0 && (decide (v.s.length ≤ 200) && (l0 && f0))
  else if v.kind = 4 then n0 && (q3N v.s && (l0 && f0))
  else if v.kind = 5 then n0 && (s0 && (j00 v.l && f0))
  else if v.kind = 6 then n0 && (s0 && (l0 && q8M none v.f))
  else if v.kind = 7 then decide (1 ≤ v.n ∧ v.n ≤ 60) && (s0 && (l0 && f0))
  else false) := by cases v; unfold q8N; rfl
theorem z8n {p : Option (List UInt8)} {l : List Fld} {x : Fld} : q8M p (l ++ [x]) = (q8M p l && (q3N x.name && (q8N x.v && (match (l.getLast?.map Fld.name).or p with | some q => Op.bytesLess q x.name | none => true)))) := by
 induction l generalizing p with
 | nil => cases x; simp [q8M, Fld.name, Fld.v]
 | cons y r ih =>
  cases y with
  | mk nm v =>
   simp only [List.cons_append, q8M, ih, Bool.and_assoc]
   cases r with
   | nil => simp [Fld.name]
   | cons z r =>
    have h1 : ∀ q : Option (List UInt8), ((z :: r).getLast?.map Fld.name).or q = (z :: r).getLast?.map Fld.name := fun q => by
     rw [List.getLast?_eq_some_getLast (by simp)]; rfl
    have h2 : (Fld.mk nm v :: z :: r).getLast? = (z :: r).getLast? := List.getLast?_cons_cons
    rw [h2, h1, h1]
theorem z8o {l : List Fld} {i : Nat} {x : Fld} (hx : l[i]? = some x) : q8M none (l.take (i + 1)) = (q8M none (l.take i) && (q3N x.name && (q8N x.v && (match l[i - 1]? with | some y => if i = 0 then true else Op.bytesLess y.name x.name | none => true)))) := by
 have hl : i < l.length := (List.getElem?_eq_some_iff.1 hx).1
 rw [List.take_add_one, hx]
 simp only [Option.toList_some]
 rw [z8n]
 congr 3
 by_cases h0 : i = 0
 ·subst h0; simp; cases l[0]? <;> rfl
 ·have : (l.take i).getLast? = l[i - 1]? := by
   rw [List.getLast?_eq_getElem?, List.length_take, List.getElem?_take]
   have : min i l.length = i := by omega
   rw [this, if_pos (by omega)]
  rw [this]
  cases hy : l[i - 1]? with
  | none => rfl
  | some y => simp [h0]
theorem kinds (k : Int) : k = 0 ∨ k = 1 ∨ k = 2 ∨ k = 3 ∨ k = 4 ∨ k = 5 ∨ k = 6 ∨ k = 7 ∨ (k ≠ 0 ∧ k ≠ 1 ∧ k ≠ 2 ∧ k ≠ 3 ∧ k ≠ 4 ∧ k ≠ 5 ∧ k ≠ 6 ∧ k ≠ 7) := by omega
def q1v : q0j :=
 .seq (.reg [⟨some 1, .box (.t 0), none⟩, Qx 2 KF]) (.seq (.dreg [Q 9 (.fa 1 (.t 1)), Q 10 (.ld false 1 (.t 9)), Q 11 (.bin .eql (.t 10) (Ki 0)), Q 12 (.fa 2 (.t 1)), Q 13 (.ld 
 false 1 (.t 12)), Q 14 (.bin .eql (.t 13) (.k (.d (.str [])))), Q 15 (.fa 3 (.t 1)), Q 16 (.ld false 1 (.t 15)), Q 17 (.len false (.t 16)), Q 18 (.bin .eql (.t 17) (Ki 0)), Q 19 
 (.fa 4 (.t 1)), Q 20 (.ld false 1 (.t 19)), Q 21 (.len false (.t 20)), Q 22 (.bin .eql (.t 21) (Ki 0)), Qc 3 11, Qc 4 14, Qc 5 18, Qc 6 22]) (.seq (.seq (.reg [Q 23 (.fa 0 (.t 
 1)), Q 24 (.ld false 1 (.t 23))]) (.block 0 (.seq (.reg [Q 26 (.bin .eql (.t 24) (Ki 0)), Qa 25 26]) (.cond (.t 25) .skip (.seq (.reg [Q 28 (.bin .eql (.t 24) (Ki 1)), Qa 27 28]) 
 (.cond (.t 27) (.reg [Q 29 (.fa 1 (.t 1)), Q 30 (.ld false 1 (.t 29)), Q 31 (.bin .eql (.t 30) (Ki 0)), Qc 32 31, Qg 33 (.fa 1 (.t 1)) 32 false, Qg 34 (.ld false 1 (.t 33)) 32 
 false, Qg 35 (.bin .eql (.t 34) (Ki 1)) 32 false, Q 36 (.pick (.t 32) KT (.t 35)), Qa 3 36]) (.seq (.reg [Q 38 (.bin .eql (.t 24) (Ki 2)), Qa 37 38]) (.cond (.t 37) (.reg [Q 39 
 (.fa 1 (.t 1)), Q 40 (.ld false 1 (.t 39)), ⟨some 41, .call 78 [.t 40], none⟩, Q 42 (.eqN 0 false (.t 41)), Qa 3 42]) (.seq (.reg [Q 44 (.bin .eql (.t 24) (Ki 3)), Qa 43 44]) 
 (.cond (.t 43) (.reg [Q 45 (.fa 2 (.t 1)), Q 46 (.ld false 1 (.t 45)), Q 47 (.len true (.t 46)), Q 48 (.bin .leq (.t 47) (Ki 200)), Qa 4 48]) (.seq (.reg [Q 50 (.bin .eql (.t 24) 
 (Ki 4)), Qa 49 50]) (.cond (.t 49) (.reg [Q 51 (.fa 2 (.t 1)), Q 52 (.ld false 1 (.t 51)), ⟨some 53, .call 79 [.t 52], none⟩, Qa 4 53]) (.seq (.reg [Q 55 (.bin .eql (.t 24) (Ki 
 5)), Qa 54 55]) (.cond (.t 54) (.reg [Q 56 (.fa 3 (.t 1)), Q 57 (.ld false 1 (.t 56)), ⟨some 58, .prim .call [.k (.fn (.func 80) [] []), .t 57, .k (.fn (.func 81) [] [])] [], 
 none⟩, Q 59 (.not (.t 58)), Qa 5 59]) (.seq (.reg [Q 61 (.bin .eql (.t 24) (Ki 6)), Qa 60 61]) (.cond (.t 60) (.seq (.reg [Q 62 (.fa 4 (.t 1)), Q 63 (.ld false 1 (.t 62)), Q 64 
 (.len false (.t 63)), Q 65 (.cp (Ki 0))]) (.block 1 (.loop (.seq (.reg [Q 66 (.bin .lss (.t 65) (.t 64))]) (.seq (.cond (.t 66) .skip (.exit 1)) (.seq (.block 2 (.seq (.reg [Qc 
 67 65, Q 68 (.ia 6 (.t 63) (.t 65)), Q 69 (.ld true 6 (.t 68)), ⟨some 8, .allo [.str [], .int .i64 0, .int .i64 0, .str [], .list [], .list []], none⟩, Qa 7 67, ⟨none, .st 6 (.t 
 8) (.t 69), none⟩]) (.dreg [Qc 70 7, Q 71 (.bin .eql (.t 70) (Ki 0)), Qc 72 71, Qd 73 6 72 false, Q 74 (.pick (.t 72) KT (.t 73)), Qc 75 74, Qg 76 (.fa 0 (.t 8)) 75 true, Qg 77 
 (.ld false 1 (.t 76)) 75 true, ⟨some 78, .call 79 [.t 77], some (75, true)⟩, Q 79 (.pick (.t 75) (.t 78) KF), Qc 80 79, Qg 81 (.fa 1 (.t 8)) 80 true, Qg 82 (.ld true 5 (.t 81)) 
 80 true, ⟨some 83, .call 59 [.t 82], some (80, true)⟩, Q 84 (.pick (.t 80) (.t 83) KF), Qc 85 84, Qd 86 7 85 true, Qg 87 (.bin .eql (.t 86) (Ki 0)) 85 true, Qd 88 87 85 true, Qg 
 89 (.fa 4 (.t 1)) 88 false, Qg 90 (.ld false 1 (.t 89)) 88 false, Qd 91 7 88 false, Qg 92 (.bin .sub (.t 91) (Ki 1)) 88 false, Qg 93 (.ia 6 (.t 90) (.t 92)) 88 false, Qg 94 (.fa 
 0 (.t 93)) 88 false, Qg 95 (.ld false 1 (.t 94)) 88 false, Qg 96 (.fa 0 (.t 8)) 88 false, Qg 97 (.ld false 1 (.t 96)) 88 false, Qg 98 (.bin .lss (.t 95) (.t 97)) 88 false, Qg 99 
 (.pick (.t 88) KT (.t 98)) 85 true, Q 100 (.pick (.t 85) (.t 99) KF), Qa 6 100]))) (.reg [Q 101 (.bin .add (.t 65) (Ki 1)), Qc 65 101]))))))) (.seq (.reg [Q 103 (.bin .eql (.t 
 24) (Ki 7)), Qa 102 103]) (.cond (.t 102) (.reg [Q 104 (.fa 1 (.t 1)), Q 105 (.ld false 1 (.t 104)), Q 106 (.bin .geq (.t 105) (Ki 1)), Qc 107 106, Qg 108 (.fa 1 (.t 1)) 107 
 true, Qg 109 (.ld false 1 (.t 108)) 107 true, Qg 110 (.bin .leq (.t 109) (Ki 60)) 107 true, Q 111 (.pick (.t 107) (.t 110) KF), Qa 3 111]) (.seq (.reg [Qx 2 KF]) 
 .ret))))))))))))))))))) (.seq (.reg [Qc 112 3, Qc 113 112, Qd 114 4 113 true, Q 115 (.pick (.t 113) (.t 114) KF), Qc 116 115, Qd 117 5 116 true, Q 118 (.pick (.t 116) (.t 117) 
 KF), Qc 119 118, Qd 120 6 119 true, Q 121 (.pick (.t 119) (.t 120) KF), Qa 2 121]) .ret)))
def q1y : List LRes := [.tmp 2]
theorem q0Z : q0t Tryz.prog 59 122 q1v q1y := ⟨_, _, Tryz.func59, rfl, by kernel_rfl, by kernel_rfl, rfl⟩
def q7l : q0j :=
 .seq (.reg [⟨some 1, .box (.t 0), none⟩, Qx 2 KF]) (.seq (.reg [Q 3 (.ld true 5 (.t 1)), ⟨some 4, .call 59 [.t 3], none⟩, Q 5 (.not (.t 4)), Qa 2 5]) .ret)
def q7o : List LRes := [.tmp 2]
theorem q84 : q0t Tryz.prog 81 6 q7l q7o := ⟨_, _, Tryz.func81, rfl, by kernel_rfl, by kernel_rfl, rfl⟩
theorem j01 : ∀ (m : Nat) (v : Val), SizeOf.sizeOf v ≤ m → v.sm 1048576 = true → q0u Tryz.prog 59 [v.d] (fun r => r = .one (.bool (q8N v))) := by
 intro m
 induction m with
 | zero => intro v h; cases v; simp at h
 | succ m ih =>
  intro v hv hsm
  obtain ⟨_, hll, hfl, hsl, hsf⟩ := Val.q9S.1 hsm
  have hvl := q2k v.l
  have hfl' := q9I v.f
  have hcl : ∀ x ∈ v.l, q0u Tryz.prog 81 [x.d] (fun r => r = .one (.bool (!q8N x))) := fun x hx => by
   have hc := ih x (by have := j3q hx; omega) (hsl x hx)
   rw [Val.d_eq] at hc ⊢
   refine q84.call rfl ?_
   simp (maxSteps := 2000000) only [go_sem, ↓reduceIte, q7l, q7o]
   refine q0k.of hc ?_
   simp (maxSteps := 2000000) only [go_sem, ↓reduceIte]
  generalize hR : q8N v = R
  rw [j22] at hR
  have cast0 : ∀ a : Nat, ((a : Int) = 0) = (a = 0) := fun a => by apply propext; omega
  rw [Val.d_eq]
  rcases kinds v.kind with hk | hk | hk | hk | hk | hk | hk | hk | hk
  ·refine q0Z.call rfl ?_
   rw [hk] at hR
   simp only [Int.reduceEq, ↓reduceIte] at hR
   simp (maxSteps := 2000000) only [go_sem, ↓reduceIte, q1v, q1y, hk, hvl, hfl']
   subst hR
   simp only [cast0]
   by_cases c1 : v.n = 0 <;> by_cases c2 : v.s = [] <;> by_cases c3 : v.l.length = 0 <;> by_cases c4 : v.f.length = 0 <;> simp [c1, c2, c3, c4]
  ·refine q0Z.call rfl ?_
   rw [hk] at hR
   simp only [Int.reduceEq, ↓reduceIte] at hR
   simp (maxSteps := 2000000) only [go_sem, ↓reduceIte, q1v, q1y, hk, hvl, hfl']
   subst hR
   simp only [cast0]
   by_cases c1 : v.n = 0 <;> by_cases c2 : v.s = [] <;> by_cases c3 : v.l.length = 0 <;> by_cases c4 : v.f.length = 0 <;> simp [c1, c2, c3, c4]
  ·refine q0Z.call rfl ?_
   rw [hk] at hR
   simp only [Int.reduceEq, ↓reduceIte] at hR
   simp (maxSteps := 2000000) only [go_sem, ↓reduceIte, q1v, q1y, hk, hvl, hfl']
   by_cases hL : Lim v.n
   ·refine q0k.of (q3G hL) ?_
    simp (maxSteps := 2000000) only [go_sem, ↓reduceIte]
    subst hR
    simp only [cast0]
    by_cases c2 : v.s = [] <;> by_cases c3 : v.l.length = 0 <;> by_cases c4 : v.f.length = 0 <;> simp [hL, c2, c3, c4]
   ·refine q0k.of (q2I hL) ?_
    simp (maxSteps := 2000000) only [go_sem, ↓reduceIte, err]
    subst hR
    simp [hL]
  ·refine q0Z.call rfl ?_
   rw [hk] at hR
   simp only [Int.reduceEq, ↓reduceIte] at hR
   simp (maxSteps := 2000000) only [go_sem, ↓reduceIte, q1v, q1y, hk, hvl, hfl']
   subst hR
   simp only [cast0]
   have c5 : ((v.s.length : Int) ≤ 200) = (v.s.length ≤ 200) := by apply propext; omega
   simp only [c5]
   by_cases c1 : v.n = 0 <;> by_cases c2 : v.s.length ≤ 200 <;> by_cases c3 : v.l.length = 0 <;> by_cases c4 : v.f.length = 0 <;> simp [c1, c2, c3, c4]
  ·refine q0Z.call rfl ?_
   rw [hk] at hR
   simp only [Int.reduceEq, ↓reduceIte] at hR
   simp (maxSteps := 2000000) only [go_sem, ↓reduceIte, q1v, q1y, hk, hvl, hfl']
   refine q0k.of (q6O v.s) ?_
   simp (maxSteps := 2000000) only [go_sem, ↓reduceIte]
   subst hR
   simp only [cast0]
   by_cases c1 : v.n = 0 <;> cases c2 : q3N v.s <;> by_cases c3 : v.l.length = 0 <;> by_cases c4 : v.f.length = 0 <;> simp [c1, c3, c4]
  ·refine q0Z.call rfl ?_
   rw [hk] at hR
   simp only [Int.reduceEq, ↓reduceIte] at hR
   simp (maxSteps := 2000000) only [go_sem, ↓reduceIte, q1v, q1y, hk, hvl, hfl']
   refine q0b.q2b ([]) ([]) rfl (q8R 81 (by kernel_rfl) v.l (by omega) _ hcl) rfl rfl (by simp only [q17, St.obj, aget, AObj.ren, AV.ren, AV.ren1, renL, q5B, renR, renQ, List.getD_cons_zero, List.getD_cons_succ, and_true, and_self, Nat.reduceEqDiff, ↓reduceIte, reduceCtorEq]) rfl rfl rfl ⟨rfl, rfl⟩ ?_
   simp (maxSteps := 2000000) only [go_sem, ↓reduceIte]
   subst hR
   rw [j21]
   simp only [cast0]
   by_cases c1 : v.n = 0 <;> by_cases c2 : v.s = [] <;> cases c3 : v.l.any (fun v => !q8N v) <;> by_cases c4 : v.f.length = 0 <;> simp [c1, c2, c4]
  ·refine q0Z.call rfl ?_
   rw [hk] at hR
   simp only [Int.reduceEq, ↓reduceIte] at hR
   simp (maxSteps := 2000000) only [go_sem, ↓reduceIte, q1v, q1y, hk, hvl, hfl']
   refine q0s (fun y : Nat × Bool => ⟨[(1, .ptr (.l 1) 0), (3, .d (.bool (decide (v.n = 0)))), (4, .d (.bool (decide (v.s = [])))), (5, .d (.bool (decide ((v.l.length : Int) = 0)))), (6, .d (.bool y.2)), (63, .d (.list (q37 v.f))), (64, .d (.int .i64 v.f.length)), (65, .d (.int .i64 y.1))],
     [(1, .cells [.d (.int .i64 6), .d (.int .i64 v.n), .d (.str v.s), .d (.list (q05 v.l)), .d (.list (q37 v.f))])], []⟩)
    (fun y => y.1 ≤ v.f.length ∧ (y.1 = 0 → y.2 = decide (v.f.length = 0)) ∧ (y.1 ≠ 0 → y.2 = q8M none (v.f.take y.1))) (fun y => v.f.length - y.1) (0, decide (v.f.length = 0)) ?_ ?_ ?_
   ·refine Weak.mk ?_ ?_ ?_ <;> simp (maxSteps := 2000000) only [go_sem, ↓reduceIte, Sub, Int.natCast_add, Int.natCast_mul, cast0]
   ·exact ⟨by simp, fun _ => rfl, fun h => absurd rfl h⟩
   ·rintro ⟨i, fb⟩ ⟨hi, hz, hnz⟩
    simp only at hi hz hnz
    simp (maxSteps := 2000000) only [go_sem, ↓reduceIte]
    refine ⟨fun hlt => ?_, fun hge => ?_⟩
    ·obtain ⟨x, hx⟩ := get_some (l := v.f) (i := i) (by omega)
     have hsx := Fld.q9S.1 (hsf x (List.mem_of_getElem? hx))
     have hc := ih x.v (by have := j3p (List.mem_of_getElem? hx); omega) hsx.2
     have hn := q6O x.name
     rw [Val.d_eq] at hc
     have hstep : q8M none (v.f.take (i + 1)) = (q8M none (v.f.take i) && (q3N x.name && (q8N x.v && (match v.f[i - 1]? with | some y => if i = 0 then true else Op.bytesLess y.name x.name | none => true)))) := z8o hx
     simp (maxSteps := 2000000) (disch := omega) only [go_sem, ↓reduceIte, q0c, z0D, hx, Fld.d_eq]
     refine ⟨fun g1 => ?_, fun g1 => ?_⟩
     ·have i0 : i ≠ 0 := by omega
      have hfb := hnz i0
      obtain ⟨y, hy⟩ := get_some (l := v.f) (i := i - 1) (by omega)
      have hgy : getI (q37 v.f) ((i : Int) - 1) = some y.d := by
       have : (i : Int) - 1 = ((i - 1 : Nat) : Int) := by omega
       rw [this, q0c, z0D, hy]; rfl
      rw [hy] at hstep
      simp only [i0, if_false, ← hfb] at hstep
      refine ⟨fun f1 => ?_, fun f1 => ?_⟩
      ·refine q6o.of hn ?_
       simp (maxSteps := 2000000) (disch := omega) only [go_sem, ↓reduceIte]
       refine ⟨fun n1 => ?_, fun n1 => ?_⟩
       ·refine q6o.of hc ?_
        simp (maxSteps := 2000000) (disch := omega) only [go_sem, ↓reduceIte]
        refine ⟨fun w1 => ?_, fun w1 => ?_⟩
        ·simp (maxSteps := 2000000) (disch := omega) only [go_sem, ↓reduceIte, g1, hgy, Fld.d_eq]
         refine ⟨(i + 1, Op.bytesLess y.name x.name), ?_, ⟨by simp only; omega, fun h => absurd h (by simp), fun _ => ?_⟩, by simp only; omega⟩
         ·refine Weak.mk ?_ ?_ ?_ <;> simp (maxSteps := 2000000) only [go_sem, ↓reduceIte, Sub, Int.natCast_add, Int.natCast_mul]
         ·rw [hstep]; simp [f1, n1, w1]
        ·refine ⟨(i + 1, false), ?_, ⟨by simp only; omega, fun h => absurd h (by simp), fun _ => ?_⟩, by simp only; omega⟩
         ·refine Weak.mk ?_ ?_ ?_ <;> simp (maxSteps := 2000000) only [go_sem, ↓reduceIte, Sub, Int.natCast_add, Int.natCast_mul]
         ·rw [hstep]; simp [w1]
       ·refine ⟨(i + 1, false), ?_, ⟨by simp only; omega, fun h => absurd h (by simp), fun _ => ?_⟩, by simp only; omega⟩
        ·refine Weak.mk ?_ ?_ ?_ <;> simp (maxSteps := 2000000) only [go_sem, ↓reduceIte, Sub, Int.natCast_add, Int.natCast_mul]
        ·rw [hstep]; simp [n1]
      ·refine ⟨(i + 1, false), ?_, ⟨by simp only; omega, fun h => absurd h (by simp), fun _ => ?_⟩, by simp only; omega⟩
       ·refine Weak.mk ?_ ?_ ?_ <;> simp (maxSteps := 2000000) only [go_sem, ↓reduceIte, Sub, Int.natCast_add, Int.natCast_mul]
       ·rw [hstep]; simp [f1]
     ·have i0 : i = 0 := by omega
      subst i0
      refine q6o.of hn ?_
      simp (maxSteps := 2000000) (disch := omega) only [go_sem, ↓reduceIte]
      refine ⟨fun n1 => ?_, fun n1 => ?_⟩
      ·refine q6o.of hc ?_
       simp (maxSteps := 2000000) (disch := omega) only [go_sem, ↓reduceIte]
       refine ⟨fun w1 => ?_, fun w1 => ?_⟩
       ·skip
        refine ⟨(1, true), ?_, ⟨by simp only; omega, fun h => absurd h (by simp), fun _ => ?_⟩, by simp only; omega⟩
        ·refine Weak.mk ?_ ?_ ?_ <;> simp (maxSteps := 2000000) only [go_sem, ↓reduceIte, Sub, Int.natCast_add, Int.natCast_mul]
        ·rw [hstep]; simp [n1, w1, q8M]; cases v.f[0]? <;> rfl
       ·skip
        refine ⟨(1, false), ?_, ⟨by simp only; omega, fun h => absurd h (by simp), fun _ => ?_⟩, by simp only; omega⟩
        ·refine Weak.mk ?_ ?_ ?_ <;> simp (maxSteps := 2000000) only [go_sem, ↓reduceIte, Sub, Int.natCast_add, Int.natCast_mul]
        ·rw [hstep]; simp [w1]
      ·skip
       refine ⟨(1, false), ?_, ⟨by simp only; omega, fun h => absurd h (by simp), fun _ => ?_⟩, by simp only; omega⟩
       ·refine Weak.mk ?_ ?_ ?_ <;> simp (maxSteps := 2000000) only [go_sem, ↓reduceIte, Sub, Int.natCast_add, Int.natCast_mul]
       ·rw [hstep]; simp [n1]
    ·subst hR
     have hfb : fb = q8M none v.f := by
      by_cases i0 : i = 0
      ·have h0 : v.f = [] := by
        have : v.f.length = 0 := by omega
        exact List.length_eq_zero_iff.1 this
       rw [hz i0, h0]; rfl
      ·rw [hnz i0, List.take_of_length_le (by omega)]
     rw [hfb]
     simp only [cast0]
     by_cases c1 : v.n = 0 <;> by_cases c2 : v.s = [] <;> by_cases c3 : v.l.length = 0 <;> simp [c1, c2, c3]
  ·refine q0Z.call rfl ?_
   rw [hk] at hR
   simp only [Int.reduceEq, ↓reduceIte] at hR
   simp (maxSteps := 2000000) only [go_sem, ↓reduceIte, q1v, q1y, hk, hvl, hfl']
   subst hR
   simp only [cast0]
   by_cases c1 : 1 ≤ v.n <;> by_cases c5 : v.n ≤ 60 <;> by_cases c2 : v.s = [] <;> by_cases c3 : v.l.length = 0 <;> by_cases c4 : v.f.length = 0 <;> simp [c1, c2, c3, c4, c5]
  ·refine q0Z.call rfl ?_
   obtain ⟨k0, k1, k2, k3, k4, k5, k6, k7⟩ := hk
   rw [if_neg k0, if_neg k1, if_neg k2, if_neg k3, if_neg k4, if_neg k5, if_neg k6, if_neg k7] at hR
   subst hR
   simp (maxSteps := 2000000) only [go_sem, ↓reduceIte, q1v, q1y, hvl, hfl', k0, k1, k2, k3, k4, k5, k6, k7]
mutual
def ptV : Val → Nat × Nat
 | .mk _ _ _ l f => (1 + (ptL l).1 + (ptF f).1, max (ptL l).2 (ptF f).2 + 1)
def ptL : List Val → Nat × Nat
 | [] => (0, 0)
 | v :: r => ((ptV v).1 + (ptL r).1, max (ptV v).2 (ptL r).2)
def ptF : List Fld → Nat × Nat
 | [] => (0, 0)
 | .mk _ v :: r => ((ptV v).1 + (ptF r).1, max (ptV v).2 (ptF r).2)
end
mutual
theorem z3o : ∀ (v : Val), 1 ≤ (ptV v).1 ∧ 1 ≤ (ptV v).2
 | .mk k n s l f => by simp only [ptV]; omega
theorem j5x : ∀ (l : List Val), (ptL l).1 = 0 → (ptL l).2 = 0
 | [], _ => rfl
 | v :: r, h => by
  have := z3o v
  simp only [ptL] at h; omega
theorem j5w : ∀ (l : List Fld), (ptF l).1 = 0 → (ptF l).2 = 0
 | [], _ => rfl
 | .mk _ v :: r, h => by
  have := z3o v
  simp only [ptF] at h; omega
end
mutual
theorem j0W (deep : Nat) : ∀ (v : Val) (left : Int), 0 ≤ left → ((((ptV v).1 : Int) ≤ left ∧ deep + (ptV v).2 ≤ 9) → szV deep v left = (true, left - (ptV v).1)) ∧ (¬ (((ptV v).1 : Int) ≤ left ∧ deep + (ptV v).2 ≤ 9) → (szV deep v left).1 = false)
 | .mk k n s l f, left, h => by
  have hL := j3v (deep + 1) l
  have hF := j3t (deep + 1) f
  have e1 := j5x l
  have e2 := j5w f
  have e3 : ptV (.mk k n s l f) = (1 + (ptL l).1 + (ptF f).1, max (ptL l).2 (ptF f).2 + 1) := by simp only [ptV]
  rw [e3]
  generalize hA : ptL l = A at *
  generalize hB : ptF f = B at *
  obtain ⟨a1, a2⟩ := A
  obtain ⟨b1, b2⟩ := B
  simp only at *
  unfold szV
  by_cases h8 : 8 < deep
  ·rw [if_pos h8]
   exact ⟨fun c => by exfalso; omega, fun _ => rfl⟩
  ·rw [if_neg h8]
   by_cases h0 : left - 1 < 0
   ·rw [if_pos h0]
    exact ⟨fun c => by exfalso; omega, fun _ => rfl⟩
   ·rw [if_neg h0]
    obtain ⟨g1, g2⟩ := hL (left - 1) (by omega)
    by_cases c1 : ((a1 : Int) ≤ left - 1 ∧ (a1 = 0 ∨ deep + 1 + a2 ≤ 9))
    ·rw [g1 c1]
     simp only
     obtain ⟨g3, g4⟩ := hF (left - 1 - a1) (by omega)
     by_cases c2 : ((b1 : Int) ≤ left - 1 - a1 ∧ (b1 = 0 ∨ deep + 1 + b2 ≤ 9))
     ·refine ⟨fun _ => ?_, fun c => by exfalso; omega⟩
      rw [g3 c2]; congr 1; omega
     ·exact ⟨fun c => by exfalso; omega, fun _ => g4 c2⟩
    ·refine ⟨fun c => by exfalso; omega, fun _ => ?_⟩
     have := g2 c1
     generalize szL (deep + 1) l (left - 1) = Z at this
     obtain ⟨z1, z2⟩ := Z
     simp only at this
     subst this
     rfl
theorem j3v (deep : Nat) : ∀ (l : List Val) (left : Int), 0 ≤ left → ((((ptL l).1 : Int) ≤ left ∧ ((ptL l).1 = 0 ∨ deep + (ptL l).2 ≤ 9)) → szL deep l left = (true, left - (ptL l).1)) ∧ (¬ (((ptL l).1 : Int) ≤ left ∧ ((ptL l).1 = 0 ∨ deep + (ptL l).2 ≤ 9)) → (szL deep l left).1 = false)
 | [], left, h => by simp [szL, ptL]; omega
 | v :: r, left, h => by
  obtain ⟨g1, g2⟩ := j0W deep v left h
  have h2 := j3v deep r
  have hp := z3o v
  have hz := j5x r
  have e3 : ptL (v :: r) = ((ptV v).1 + (ptL r).1, max (ptV v).2 (ptL r).2) := by simp only [ptL]
  rw [e3]
  generalize hA : ptV v = A at *
  generalize hB : ptL r = B at *
  obtain ⟨a1, a2⟩ := A
  obtain ⟨b1, b2⟩ := B
  simp only at *
  unfold szL
  by_cases c1 : ((a1 : Int) ≤ left ∧ deep + a2 ≤ 9)
  ·rw [g1 c1]
   simp only
   obtain ⟨g3, g4⟩ := h2 (left - a1) (by omega)
   by_cases c2 : ((b1 : Int) ≤ left - a1 ∧ (b1 = 0 ∨ deep + b2 ≤ 9))
   ·refine ⟨fun _ => ?_, fun c => by exfalso; omega⟩
    rw [g3 c2]; congr 1; omega
   ·exact ⟨fun c => by exfalso; omega, fun _ => g4 c2⟩
  ·refine ⟨fun c => by exfalso; omega, fun _ => ?_⟩
   have := g2 c1
   generalize szV deep v left = Z at this
   obtain ⟨z1, z2⟩ := Z
   simp only at this
   subst this
   rfl
theorem j3t (deep : Nat) : ∀ (l : List Fld) (left : Int), 0 ≤ left → ((((ptF l).1 : Int) ≤ left ∧ ((ptF l).1 = 0 ∨ deep + (ptF l).2 ≤ 9)) → szF deep l left = (true, left - (ptF l).1)) ∧ (¬ (((ptF l).1 : Int) ≤ left ∧ ((ptF l).1 = 0 ∨ deep + (ptF l).2 ≤ 9)) → (szF deep l left).1 = false)
 | [], left, h => by simp [szF, ptF]; omega
 | .mk nm v :: r, left, h => by
  obtain ⟨g1, g2⟩ := j0W deep v left h
  have h2 := j3t deep r
  have hp := z3o v
  have hz := j5w r
  have e3 : ptF (.mk nm v :: r) = ((ptV v).1 + (ptF r).1, max (ptV v).2 (ptF r).2) := by simp only [ptF]
  rw [e3]
  generalize hA : ptV v = A at *
  generalize hB : ptF r = B at *
  obtain ⟨a1, a2⟩ := A
  obtain ⟨b1, b2⟩ := B
  simp only at *
  unfold szF
  by_cases c1 : ((a1 : Int) ≤ left ∧ deep + a2 ≤ 9)
  ·rw [g1 c1]
   simp only
   obtain ⟨g3, g4⟩ := h2 (left - a1) (by omega)
   by_cases c2 : ((b1 : Int) ≤ left - a1 ∧ (b1 = 0 ∨ deep + b2 ≤ 9))
   ·refine ⟨fun _ => ?_, fun c => by exfalso; omega⟩
    rw [g3 c2]; congr 1; omega
   ·exact ⟨fun c => by exfalso; omega, fun _ => g4 c2⟩
  ·refine ⟨fun c => by exfalso; omega, fun _ => ?_⟩
   have := g2 c1
   generalize szV deep v left = Z at this
   obtain ⟨z1, z2⟩ := Z
   simp only at this
   subst this
   rfl
end
def z0C (v : Val) : Nat := if 300 < (ptV v).1 ∨ 8 < (ptV v).2 then 2 else if q8N v then 0 else 3
theorem j4K (v : Val) : (szV 1 v 300).1 = !decide (300 < (ptV v).1 ∨ 8 < (ptV v).2) := by
 have h := j0W 1 v 300 (by omega)
 by_cases c : (((ptV v).1 : Int) ≤ 300 ∧ 1 + (ptV v).2 ≤ 9)
 ·rw [h.1 c]
  have : ¬ (300 < (ptV v).1 ∨ 8 < (ptV v).2) := by omega
  simp [this]
 ·rw [h.2 c]
  have : (300 < (ptV v).1 ∨ 8 < (ptV v).2) := by omega
  simp [this]
def q7Y : q0j :=
 .seq (.reg [⟨some 1, .box (.t 0), none⟩, Qx 2 (.k (.d .nil))]) (.seq (.reg [⟨some 3, .allo [.int .i64 0], none⟩, ⟨none, .st 1 (.t 3) (Ki 300), none⟩]) (.seq (.seq (.reg [Q 4 (.ld 
 true 5 (.t 1)), ⟨some 5, .prim .call [.k (.fn (.func 58) [] []), .t 4, .k (.d (.int .i64 1)), .t 3] [], none⟩, Q 6 (.not (.t 5))]) (.cond (.t 6) (.seq (.reg [Q 7 (.mkI 76 (Ki 
 2)), Qa 2 7]) .ret) .skip)) (.seq (.seq (.reg [Q 8 (.ld true 5 (.t 1)), ⟨some 9, .call 59 [.t 8], none⟩, Q 10 (.not (.t 9))]) (.cond (.t 10) (.seq (.reg [Q 11 (.mkI 76 (Ki 3)), 
 Qa 2 11]) .ret) .skip)) (.seq (.reg [Qx 2 (.k (.d .nil))]) .ret))))
def q73 : List LRes := [.tmp 2]
theorem q93 : q0t Tryz.prog 34 12 q7Y q73 := ⟨_, _, Tryz.func34, rfl, by kernel_rfl, by kernel_rfl, rfl⟩
theorem z5g (v : Val) (hsm : v.sm 1048576 = true) : q0u Tryz.prog 34 [v.d] (fun r => r = .one (errD (z0C v))) := by
 have h1 := j0Q _ v (Nat.le_refl _) 1 300 (by omega) (by omega) (by omega) (by omega) hsm
 have h2 := j01 _ v (Nat.le_refl _) hsm
 rw [j4K] at h1
 generalize (szV 1 v 300).2 = q at h1
 rw [Val.d_eq] at *
 refine q93.call rfl ?_
 simp (maxSteps := 2000000) only [go_sem, ↓reduceIte, q7Y, q73]
 refine q0b.mc1 (.l 3) rfl (h1) rfl rfl rfl rfl ⟨rfl, rfl⟩ ?_
 simp (maxSteps := 2000000) only [go_sem, ↓reduceIte]
 refine ⟨fun c => ?_, fun c => ?_⟩
 ·simp only [z0C, if_pos c]; rfl
 ·refine q0k.of h2 ?_
  simp (maxSteps := 2000000) only [go_sem, ↓reduceIte]
  simp only [z0C, if_neg c]
  cases q8N v <;> simp [errD]
def eqB {α : Type} (p : α → α → Bool) : List α → List α → Bool
 | [], [] => true
 | x :: r, y :: s => p x y && eqB p r s
 | _, _ => false
def zeroV : Val := .mk 0 0 [] [] []
def posV (nm : List UInt8) : List Fld → Nat
 | [] => 0
 | x :: r => if Op.bytesLess x.name nm then posV nm r + 1 else 0
def hasV (nm : List UInt8) (l : List Fld) : Bool :=
 match l[posV nm l]? with
 | some x => decide (x.name = nm)
 | none => false
end Go.Av.Tryz
set_option linter.unusedVariables false
set_option linter.unusedSimpArgs false
namespace Go.Av.Tryz
open Go.Proofs Go.RowKit Go.Lib
section
variable {P : Program}
end
def setF (nm : List UInt8) (x : Val) (f : List Fld) : List Fld := if hasV nm f then f.set (posV nm f) (.mk nm x) else f.take (posV nm f) ++ .mk nm x :: f.drop (posV nm f)
def setV (nm : List UInt8) (x v : Val) : Val := .mk v.kind v.n v.s v.l (setF nm x v.f)
theorem mk_d (k n : Int) (s : List UInt8) (l : List Val) (f : List Fld) : (Val.mk k n s l f).d = .agg [.int .i64 k, .int .i64 n, .str s, .list (q05 l), .list (q37 f)] := by rw [Val.d_eq]; rfl
/-! ### Names, strings -/
def q6N : List UInt8 → List UInt8 → Option (List UInt8)
 | [], b => some b
 | c :: r, b =>
  if c.toNat = 35 then
   match r with
   | x :: y :: q => if hexI x.toNat < 0 ∨ hexI y.toNat < 0 then none else q6N q (b ++ [q9V (16 * hexI x.toNat + hexI y.toNat)])
   | _ => none
  else q6N r (b ++ [c])
def octB (c : UInt8) : Bool := decide (48 ≤ c.toNat) && decide (c.toNat ≤ 55)
def oct1 (e : UInt8) : Int := (e.toNat : Int) - 48
def octG : Nat → Int → List UInt8 → Nat → Int × Nat
 | 0, v, _, k => (v, k)
 | _ + 1, v, [], k => (v, k)
 | m + 1, v, x :: q, k => if octB x = true then octG m (8 * v + oct1 x) q (k + 1) else (v, k)
theorem z4F {m : Nat} {v : Int} {t : List UInt8} {k : Nat} (h : ∀ x q, t = x :: q → octB x = false) : octG m v t k = (v, k) := by
 match m, t with
 | 0, _ => rfl
 | m + 1, [] => rfl
 | m + 1, x :: q => rw [octG, if_neg (by simp [h x q rfl])]
def octL (e : UInt8) (r : List UInt8) : Option UInt8 × Nat := (some (q9V (octG 2 (oct1 e) r 1).1), (octG 2 (oct1 e) r 1).2)
def escL : List UInt8 → Option UInt8 × Nat
 | [] => (none, 1)
 | e :: r =>
  if e.toNat = 110 then (some 10, 1) else if e.toNat = 114 then (some 13, 1) else if e.toNat = 116 then (some 9, 1) else if e.toNat = 98 then (some 8, 1) else if e.toNat = 102 then (some 12, 1)
  else if e.toNat = 10 then (none, 1)
  else if e.toNat = 13 then (if r.head?.map UInt8.toNat = some 10 then (none, 2) else (none, 1))
  else if octB e = false then (some e, 1)
  else octL e r
def litF : Nat → Nat → List UInt8 → List UInt8 → Nat → Option (List UInt8 × Nat)
 | _, _, [], _, _ => none
 | k + 1, d, _ :: r, b, p => litF k d r b (p + 1)
 | 0, d, c :: r, b, p =>
  if c.toNat = 92 then (if r = [] then none else litF (escL r).2 d r (b ++ (escL r).1.toList) (p + 1))
  else if c.toNat = 41 then (if d ≤ 1 then some (b, p + 1) else litF 0 (d - 1) r (b ++ [c]) (p + 1))
  else if c.toNat = 40 then litF 0 (d + 1) r (b ++ [c]) (p + 1)
  else litF 0 d r (b ++ [c]) (p + 1)
theorem z4z : ∀ (k : Nat) {d : Nat} {t b : List UInt8} {p : Nat}, k ≤ t.length → litF k d t b p = litF 0 d (t.drop k) b (p + k)
 | 0, _, _, _, _, _ => rfl
 | k + 1, d, [], b, p, h => by simp at h
 | k + 1, d, c :: r, b, p, h => by
  rw [litF, z4z k (by simpa using h), List.drop_succ_cons]
  congr 1; omega
/-! ### Values -/
inductive RV where
 | ok (v : Val) (k : Nat)
 | bad (e : Nat)
def numV (n : Int) : Val := .mk 2 n [] [] []
def strV (s : List UInt8) : Val := .mk 3 0 s [] []
def namV (s : List UInt8) : Val := .mk 4 0 s [] []
def digF : List UInt8 → Nat → Option Nat
 | [], n => some n
 | c :: r, n => if c.toNat < 48 ∨ 57 < c.toNat then none else digF r (10 * n + (c.toNat - 48))
def objF (w : List UInt8) : Option Nat :=
 if w.length < 1 ∨ 2 < w.length ∨ w.head?.map UInt8.toNat = some 48 then none
 else match digF w 0 with
  | none => none
  | some n => if n ≤ 60 then some n else none
def z4T (s : List UInt8) (at_ : Nat) : Option (Nat × Nat) :=
 match objF (q2r s at_) with
 | none => none
 | some n =>
  let i := q3j s (at_ + (q2r s at_).length)
  if q2r s i = [48] then
   let j := q3j s (i + 1)
   if q2r s j = [82] then some (n, j + 1) else none
  else none
def j1Y (s : List UInt8) (at_ : Nat) : RV :=
 match litF 0 1 (s.drop at_) [] at_ with
 | none => .bad 5
 | some (b, k) => if b.length ≤ 200 then .ok (strV b) k else .bad 2
def j5b (s : List UInt8) (at_ : Nat) : RV :=
 if (q5q (s.drop at_) (-1) []).2 = 0 then (if (q5q (s.drop at_) (-1) []).1.length ≤ 200 then .ok (strV (q5q (s.drop at_) (-1) []).1) (at_ + z5F (s.drop at_)) else .bad 2)
 else .bad (q5q (s.drop at_) (-1) []).2
def q9L (s : List UInt8) (at_ : Nat) : Option (List UInt8 × Nat) :=
 match q6N (q2r s (at_ + 1)) [] with
 | none => none
 | some b => if q3N b = true then some (b, at_ + 1 + (q2r s (at_ + 1)).length) else none
def z8p (s : List UInt8) (at_ : Nat) : RV :=
 if q2r s at_ = [110, 117, 108, 108] then .ok zeroV (at_ + 4)
 else if q2r s at_ = [116, 114, 117, 101] then .ok (.mk 1 1 [] [] []) (at_ + 4)
 else if q2r s at_ = [102, 97, 108, 115, 101] then .ok (.mk 1 0 [] [] []) (at_ + 5)
 else match z4T s at_ with
  | some (n, k) => .ok (.mk 7 n [] [] []) k
  | none => if (q6g (q2r s at_)).2 = 0 then .ok (numV (q6g (q2r s at_)).1) (at_ + (q2r s at_).length) else .bad (q6g (q2r s at_)).2
open Go.Shelf
set_option maxRecDepth 100000
def q9W : Go.Shelf.Ren := ⟨fun | 144 => 82 | 143 => 106 | 219 => 123 | 217 => 139 | 225 => 138 | 224 => 137 | 267 => 140 | 266 => 147 | 314 => 148 | n => n, fun | 9 => 9 | 4 => 4 | 3 => 3 | 5 => 5 | 46 => 193 | 146 => 198 | 51 => 197 | n => n, fun | 1 => 0 | n => n⟩
theorem q9F : Go.Proofs.LaysM.n144 Tryz.prog q9W where
 mixed := by kernel_rfl
 f143 := Tryz.func106.trans (congrArg some (by kernel_rfl))
 f144 := Tryz.func82.trans (congrArg some (by kernel_rfl))
 f217 := Tryz.func139.trans (congrArg some (by kernel_rfl))
 f219 := Tryz.func123.trans (congrArg some (by kernel_rfl))
 f224 := Tryz.func137.trans (congrArg some (by kernel_rfl))
 f225 := Tryz.func138.trans (congrArg some (by kernel_rfl))
 f266 := Tryz.func147.trans (congrArg some (by kernel_rfl))
 f267 := Tryz.func140.trans (congrArg some (by kernel_rfl))
 f314 := Tryz.func148.trans (congrArg some (by kernel_rfl))
 t3 := Tryz.underlying3
 a3 := Tryz.isAgg3
 z3 := Tryz.sizeOf3
 v3 := Tryz.zeroValue3
 t4 := Tryz.underlying4
 a4 := Tryz.isAgg4
 z4 := Tryz.sizeOf4
 v4 := Tryz.zeroValue4
 t5 := Tryz.underlying5
 a5 := Tryz.isAgg5
 z5 := Tryz.sizeOf5
 v5 := Tryz.zeroValue5
 t9 := Tryz.underlying9
 a9 := Tryz.isAgg9
 z9 := Tryz.sizeOf9
 v9 := Tryz.zeroValue9
 t46 := Tryz.underlying193
 a46 := Tryz.isAgg193
 z46 := Tryz.sizeOf193
 v46 := Tryz.zeroValue193
 t51 := Tryz.underlying197
 a51 := Tryz.isAgg197
 z51 := Tryz.sizeOf197
 v51 := Tryz.zeroValue197
 t146 := Tryz.underlying198
 a146 := Tryz.isAgg198
 z146 := Tryz.sizeOf198
 v146 := Tryz.zeroValue198
 g1 := by kernel_rfl
 i3 := by kernel_rfl
 i4 := by kernel_rfl
 i5 := by kernel_rfl
 i9 := by kernel_rfl
 i46 := by kernel_rfl
 i51 := by kernel_rfl
 i146 := by kernel_rfl
 m1 := by kernel_rfl
 s1_3 := fun w h => Go.Proofs.cell_of_shapedOpen_int (zero := #[.int .i64 0]) (t := 3) h (of_decide_eq_true (by kernel_rfl)) (by kernel_rfl) rfl (by kernel_rfl) (by kernel_rfl) Tryz.underlying3
theorem z2H (s sub : List UInt8) (hs : s.length < 4294967281) : q0u Tryz.prog 82 [.str s, .str sub] (fun r => r = .one (.bool (Lib.contains s sub))) := by
 intro f w vs hI ht hsz hrd
 have hv : vs = #[.string ⟨s.toArray⟩, .string ⟨sub.toArray⟩] := by
  have h1 := hrd 0 _ rfl
  have h2 := hrd 1 _ rfl
  match vs, hsz with
  | ⟨[v, u]⟩, _ => cases h1; cases h2; rfl
 subst hv
 obtain ⟨m, hm⟩ := hI.2.1 0 (by kernel_rfl)
 refine (Any.strings_Contains q9F.ton144 ⟨s.toArray⟩ ⟨sub.toArray⟩ m w (by show s.toArray.size < _; simpa using hs) hm).mono fun e w' ⟨he, hw⟩ => ?_
 subst hw
 exact ⟨_, _, f, rfl, he, .bool _, Nat.le_refl _, fun b hb => ⟨rfl, rfl⟩, ht, rfl, rfl, rfl⟩
def q9r : q0j :=
 .seq (.reg [Qx 2 KF]) (.seq (.reg [Qc 3 0, Q 4 (.cvI .i32 (.t 3)), Q 5 (.i2s (.t 4)), ⟨some 6, .call 82 [.k (.d (.str [40, 41, 60, 62, 91, 93, 123, 125, 47, 37])), .t 5], none⟩, Qc 
 7 6, Qd 8 0 7 true, Qg 9 (.bin .lss (.t 8) (Kb 128)) 7 true, Q 10 (.pick (.t 7) (.t 9) KF), Qa 2 10]) .ret)
def q9z : List LRes := [.tmp 2]
theorem z0X : q0t Tryz.prog 61 11 q9r q9z := ⟨_, _, Tryz.func61, rfl, by kernel_rfl, by kernel_rfl, rfl⟩
theorem z4Z (c : UInt8) : q0u Tryz.prog 61 [.int .u8 c.toNat] (fun r => r = .one (.bool (q8F c))) := by
 have hc8 := q4e c
 refine z0X.call rfl ?_
 simp (maxSteps := 2000000) only [go_sem, ↓reduceIte, q9r, q9z]
 rw [IntWalk.i32_in _ (by omega)]
 by_cases h : c.toNat < 128
 ·rw [z7y h]
  refine q0k.of (z1B _ c) ?_
  simp (maxSteps := 2000000) only [go_sem, ↓reduceIte]
  refine ⟨fun h1 => ?_, fun h1 => ?_⟩
  ·have h2 : q8F c = true := by simpa [q8F, z3x] using h1
   have h3 : ((c.toNat : Int) < 128) = True := eq_true (by omega)
   simp [h2, h3]
  ·have h2 : q8F c = false := by simpa [q8F, z3x] using h1
   rw [h2]
 ·have h2 : q8F c = false := by
   simp only [q8F, z3x, List.mem_cons, List.not_mem_nil, or_false, decide_eq_false_iff_not, ← UInt8.toNat_inj]
   have : (40 : UInt8).toNat = 40 := rfl
   rintro (e | e | e | e | e | e | e | e | e | e) <;> (rw [e] at h; exact h (by decide))
  have h3 : ((c.toNat : Int) < 128) = False := eq_false (by omega)
  rw [h2]
  refine q0k.of (z2H _ _ (by simp)) ?_
  simp (maxSteps := 2000000) only [go_sem, ↓reduceIte, h3]
theorem z6B (s : List UInt8) (n : Int) : (if (s.length : Int) < (if n < 0 then 0 else n) then (s.length : Int) else if n < 0 then 0 else n) = ((q5l s n : Nat) : Int) := by
 unfold q5l; split <;> split <;> omega
theorem z6C (s : List UInt8) (n : Int) : q5l s n ≤ s.length := by unfold q5l; omega
theorem q3H {s : List UInt8} {k : Nat} (h : k ≤ s.length) : q5l s k = k := by unfold q5l; omega
def q9p : q0j :=
 .seq (.reg [Qx 4 (Ki 0)]) (.seq (.reg [Qc 5 1, Q 6 (.mm true (.t 5) (Ki 0)), Qc 7 0, Q 8 (.len true (.t 7)), Q 9 (.mm false (.t 6) (.t 8)), Qa 1 9]) (.seq (.block 0 (.loop (.seq 
 (.seq (.reg [Qc 10 1, Qc 11 0, Q 12 (.len true (.t 11)), Q 13 (.bin .lss (.t 10) (.t 12))]) (.cond (.t 13) .skip (.exit 0))) (.block 1 (.block 2 (.seq (.reg [Qc 16 0, Qc 17 1, Q 
 18 (.idxS (.t 16) (.t 17)), ⟨some 19, .call 60 [.t 18], none⟩, Qa 15 19]) (.cond (.t 15) (.reg [Qc 20 1, Q 21 (.bin .add (.t 20) (Ki 1)), Qa 1 21]) (.seq (.reg [Qc 23 0, Qc 24 1, 
 Q 25 (.idxS (.t 23) (.t 24)), Q 26 (.bin .eql (.t 25) (Kb 37)), Qa 22 26]) (.cond (.t 22) (.block 3 (.loop (.seq (.seq (.reg [Qc 27 1, Qc 28 0, Q 29 (.len true (.t 28)), Q 30 
 (.bin .lss (.t 27) (.t 29)), Qc 31 30, Qd 32 0 31 true, Qd 33 1 31 true, Qg 34 (.idxS (.t 32) (.t 33)) 31 true, Qg 35 (.bin .neq (.t 34) (Kb 10)) 31 true, Q 36 (.pick (.t 31) (.t 
 35) KF), Qc 37 36, Qd 38 0 37 true, Qd 39 1 37 true, Qg 40 (.idxS (.t 38) (.t 39)) 37 true, Qg 41 (.bin .neq (.t 40) (Kb 13)) 37 true, Q 42 (.pick (.t 37) (.t 41) KF)]) (.cond 
 (.t 42) .skip (.exit 3))) (.block 4 (.reg [Qc 43 1, Q 44 (.bin .add (.t 43) (Ki 1)), Qa 1 44]))))) (.seq (.reg [Qc 14 1, Qa 4 14]) .ret)))))))))) (.seq (.reg [Qc 45 1, Qa 4 45]) 
 .ret)))
def q9x : List LRes := [.tmp 4]
theorem z0V : q0t Tryz.prog 35 46 q9p q9x := ⟨_, _, Tryz.func35, rfl, by kernel_rfl, by kernel_rfl, rfl⟩
theorem q5U (s : List UInt8) (n : Int) (hs : s.length ≤ 1000000000) : q0u Tryz.prog 35 [.str s, .int .i64 n] (fun r => r = .one (.int .i64 (q3j s (q5l s n)))) := by
 refine z0V.call rfl ?_
 have hk := z6C s n
 have he := z6B s n
 generalize q5l s n = k at *
 generalize hR : q3j s k = R
 unfold q3j at hR
 simp (maxSteps := 2000000) only [go_sem, ↓reduceIte, q9p, q9x, he]
 refine q0s (fun i : Nat => ⟨[(0, .d (.str s)), (1, .d (.int .i64 i))], [], []⟩)
  (fun i => i ≤ s.length ∧ q6n false (s.drop i) i = R) (fun i => s.length - i) k ?_ ?_ ?_
 ·refine q0e ?_ trivial
  simp (maxSteps := 2000000) only [go_sem, ↓reduceIte, Sub, Int.natCast_add, Int.natCast_mul, he]
 ·exact ⟨hk, hR⟩
 ·rintro i ⟨hi, hF⟩
  simp (maxSteps := 2000000) only [go_sem, ↓reduceIte]
  refine ⟨fun hlt => ?_, fun hge => ?_⟩
  ·obtain ⟨c, hc⟩ := get_some (l := s) (i := i) (by omega)
   have hc8 := q4e c
   rw [z5o hc, q6n, if_neg (by decide)] at hF
   simp (maxSteps := 2000000) only [go_sem, ↓reduceIte, q0c, hc]
   refine q0k.of (z13 c.toNat) ?_
   simp (maxSteps := 2000000) only [go_sem, ↓reduceIte]
   refine ⟨fun h2 => ?_, fun h2 => ?_⟩
   ·rw [if_neg (by intro e; rw [e] at h2; exact absurd h2 (by decide)), if_pos h2] at hF
    simp (disch := omega) only [IntWalk.i64_in, IntWalk.u8_in]
    refine ⟨i + 1, ?_, ⟨by omega, hF⟩, by omega⟩
    refine q0e ?_ trivial
    simp (maxSteps := 2000000) only [go_sem, ↓reduceIte, Sub, Int.natCast_add, Int.natCast_mul]
   ·simp (maxSteps := 2000000) only [go_sem, ↓reduceIte, q0c, hc]
    refine ⟨fun h3 => ?_, fun h3 => ?_⟩
    ·rw [if_pos (by omega)] at hF
     have c37 : c.toNat = 37 := by omega
     refine q0s (fun j : Nat => ⟨[(0, .d (.str s)), (1, .d (.int .i64 j))], [], []⟩)
      (fun j => i ≤ j ∧ j ≤ s.length ∧ q6n true (s.drop j) j = R) (fun j => s.length - j) i ?_ ?_ ?_
     ·refine q0e ?_ trivial
      simp (maxSteps := 2000000) only [go_sem, ↓reduceIte, Sub, Int.natCast_add, Int.natCast_mul]
     ·refine ⟨Nat.le_refl _, hi, ?_⟩
      rw [z5o hc, q6n, if_pos rfl, c37]
      exact hF
     ·rintro j ⟨hij, hj, hG⟩
      simp (maxSteps := 2000000) only [go_sem, ↓reduceIte]
      refine ⟨fun hlt2 => ?_, fun hge2 => ?_⟩
      ·obtain ⟨x, hx⟩ := get_some (l := s) (i := j) (by omega)
       have hx8 := q4e x
       rw [z5o hx, q6n, if_pos rfl] at hG
       simp (maxSteps := 2000000) only [go_sem, ↓reduceIte, q0c, hx]
       have end_ : (x.toNat = 10 ∨ x.toNat = 13) → i < j ∧ q6n false (s.drop j) j = R := fun h => by
        refine ⟨?_, ?_⟩
        ·rcases Nat.lt_or_ge i j with q | q
         ·exact q
         ·have : i = j := by omega
          subst this
          rw [hc] at hx; cases hx; omega
        ·rw [z5o hx, q6n, if_neg (by decide), if_neg (by omega), if_pos (by rcases h with h | h <;> rw [h] <;> rfl)]
         rcases h with h | h <;> (rw [h] at hG; exact hG)
       refine ⟨fun g1 => ⟨fun g2 => ?_, fun g2 => ?_⟩, fun g1 => ?_⟩
       ·simp (disch := omega) only [IntWalk.i64_in, IntWalk.u8_in]
        have q : (decide (x.toNat ≠ 10) && decide (x.toNat ≠ 13)) = true := by simp; omega
        rw [q] at hG
        refine ⟨j + 1, ?_, ⟨by omega, by omega, hG⟩, by omega⟩
        refine q0e ?_ trivial
        simp (maxSteps := 2000000) only [go_sem, ↓reduceIte, Sub, Int.natCast_add, Int.natCast_mul]
       ·obtain ⟨q1, q2⟩ := end_ (.inr (by omega))
        refine ⟨j, ?_, ⟨hj, q2⟩, by omega⟩
        refine q0e ?_ trivial
        simp (maxSteps := 2000000) only [go_sem, ↓reduceIte, Sub, Int.natCast_add, Int.natCast_mul]
       ·obtain ⟨q1, q2⟩ := end_ (.inl (by omega))
        refine ⟨j, ?_, ⟨hj, q2⟩, by omega⟩
        refine q0e ?_ trivial
        simp (maxSteps := 2000000) only [go_sem, ↓reduceIte, Sub, Int.natCast_add, Int.natCast_mul]
      ·refine ⟨j, ?_, ⟨hj, ?_⟩, by omega⟩
       ·refine q0e ?_ trivial
        simp (maxSteps := 2000000) only [go_sem, ↓reduceIte, Sub, Int.natCast_add, Int.natCast_mul]
       ·rw [List.drop_eq_nil_of_le (by omega), q6n] at hG
        rw [List.drop_eq_nil_of_le (by omega), q6n]; exact hG
    ·rw [if_neg (by omega), if_neg (by simp [h2])] at hF
     subst hF
     rfl
  ·rw [List.drop_eq_nil_of_le (by omega), q6n] at hF
   subst hF
   simp (maxSteps := 2000000) only [go_sem, ↓reduceIte]
/-! ### Words -/
theorem q9j (c : UInt8) (r : List UInt8) : q8O (c :: r) = if q77 c.toNat = false ∧ q8F c = false then c :: q8O r else [] := by
 unfold q8O
 rw [List.takeWhile_cons]
 by_cases h : q77 c.toNat = false ∧ q8F c = false
 ·rw [if_pos h, if_pos (by simp [h.1, h.2])]
 ·rw [if_neg h, if_neg (by simpa using h)]
theorem j03 {s : List UInt8} {k i : Nat} {c : UInt8} (hk : k ≤ i) (hc : s[i]? = some c) (h1 : q77 c.toNat = false) (h2 : q8F c = false) (h : q8O (s.drop k) = (s.drop k).take (i - k) ++ q8O (s.drop i)) :
  q8O (s.drop k) = (s.drop k).take (i + 1 - k) ++ q8O (s.drop (i + 1)) := by
 have hl : (s.drop k)[i - k]? = some c := by rw [List.getElem?_drop, show k + (i - k) = i by omega]; exact hc
 rw [h, z5o hc, q9j, if_pos ⟨h1, h2⟩, show i + 1 - k = (i - k) + 1 by omega, List.take_add_one, hl]
 simp
def q9q : q0j :=
 .seq (.reg [Qx 4 (.k (.d (.str [])))]) (.seq (.reg [Qc 6 1, Q 7 (.mm true (.t 6) (Ki 0)), Qc 8 0, Q 9 (.len true (.t 8)), Q 10 (.mm false (.t 7) (.t 9)), Qa 1 10]) (.seq (.reg [Qc 
 11 1, Qa 5 11]) (.seq (.block 0 (.loop (.seq (.seq (.reg [Qc 12 5, Qc 13 0, Q 14 (.len true (.t 13)), Q 15 (.bin .lss (.t 12) (.t 14)), Qc 16 15, Qd 17 0 16 true, Qd 18 5 16 
 true, Qg 19 (.idxS (.t 17) (.t 18)) 16 true, ⟨some 20, .call 60 [.t 19], some (16, true)⟩, Qg 21 (.not (.t 20)) 16 true, Q 22 (.pick (.t 16) (.t 21) KF), Qc 23 22, Qd 24 0 23 
 true, Qd 25 5 23 true, Qg 26 (.idxS (.t 24) (.t 25)) 23 true, ⟨some 27, .call 61 [.t 26], some (23, true)⟩, Qg 28 (.not (.t 27)) 23 true, Q 29 (.pick (.t 23) (.t 28) KF)]) (.cond 
 (.t 29) .skip (.exit 0))) (.block 1 (.reg [Qc 30 5, Q 31 (.bin .add (.t 30) (Ki 1)), Qa 5 31]))))) (.seq (.reg [Qc 32 0, Qc 33 1, Qc 34 5, Q 35 (.subS (.t 32) (some (.t 33)) 
 (some (.t 34))), Qa 4 35]) .ret))))
def q9y : List LRes := [.tmp 4]
theorem z0W : q0t Tryz.prog 36 36 q9q q9y := ⟨_, _, Tryz.func36, rfl, by kernel_rfl, by kernel_rfl, rfl⟩
theorem q5Y (s : List UInt8) (n : Int) (hs : s.length ≤ 1000000000) : q0u Tryz.prog 36 [.str s, .int .i64 n] (fun r => r = .one (.str (q2r s (q5l s n)))) := by
 refine z0W.call rfl ?_
 have hk := z6C s n
 have he := z6B s n
 generalize q5l s n = k at *
 unfold q2r
 simp (maxSteps := 2000000) only [go_sem, ↓reduceIte, q9q, q9y, he]
 refine q0s (fun i : Nat => ⟨[(0, .d (.str s)), (1, .d (.int .i64 k)), (5, .d (.int .i64 i))], [], []⟩)
  (fun i => k ≤ i ∧ i ≤ s.length ∧ q8O (s.drop k) = (s.drop k).take (i - k) ++ q8O (s.drop i)) (fun i => s.length - i) k ?_ ?_ ?_
 ·refine q0e ?_ trivial
  simp (maxSteps := 2000000) only [go_sem, ↓reduceIte, Sub, Int.natCast_add, Int.natCast_mul, he]
 ·exact ⟨Nat.le_refl _, hk, by simp⟩
 ·rintro i ⟨hki, hi, hF⟩
  have fin : q8O (s.drop i) = [] → (s.drop k).take (i - k) = q8O (s.drop k) := fun h => by rw [hF, h, List.append_nil]
  have done : q8O (s.drop i) = [] → (0 ≤ (k : Int) ∧ (k : Int) ≤ i ∧ (i : Int) ≤ s.length) ∧ Res.one (D.str (cutI s k i)) = Res.one (D.str (q8O (s.drop k))) := fun h =>
   ⟨by omega, by rw [q94, List.drop_take, fin h]⟩
  simp (maxSteps := 2000000) only [go_sem, ↓reduceIte]
  refine ⟨fun hlt => ?_, fun hge => ?_⟩
  ·obtain ⟨c, hc⟩ := get_some (l := s) (i := i) (by omega)
   simp (maxSteps := 2000000) only [go_sem, ↓reduceIte, q0c, hc]
   refine q0k.of (z13 c.toNat) ?_
   simp (maxSteps := 2000000) only [go_sem, ↓reduceIte]
   refine ⟨fun h1 => ?_, fun h1 => ?_⟩
   ·simp (maxSteps := 2000000) only [go_sem, ↓reduceIte, q0c, hc]
    refine q0k.of (z4Z c) ?_
    simp (maxSteps := 2000000) only [go_sem, ↓reduceIte]
    refine ⟨fun h2 => ?_, fun h2 => ?_⟩
    ·simp (disch := omega) only [IntWalk.i64_in, IntWalk.u8_in]
     refine ⟨i + 1, ?_, ⟨by omega, by omega, j03 hki hc h1 h2 hF⟩, by omega⟩
     refine q0e ?_ trivial
     simp (maxSteps := 2000000) only [go_sem, ↓reduceIte, Sub, Int.natCast_add, Int.natCast_mul]
    ·exact done (by rw [z5o hc, q9j, if_neg (by simp [h2])])
   ·exact done (by rw [z5o hc, q9j, if_neg (by simp [h1])])
  ·exact done (by rw [List.drop_eq_nil_of_le (by omega)]; rfl)
theorem z9Y {c x y : UInt8} {r b : List UInt8} (h : c.toNat = 35) : q6N (c :: x :: y :: r) b = if hexI x.toNat < 0 ∨ hexI y.toNat < 0 then none else q6N r (b ++ [q9V (16 * hexI x.toNat + hexI y.toNat)]) := by
 rw [q6N, if_pos h]
theorem z9X {c : UInt8} {r b : List UInt8} (h : c.toNat = 35) (hr : r.length < 2) : q6N (c :: r) b = none := by
 match r, hr with
 | [], _ => rw [q6N, if_pos h]; intro x y q e; cases e
 | [x], _ => rw [q6N, if_pos h]; intro x y q e; cases e
theorem z9Z {c : UInt8} {r b : List UInt8} (h : c.toNat ≠ 35) : q6N (c :: r) b = q6N r (b ++ [c]) := by
 match r with
 | [] => simp [q6N, h]
 | [x] => simp [q6N, h]
 | x :: y :: r => rw [q6N, if_neg h]
/-! ### What is set is set as the document has it -/
/-! ### Fields put in, none of that name there -/
mutual
theorem Val.z3B {m m' : Nat} (h : m ≤ m') : ∀ v : Val, v.sm m = true → v.sm m' = true
 | .mk k n s l f, hv => by
  simp only [Val.sm, Bool.and_eq_true, decide_eq_true_eq] at hv ⊢
  exact ⟨by omega, by omega, by omega, z7h h l hv.2.2.2.1, z7g h f hv.2.2.2.2⟩
theorem z7h {m m' : Nat} (h : m ≤ m') : ∀ l : List Val, smL m l = true → smL m' l = true
 | [], _ => rfl
 | v :: r, hl => by
  simp only [smL, Bool.and_eq_true] at hl ⊢
  exact ⟨Val.z3B h v hl.1, z7h h r hl.2⟩
theorem z7g {m m' : Nat} (h : m ≤ m') : ∀ l : List Fld, smF m l = true → smF m' l = true
 | [], _ => rfl
 | .mk nm v :: r, hl => by
  simp only [smF, Fld.sm, Bool.and_eq_true, decide_eq_true_eq] at hl ⊢
  exact ⟨⟨by omega, Val.z3B h v hl.1.2⟩, z7g h r hl.2⟩
end
/-! ### Parts -/
theorem z5W {s : List UInt8} {at_ k : Nat} {b : List UInt8} (ha : at_ < s.length) (h : q9L s at_ = some (b, k)) : at_ < k ∧ k ≤ s.length ∧ b.length ≤ 200 ∧ q3N b = true := by
 unfold q9L at h
 have hw := q3Q s (at_ + 1)
 split at h
 ·cases h
 ·rename_i b' hb
  split at h
  ·rename_i hm
   cases h
   refine ⟨by omega, by omega, ?_, hm⟩
   simp only [q3N, Bool.and_eq_true, decide_eq_true_eq] at hm
   exact hm.2.1
  ·cases h
theorem z6O : ∀ t : List UInt8, z5F t ≤ t.length
 | [] => by simp [z5F]
 | c :: r => by unfold z5F; have := z6O r; split <;> simp <;> omega
theorem q6a : ∀ (t : List UInt8) (h : Int) (b : List UInt8), (q5q t h b).2 = 0 ∨ (q5q t h b).2 = 4 ∨ (q5q t h b).2 = 5
 | [], _, _ => by simp [q5q]
 | c :: r, h, b => by
  unfold q5q
  split
  ·simp
  ·split
   ·exact q6a r _ _
   ·split
    ·simp
    ·split
     ·exact q6a r _ _
     ·exact q6a r _ _
theorem j4Q {s : List UInt8} {at_ : Nat} (ha : at_ ≤ s.length) : match j5b s at_ with
  | .ok v k => at_ < k ∧ k ≤ s.length ∧ v.sm 300 = true ∧ (ptV v).1 = 1
  | .bad e => 1 ≤ e ∧ e ≤ 8 := by
 have hg := z6O (s.drop at_)
 rw [List.length_drop] at hg
 unfold j5b
 have hc := q6a (s.drop at_) (-1) []
 by_cases h0 : (q5q (s.drop at_) (-1) []).2 = 0
 ·rw [if_pos h0]
  have hne : s.drop at_ ≠ [] := fun e => by rw [e] at h0; simp [q5q] at h0
  have hpos : 1 ≤ z5F (s.drop at_) := by
   cases hd : s.drop at_ with
   | nil => exact absurd hd hne
   | cons c r => unfold z5F; split <;> omega
  split
  ·rename_i v k e
   split at e
   ·cases e
    rename_i hl
    refine ⟨by omega, by omega, Val.q9S.2 ⟨by simp only [strV, Val.s]; omega, by simp [strV, Val.l], by simp [strV, Val.f], by simp [strV, Val.l], by simp [strV, Val.f]⟩, by simp [strV, ptV, ptL, ptF]⟩
   ·cases e
  ·rename_i e' e
   split at e
   ·cases e
   ·cases e; omega
 ·rw [if_neg h0]
  simp only
  omega
theorem q63 : ∀ (t : List UInt8) (k d : Nat) (b : List UInt8) (p : Nat) {q : List UInt8} {n : Nat}, litF k d t b p = some (q, n) → p < n ∧ n ≤ p + t.length
 | [], _, _, _, _, _, _, h => by simp [litF] at h
 | c :: r, 0, d, b, p, q, n, h => by
  unfold litF at h
  simp only [List.length_cons]
  split at h
  ·split at h
   ·cases h
   ·have := q63 r _ _ _ _ h; omega
  ·split at h
   ·split at h
    ·cases h; omega
    ·have := q63 r _ _ _ _ h; omega
   ·split at h
    ·have := q63 r _ _ _ _ h; omega
    ·have := q63 r _ _ _ _ h; omega
 | c :: r, k + 1, d, b, p, q, n, h => by
  unfold litF at h
  simp only [List.length_cons]
  have := q63 r _ _ _ _ h; omega
theorem j0U {b : List UInt8} (h : b.length ≤ 200) : (strV b).sm 300 = true ∧ (ptV (strV b)).1 = 1 :=
 ⟨Val.q9S.2 ⟨by simp only [strV, Val.s]; omega, by simp [strV, Val.l], by simp [strV, Val.f], by simp [strV, Val.l], by simp [strV, Val.f]⟩, by simp [strV, ptV, ptL, ptF]⟩
theorem z7L {s : List UInt8} {at_ : Nat} (ha : at_ ≤ s.length) : match j1Y s at_ with
  | .ok v k => at_ < k ∧ k ≤ s.length ∧ v.sm 300 = true ∧ (ptV v).1 = 1
  | .bad e => 1 ≤ e ∧ e ≤ 8 := by
 unfold j1Y
 cases h : litF 0 1 (s.drop at_) [] at_ with
 | none => simp
 | some p =>
  obtain ⟨b, k⟩ := p
  have := q63 _ _ _ _ _ h
  rw [List.length_drop] at this
  simp only
  by_cases hb : b.length ≤ 200
  ·rw [if_pos hb]
   obtain ⟨h1, h2⟩ := j0U hb
   exact ⟨by omega, by omega, h1, h2⟩
  ·rw [if_neg hb]; simp
theorem z74 {s : List UInt8} {at_ n k : Nat} (ha : at_ ≤ s.length) (h : z4T s at_ = some (n, k)) : at_ < k ∧ k ≤ s.length ∧ 1 ≤ n ∧ n ≤ 60 := by
 unfold z4T at h
 have hw := q3Q s at_
 split at h
 ·cases h
 ·rename_i m hm
  have h1 := q4h (s := s) (k := at_ + (q2r s at_).length) (by omega)
  simp only at h
  split at h
  ·rename_i hq
   have hw2 := q3Q s (q3j s (at_ + (q2r s at_).length))
   rw [hq] at hw2
   simp only [List.length_cons, List.length_nil] at hw2
   have h2 := q4h (s := s) (k := q3j s (at_ + (q2r s at_).length) + 1) (by omega)
   split at h
   ·rename_i hr
    have hw3 := q3Q s (q3j s (q3j s (at_ + (q2r s at_).length) + 1))
    rw [hr] at hw3
    simp only [List.length_cons, List.length_nil] at hw3
    cases h
    have hb : 1 ≤ n ∧ n ≤ 60 := by
     unfold objF at hm
     split at hm
     ·cases hm
     ·rename_i hc
      generalize q2r s at_ = w at hm hc
      cases hd : digF w 0 with
      | none => rw [hd] at hm; cases hm
      | some z =>
       rw [hd] at hm
       simp only at hm
       split at hm
       ·rename_i hz
        cases hm
        refine ⟨?_, hz⟩
        cases w with
        | nil => simp at hc
        | cons a r =>
         have ha : a.toNat ≠ 48 := fun e => hc (.inr (.inr (by simp [e])))
         have mono : ∀ (t : List UInt8) (x y : Nat), digF t x = some y → x ≤ y := fun t => by
          induction t with
          | nil => intro x y e; simp only [digF, Option.some.injEq] at e; omega
          | cons c r ih =>
           intro x y e
           unfold digF at e
           split at e
           ·cases e
           ·have := ih _ _ e; omega
         unfold digF at hd
         split at hd
         ·cases hd
         ·have := mono _ _ _ hd; omega
       ·cases hm
    exact ⟨by omega, by omega, hb⟩
   ·cases h
  ·cases h
theorem z57 (w : List UInt8) : (q6g w).2 = 0 ∨ (q6g w).2 = 1 ∨ (q6g w).2 = 4 := by
 unfold q6g finP
 split
 ·simp
 ·split
  ·simp
  ·split <;> simp
theorem z7Y : (q6g []).2 = 4 := rfl
theorem z8r {s : List UInt8} {at_ : Nat} (ha : at_ ≤ s.length) : match z8p s at_ with
  | .ok v k => at_ < k ∧ k ≤ s.length ∧ v.sm 300 = true ∧ (ptV v).1 = 1
  | .bad e => 1 ≤ e ∧ e ≤ 8 := by
 have plain : ∀ (k n : Int), (Val.mk k n [] [] []).sm 300 = true ∧ (ptV (Val.mk k n [] [] [])).1 = 1 := fun k n => ⟨by simp [Val.sm, smL, smF], by simp [ptV, ptL, ptF]⟩
 have hw := q3Q s at_
 unfold z8p
 by_cases h1 : q2r s at_ = [110, 117, 108, 108]
 ·rw [if_pos h1]
  rw [h1] at hw
  simp only [List.length_cons, List.length_nil] at hw
  exact ⟨by omega, by omega, plain 0 0⟩
 ·rw [if_neg h1]
  by_cases h2 : q2r s at_ = [116, 114, 117, 101]
  ·rw [if_pos h2]
   rw [h2] at hw
   simp only [List.length_cons, List.length_nil] at hw
   exact ⟨by omega, by omega, plain 1 1⟩
  ·rw [if_neg h2]
   by_cases h3 : q2r s at_ = [102, 97, 108, 115, 101]
   ·rw [if_pos h3]
    rw [h3] at hw
    simp only [List.length_cons, List.length_nil] at hw
    exact ⟨by omega, by omega, plain 1 0⟩
   ·rw [if_neg h3]
    cases hr : z4T s at_ with
    | some p =>
     obtain ⟨n, k⟩ := p
     have := z74 ha hr
     exact ⟨by omega, by omega, plain 7 n⟩
    | none =>
     simp only
     have hc := z57 (q2r s at_)
     by_cases h4 : (q6g (q2r s at_)).2 = 0
     ·rw [if_pos h4]
      have hne : (q2r s at_).length ≠ 0 := fun e => by
       rw [List.length_eq_zero_iff.1 e, z7Y] at h4; cases h4
      exact ⟨by omega, by omega, plain 2 _⟩
     ·rw [if_neg h4]
      simp only; omega
/-! ### Values -/
theorem kmk (k n : Int) (s : List UInt8) : (Val.mk k n s [] []).d = .agg [.int .i64 k, .int .i64 n, .str s, .list [], .list []] := by rw [mk_d]; rfl
def robj (s : List UInt8) (k : Int) (n : Nat) : AObj := .cells [.d (.str s), .d (.int .i64 k), .d (errD n)]
theorem q1K (s : List UInt8) (k : Int) : robj s k 0 = .cells [.d (.str s), .d (.int .i64 k), .d .nil] := rfl
theorem z1f (s : List UInt8) (k : Int) {n : Nat} (h : n ≠ 0) : robj s k n = .cells [.d (.str s), .d (.int .i64 k), .d (.iface 76 (.int .i64 n))] := by rw [robj, q3n h]
theorem j3n (s : List UInt8) (k : Int) : robj s k 2 = .cells [.d (.str s), .d (.int .i64 k), .d (.iface 76 (.int .i64 2))] := rfl
theorem z7a (s : List UInt8) (k : Int) : robj s k 4 = .cells [.d (.str s), .d (.int .i64 k), .d (.iface 76 (.int .i64 4))] := rfl
theorem z7b (s : List UInt8) (k : Int) : robj s k 5 = .cells [.d (.str s), .d (.int .i64 k), .d (.iface 76 (.int .i64 5))] := rfl
theorem j2A : errD 2 = .iface 76 (.int .i64 2) ∧ errD 3 = .iface 76 (.int .i64 3) ∧ errD 4 = .iface 76 (.int .i64 4) ∧ errD 5 = .iface 76 (.int .i64 5) := ⟨rfl, rfl, rfl, rfl⟩
def q1L : q0j :=
 .seq (.reg [Qc 4 0, Q 5 (.nck (.t 4)), Q 6 (.fa 2 (.t 5)), Q 7 (.ld false 1 (.t 6)), Q 8 (.eqN 0 false (.t 7))]) (.cond (.t 8) (.reg [Qc 9 0, Qc 10 1, Q 11 (.nck (.t 9)), Q 12 (.fa 
 2 (.t 11)), ⟨none, .st 1 (.t 12) (.t 10), none⟩]) .skip)
def q1M : List LRes := []
theorem q2a : q0t Tryz.prog 63 13 q1L q1M := ⟨_, _, Tryz.func63, rfl, by kernel_rfl, by kernel_rfl, rfl⟩
theorem z0B (s : List UInt8) (k : Int) (e : Nat) : q4U Tryz.prog 63 [.ptr (.x 0) 0, .d (errD e)] [robj s k 0] (.tuple []) [robj s k e] := by
 rw [q1K]
 by_cases h : e = 0
 ·subst h
  rw [q1K, show errD 0 = .nil from rfl]
  refine q2a.q2b (by kernel_rfl) rfl ?_
  simp (maxSteps := 2000000) only [go_sem, ↓reduceIte, q1L, q1M]
 ·rw [z1f s k h, q3n h]
  refine q2a.q2b (by kernel_rfl) rfl ?_
  simp (maxSteps := 2000000) only [go_sem, ↓reduceIte, q1L, q1M]
theorem j3U (s : List UInt8) (k : Int) {n : Nat} (h : n ≠ 0) (E : D) : q4U Tryz.prog 63 [.ptr (.x 0) 0, .d E] [robj s k n] (.tuple []) [robj s k n] := by
 rw [z1f s k h]
 refine q2a.q2b (by kernel_rfl) rfl ?_
 simp (maxSteps := 2000000) only [go_sem, ↓reduceIte, q1L, q1M]
def q2c : q0j :=
 .seq (.reg [Qx 4 KF]) (.seq (.reg [Qc 5 0, Q 6 (.len true (.t 5)), Qc 7 1, Q 8 (.len true (.t 7)), Q 9 (.bin .geq (.t 6) (.t 8)), Qc 10 9, Qd 11 0 10 true, Qd 12 1 10 true, Qg 13 
 (.len true (.t 12)) 10 true, Qg 14 (.subS (.t 11) none (some (.t 13))) 10 true, Qd 15 1 10 true, Qg 16 (.bin .eql (.t 14) (.t 15)) 10 true, Q 17 (.pick (.t 10) (.t 16) KF), Qa 4 
 17]) .ret)
def q2e : List LRes := [.tmp 4]
theorem q3q : q0t Tryz.prog 125 18 q2c q2e := ⟨_, _, Tryz.func125, rfl, by kernel_rfl, by kernel_rfl, rfl⟩
def q4R : q0j :=
 .seq (.reg [Qx 4 KF]) (.seq (.reg [Qc 5 0, Qc 6 1, ⟨some 7, .call 125 [.t 5, .t 6], none⟩, Qa 4 7]) .ret)
def q4W : List LRes := [.tmp 4]
theorem q6k : q0t Tryz.prog 109 8 q4R q4W := ⟨_, _, Tryz.func109, rfl, by kernel_rfl, by kernel_rfl, rfl⟩
def q6H (s t : List UInt8) : Bool := decide (s.take t.length = t)
theorem z1E (s t : List UInt8) : q0u Tryz.prog 109 [.str s, .str t] (fun r => r = .one (.bool (q6H s t))) := by
 have h : q0u Tryz.prog 125 [.str s, .str t] (fun r => r = .one (.bool (q6H s t))) := by
  refine q3q.call rfl ?_
  simp (maxSteps := 2000000) only [go_sem, ↓reduceIte, q2c, q2e]
  refine ⟨fun h => ⟨by omega, ?_⟩, fun h => ?_⟩
  ·rw [show (0 : Int) = ((0 : Nat) : Int) from rfl, q94, List.drop_zero]; rfl
  ·have : q6H s t = false := by
    simp only [q6H, decide_eq_false_iff_not]
    intro e
    have := congrArg List.length e
    simp at this
    omega
   rw [this]
 refine q6k.call rfl ?_
 simp (maxSteps := 2000000) only [go_sem, ↓reduceIte, q4R, q4W]
 refine q0k.of h ?_
 simp (maxSteps := 2000000) only [go_sem, ↓reduceIte]
def q3V : q0j :=
 .seq (.reg [Qx 2 (Kb 0)]) (.seq (.dreg [Qc 3 0, Qc 4 0, Q 5 (.nck (.t 4)), Q 6 (.fa 0 (.t 5)), Q 7 (.ld false 1 (.t 6)), Qc 8 0, Q 9 (.nck (.t 8)), Q 10 (.fa 1 (.t 9)), Q 11 (.ld 
 false 1 (.t 10)), ⟨some 12, .call 35 [.t 7, .t 11], none⟩, Q 13 (.nck (.t 3)), Q 14 (.fa 1 (.t 13)), ⟨none, .st 1 (.t 14) (.t 12), none⟩]) (.seq (.seq (.dreg [Qc 15 0, Q 16 (.nck 
 (.t 15)), Q 17 (.fa 1 (.t 16)), Q 18 (.ld false 1 (.t 17)), Qc 19 0, Q 20 (.nck (.t 19)), Q 21 (.fa 0 (.t 20)), Q 22 (.ld false 1 (.t 21)), Q 23 (.len true (.t 22)), Q 24 (.bin 
 .lss (.t 18) (.t 23))]) (.cond (.t 24) (.seq (.dreg [Qc 25 0, Q 26 (.nck (.t 25)), Q 27 (.fa 0 (.t 26)), Q 28 (.ld false 1 (.t 27)), Qc 29 0, Q 30 (.nck (.t 29)), Q 31 (.fa 1 (.t 
 30)), Q 32 (.ld false 1 (.t 31)), Q 33 (.idxS (.t 28) (.t 32)), Qa 2 33]) .ret) .skip)) (.seq (.reg [Qc 34 0, Q 35 (.mkI 76 (Ki 5)), ⟨some 36, .prim .call [.k (.fn (.func 63) [] 
 []), .t 34, .t 35] [], none⟩]) (.seq (.reg [Qx 2 (Kb 0)]) .ret))))
def q31 : List LRes := [.tmp 2]
theorem q5w : q0t Tryz.prog 83 37 q3V q31 := ⟨_, _, Tryz.func83, rfl, by kernel_rfl, by kernel_rfl, rfl⟩
theorem j5o (s : List UInt8) (k : Nat) (hs : s.length ≤ 60000) (hk : k ≤ s.length) : q4U Tryz.prog 83 [.ptr (.x 0) 0] [robj s k 0]
  (.d (.int .u8 (match s[q3j s k]? with | none => 0 | some c => c.toNat))) [robj s (q3j s k) (match s[q3j s k]? with | none => 5 | some _ => 0)] := by
 have hw := q5U s ((k : Nat) : Int) (by omega)
 rw [q3H hk] at hw
 have hsk := q4h hk
 generalize q3j s k = q at *
 rw [q1K]
 refine q5w.q2b (by kernel_rfl) rfl ?_
 simp (maxSteps := 2000000) only [go_sem, ↓reduceIte, q3V, q31]
 refine q6o.of hw ?_
 simp (maxSteps := 2000000) only [go_sem, ↓reduceIte]
 refine ⟨fun h1 => ?_, fun h1 => ?_⟩
 ·obtain ⟨c, hc⟩ := get_some (l := s) (i := q) (by omega)
  simp (maxSteps := 2000000) only [go_sem, ↓reduceIte, q0c, hc]
  rfl
 ·rw [List.getElem?_eq_none (by omega)]
  have hf := z0B s (q : Int) 5
  rw [q1K, show errD 5 = .iface 76 (.int .i64 5) from rfl] at hf
  refine q0b.mc1 (.x 0) rfl (hf) rfl rfl rfl rfl ⟨rfl, rfl⟩ ?_
  simp (maxSteps := 2000000) only [go_sem, ↓reduceIte, robj]
def q4j : q0j :=
 .seq (.reg [Qx 4 KF]) (.seq (.dreg [Qc 6 0, Q 7 (.nck (.t 6)), Q 8 (.fa 2 (.t 7)), Q 9 (.ld false 1 (.t 8)), Q 10 (.eqN 0 false (.t 9)), Qc 11 10, Qd 12 0 11 true, Qg 13 (.nck (.t 
 12)) 11 true, Qg 14 (.fa 0 (.t 13)) 11 true, Qg 15 (.ld false 1 (.t 14)) 11 true, Qd 16 0 11 true, Qg 17 (.nck (.t 16)) 11 true, Qg 18 (.fa 1 (.t 17)) 11 true, Qg 19 (.ld false 1 
 (.t 18)) 11 true, Qg 20 (.subS (.t 15) (some (.t 19)) none) 11 true, Qd 21 1 11 true, ⟨some 22, .call 109 [.t 20, .t 21], some (11, true)⟩, Q 23 (.pick (.t 11) (.t 22) KF), Qa 5 
 23]) (.seq (.seq (.reg [Qc 24 5]) (.cond (.t 24) (.reg [Qc 25 0, Q 26 (.nck (.t 25)), Q 27 (.fa 1 (.t 26)), Q 28 (.ld false 1 (.t 27)), Qc 29 1, Q 30 (.len true (.t 29)), Q 31 
 (.bin .add (.t 28) (.t 30)), Q 32 (.nck (.t 25)), Q 33 (.fa 1 (.t 32)), ⟨none, .st 1 (.t 33) (.t 31), none⟩]) .skip)) (.seq (.reg [Qc 34 5, Qa 4 34]) .ret)))
def q4l : List LRes := [.tmp 4]
theorem q5O : q0t Tryz.prog 87 35 q4j q4l := ⟨_, _, Tryz.func87, rfl, by kernel_rfl, by kernel_rfl, rfl⟩
theorem j4Z (s : List UInt8) (k : Nat) (t : List UInt8) (hs : s.length ≤ 60000) (hk : k ≤ s.length) (ht : t.length ≤ 10) : q4U Tryz.prog 87 [.ptr (.x 0) 0, .d (.str t)] [robj s k 0]
  (.d (.bool (q6H (s.drop k) t))) [robj s (if q6H (s.drop k) t = true then (k : Int) + t.length else k) 0] := by
 have hp := z1E (s.drop k) t
 generalize q6H (s.drop k) t = b at *
 rw [q1K]
 refine q5O.q2b (by kernel_rfl) rfl ?_
 simp (maxSteps := 2000000) only [go_sem, ↓reduceIte, q4j, q4l]
 rw [show (s.length : Int) = ((s.length : Nat) : Int) from rfl, q94, List.take_length]
 refine ⟨by omega, ?_⟩
 refine q6o.of hp ?_
 simp (maxSteps := 2000000) only [go_sem, ↓reduceIte]
 refine ⟨fun h => ?_, fun h => ?_⟩
 ·simp (disch := omega) only [IntWalk.i64_in, IntWalk.u8_in]
  rw [if_pos h]; rfl
 ·rw [if_neg (by simp [h])]; rfl
def q2G : q0j :=
 .seq (.reg [⟨some 4, .allo [.int .i64 0, .int .i64 0, .str [], .list [], .list []], none⟩]) (.seq (.seq (.reg [Qc 5 1, Q 6 (.len true (.t 5)), Q 7 (.bin .gtr (.t 6) (Ki 200))]) 
 (.cond (.t 7) (.reg [Qc 8 0, Q 9 (.mkI 76 (Ki 2)), ⟨some 10, .prim .call [.k (.fn (.func 63) [] []), .t 8, .t 9] [], none⟩]) .skip)) (.seq (.reg [Qc 11 1, Q 12 (.bld [(0, 1), (1, 
 1), (2, 1), (3, 1), (4, 1)] [.int .i64 0, .int .i64 0, .str [], .list [], .list []] [false, false, false, true, true] [(0, .k (.d (.int .i64 3))), (2, .t 11)]), ⟨none, .st 5 (.t 
 4) (.t 12), none⟩]) .ret))
def q2H : List LRes := [.cell 4 true 5]
theorem q3y : q0t Tryz.prog 85 13 q2G q2H := ⟨_, _, Tryz.func85, rfl, by kernel_rfl, by kernel_rfl, rfl⟩
theorem j6c (s : List UInt8) (k : Int) (t : List UInt8) : q4U Tryz.prog 85 [.ptr (.x 0) 0, .d (.str t)] [robj s k 0] (.d (strV t).d) [robj s k (if t.length ≤ 200 then 0 else 2)] := by
 have hf := z0B s k 2
 rw [show errD 2 = .iface 76 (.int .i64 2) from rfl] at hf
 rw [q1K] at hf ⊢
 refine q3y.q2b (by kernel_rfl) rfl ?_
 simp (maxSteps := 2000000) only [go_sem, ↓reduceIte, q2G, q2H]
 refine ⟨fun h => ?_, fun h => ?_⟩
 ·refine q0b.mc1 (.x 0) rfl (hf) rfl rfl rfl rfl ⟨rfl, rfl⟩ ?_
  simp (maxSteps := 2000000) only [go_sem, ↓reduceIte, robj]
  rw [if_neg (by omega), Val.d_eq]
  exact ⟨rfl, rfl⟩
 ·rw [if_pos (by omega), Val.d_eq]
  exact ⟨rfl, rfl⟩
theorem j5H (s : List UInt8) (k : Int) (t : List UInt8) {n : Nat} (hn : n ≠ 0) : q4U Tryz.prog 85 [.ptr (.x 0) 0, .d (.str t)] [robj s k n] (.d (strV t).d) [robj s k n] := by
 have hf := j3U s k hn (errD 2)
 rw [show errD 2 = .iface 76 (.int .i64 2) from rfl] at hf
 rw [z1f s k hn] at hf ⊢
 refine q3y.q2b (by kernel_rfl) rfl ?_
 simp (maxSteps := 2000000) only [go_sem, ↓reduceIte, q2G, q2H]
 refine ⟨fun h => ?_, fun h => ?_⟩
 ·refine q0b.mc1 (.x 0) rfl (hf) rfl rfl rfl rfl ⟨rfl, rfl⟩ ?_
  simp (maxSteps := 2000000) only [go_sem, ↓reduceIte]
  rw [Val.d_eq]; rfl
 ·rw [Val.d_eq]; rfl
def z6Z (s : List UInt8) : Option (List UInt8 × Nat) → AV → List AObj → Prop
 | some (b, k), r, hs => r = .d (.str b) ∧ hs = [robj s k 0]
 | none, r, hs => ∃ (b : List UInt8) (k : Int), r = .d (.str b) ∧ hs = [robj s k 4]
def q3U : q0j :=
 .seq (.reg [Qx 2 (.k (.d (.str [])))]) (.seq (.reg [Qc 6 0, Q 7 (.nck (.t 6)), Q 8 (.fa 1 (.t 7)), Q 9 (.ld false 1 (.t 8)), Q 10 (.bin .add (.t 9) (Ki 1)), Q 11 (.nck (.t 6)), Q 
 12 (.fa 1 (.t 11)), ⟨none, .st 1 (.t 12) (.t 10), none⟩]) (.seq (.dreg [Qc 13 0, Q 14 (.nck (.t 13)), Q 15 (.fa 0 (.t 14)), Q 16 (.ld false 1 (.t 15)), Qc 17 0, Q 18 (.nck (.t 
 17)), Q 19 (.fa 1 (.t 18)), Q 20 (.ld false 1 (.t 19)), ⟨some 21, .call 36 [.t 16, .t 20], none⟩, Qa 3 21]) (.seq (.reg [Qc 22 0, Q 23 (.nck (.t 22)), Q 24 (.fa 1 (.t 23)), Q 25 
 (.ld false 1 (.t 24)), Qc 26 3, Q 27 (.len true (.t 26)), Q 28 (.bin .add (.t 25) (.t 27)), Q 29 (.nck (.t 22)), Q 30 (.fa 1 (.t 29)), ⟨none, .st 1 (.t 30) (.t 28), none⟩]) (.seq 
 (.reg [⟨some 4, .nils 5 1, none⟩]) (.seq (.seq (.reg [Qx 5 (Ki 0)]) (.block 0 (.loop (.seq (.seq (.reg [Qc 31 5, Qc 32 3, Q 33 (.len true (.t 32)), Q 34 (.bin .lss (.t 31) (.t 
 33))]) (.cond (.t 34) .skip (.exit 0))) (.seq (.block 1 (.seq (.seq (.reg [Qc 37 3, Qc 38 5, Q 39 (.idxS (.t 37) (.t 38)), Q 40 (.bin .neq (.t 39) (Kb 35))]) (.cond (.t 40) (.seq 
 (.reg [Qc 41 4, Qc 42 3, Qc 43 5, Q 44 (.idxS (.t 42) (.t 43)), ⟨some 45, .bsl 5 1 [.t 44], none⟩, ⟨some 46, .app 5 1 1 false (.t 41) (.t 45), none⟩, Qa 4 46]) (.exit 1)) .skip)) 
 (.seq (.seq (.reg [Qc 47 5, Q 48 (.bin .add (.t 47) (Ki 2)), Qc 49 3, Q 50 (.len true (.t 49)), Q 51 (.bin .geq (.t 48) (.t 50)), Qc 52 51, Qd 53 3 52 false, Qd 54 5 52 false, Qg 
 55 (.bin .add (.t 54) (Ki 1)) 52 false, Qg 56 (.idxS (.t 53) (.t 55)) 52 false, ⟨some 57, .call 107 [.t 56], some (52, false)⟩, Qg 58 (.bin .lss (.t 57) (Ki 0)) 52 false, Q 59 
 (.pick (.t 52) KT (.t 58)), Qc 60 59, Qd 61 3 60 false, Qd 62 5 60 false, Qg 63 (.bin .add (.t 62) (Ki 2)) 60 false, Qg 64 (.idxS (.t 61) (.t 63)) 60 false, ⟨some 65, .call 107 
 [.t 64], some (60, false)⟩, Qg 66 (.bin .lss (.t 65) (Ki 0)) 60 false, Q 67 (.pick (.t 60) KT (.t 66))]) (.cond (.t 67) (.seq (.reg [Qc 68 0, Q 69 (.mkI 76 (Ki 4)), ⟨some 70, 
 .prim .call [.k (.fn (.func 63) [] []), .t 68, .t 69] [], none⟩]) (.seq (.reg [Qx 2 (.k (.d (.str [])))]) .ret)) .skip)) (.seq (.dreg [Qc 71 4, Qc 72 3, Qc 73 5, Q 74 (.bin .add 
 (.t 73) (Ki 1)), Q 75 (.idxS (.t 72) (.t 74)), ⟨some 76, .call 107 [.t 75], none⟩, Q 77 (.bin .mul (Ki 16) (.t 76)), Qc 78 3, Qc 79 5, Q 80 (.bin .add (.t 79) (Ki 2)), Q 81 
 (.idxS (.t 78) (.t 80)), ⟨some 82, .call 107 [.t 81], none⟩, Q 83 (.bin .add (.t 77) (.t 82)), Q 84 (.cvI .u8 (.t 83)), ⟨some 85, .bsl 5 1 [.t 84], none⟩, ⟨some 86, .app 5 1 1 
 false (.t 71) (.t 85), none⟩, Qa 4 86]) (.reg [Qc 87 5, Q 88 (.bin .add (.t 87) (Ki 2)), Qa 5 88]))))) (.reg [Qc 35 5, Q 36 (.bin .add (.t 35) (Ki 1)), Qa 5 36])))))) (.seq (.seq 
 (.reg [Qc 89 4, Q 90 (.b2s (.t 89)), ⟨some 91, .call 79 [.t 90], none⟩, Q 92 (.not (.t 91))]) (.cond (.t 92) (.reg [Qc 93 0, Q 94 (.mkI 76 (Ki 4)), ⟨some 95, .prim .call [.k (.fn 
 (.func 63) [] []), .t 93, .t 94] [], none⟩]) .skip)) (.seq (.reg [Qc 96 4, Q 97 (.b2s (.t 96)), Qa 2 97]) .ret)))))))
def q30 : List LRes := [.tmp 2]
theorem q5v : q0t Tryz.prog 84 98 q3U q30 := ⟨_, _, Tryz.func84, rfl, by kernel_rfl, by kernel_rfl, rfl⟩
theorem z90 (s : List UInt8) (k : Nat) (hs : s.length ≤ 60000) (hk : k < s.length) : q7z Tryz.prog 84 [.ptr (.x 0) 0] [robj s k 0] (z6Z s (q9L s k)) := by
 have hw := q5Y s ((k + 1 : Nat) : Int) (by omega)
 rw [q3H (by omega)] at hw
 have hwl := q3Q s (k + 1)
 generalize hR : q9L s k = R
 unfold q9L at hR
 generalize q2r s (k + 1) = w at *
 rw [Int.natCast_add, Int.natCast_one] at hw
 rw [q1K]
 refine q5v.q2b (by kernel_rfl) rfl ?_
 simp (maxSteps := 2000000) (disch := omega) only [go_sem, ↓reduceIte, q3U, q30]
 refine q6o.of hw ?_
 simp (maxSteps := 2000000) (disch := omega) only [go_sem, ↓reduceIte]
 refine q0s (fun y : Nat × List UInt8 => ⟨[(0, .ptr (.x 0) 0), (3, .d (.str w)), (4, .own (.t 4) 5 1 (q0U y.2)), (5, .d (.int .i64 y.1))], [], [(0, .cells [.d (.str s), .d (.int .i64 ((k : Int) + 1 + w.length)), .d .nil])]⟩)
  (fun y => y.1 ≤ w.length ∧ y.2.length ≤ y.1 ∧ q6N (w.drop y.1) y.2 = q6N w []) (fun y => w.length - y.1) (0, []) ?_ ?_ ?_
 ·refine Weak.mk ?_ ?_ ?_ <;> simp (maxSteps := 2000000) only [go_sem, ↓reduceIte, Sub, Int.natCast_add, Int.natCast_mul, q0U]
 ·exact ⟨by simp, by simp, by simp⟩
 ·rintro ⟨i, b⟩ ⟨hi, hb, hF⟩
  simp only at hi hb hF
  have hblen := q5Z b
  have hf := z0B s ((k : Int) + 1 + w.length) 4
  rw [q1K, show errD 4 = .iface 76 (.int .i64 4) from rfl] at hf
  simp (maxSteps := 2000000) only [go_sem, ↓reduceIte]
  refine ⟨fun hlt => ?_, fun hge => ?_⟩
  ·obtain ⟨c, hc⟩ := get_some (l := w) (i := i) (by omega)
   have hc8 := q4e c
   rw [q1J hc] at hF
   have bad : R = none → z6Z s R (.d (.str [])) [robj s ((k : Int) + 1 + w.length) 4] := fun e => by rw [e]; exact ⟨[], _, rfl, rfl⟩
   simp (maxSteps := 2000000) only [go_sem, ↓reduceIte, q0c, hc]
   refine ⟨fun h1 => ?_, fun h1 => ⟨fun h2 => ?_, fun h2 => ?_⟩⟩
   ·rw [z9Z (by omega)] at hF
    simp (disch := omega) only [IntWalk.i64_in, IntWalk.u8_in]
    refine ⟨by omega, (i + 1, b ++ [c]), ?_, ⟨by simp only; omega, by simp only [List.length_append, List.length_cons, List.length_nil]; omega, hF⟩, by simp only; omega⟩
    refine Weak.mk ?_ ?_ ?_ <;> simp (maxSteps := 2000000) only [go_sem, ↓reduceIte, Sub, Int.natCast_add, Int.natCast_mul, q2n, q42, q5H]
   ·rw [IntWalk.i64_in _ (by omega)] at h2
    obtain ⟨x, hx⟩ := get_some (l := w) (i := i + 1) (by omega)
    obtain ⟨y, hy⟩ := get_some (l := w) (i := i + 2) (by omega)
    have hx8 := q4e x
    have hy8 := q4e y
    have hxb := z0H x.toNat
    have hyb := z0H y.toNat
    rw [q1J hx, q1J hy, z9Y (by omega)] at hF
    have g1 : getI w ((i : Int) + 1) = some x := by rw [z0F, hx]
    have g2 : getI w ((i : Int) + 2) = some y := by rw [show (i : Int) + 2 = ((i + 2 : Nat) : Int) by omega, q0c, hy]
    simp (maxSteps := 2000000) (disch := omega) only [go_sem, ↓reduceIte, g1]
    refine q0k.of (q96 (n := x.toNat) (by omega)) ?_
    simp (maxSteps := 2000000) (disch := omega) only [go_sem, ↓reduceIte]
    refine ⟨fun h3 => ?_, fun h3 => ?_⟩
    ·simp (maxSteps := 2000000) (disch := omega) only [go_sem, ↓reduceIte, g2]
     refine q0k.of (q96 (n := y.toNat) (by omega)) ?_
     simp (maxSteps := 2000000) (disch := omega) only [go_sem, ↓reduceIte]
     refine ⟨fun h4 => ?_, fun h4 => ?_⟩
     ·rw [if_pos (.inr h4)] at hF
      rw [← hF] at hR
      refine q0b.mc1 (.x 0) rfl (hf) rfl rfl rfl rfl ⟨rfl, rfl⟩ ?_
      simp (maxSteps := 2000000) only [go_sem, ↓reduceIte, robj]
      exact bad hR.symm
     ·rw [if_neg (by omega)] at hF
      have hsn := z3Y (b := b) (n := 16 * hexI x.toNat + hexI y.toNat) (by omega) (by omega)
      simp (maxSteps := 2000000) (disch := omega) only [go_sem, ↓reduceIte, g1]
      refine q6o.of (q96 (n := x.toNat) (by omega)) ?_
      simp (maxSteps := 2000000) (disch := omega) only [go_sem, ↓reduceIte, g2]
      refine q6o.of (q96 (n := y.toNat) (by omega)) ?_
      simp (maxSteps := 2000000) (disch := omega) only [go_sem, ↓reduceIte]
      rw [hsn]
      refine ⟨by omega, (i + 3, b ++ [q9V (16 * hexI x.toNat + hexI y.toNat)]), ?_, ⟨by simp only; omega, by simp only [List.length_append, List.length_cons, List.length_nil]; omega, hF⟩, by simp only; omega⟩
      have e3 : ((i + 3 : Nat) : Int) = (i : Int) + 2 + 1 := by omega
      refine Weak.mk ?_ ?_ ?_ <;> simp (maxSteps := 2000000) only [go_sem, ↓reduceIte, Sub, Int.natCast_add, Int.natCast_mul, e3]
    ·rw [if_pos (.inl h3)] at hF
     rw [← hF] at hR
     refine q0b.mc1 (.x 0) rfl (hf) rfl rfl rfl rfl ⟨rfl, rfl⟩ ?_
     simp (maxSteps := 2000000) only [go_sem, ↓reduceIte, robj]
     exact bad hR.symm
   ·rw [IntWalk.i64_in _ (by omega)] at h2
    rw [z9X (by omega) (by rw [List.length_drop]; omega)] at hF
    rw [← hF] at hR
    refine q0b.mc1 (.x 0) rfl (hf) rfl rfl rfl rfl ⟨rfl, rfl⟩ ?_
    simp (maxSteps := 2000000) only [go_sem, ↓reduceIte, robj]
    exact bad hR.symm
  ·rw [List.drop_eq_nil_of_le (by omega), q6N] at hF
   rw [← hF] at hR
   simp (maxSteps := 2000000) only [go_sem, ↓reduceIte, q3f]
   refine q0k.of (q6O b) ?_
   simp (maxSteps := 2000000) only [go_sem, ↓reduceIte]
   refine ⟨fun h1 => ?_, fun h1 => ?_⟩
   ·refine q0b.mc1 (.x 0) rfl (hf) rfl rfl rfl rfl ⟨rfl, rfl⟩ ?_
    simp (maxSteps := 2000000) only [go_sem, ↓reduceIte, robj, q3f]
    rw [← hR]
    simp only [h1]
    exact ⟨b, _, rfl, rfl⟩
   ·simp (maxSteps := 2000000) only [go_sem, ↓reduceIte, q3f]
    rw [← hR]
    simp only [h1, if_true]
    refine ⟨rfl, ?_⟩
    simp only [robj, Int.natCast_add, Int.natCast_one]; rfl
end Go.Av.Tryz
