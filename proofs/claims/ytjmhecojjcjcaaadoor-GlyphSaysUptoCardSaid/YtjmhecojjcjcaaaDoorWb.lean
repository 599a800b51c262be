import Derived.Test.YtjmhecojjcjcaaaDoorWa
set_option linter.unusedSimpArgs false
set_option maxRecDepth 100000
namespace Go.Av.Tryd
open Go.Proofs
def gNames : List (List UInt8) := [[115, 112, 97, 99, 101], [112, 101, 114, 105, 111, 100], [99, 111, 109, 109, 97], [104, 121, 112, 104, 101, 110], [99, 111, 108, 111, 110], [122, 101, 114, 111], [111, 110, 101], [116, 119, 111], [116, 104, 114, 101, 101], [102, 111, 117, 114], [102, 105, 118, 101], [115, 105, 120], [115, 101, 118, 101, 110], [101, 105, 103, 104, 116], [110, 105, 110, 101]]
def gSigns : List UInt8 := [32, 46, 44, 45, 58, 48, 49, 50, 51, 52, 53, 54, 55, 56, 57]
def look : List (List UInt8) → List UInt8 → List UInt8 → Option (List UInt8)
 | n :: ns, c :: cs, s => if s = n then some [c] else look ns cs s
 | _, _, _ => none
theorem mlook_look : ∀ (ns : List (List UInt8)) (cs : List UInt8) (s : List UInt8), mlook (ns.map .str) (cs.map fun c => .str [c]) (.str s) = (look ns cs s).map .str
 | [], _, _ => by simp [mlook, look]
 | _ :: _, [], _ => by simp [mlook, look]
 | n :: ns, c :: cs, s => by
  simp only [List.map_cons, mlook, look, keyEq, beq_iff_eq]
  split
  ·rfl
  ·exact mlook_look ns cs s
def letter (s : List UInt8) : Bool := decide (s.length = 1) && ((decide (97 ≤ (s.getD 0 0).toNat) && decide ((s.getD 0 0).toNat ≤ 122)) || (decide (65 ≤ (s.getD 0 0).toNat) && decide ((s.getD 0 0).toNat ≤ 90)))
def singleM (s : List UInt8) : Option (List UInt8) := if letter s = true then some s else look gNames gSigns s
theorem PrimG.mapNewS {t kt e : TypeId} {m i x : LX} {K : St → Prop} {σ : St} {ks vs : List D} {key v : D} {s : Nat} (hm : σ.ev m = .mp (.l s)) (ho : σ.obj (.l s) = some (.mobj ks vs)) (hi : σ.ev i = .d key) (hx : σ.ev x = .d v)
  (ht : Tryd.prog.underlying t = some (.map kt e)) (hkt : Tryd.prog.underlying kt = some .string) (hkey : keyKind .string key = true) (hks : ks.all (keyKind .string) = true) (hnew : (mlook ks vs key).isNone = true)
  (hK : K (σ.setObj (.l s) (.mobj (ks ++ [key]) (vs ++ [v])))) : PrimG Tryd.prog none (.mapUpd t) [m, i, x] K σ :=
 PrimG.mapNew hm ho hi hx ht hkt hkey (fun k hk => List.all_eq_true.1 hks k hk) (Option.isNone_iff_eq_none.1 hnew) hK
def L_font_single : LCode :=
 .seq (.reg [Qx 2 (.k (.d (.str []))), Qx 3 KF]) (.seq (.seq (.reg [Qc 6 0, Q 7 (.len true (.t 6)), Q 8 (.bin .eql (.t 7) (Ki 1)), Qc 9 8, Qd 10 0 9 true, Qg 11 (.idxS (.t 10) (Ki 
 0)) 9 true, Qg 12 (.bin .geq (.t 11) (Kb 97)) 9 true, Qd 13 12 9 true, Qd 14 0 13 true, Qg 15 (.idxS (.t 14) (Ki 0)) 13 true, Qg 16 (.bin .leq (.t 15) (Kb 122)) 13 true, Qg 17 
 (.pick (.t 13) (.t 16) KF) 9 true, Qd 18 17 9 true, Qd 19 0 18 false, Qg 20 (.idxS (.t 19) (Ki 0)) 18 false, Qg 21 (.bin .geq (.t 20) (Kb 65)) 18 false, Qd 22 21 18 false, Qd 23 
 0 22 true, Qg 24 (.idxS (.t 23) (Ki 0)) 22 true, Qg 25 (.bin .leq (.t 24) (Kb 90)) 22 true, Qg 26 (.pick (.t 22) (.t 25) KF) 18 false, Qg 27 (.pick (.t 18) KT (.t 26)) 9 true, Q 
 28 (.pick (.t 9) (.t 27) KF)]) (.cond (.t 28) (.seq (.reg [Qc 29 0, Qa 2 29, Qx 3 KT]) .ret) .skip)) (.seq (.reg [⟨some 31, .prim (.mkMap 96) [] [], none⟩, ⟨none, .prim (.mapUpd 
 96) [.t 31, .k (.d (.str [115, 112, 97, 99, 101])), .k (.d (.str [32]))] [], none⟩, ⟨none, .prim (.mapUpd 96) [.t 31, .k (.d (.str [112, 101, 114, 105, 111, 100])), .k (.d (.str 
 [46]))] [], none⟩, ⟨none, .prim (.mapUpd 96) [.t 31, .k (.d (.str [99, 111, 109, 109, 97])), .k (.d (.str [44]))] [], none⟩, ⟨none, .prim (.mapUpd 96) [.t 31, .k (.d (.str [104, 
 121, 112, 104, 101, 110])), .k (.d (.str [45]))] [], none⟩, ⟨none, .prim (.mapUpd 96) [.t 31, .k (.d (.str [99, 111, 108, 111, 110])), .k (.d (.str [58]))] [], none⟩, ⟨none, 
 .prim (.mapUpd 96) [.t 31, .k (.d (.str [122, 101, 114, 111])), .k (.d (.str [48]))] [], none⟩, ⟨none, .prim (.mapUpd 96) [.t 31, .k (.d (.str [111, 110, 101])), .k (.d (.str 
 [49]))] [], none⟩, ⟨none, .prim (.mapUpd 96) [.t 31, .k (.d (.str [116, 119, 111])), .k (.d (.str [50]))] [], none⟩, ⟨none, .prim (.mapUpd 96) [.t 31, .k (.d (.str [116, 104, 
 114, 101, 101])), .k (.d (.str [51]))] [], none⟩, ⟨none, .prim (.mapUpd 96) [.t 31, .k (.d (.str [102, 111, 117, 114])), .k (.d (.str [52]))] [], none⟩, ⟨none, .prim (.mapUpd 96) 
 [.t 31, .k (.d (.str [102, 105, 118, 101])), .k (.d (.str [53]))] [], none⟩, ⟨none, .prim (.mapUpd 96) [.t 31, .k (.d (.str [115, 105, 120])), .k (.d (.str [54]))] [], none⟩, 
 ⟨none, .prim (.mapUpd 96) [.t 31, .k (.d (.str [115, 101, 118, 101, 110])), .k (.d (.str [55]))] [], none⟩, ⟨none, .prim (.mapUpd 96) [.t 31, .k (.d (.str [101, 105, 103, 104, 
 116])), .k (.d (.str [56]))] [], none⟩, ⟨none, .prim (.mapUpd 96) [.t 31, .k (.d (.str [110, 105, 110, 101])), .k (.d (.str [57]))] [], none⟩, Qc 32 31, Qc 33 0, ⟨some 34, .prim 
 (.lookup 96 true) [.t 32, .t 33] [], none⟩, Qc 30 34, Q 35 (.ext 0 (.t 30)), Q 36 (.ext 1 (.t 30)), Qa 4 35, Qa 5 36]) (.seq (.reg [Qc 37 4, Qc 38 5, Qa 2 37, Qa 3 38]) .ret)))
def R_font_single : List LRes := [.tmp 2, .tmp 3]
theorem lift_font_single : Lifts Tryd.prog 27 39 L_font_single R_font_single := ⟨_, _, Tryd.func27, rfl, by kernel_rfl, by kernel_rfl, rfl⟩
theorem single_call (s : List UInt8) (hs : s.length ≤ 1000000) : PCall Tryd.prog 27 [.str s] (fun r => r = onRes (singleM s)) := by
 refine lift_font_single.call rfl ?_
 unfold singleM
 have one : s.length = 1 → ∃ c, s = [c] := fun h => List.length_eq_one_iff.1 h
 have mapT : Tryd.prog.underlying 96 = some (.map 9 9) := by kernel_rfl
 have strT : Tryd.prog.underlying 9 = some .string := by kernel_rfl
 have strZ : Program.zeroOf Tryd.prog 9 = some (.str []) := by kernel_rfl
 have htab := mlook_look gNames gSigns s
 generalize look gNames gSigns s = R at htab ⊢
 simp only [gNames, gSigns, List.map_cons, List.map_nil] at htab
 by_cases h1 : s.length = 1
 ·obtain ⟨c, hc⟩ := one h1
  have hc8 := u8_lt c
  have g0 : getI s 0 = some c := by rw [hc]; rfl
  have hlet : letter s = (decide (97 ≤ c.toNat) && decide (c.toNat ≤ 122) || decide (65 ≤ c.toNat) && decide (c.toNat ≤ 90)) := by rw [hc]; rfl
  have zl : ((s.length : Int) = 1) = True := eq_true (by omega)
  rw [hlet]
  by_cases a1 : 97 ≤ c.toNat ∧ c.toNat ≤ 122
  ·have z1 : (97 ≤ (c.toNat : Int)) = True := eq_true (by omega)
   have z2 : ((c.toNat : Int) ≤ 122) = True := eq_true (by omega)
   rw [if_pos (by simp; omega)]
   simp (maxSteps := 2000000) (disch := omega) only [go_sem, ↓reduceIte, L_font_single, R_font_single, g0, zl, z1, z2]
   rfl
  ·by_cases a2 : 65 ≤ c.toNat ∧ c.toNat ≤ 90
   ·have z1 : (97 ≤ (c.toNat : Int)) = False := eq_false (by omega)
    have z3 : (65 ≤ (c.toNat : Int)) = True := eq_true (by omega)
    have z4 : ((c.toNat : Int) ≤ 90) = True := eq_true (by omega)
    rw [if_pos (by simp; omega)]
    simp (maxSteps := 2000000) (disch := omega) only [go_sem, ↓reduceIte, L_font_single, R_font_single, g0, zl, z1, z3, z4]
    rfl
   ·rw [if_neg (by simp; omega)]
    by_cases a3 : c.toNat < 65
    ·have z1 : (97 ≤ (c.toNat : Int)) = False := eq_false (by omega)
     have z3 : (65 ≤ (c.toNat : Int)) = False := eq_false (by omega)
     simp (maxSteps := 2000000) (disch := omega) only [go_sem, ↓reduceIte, L_font_single, R_font_single, g0, zl, z1, z3]
     refine PrimG.mkMap mapT ?_
     simp (maxSteps := 2000000) only [go_sem, ↓reduceIte]
     refine PrimG.mapNewS rfl rfl rfl rfl mapT strT rfl rfl rfl ?_
     simp (maxSteps := 2000000) only [go_sem, ↓reduceIte]
     refine PrimG.mapNewS rfl rfl rfl rfl mapT strT rfl rfl rfl ?_
     simp (maxSteps := 2000000) only [go_sem, ↓reduceIte]
     refine PrimG.mapNewS rfl rfl rfl rfl mapT strT rfl rfl rfl ?_
     simp (maxSteps := 2000000) only [go_sem, ↓reduceIte]
     refine PrimG.mapNewS rfl rfl rfl rfl mapT strT rfl rfl rfl ?_
     simp (maxSteps := 2000000) only [go_sem, ↓reduceIte]
     refine PrimG.mapNewS rfl rfl rfl rfl mapT strT rfl rfl rfl ?_
     simp (maxSteps := 2000000) only [go_sem, ↓reduceIte]
     refine PrimG.mapNewS rfl rfl rfl rfl mapT strT rfl rfl rfl ?_
     simp (maxSteps := 2000000) only [go_sem, ↓reduceIte]
     refine PrimG.mapNewS rfl rfl rfl rfl mapT strT rfl rfl rfl ?_
     simp (maxSteps := 2000000) only [go_sem, ↓reduceIte]
     refine PrimG.mapNewS rfl rfl rfl rfl mapT strT rfl rfl rfl ?_
     simp (maxSteps := 2000000) only [go_sem, ↓reduceIte]
     refine PrimG.mapNewS rfl rfl rfl rfl mapT strT rfl rfl rfl ?_
     simp (maxSteps := 2000000) only [go_sem, ↓reduceIte]
     refine PrimG.mapNewS rfl rfl rfl rfl mapT strT rfl rfl rfl ?_
     simp (maxSteps := 2000000) only [go_sem, ↓reduceIte]
     refine PrimG.mapNewS rfl rfl rfl rfl mapT strT rfl rfl rfl ?_
     simp (maxSteps := 2000000) only [go_sem, ↓reduceIte]
     refine PrimG.mapNewS rfl rfl rfl rfl mapT strT rfl rfl rfl ?_
     simp (maxSteps := 2000000) only [go_sem, ↓reduceIte]
     refine PrimG.mapNewS rfl rfl rfl rfl mapT strT rfl rfl rfl ?_
     simp (maxSteps := 2000000) only [go_sem, ↓reduceIte]
     refine PrimG.mapNewS rfl rfl rfl rfl mapT strT rfl rfl rfl ?_
     simp (maxSteps := 2000000) only [go_sem, ↓reduceIte]
     refine PrimG.mapNewS rfl rfl rfl rfl mapT strT rfl rfl rfl ?_
     simp (maxSteps := 2000000) only [go_sem, ↓reduceIte]
     refine PrimG.lookupM (kd := .string) (key := .str s) (zero := .str []) rfl rfl rfl mapT strT rfl (fun k hk => List.all_eq_true.1 (show (List.map D.str gNames).all (keyKind .string) = true from rfl) k hk) strZ ?_
     rw [htab]
     cases R <;> (simp only [Option.map_some, Option.map_none]; simp (maxSteps := 2000000) only [go_sem, ↓reduceIte]; rfl)
    ·by_cases a4 : c.toNat < 97
     ·have z1 : (97 ≤ (c.toNat : Int)) = False := eq_false (by omega)
      have z3 : (65 ≤ (c.toNat : Int)) = True := eq_true (by omega)
      have z4 : ((c.toNat : Int) ≤ 90) = False := eq_false (by omega)
      simp (maxSteps := 2000000) (disch := omega) only [go_sem, ↓reduceIte, L_font_single, R_font_single, g0, zl, z1, z3, z4]
      refine PrimG.mkMap mapT ?_
      simp (maxSteps := 2000000) only [go_sem, ↓reduceIte]
      refine PrimG.mapNewS rfl rfl rfl rfl mapT strT rfl rfl rfl ?_
      simp (maxSteps := 2000000) only [go_sem, ↓reduceIte]
      refine PrimG.mapNewS rfl rfl rfl rfl mapT strT rfl rfl rfl ?_
      simp (maxSteps := 2000000) only [go_sem, ↓reduceIte]
      refine PrimG.mapNewS rfl rfl rfl rfl mapT strT rfl rfl rfl ?_
      simp (maxSteps := 2000000) only [go_sem, ↓reduceIte]
      refine PrimG.mapNewS rfl rfl rfl rfl mapT strT rfl rfl rfl ?_
      simp (maxSteps := 2000000) only [go_sem, ↓reduceIte]
      refine PrimG.mapNewS rfl rfl rfl rfl mapT strT rfl rfl rfl ?_
      simp (maxSteps := 2000000) only [go_sem, ↓reduceIte]
      refine PrimG.mapNewS rfl rfl rfl rfl mapT strT rfl rfl rfl ?_
      simp (maxSteps := 2000000) only [go_sem, ↓reduceIte]
      refine PrimG.mapNewS rfl rfl rfl rfl mapT strT rfl rfl rfl ?_
      simp (maxSteps := 2000000) only [go_sem, ↓reduceIte]
      refine PrimG.mapNewS rfl rfl rfl rfl mapT strT rfl rfl rfl ?_
      simp (maxSteps := 2000000) only [go_sem, ↓reduceIte]
      refine PrimG.mapNewS rfl rfl rfl rfl mapT strT rfl rfl rfl ?_
      simp (maxSteps := 2000000) only [go_sem, ↓reduceIte]
      refine PrimG.mapNewS rfl rfl rfl rfl mapT strT rfl rfl rfl ?_
      simp (maxSteps := 2000000) only [go_sem, ↓reduceIte]
      refine PrimG.mapNewS rfl rfl rfl rfl mapT strT rfl rfl rfl ?_
      simp (maxSteps := 2000000) only [go_sem, ↓reduceIte]
      refine PrimG.mapNewS rfl rfl rfl rfl mapT strT rfl rfl rfl ?_
      simp (maxSteps := 2000000) only [go_sem, ↓reduceIte]
      refine PrimG.mapNewS rfl rfl rfl rfl mapT strT rfl rfl rfl ?_
      simp (maxSteps := 2000000) only [go_sem, ↓reduceIte]
      refine PrimG.mapNewS rfl rfl rfl rfl mapT strT rfl rfl rfl ?_
      simp (maxSteps := 2000000) only [go_sem, ↓reduceIte]
      refine PrimG.mapNewS rfl rfl rfl rfl mapT strT rfl rfl rfl ?_
      simp (maxSteps := 2000000) only [go_sem, ↓reduceIte]
      refine PrimG.lookupM (kd := .string) (key := .str s) (zero := .str []) rfl rfl rfl mapT strT rfl (fun k hk => List.all_eq_true.1 (show (List.map D.str gNames).all (keyKind .string) = true from rfl) k hk) strZ ?_
      rw [htab]
      cases R <;> (simp only [Option.map_some, Option.map_none]; simp (maxSteps := 2000000) only [go_sem, ↓reduceIte]; rfl)
     ·have z1 : (97 ≤ (c.toNat : Int)) = True := eq_true (by omega)
      have z2 : ((c.toNat : Int) ≤ 122) = False := eq_false (by omega)
      have z3 : (65 ≤ (c.toNat : Int)) = True := eq_true (by omega)
      have z4 : ((c.toNat : Int) ≤ 90) = False := eq_false (by omega)
      simp (maxSteps := 2000000) (disch := omega) only [go_sem, ↓reduceIte, L_font_single, R_font_single, g0, zl, z1, z2, z3, z4]
      refine PrimG.mkMap mapT ?_
      simp (maxSteps := 2000000) only [go_sem, ↓reduceIte]
      refine PrimG.mapNewS rfl rfl rfl rfl mapT strT rfl rfl rfl ?_
      simp (maxSteps := 2000000) only [go_sem, ↓reduceIte]
      refine PrimG.mapNewS rfl rfl rfl rfl mapT strT rfl rfl rfl ?_
      simp (maxSteps := 2000000) only [go_sem, ↓reduceIte]
      refine PrimG.mapNewS rfl rfl rfl rfl mapT strT rfl rfl rfl ?_
      simp (maxSteps := 2000000) only [go_sem, ↓reduceIte]
      refine PrimG.mapNewS rfl rfl rfl rfl mapT strT rfl rfl rfl ?_
      simp (maxSteps := 2000000) only [go_sem, ↓reduceIte]
      refine PrimG.mapNewS rfl rfl rfl rfl mapT strT rfl rfl rfl ?_
      simp (maxSteps := 2000000) only [go_sem, ↓reduceIte]
      refine PrimG.mapNewS rfl rfl rfl rfl mapT strT rfl rfl rfl ?_
      simp (maxSteps := 2000000) only [go_sem, ↓reduceIte]
      refine PrimG.mapNewS rfl rfl rfl rfl mapT strT rfl rfl rfl ?_
      simp (maxSteps := 2000000) only [go_sem, ↓reduceIte]
      refine PrimG.mapNewS rfl rfl rfl rfl mapT strT rfl rfl rfl ?_
      simp (maxSteps := 2000000) only [go_sem, ↓reduceIte]
      refine PrimG.mapNewS rfl rfl rfl rfl mapT strT rfl rfl rfl ?_
      simp (maxSteps := 2000000) only [go_sem, ↓reduceIte]
      refine PrimG.mapNewS rfl rfl rfl rfl mapT strT rfl rfl rfl ?_
      simp (maxSteps := 2000000) only [go_sem, ↓reduceIte]
      refine PrimG.mapNewS rfl rfl rfl rfl mapT strT rfl rfl rfl ?_
      simp (maxSteps := 2000000) only [go_sem, ↓reduceIte]
      refine PrimG.mapNewS rfl rfl rfl rfl mapT strT rfl rfl rfl ?_
      simp (maxSteps := 2000000) only [go_sem, ↓reduceIte]
      refine PrimG.mapNewS rfl rfl rfl rfl mapT strT rfl rfl rfl ?_
      simp (maxSteps := 2000000) only [go_sem, ↓reduceIte]
      refine PrimG.mapNewS rfl rfl rfl rfl mapT strT rfl rfl rfl ?_
      simp (maxSteps := 2000000) only [go_sem, ↓reduceIte]
      refine PrimG.mapNewS rfl rfl rfl rfl mapT strT rfl rfl rfl ?_
      simp (maxSteps := 2000000) only [go_sem, ↓reduceIte]
      refine PrimG.lookupM (kd := .string) (key := .str s) (zero := .str []) rfl rfl rfl mapT strT rfl (fun k hk => List.all_eq_true.1 (show (List.map D.str gNames).all (keyKind .string) = true from rfl) k hk) strZ ?_
      rw [htab]
      cases R <;> (simp only [Option.map_some, Option.map_none]; simp (maxSteps := 2000000) only [go_sem, ↓reduceIte]; rfl)
 ·have zl : ((s.length : Int) = 1) = False := eq_false (by omega)
  have hlet : letter s = false := by unfold letter; rw [decide_eq_false h1]; rfl
  rw [hlet, if_neg (by decide)]
  simp (maxSteps := 2000000) (disch := omega) only [go_sem, ↓reduceIte, L_font_single, R_font_single, zl]
  refine PrimG.mkMap mapT ?_
  simp (maxSteps := 2000000) only [go_sem, ↓reduceIte]
  refine PrimG.mapNewS rfl rfl rfl rfl mapT strT rfl rfl rfl ?_
  simp (maxSteps := 2000000) only [go_sem, ↓reduceIte]
  refine PrimG.mapNewS rfl rfl rfl rfl mapT strT rfl rfl rfl ?_
  simp (maxSteps := 2000000) only [go_sem, ↓reduceIte]
  refine PrimG.mapNewS rfl rfl rfl rfl mapT strT rfl rfl rfl ?_
  simp (maxSteps := 2000000) only [go_sem, ↓reduceIte]
  refine PrimG.mapNewS rfl rfl rfl rfl mapT strT rfl rfl rfl ?_
  simp (maxSteps := 2000000) only [go_sem, ↓reduceIte]
  refine PrimG.mapNewS rfl rfl rfl rfl mapT strT rfl rfl rfl ?_
  simp (maxSteps := 2000000) only [go_sem, ↓reduceIte]
  refine PrimG.mapNewS rfl rfl rfl rfl mapT strT rfl rfl rfl ?_
  simp (maxSteps := 2000000) only [go_sem, ↓reduceIte]
  refine PrimG.mapNewS rfl rfl rfl rfl mapT strT rfl rfl rfl ?_
  simp (maxSteps := 2000000) only [go_sem, ↓reduceIte]
  refine PrimG.mapNewS rfl rfl rfl rfl mapT strT rfl rfl rfl ?_
  simp (maxSteps := 2000000) only [go_sem, ↓reduceIte]
  refine PrimG.mapNewS rfl rfl rfl rfl mapT strT rfl rfl rfl ?_
  simp (maxSteps := 2000000) only [go_sem, ↓reduceIte]
  refine PrimG.mapNewS rfl rfl rfl rfl mapT strT rfl rfl rfl ?_
  simp (maxSteps := 2000000) only [go_sem, ↓reduceIte]
  refine PrimG.mapNewS rfl rfl rfl rfl mapT strT rfl rfl rfl ?_
  simp (maxSteps := 2000000) only [go_sem, ↓reduceIte]
  refine PrimG.mapNewS rfl rfl rfl rfl mapT strT rfl rfl rfl ?_
  simp (maxSteps := 2000000) only [go_sem, ↓reduceIte]
  refine PrimG.mapNewS rfl rfl rfl rfl mapT strT rfl rfl rfl ?_
  simp (maxSteps := 2000000) only [go_sem, ↓reduceIte]
  refine PrimG.mapNewS rfl rfl rfl rfl mapT strT rfl rfl rfl ?_
  simp (maxSteps := 2000000) only [go_sem, ↓reduceIte]
  refine PrimG.mapNewS rfl rfl rfl rfl mapT strT rfl rfl rfl ?_
  simp (maxSteps := 2000000) only [go_sem, ↓reduceIte]
  refine PrimG.lookupM (kd := .string) (key := .str s) (zero := .str []) rfl rfl rfl mapT strT rfl (fun k hk => List.all_eq_true.1 (show (List.map D.str gNames).all (keyKind .string) = true from rfl) k hk) strZ ?_
  rw [htab]
  cases R <;> (simp only [Option.map_some, Option.map_none]; simp (maxSteps := 2000000) only [go_sem, ↓reduceIte]; rfl)
end Go.Av.Tryd
set_option linter.unusedSimpArgs false
set_option maxRecDepth 100000
namespace Go.Av.Tryd
open Go.Proofs
def hexD (c : Nat) : Option Nat := if 48 ≤ c ∧ c ≤ 57 then some (c - 48) else if 65 ≤ c ∧ c ≤ 70 then some (c - 55) else none
def hexUpF : List UInt8 → Nat → Option Nat
 | [], n => some n
 | c :: r, n => match hexD c.toNat with
  | none => none
  | some d => hexUpF r (16 * n + d)
def hexZ (o : Option Nat) : Int := match o with
 | some n => n
 | none => -1
def pickO {α : Type} (a b : Option α) : Option α := match a with
 | some t => some t
 | none => b
def surM : Option Nat → Option (List UInt8)
 | none => none
 | some n => if 55296 ≤ n ∧ n < 57344 then none else some (enc n)
def uniM (s : List UInt8) : Option (List UInt8) := if s.length ≠ 7 ∨ s.take 3 ≠ [117, 110, 105] then none else surM (hexUpF (s.drop 3) 0)
def glyphM (s : List UInt8) : Option (List UInt8) := pickO (singleM s) (uniM s)
theorem hexD_lt {c d : Nat} (h : hexD c = some d) : d ≤ 15 := by
 unfold hexD at h
 split at h
 ·cases h; omega
 ·split at h
  ·cases h; omega
  ·cases h
theorem hexUpF_lt : ∀ (s : List UInt8) (n : Nat), ∀ m, hexUpF s n = some m → m < (n + 1) * 16 ^ s.length
 | [], n, m, h => by simp [hexUpF] at h; subst h; simp
 | c :: r, n, m, h => by
  simp only [hexUpF] at h
  cases hd : hexD c.toNat with
  | none => rw [hd] at h; cases h
  | some d =>
   rw [hd] at h
   have ih := hexUpF_lt r _ m h
   have := hexD_lt hd
   rw [List.length_cons, Nat.pow_succ]
   have h2 : (16 * n + d + 1) * 16 ^ r.length ≤ ((n + 1) * 16) * 16 ^ r.length := Nat.mul_le_mul_right _ (by omega)
   calc m < (16 * n + d + 1) * 16 ^ r.length := ih
    _ ≤ ((n + 1) * 16) * 16 ^ r.length := h2
    _ = (n + 1) * (16 ^ r.length * 16) := by rw [Nat.mul_assoc, Nat.mul_comm 16]
def L_font_hex : LCode :=
 .seq (.reg [Qx 2 (Ki 0)]) (.seq (.reg [Qx 3 (Ki 0)]) (.seq (.seq (.reg [Qc 6 0, Q 7 (.len true (.t 6)), Q 8 (.cp (Ki 0))]) (.block 0 (.loop (.seq (.reg [Q 9 (.bin .lss (.t 8) (.t 
 7))]) (.seq (.cond (.t 9) .skip (.exit 0)) (.seq (.block 1 (.seq (.reg [Qc 10 8, Qa 4 10]) (.seq (.reg [Qc 11 0, Qc 12 4, Q 13 (.idxS (.t 11) (.t 12)), Qa 5 13]) (.block 2 (.seq 
 (.reg [Qc 15 5, Q 16 (.bin .geq (.t 15) (Kb 48)), Qc 17 16, Qd 18 5 17 true, Qg 19 (.bin .leq (.t 18) (Kb 57)) 17 true, Q 20 (.pick (.t 17) (.t 19) KF), Qa 14 20]) (.cond (.t 14) 
 (.reg [Qc 21 3, Q 22 (.bin .mul (Ki 16) (.t 21)), Qc 23 5, Q 24 (.bin .sub (.t 23) (Kb 48)), Q 25 (.cvI .i64 (.t 24)), Q 26 (.bin .add (.t 22) (.t 25)), Qa 3 26]) (.seq (.reg [Qc 
 28 5, Q 29 (.bin .geq (.t 28) (Kb 65)), Qc 30 29, Qd 31 5 30 true, Qg 32 (.bin .leq (.t 31) (Kb 70)) 30 true, Q 33 (.pick (.t 30) (.t 32) KF), Qa 27 33]) (.cond (.t 27) (.reg [Qc 
 34 3, Q 35 (.bin .mul (Ki 16) (.t 34)), Qc 36 5, Q 37 (.bin .sub (.t 36) (Kb 65)), Q 38 (.cvI .i64 (.t 37)), Q 39 (.bin .add (.t 35) (.t 38)), Q 40 (.bin .add (.t 39) (Ki 10)), 
 Qa 3 40]) (.seq (.reg [Qx 2 (Ki (-1))]) .ret))))))))) (.reg [Q 41 (.bin .add (.t 8) (Ki 1)), Qc 8 41]))))))) (.seq (.reg [Qc 42 3, Qa 2 42]) .ret)))
def R_font_hex : List LRes := [.tmp 2]
theorem lift_font_hex : Lifts Tryd.prog 28 43 L_font_hex R_font_hex := ⟨_, _, Tryd.func28, rfl, by kernel_rfl, by kernel_rfl, rfl⟩
theorem fhex_call (s : List UInt8) (hs : s.length ≤ 4) : PCall Tryd.prog 28 [.str s] (fun r => r = .one (.int .i64 (hexZ (hexUpF s 0)))) := by
 refine lift_font_hex.call rfl ?_
 generalize hR : hexUpF s 0 = R
 simp (maxSteps := 2000000) only [go_sem, ↓reduceIte, L_font_hex, R_font_hex]
 refine run_loop (fun y : Nat × Nat => ⟨[(0, .d (.str s)), (3, .d (.int .i64 y.2)), (7, .d (.int .i64 s.length)), (8, .d (.int .i64 y.1))], [], []⟩)
  (fun y => y.1 ≤ s.length ∧ y.2 < 16 ^ y.1 ∧ hexUpF (s.drop y.1) y.2 = R) (fun y => s.length - y.1) (0, 0) ?_ ?_ ?_
 ·refine weak_mk ?_ trivial
  simp (maxSteps := 2000000) only [go_sem, ↓reduceIte, Sub, Int.natCast_add, Int.natCast_mul]
 ·exact ⟨Nat.zero_le _, by simp, hR⟩
 ·rintro ⟨i, n⟩ ⟨hi, hn, hF⟩
  simp only at hi hn hF
  have hpow : 16 ^ i ≤ 65536 := by
   have : i = 0 ∨ i = 1 ∨ i = 2 ∨ i = 3 ∨ i = 4 := by omega
   rcases this with rfl | rfl | rfl | rfl | rfl <;> decide
  simp (maxSteps := 2000000) only [go_sem, ↓reduceIte]
  refine ⟨fun hlt => ?_, fun hge => ?_⟩
  ·obtain ⟨c, hc⟩ := get_some (l := s) (i := i) (by omega)
   have hc8 := u8_lt c
   rw [drop_at hc, hexUpF] at hF
   have nxt : ∀ d : Nat, hexD c.toNat = some d → hexUpF (s.drop (i + 1)) (16 * n + d) = R ∧ 16 * n + d < 16 ^ (i + 1) := fun d h => by
    rw [h] at hF
    have := hexD_lt h
    exact ⟨hF, by rw [Nat.pow_succ]; omega⟩
   by_cases a : 48 ≤ c.toNat ∧ c.toNat ≤ 57
   ·have z1 : (48 ≤ (c.toNat : Int)) = True := eq_true (by omega)
    have z2 : ((c.toNat : Int) ≤ 57) = True := eq_true (by omega)
    obtain ⟨f1, f2⟩ := nxt (c.toNat - 48) (by unfold hexD; rw [if_pos a])
    have e : (16 * (n : Int) + ((c.toNat : Int) - 48)) = ((16 * n + (c.toNat - 48) : Nat) : Int) := by omega
    simp (maxSteps := 2000000) (disch := omega) only [go_sem, ↓reduceIte, getI_nat, hc, z1, z2, e]
    refine ⟨(i + 1, 16 * n + (c.toNat - 48)), ?_, ⟨by simp only; omega, f2, f1⟩, by simp only; omega⟩
    refine weak_mk ?_ trivial
    simp (maxSteps := 2000000) only [go_sem, ↓reduceIte, Sub, Int.natCast_add, Int.natCast_mul]
   ·have bad : hexD c.toNat = none → Res.one (.int .i64 (-1)) = Res.one (.int .i64 (hexZ R)) := fun h => by rw [h] at hF; rw [← hF]; rfl
    by_cases b : 65 ≤ c.toNat ∧ c.toNat ≤ 70
    ·have z2 : ((c.toNat : Int) ≤ 57) = False := eq_false (by omega)
     have z1 : (48 ≤ (c.toNat : Int)) = True := eq_true (by omega)
     have z3 : (65 ≤ (c.toNat : Int)) = True := eq_true (by omega)
     have z4 : ((c.toNat : Int) ≤ 70) = True := eq_true (by omega)
     obtain ⟨f1, f2⟩ := nxt (c.toNat - 55) (by unfold hexD; rw [if_neg a, if_pos b])
     have e : (16 * (n : Int) + ((c.toNat : Int) - 65) + 10) = ((16 * n + (c.toNat - 55) : Nat) : Int) := by omega
     simp (maxSteps := 2000000) (disch := omega) only [go_sem, ↓reduceIte, getI_nat, hc, z1, z2, z3, z4, e]
     refine ⟨(i + 1, 16 * n + (c.toNat - 55)), ?_, ⟨by simp only; omega, f2, f1⟩, by simp only; omega⟩
     refine weak_mk ?_ trivial
     simp (maxSteps := 2000000) only [go_sem, ↓reduceIte, Sub, Int.natCast_add, Int.natCast_mul]
    ·have b' := bad (by unfold hexD; rw [if_neg a, if_neg b])
     by_cases c1 : 48 ≤ c.toNat
     ·have z1 : (48 ≤ (c.toNat : Int)) = True := eq_true (by omega)
      have z2 : ((c.toNat : Int) ≤ 57) = False := eq_false (by omega)
      by_cases c2 : 65 ≤ c.toNat
      ·have z3 : (65 ≤ (c.toNat : Int)) = True := eq_true (by omega)
       have z4 : ((c.toNat : Int) ≤ 70) = False := eq_false (by omega)
       simp (maxSteps := 2000000) (disch := omega) only [go_sem, ↓reduceIte, getI_nat, hc, z1, z2, z3, z4]
       exact b'
      ·have z3 : (65 ≤ (c.toNat : Int)) = False := eq_false (by omega)
       simp (maxSteps := 2000000) (disch := omega) only [go_sem, ↓reduceIte, getI_nat, hc, z1, z2, z3]
       exact b'
     ·have z1 : (48 ≤ (c.toNat : Int)) = False := eq_false (by omega)
      have z3 : (65 ≤ (c.toNat : Int)) = False := eq_false (by omega)
      simp (maxSteps := 2000000) (disch := omega) only [go_sem, ↓reduceIte, getI_nat, hc, z1, z3]
      exact b'
  ·have : s.drop i = [] := List.drop_eq_nil_of_le (by omega)
   rw [this] at hF
   simp only [hexUpF] at hF
   subst hF
   rfl
def L_font_Glyph : LCode :=
 .seq (.reg [Qx 2 (.k (.d (.str []))), Qx 3 KF]) (.seq (.reg [Qc 8 0, ⟨some 9, .call 27 [.t 8], none⟩, Qc 7 9, Q 10 (.ext 0 (.t 7)), Q 11 (.ext 1 (.t 7)), Qa 4 10, Qa 5 11]) (.seq 
 (.seq (.reg [Qc 12 5]) (.cond (.t 12) (.seq (.reg [Qc 13 4, Qa 2 13, Qx 3 KT]) .ret) .skip)) (.seq (.seq (.reg [Qc 14 0, Q 15 (.len true (.t 14)), Q 16 (.bin .neq (.t 15) (Ki 
 7)), Qc 17 16, Qd 18 0 17 false, Qg 19 (.subS (.t 18) none (some (Ki 3))) 17 false, Qg 20 (.bin .neq (.t 19) (.k (.d (.str [117, 110, 105])))) 17 false, Q 21 (.pick (.t 17) KT 
 (.t 20))]) (.cond (.t 21) (.seq (.reg [Qx 2 (.k (.d (.str []))), Qx 3 KF]) .ret) .skip)) (.seq (.reg [Qc 22 0, Q 23 (.subS (.t 22) (some (Ki 3)) none), ⟨some 24, .call 28 [.t 
 23], none⟩, Qa 6 24]) (.seq (.seq (.reg [Qc 25 6, Q 26 (.bin .lss (.t 25) (Ki 0)), Qc 27 26, Qd 28 6 27 false, Qg 29 (.bin .geq (.t 28) (Ki 55296)) 27 false, Qd 30 29 27 false, 
 Qd 31 6 30 true, Qg 32 (.bin .lss (.t 31) (Ki 57344)) 30 true, Qg 33 (.pick (.t 30) (.t 32) KF) 27 false, Q 34 (.pick (.t 27) KT (.t 33))]) (.cond (.t 34) (.seq (.reg [Qx 2 (.k 
 (.d (.str []))), Qx 3 KF]) .ret) .skip)) (.seq (.reg [Qc 35 6, Q 36 (.cvI .i32 (.t 35)), Q 37 (.i2s (.t 36)), Qa 2 37, Qx 3 KT]) .ret))))))
def R_font_Glyph : List LRes := [.tmp 2, .tmp 3]
theorem lift_font_Glyph : Lifts Tryd.prog 10 38 L_font_Glyph R_font_Glyph := ⟨_, _, Tryd.func10, rfl, by kernel_rfl, by kernel_rfl, rfl⟩
theorem glyph_call (s : List UInt8) (hs : s.length ≤ 1000000) : PCall Tryd.prog 10 [.str s] (fun r => r = onRes (glyphM s)) := by
 refine lift_font_Glyph.call rfl ?_
 unfold glyphM
 simp (maxSteps := 2000000) only [go_sem, ↓reduceIte, L_font_Glyph, R_font_Glyph]
 refine CallG.of (single_call s hs) ?_
 cases hS : singleM s with
 | some t =>
  simp only [pickO, onRes]
  simp (maxSteps := 2000000) only [go_sem, ↓reduceIte]
 | none =>
  simp only [pickO, uniM, onRes]
  by_cases h7 : s.length = 7
  ·have z7 : ((s.length : Int) = 7) = True := eq_true (by omega)
   have hcut : cutI s 0 3 = s.take 3 := rfl
   have hcut2 : cutI s 3 (s.length : Int) = s.drop 3 := by unfold cutI; simp
   by_cases hu : s.take 3 = [117, 110, 105]
   ·have hb : ¬ (s.length ≠ 7 ∨ s.take 3 ≠ [117, 110, 105]) := by rintro (h | h); exact h h7; exact h hu
    rw [if_neg hb]
    simp (maxSteps := 2000000) (disch := omega) only [go_sem, ↓reduceIte, z7, hcut, hu]
    refine ⟨by omega, ⟨by omega, by omega⟩, ?_⟩
    rw [hcut2]
    refine CallG.of (fhex_call (s.drop 3) (by rw [List.length_drop]; omega)) ?_
    have hlt := hexUpF_lt (s.drop 3) 0
    rw [List.length_drop, h7] at hlt
    cases hH : hexUpF (s.drop 3) 0 with
    | none =>
     simp only [hexZ, surM]
     simp (maxSteps := 2000000) only [go_sem, ↓reduceIte]
    | some n =>
     have hn := hlt n hH
     simp only [hexZ, surM]
     have z8 : ((n : Int) < 0) = False := eq_false (by omega)
     by_cases hsur : 55296 ≤ n ∧ n < 57344
     ·have z9 : (55296 ≤ (n : Int)) = True := eq_true (by omega)
      have z10 : ((n : Int) < 57344) = True := eq_true (by omega)
      simp (maxSteps := 2000000) only [go_sem, ↓reduceIte, z8, z9, z10]
      rw [if_pos hsur]
     ·have he : (Utf8.encode (n : Int)).data.toList = enc n := encode_enc (by unfold vrune; omega)
      have hw32 : IntKind.i32.wrap (n : Int) = (n : Int) := by rw [IntWalk.i32_in _ (by omega)]
      rw [if_neg hsur]
      by_cases h9 : 55296 ≤ n
      ·have z9 : (55296 ≤ (n : Int)) = True := eq_true (by omega)
       have z10 : ((n : Int) < 57344) = False := eq_false (by omega)
       simp (maxSteps := 2000000) only [go_sem, ↓reduceIte, z8, z9, z10, hw32, he]
      ·have z9 : (55296 ≤ (n : Int)) = False := eq_false (by omega)
       simp (maxSteps := 2000000) only [go_sem, ↓reduceIte, z8, z9, hw32, he]
   ·have hb : s.length ≠ 7 ∨ s.take 3 ≠ [117, 110, 105] := .inr hu
    rw [if_pos hb]
    simp (maxSteps := 2000000) (disch := omega) only [go_sem, ↓reduceIte, z7, hcut, hu]
    omega
  ·have z7 : ((s.length : Int) = 7) = False := eq_false (by omega)
   rw [if_pos (.inl h7)]
   simp (maxSteps := 2000000) (disch := omega) only [go_sem, ↓reduceIte, z7]
theorem look_drop {i : Nat} (h : i < 15) (s : List UInt8) : look (gNames.drop i) (gSigns.drop i) s = if s = gNames.getD i [] then some [gSigns.getD i 0] else look (gNames.drop (i + 1)) (gSigns.drop (i + 1)) s := by
 have : i = 0 ∨ i = 1 ∨ i = 2 ∨ i = 3 ∨ i = 4 ∨ i = 5 ∨ i = 6 ∨ i = 7 ∨ i = 8 ∨ i = 9 ∨ i = 10 ∨ i = 11 ∨ i = 12 ∨ i = 13 ∨ i = 14 := by omega
 rcases this with rfl | rfl | rfl | rfl | rfl | rfl | rfl | rfl | rfl | rfl | rfl | rfl | rfl | rfl | rfl <;> rfl
theorem hexI_up {c : Nat} (h : c < 256) : (hexI c < 0 ∨ 97 ≤ c) ↔ hexD c = none := by
 unfold hexI hexD
 constructor
 ·intro h1
  rw [if_neg, if_neg]
  all_goals
   intro h2
   rcases h1 with h1 | h1
   ·(repeat' split at h1) <;> omega
   ·omega
 ·intro h1
  split at h1
  ·cases h1
  ·split at h1
   ·cases h1
   ·by_cases h97 : 97 ≤ c
    ·exact .inr h97
    ·left
     rw [if_neg (by omega), if_neg (by omega), if_neg (by omega)]; omega
theorem hexI_eq {c d : Nat} (h : hexD c = some d) : hexI c = d ∧ c < 97 := by
 unfold hexD at h
 unfold hexI
 split at h
 ·cases h; rw [if_pos (by omega)]; omega
 ·split at h
  ·cases h; rw [if_neg (by omega), if_neg (by omega), if_pos (by omega)]; omega
  ·cases h
def L_foliowrightref_Glyph : LCode :=
 .seq (.reg [Qx 2 (.k (.d (.str []))), Qx 3 KF]) (.seq (.seq (.reg [Qc 10 0, Q 11 (.len true (.t 10)), Q 12 (.bin .eql (.t 11) (Ki 1)), Qc 13 12, Qd 14 0 13 true, Qg 15 (.idxS (.t 
 14) (Ki 0)) 13 true, Qg 16 (.bin .geq (.t 15) (Kb 97)) 13 true, Qd 17 16 13 true, Qd 18 0 17 true, Qg 19 (.idxS (.t 18) (Ki 0)) 17 true, Qg 20 (.bin .leq (.t 19) (Kb 122)) 17 
 true, Qg 21 (.pick (.t 17) (.t 20) KF) 13 true, Qd 22 21 13 true, Qd 23 0 22 false, Qg 24 (.idxS (.t 23) (Ki 0)) 22 false, Qg 25 (.bin .geq (.t 24) (Kb 65)) 22 false, Qd 26 25 22 
 false, Qd 27 0 26 true, Qg 28 (.idxS (.t 27) (Ki 0)) 26 true, Qg 29 (.bin .leq (.t 28) (Kb 90)) 26 true, Qg 30 (.pick (.t 26) (.t 29) KF) 22 false, Qg 31 (.pick (.t 22) KT (.t 
 30)) 13 true, Q 32 (.pick (.t 13) (.t 31) KF)]) (.cond (.t 32) (.seq (.reg [Qc 33 0, Qa 2 33, Qx 3 KT]) .ret) .skip)) (.seq (.reg [⟨some 34, .bsl 9 1 [.k (.d (.str [115, 112, 97, 
 99, 101])), .k (.d (.str [112, 101, 114, 105, 111, 100])), .k (.d (.str [99, 111, 109, 109, 97])), .k (.d (.str [104, 121, 112, 104, 101, 110])), .k (.d (.str [99, 111, 108, 111, 
 110])), .k (.d (.str [122, 101, 114, 111])), .k (.d (.str [111, 110, 101])), .k (.d (.str [116, 119, 111])), .k (.d (.str [116, 104, 114, 101, 101])), .k (.d (.str [102, 111, 
 117, 114])), .k (.d (.str [102, 105, 118, 101])), .k (.d (.str [115, 105, 120])), .k (.d (.str [115, 101, 118, 101, 110])), .k (.d (.str [101, 105, 103, 104, 116])), .k (.d (.str 
 [110, 105, 110, 101]))], none⟩, Qa 4 34]) (.seq (.reg [Qx 5 (.k (.d (.str [32, 46, 44, 45, 58, 48, 49, 50, 51, 52, 53, 54, 55, 56, 57])))]) (.seq (.seq (.reg [Qx 6 (Ki 0)]) 
 (.block 0 (.loop (.seq (.seq (.reg [Qc 35 6, Qc 36 4, Q 37 (.len false (.t 36)), Q 38 (.bin .lss (.t 35) (.t 37))]) (.cond (.t 38) .skip (.exit 0))) (.seq (.block 1 (.seq (.reg 
 [Qc 41 4, Qc 42 6, Q 43 (.ia 1 (.t 41) (.t 42)), Q 44 (.ld false 1 (.t 43)), Qc 45 0, Q 46 (.bin .eql (.t 44) (.t 45))]) (.cond (.t 46) (.seq (.reg [Qc 47 5, Qc 48 6, Qc 49 6, Q 
 50 (.bin .add (.t 49) (Ki 1)), Q 51 (.subS (.t 47) (some (.t 48)) (some (.t 50))), Qa 2 51, Qx 3 KT]) .ret) .skip))) (.reg [Qc 39 6, Q 40 (.bin .add (.t 39) (Ki 1)), Qa 6 
 40])))))) (.seq (.seq (.reg [Qc 52 0, Q 53 (.len true (.t 52)), Q 54 (.bin .neq (.t 53) (Ki 7)), Qc 55 54, Qd 56 0 55 false, Qg 57 (.subS (.t 56) none (some (Ki 3))) 55 false, Qg 
 58 (.bin .neq (.t 57) (.k (.d (.str [117, 110, 105])))) 55 false, Q 59 (.pick (.t 55) KT (.t 58))]) (.cond (.t 59) (.seq (.reg [Qx 2 (.k (.d (.str []))), Qx 3 KF]) .ret) .skip)) 
 (.seq (.reg [Qx 7 (Ki 0)]) (.seq (.seq (.reg [Qx 8 (Ki 3)]) (.block 2 (.loop (.seq (.seq (.reg [Qc 60 8, Q 61 (.bin .lss (.t 60) (Ki 7))]) (.cond (.t 61) .skip (.exit 2))) (.seq 
 (.block 3 (.seq (.reg [Qc 64 0, Qc 65 8, Q 66 (.idxS (.t 64) (.t 65)), ⟨some 67, .call 29 [.t 66], none⟩, Qa 9 67]) (.seq (.seq (.reg [Qc 68 9, Q 69 (.bin .lss (.t 68) (Ki 0)), 
 Qc 70 69, Qd 71 0 70 false, Qd 72 8 70 false, Qg 73 (.idxS (.t 71) (.t 72)) 70 false, Qg 74 (.bin .geq (.t 73) (Kb 97)) 70 false, Q 75 (.pick (.t 70) KT (.t 74))]) (.cond (.t 75) 
 (.seq (.reg [Qx 2 (.k (.d (.str []))), Qx 3 KF]) .ret) .skip)) (.reg [Qc 76 7, Q 77 (.bin .mul (Ki 16) (.t 76)), Qc 78 9, Q 79 (.bin .add (.t 77) (.t 78)), Qa 7 79])))) (.reg [Qc 
 62 8, Q 63 (.bin .add (.t 62) (Ki 1)), Qa 8 63])))))) (.seq (.seq (.reg [Qc 80 7, Q 81 (.bin .gtr (.t 80) (Ki 55295)), Qc 82 81, Qd 83 7 82 true, Qg 84 (.bin .lss (.t 83) (Ki 
 57344)) 82 true, Q 85 (.pick (.t 82) (.t 84) KF)]) (.cond (.t 85) (.seq (.reg [Qx 2 (.k (.d (.str []))), Qx 3 KF]) .ret) .skip)) (.seq (.reg [Qc 86 7, ⟨some 87, .bsl 3 1 [.t 86], 
 none⟩, ⟨some 88, .call 30 [.t 87], none⟩, Qa 2 88, Qx 3 KT]) .ret)))))))))
def R_foliowrightref_Glyph : List LRes := [.tmp 2, .tmp 3]
theorem lift_foliowrightref_Glyph : Lifts Tryd.prog 11 89 L_foliowrightref_Glyph R_foliowrightref_Glyph := ⟨_, _, Tryd.func11, rfl, by kernel_rfl, by kernel_rfl, rfl⟩
theorem glyphR_call (s : List UInt8) (hs : s.length ≤ 1000000) : PCall Tryd.prog 11 [.str s] (fun r => r = onRes (glyphM s)) := by
 refine lift_foliowrightref_Glyph.call rfl ?_
 generalize hG : glyphM s = G
 unfold glyphM singleM at hG
 have hgd : ∀ i : Nat, i < 15 → getI ([.str [115, 112, 97, 99, 101], .str [112, 101, 114, 105, 111, 100], .str [99, 111, 109, 109, 97], .str [104, 121, 112, 104, 101, 110], .str [99, 111, 108, 111, 110], .str [122, 101, 114, 111], .str [111, 110, 101], .str [116, 119, 111], .str [116, 104, 114, 101, 101], .str [102, 111, 117, 114], .str [102, 105, 118, 101], .str [115, 105, 120], .str [115, 101, 118, 101, 110], .str [101, 105, 103, 104, 116], .str [110, 105, 110, 101]] : List D) (i : Int) = some (.str (gNames.getD i [])) := fun i h => by
  rw [getI_nat]
  show (gNames.map D.str)[i]? = _
  rw [List.getElem?_map, List.getD_eq_getElem?_getD, List.getElem?_eq_getElem (show i < gNames.length from h)]; rfl
 have hsd : ∀ i : Nat, i < 15 → cutI ([32, 46, 44, 45, 58, 48, 49, 50, 51, 52, 53, 54, 55, 56, 57] : List UInt8) (i : Int) ((i : Int) + 1) = [gSigns.getD i 0] := fun i h => by
  have : i = 0 ∨ i = 1 ∨ i = 2 ∨ i = 3 ∨ i = 4 ∨ i = 5 ∨ i = 6 ∨ i = 7 ∨ i = 8 ∨ i = 9 ∨ i = 10 ∨ i = 11 ∨ i = 12 ∨ i = 13 ∨ i = 14 := by omega
  rcases this with rfl | rfl | rfl | rfl | rfl | rfl | rfl | rfl | rfl | rfl | rfl | rfl | rfl | rfl | rfl <;> rfl
 have hcut : cutI s 0 3 = s.take 3 := rfl
 have hlet : ∀ c, s = [c] → letter s = (decide (97 ≤ c.toNat) && decide (c.toNat ≤ 122) || decide (65 ≤ c.toNat) && decide (c.toNat ≤ 90)) := fun c h => by rw [h]; rfl
 by_cases h1 : s.length = 1
 ·obtain ⟨c, hc⟩ := List.length_eq_one_iff.1 h1
  have hc8 := u8_lt c
  have g0 : getI s 0 = some c := by rw [hc]; rfl
  have zl1 : ((s.length : Int) = 1) = True := eq_true (by omega)
  rw [hlet c hc] at hG
  by_cases a1 : 97 ≤ c.toNat ∧ c.toNat ≤ 122
  ·have z1 : (97 ≤ (c.toNat : Int)) = True := eq_true (by omega)
   have z2 : ((c.toNat : Int) ≤ 122) = True := eq_true (by omega)
   rw [if_pos (by simp; omega)] at hG
   simp (maxSteps := 2000000) (disch := omega) only [go_sem, ↓reduceIte, L_foliowrightref_Glyph, R_foliowrightref_Glyph, g0, zl1, z1, z2]
   rw [← hG]; rfl
  ·by_cases a2 : 65 ≤ c.toNat ∧ c.toNat ≤ 90
   ·have z1 : (97 ≤ (c.toNat : Int)) = False := eq_false (by omega)
    have z3 : (65 ≤ (c.toNat : Int)) = True := eq_true (by omega)
    have z4 : ((c.toNat : Int) ≤ 90) = True := eq_true (by omega)
    rw [if_pos (by simp; omega)] at hG
    simp (maxSteps := 2000000) (disch := omega) only [go_sem, ↓reduceIte, L_foliowrightref_Glyph, R_foliowrightref_Glyph, g0, zl1, z1, z3, z4]
    rw [← hG]; rfl
   ·rw [if_neg (by simp; omega)] at hG
    generalize hX : uniM s = X at hG
    by_cases a3 : c.toNat < 65
    ·have z1 : (97 ≤ (c.toNat : Int)) = False := eq_false (by omega)
     have z3 : (65 ≤ (c.toNat : Int)) = False := eq_false (by omega)
     simp (maxSteps := 2000000) (disch := omega) only [go_sem, ↓reduceIte, L_foliowrightref_Glyph, R_foliowrightref_Glyph, g0, zl1, z1, z3]
     refine run_loop (fun i : Nat => ⟨[(0, .d (.str s)), (4, .own (.t 4) 9 1 [.str [115, 112, 97, 99, 101], .str [112, 101, 114, 105, 111, 100], .str [99, 111, 109, 109, 97], .str [104, 121, 112, 104, 101, 110], .str [99, 111, 108, 111, 110], .str [122, 101, 114, 111], .str [111, 110, 101], .str [116, 119, 111], .str [116, 104, 114, 101, 101], .str [102, 111, 117, 114], .str [102, 105, 118, 101], .str [115, 105, 120], .str [115, 101, 118, 101, 110], .str [101, 105, 103, 104, 116], .str [110, 105, 110, 101]]), (5, .d (.str [32, 46, 44, 45, 58, 48, 49, 50, 51, 52, 53, 54, 55, 56, 57])), (6, .d (.int .i64 i))], [], []⟩)
      (fun i => i ≤ 15 ∧ pickO (look (gNames.drop i) (gSigns.drop i) s) X = G) (fun i => 15 - i) 0 ?_ ?_ ?_
     ·refine weak_mk ?_ trivial
      simp (maxSteps := 2000000) only [go_sem, ↓reduceIte, Sub, Int.natCast_add, Int.natCast_mul]
     ·exact ⟨by omega, hG⟩
     ·rintro i ⟨hi, hF⟩
      by_cases hlt : i < 15
      ·have zl : ((i : Int) < 15) = True := eq_true (by omega)
       rw [look_drop hlt] at hF
       have g1 := hgd i hlt
       have g2 := hsd i hlt
       by_cases hq : s = gNames.getD i []
       ·rw [if_pos hq] at hF
        have zq : (gNames.getD i [] = s) = True := eq_true hq.symm
        simp (maxSteps := 2000000) (disch := omega) only [go_sem, ↓reduceIte, zl, g1, g2, zq]
        refine ⟨by omega, ?_⟩
        rw [← hF]; rfl
       ·rw [if_neg hq] at hF
        have zq : (gNames.getD i [] = s) = False := eq_false fun h => hq h.symm
        simp (maxSteps := 2000000) (disch := omega) only [go_sem, ↓reduceIte, zl, g1, zq]
        refine ⟨i + 1, ?_, ⟨by omega, hF⟩, by omega⟩
        refine weak_mk ?_ trivial
        simp (maxSteps := 2000000) only [go_sem, ↓reduceIte, Sub, Int.natCast_add, Int.natCast_mul]
      ·have zl : ((i : Int) < 15) = False := eq_false (by omega)
       have hi15 : i = 15 := by omega
       subst hi15
       have hX0 : X = G := hF
       subst hX0
       subst hX
       unfold uniM
       by_cases h7 : s.length = 7
       ·have z7 : ((s.length : Int) = 7) = True := eq_true (by omega)
        by_cases hu : s.take 3 = [117, 110, 105]
        ·have hb : ¬ (s.length ≠ 7 ∨ s.take 3 ≠ [117, 110, 105]) := by rintro (h | h); exact h h7; exact h hu
         rw [if_neg hb]
         generalize hR : surM (hexUpF (s.drop 3) 0) = R
         simp (maxSteps := 2000000) (disch := omega) only [go_sem, ↓reduceIte, zl, z7, hcut, hu]
         refine ⟨by omega, ?_⟩
         refine run_loop (fun y : Nat × Nat => ⟨[(0, .d (.str s)), (7, .d (.int .i64 y.2)), (8, .d (.int .i64 y.1))], [], []⟩)
          (fun y => 3 ≤ y.1 ∧ y.1 ≤ 7 ∧ y.2 < 16 ^ (y.1 - 3) ∧ surM (hexUpF (s.drop y.1) y.2) = R) (fun y => 7 - y.1) (3, 0) ?_ ?_ ?_
         ·refine weak_mk ?_ trivial
          simp (maxSteps := 2000000) only [go_sem, ↓reduceIte, Sub, Int.natCast_add, Int.natCast_mul]
         ·exact ⟨by simp, by simp, by simp, hR⟩
         ·rintro ⟨i, n⟩ ⟨h3, hi7, hn, hF⟩
          simp only at h3 hi7 hn hF
          have hpow : 16 ^ (i - 3) ≤ 65536 := by
           have : i - 3 = 0 ∨ i - 3 = 1 ∨ i - 3 = 2 ∨ i - 3 = 3 ∨ i - 3 = 4 := by omega
           rcases this with h | h | h | h | h <;> rw [h] <;> decide
          by_cases hi : i < 7
          ·have z8 : ((i : Int) < 7) = True := eq_true (by omega)
           obtain ⟨c, hc⟩ := get_some (l := s) (i := i) (by omega)
           have hc8 := u8_lt c
           rw [drop_at hc, hexUpF] at hF
           simp (maxSteps := 2000000) (disch := omega) only [go_sem, ↓reduceIte, z8, getI_nat, hc]
           refine CallG.of (hexOf_call c.toNat hc8) ?_
           cases hd : hexD c.toNat with
           | none =>
            rw [hd] at hF
            simp only [surM] at hF
            have hk := (hexI_up hc8).2 hd
            have fin : Res.tup [D.str [], D.bool false] = onRes R := by rw [← hF]; rfl
            by_cases hk1 : hexI c.toNat < 0
            ·have z9 := eq_true hk1
             simp (maxSteps := 2000000) (disch := omega) only [go_sem, ↓reduceIte, z9, getI_nat, hc]
             exact fin
            ·have z9 := eq_false hk1
             have z10 : (97 ≤ (c.toNat : Int)) = True := eq_true (by omega)
             simp (maxSteps := 2000000) (disch := omega) only [go_sem, ↓reduceIte, z9, z10, getI_nat, hc]
             exact fin
           | some d =>
            rw [hd] at hF
            simp only at hF
            obtain ⟨k1, k2⟩ := hexI_eq hd
            have k3 := hexD_lt hd
            rw [k1]
            have z9 : ((d : Int) < 0) = False := eq_false (by omega)
            have z10 : (97 ≤ (c.toNat : Int)) = False := eq_false (by omega)
            simp (maxSteps := 2000000) (disch := omega) only [go_sem, ↓reduceIte, z9, z10, getI_nat, hc]
            refine ⟨(i + 1, 16 * n + d), ?_, ⟨by simp only; omega, by simp only; omega, ?_, hF⟩, by simp only; omega⟩
            ·refine weak_mk ?_ trivial
             simp (maxSteps := 2000000) only [go_sem, ↓reduceIte, Sub, Int.natCast_add, Int.natCast_mul]
            ·simp only
             rw [show i + 1 - 3 = (i - 3) + 1 by omega, Nat.pow_succ]; omega
          ·have z8 : ((i : Int) < 7) = False := eq_false (by omega)
           have hi' : i = 7 := by omega
           subst hi'
           rw [List.drop_eq_nil_of_le (by omega)] at hF
           simp only [hexUpF, surM] at hF
           by_cases hsur : 55296 ≤ n ∧ n < 57344
           ·rw [if_pos hsur] at hF
            have z9 : (55295 < (n : Int)) = True := eq_true (by omega)
            have z10 : ((n : Int) < 57344) = True := eq_true (by omega)
            simp (maxSteps := 2000000) (disch := omega) only [go_sem, ↓reduceIte, z8, z9, z10]
            rw [← hF]; rfl
           ·rw [if_neg hsur] at hF
            have hvr : vrune n := by unfold vrune; omega
            by_cases h9 : 55295 < n
            ·have z9 : (55295 < (n : Int)) = True := eq_true (by omega)
             have z10 : ((n : Int) < 57344) = False := eq_false (by omega)
             simp (maxSteps := 2000000) (disch := omega) only [go_sem, ↓reduceIte, z8, z9, z10]
             refine CallG.of (signsR_call [n] (by simpa using hvr) (by simp)) ?_
             simp (maxSteps := 2000000) only [go_sem, ↓reduceIte]
             rw [← hF]; simp [onRes, encM]
            ·have z9 : (55295 < (n : Int)) = False := eq_false (by omega)
             simp (maxSteps := 2000000) (disch := omega) only [go_sem, ↓reduceIte, z8, z9]
             refine CallG.of (signsR_call [n] (by simpa using hvr) (by simp)) ?_
             simp (maxSteps := 2000000) only [go_sem, ↓reduceIte]
             rw [← hF]; simp [onRes, encM]
        ·rw [if_pos (.inr hu)]
         simp (maxSteps := 2000000) (disch := omega) only [go_sem, ↓reduceIte, zl, z7, hcut, hu]
         exact ⟨by omega, rfl⟩
       ·have z7 : ((s.length : Int) = 7) = False := eq_false (by omega)
        rw [if_pos (.inl h7)]
        simp (maxSteps := 2000000) (disch := omega) only [go_sem, ↓reduceIte, zl, z7]
        rfl
    ·by_cases a4 : c.toNat < 97
     ·have z1 : (97 ≤ (c.toNat : Int)) = False := eq_false (by omega)
      have z3 : (65 ≤ (c.toNat : Int)) = True := eq_true (by omega)
      have z4 : ((c.toNat : Int) ≤ 90) = False := eq_false (by omega)
      simp (maxSteps := 2000000) (disch := omega) only [go_sem, ↓reduceIte, L_foliowrightref_Glyph, R_foliowrightref_Glyph, g0, zl1, z1, z3, z4]
      refine run_loop (fun i : Nat => ⟨[(0, .d (.str s)), (4, .own (.t 4) 9 1 [.str [115, 112, 97, 99, 101], .str [112, 101, 114, 105, 111, 100], .str [99, 111, 109, 109, 97], .str [104, 121, 112, 104, 101, 110], .str [99, 111, 108, 111, 110], .str [122, 101, 114, 111], .str [111, 110, 101], .str [116, 119, 111], .str [116, 104, 114, 101, 101], .str [102, 111, 117, 114], .str [102, 105, 118, 101], .str [115, 105, 120], .str [115, 101, 118, 101, 110], .str [101, 105, 103, 104, 116], .str [110, 105, 110, 101]]), (5, .d (.str [32, 46, 44, 45, 58, 48, 49, 50, 51, 52, 53, 54, 55, 56, 57])), (6, .d (.int .i64 i))], [], []⟩)
       (fun i => i ≤ 15 ∧ pickO (look (gNames.drop i) (gSigns.drop i) s) X = G) (fun i => 15 - i) 0 ?_ ?_ ?_
      ·refine weak_mk ?_ trivial
       simp (maxSteps := 2000000) only [go_sem, ↓reduceIte, Sub, Int.natCast_add, Int.natCast_mul]
      ·exact ⟨by omega, hG⟩
      ·rintro i ⟨hi, hF⟩
       by_cases hlt : i < 15
       ·have zl : ((i : Int) < 15) = True := eq_true (by omega)
        rw [look_drop hlt] at hF
        have g1 := hgd i hlt
        have g2 := hsd i hlt
        by_cases hq : s = gNames.getD i []
        ·rw [if_pos hq] at hF
         have zq : (gNames.getD i [] = s) = True := eq_true hq.symm
         simp (maxSteps := 2000000) (disch := omega) only [go_sem, ↓reduceIte, zl, g1, g2, zq]
         refine ⟨by omega, ?_⟩
         rw [← hF]; rfl
        ·rw [if_neg hq] at hF
         have zq : (gNames.getD i [] = s) = False := eq_false fun h => hq h.symm
         simp (maxSteps := 2000000) (disch := omega) only [go_sem, ↓reduceIte, zl, g1, zq]
         refine ⟨i + 1, ?_, ⟨by omega, hF⟩, by omega⟩
         refine weak_mk ?_ trivial
         simp (maxSteps := 2000000) only [go_sem, ↓reduceIte, Sub, Int.natCast_add, Int.natCast_mul]
       ·have zl : ((i : Int) < 15) = False := eq_false (by omega)
        have hi15 : i = 15 := by omega
        subst hi15
        have hX0 : X = G := hF
        subst hX0
        subst hX
        unfold uniM
        by_cases h7 : s.length = 7
        ·have z7 : ((s.length : Int) = 7) = True := eq_true (by omega)
         by_cases hu : s.take 3 = [117, 110, 105]
         ·have hb : ¬ (s.length ≠ 7 ∨ s.take 3 ≠ [117, 110, 105]) := by rintro (h | h); exact h h7; exact h hu
          rw [if_neg hb]
          generalize hR : surM (hexUpF (s.drop 3) 0) = R
          simp (maxSteps := 2000000) (disch := omega) only [go_sem, ↓reduceIte, zl, z7, hcut, hu]
          refine ⟨by omega, ?_⟩
          refine run_loop (fun y : Nat × Nat => ⟨[(0, .d (.str s)), (7, .d (.int .i64 y.2)), (8, .d (.int .i64 y.1))], [], []⟩)
           (fun y => 3 ≤ y.1 ∧ y.1 ≤ 7 ∧ y.2 < 16 ^ (y.1 - 3) ∧ surM (hexUpF (s.drop y.1) y.2) = R) (fun y => 7 - y.1) (3, 0) ?_ ?_ ?_
          ·refine weak_mk ?_ trivial
           simp (maxSteps := 2000000) only [go_sem, ↓reduceIte, Sub, Int.natCast_add, Int.natCast_mul]
          ·exact ⟨by simp, by simp, by simp, hR⟩
          ·rintro ⟨i, n⟩ ⟨h3, hi7, hn, hF⟩
           simp only at h3 hi7 hn hF
           have hpow : 16 ^ (i - 3) ≤ 65536 := by
            have : i - 3 = 0 ∨ i - 3 = 1 ∨ i - 3 = 2 ∨ i - 3 = 3 ∨ i - 3 = 4 := by omega
            rcases this with h | h | h | h | h <;> rw [h] <;> decide
           by_cases hi : i < 7
           ·have z8 : ((i : Int) < 7) = True := eq_true (by omega)
            obtain ⟨c, hc⟩ := get_some (l := s) (i := i) (by omega)
            have hc8 := u8_lt c
            rw [drop_at hc, hexUpF] at hF
            simp (maxSteps := 2000000) (disch := omega) only [go_sem, ↓reduceIte, z8, getI_nat, hc]
            refine CallG.of (hexOf_call c.toNat hc8) ?_
            cases hd : hexD c.toNat with
            | none =>
             rw [hd] at hF
             simp only [surM] at hF
             have hk := (hexI_up hc8).2 hd
             have fin : Res.tup [D.str [], D.bool false] = onRes R := by rw [← hF]; rfl
             by_cases hk1 : hexI c.toNat < 0
             ·have z9 := eq_true hk1
              simp (maxSteps := 2000000) (disch := omega) only [go_sem, ↓reduceIte, z9, getI_nat, hc]
              exact fin
             ·have z9 := eq_false hk1
              have z10 : (97 ≤ (c.toNat : Int)) = True := eq_true (by omega)
              simp (maxSteps := 2000000) (disch := omega) only [go_sem, ↓reduceIte, z9, z10, getI_nat, hc]
              exact fin
            | some d =>
             rw [hd] at hF
             simp only at hF
             obtain ⟨k1, k2⟩ := hexI_eq hd
             have k3 := hexD_lt hd
             rw [k1]
             have z9 : ((d : Int) < 0) = False := eq_false (by omega)
             have z10 : (97 ≤ (c.toNat : Int)) = False := eq_false (by omega)
             simp (maxSteps := 2000000) (disch := omega) only [go_sem, ↓reduceIte, z9, z10, getI_nat, hc]
             refine ⟨(i + 1, 16 * n + d), ?_, ⟨by simp only; omega, by simp only; omega, ?_, hF⟩, by simp only; omega⟩
             ·refine weak_mk ?_ trivial
              simp (maxSteps := 2000000) only [go_sem, ↓reduceIte, Sub, Int.natCast_add, Int.natCast_mul]
             ·simp only
              rw [show i + 1 - 3 = (i - 3) + 1 by omega, Nat.pow_succ]; omega
           ·have z8 : ((i : Int) < 7) = False := eq_false (by omega)
            have hi' : i = 7 := by omega
            subst hi'
            rw [List.drop_eq_nil_of_le (by omega)] at hF
            simp only [hexUpF, surM] at hF
            by_cases hsur : 55296 ≤ n ∧ n < 57344
            ·rw [if_pos hsur] at hF
             have z9 : (55295 < (n : Int)) = True := eq_true (by omega)
             have z10 : ((n : Int) < 57344) = True := eq_true (by omega)
             simp (maxSteps := 2000000) (disch := omega) only [go_sem, ↓reduceIte, z8, z9, z10]
             rw [← hF]; rfl
            ·rw [if_neg hsur] at hF
             have hvr : vrune n := by unfold vrune; omega
             by_cases h9 : 55295 < n
             ·have z9 : (55295 < (n : Int)) = True := eq_true (by omega)
              have z10 : ((n : Int) < 57344) = False := eq_false (by omega)
              simp (maxSteps := 2000000) (disch := omega) only [go_sem, ↓reduceIte, z8, z9, z10]
              refine CallG.of (signsR_call [n] (by simpa using hvr) (by simp)) ?_
              simp (maxSteps := 2000000) only [go_sem, ↓reduceIte]
              rw [← hF]; simp [onRes, encM]
             ·have z9 : (55295 < (n : Int)) = False := eq_false (by omega)
              simp (maxSteps := 2000000) (disch := omega) only [go_sem, ↓reduceIte, z8, z9]
              refine CallG.of (signsR_call [n] (by simpa using hvr) (by simp)) ?_
              simp (maxSteps := 2000000) only [go_sem, ↓reduceIte]
              rw [← hF]; simp [onRes, encM]
         ·rw [if_pos (.inr hu)]
          simp (maxSteps := 2000000) (disch := omega) only [go_sem, ↓reduceIte, zl, z7, hcut, hu]
          exact ⟨by omega, rfl⟩
        ·have z7 : ((s.length : Int) = 7) = False := eq_false (by omega)
         rw [if_pos (.inl h7)]
         simp (maxSteps := 2000000) (disch := omega) only [go_sem, ↓reduceIte, zl, z7]
         rfl
     ·have z1 : (97 ≤ (c.toNat : Int)) = True := eq_true (by omega)
      have z2 : ((c.toNat : Int) ≤ 122) = False := eq_false (by omega)
      have z3 : (65 ≤ (c.toNat : Int)) = True := eq_true (by omega)
      have z4 : ((c.toNat : Int) ≤ 90) = False := eq_false (by omega)
      simp (maxSteps := 2000000) (disch := omega) only [go_sem, ↓reduceIte, L_foliowrightref_Glyph, R_foliowrightref_Glyph, g0, zl1, z1, z2, z3, z4]
      refine run_loop (fun i : Nat => ⟨[(0, .d (.str s)), (4, .own (.t 4) 9 1 [.str [115, 112, 97, 99, 101], .str [112, 101, 114, 105, 111, 100], .str [99, 111, 109, 109, 97], .str [104, 121, 112, 104, 101, 110], .str [99, 111, 108, 111, 110], .str [122, 101, 114, 111], .str [111, 110, 101], .str [116, 119, 111], .str [116, 104, 114, 101, 101], .str [102, 111, 117, 114], .str [102, 105, 118, 101], .str [115, 105, 120], .str [115, 101, 118, 101, 110], .str [101, 105, 103, 104, 116], .str [110, 105, 110, 101]]), (5, .d (.str [32, 46, 44, 45, 58, 48, 49, 50, 51, 52, 53, 54, 55, 56, 57])), (6, .d (.int .i64 i))], [], []⟩)
       (fun i => i ≤ 15 ∧ pickO (look (gNames.drop i) (gSigns.drop i) s) X = G) (fun i => 15 - i) 0 ?_ ?_ ?_
      ·refine weak_mk ?_ trivial
       simp (maxSteps := 2000000) only [go_sem, ↓reduceIte, Sub, Int.natCast_add, Int.natCast_mul]
      ·exact ⟨by omega, hG⟩
      ·rintro i ⟨hi, hF⟩
       by_cases hlt : i < 15
       ·have zl : ((i : Int) < 15) = True := eq_true (by omega)
        rw [look_drop hlt] at hF
        have g1 := hgd i hlt
        have g2 := hsd i hlt
        by_cases hq : s = gNames.getD i []
        ·rw [if_pos hq] at hF
         have zq : (gNames.getD i [] = s) = True := eq_true hq.symm
         simp (maxSteps := 2000000) (disch := omega) only [go_sem, ↓reduceIte, zl, g1, g2, zq]
         refine ⟨by omega, ?_⟩
         rw [← hF]; rfl
        ·rw [if_neg hq] at hF
         have zq : (gNames.getD i [] = s) = False := eq_false fun h => hq h.symm
         simp (maxSteps := 2000000) (disch := omega) only [go_sem, ↓reduceIte, zl, g1, zq]
         refine ⟨i + 1, ?_, ⟨by omega, hF⟩, by omega⟩
         refine weak_mk ?_ trivial
         simp (maxSteps := 2000000) only [go_sem, ↓reduceIte, Sub, Int.natCast_add, Int.natCast_mul]
       ·have zl : ((i : Int) < 15) = False := eq_false (by omega)
        have hi15 : i = 15 := by omega
        subst hi15
        have hX0 : X = G := hF
        subst hX0
        subst hX
        unfold uniM
        by_cases h7 : s.length = 7
        ·have z7 : ((s.length : Int) = 7) = True := eq_true (by omega)
         by_cases hu : s.take 3 = [117, 110, 105]
         ·have hb : ¬ (s.length ≠ 7 ∨ s.take 3 ≠ [117, 110, 105]) := by rintro (h | h); exact h h7; exact h hu
          rw [if_neg hb]
          generalize hR : surM (hexUpF (s.drop 3) 0) = R
          simp (maxSteps := 2000000) (disch := omega) only [go_sem, ↓reduceIte, zl, z7, hcut, hu]
          refine ⟨by omega, ?_⟩
          refine run_loop (fun y : Nat × Nat => ⟨[(0, .d (.str s)), (7, .d (.int .i64 y.2)), (8, .d (.int .i64 y.1))], [], []⟩)
           (fun y => 3 ≤ y.1 ∧ y.1 ≤ 7 ∧ y.2 < 16 ^ (y.1 - 3) ∧ surM (hexUpF (s.drop y.1) y.2) = R) (fun y => 7 - y.1) (3, 0) ?_ ?_ ?_
          ·refine weak_mk ?_ trivial
           simp (maxSteps := 2000000) only [go_sem, ↓reduceIte, Sub, Int.natCast_add, Int.natCast_mul]
          ·exact ⟨by simp, by simp, by simp, hR⟩
          ·rintro ⟨i, n⟩ ⟨h3, hi7, hn, hF⟩
           simp only at h3 hi7 hn hF
           have hpow : 16 ^ (i - 3) ≤ 65536 := by
            have : i - 3 = 0 ∨ i - 3 = 1 ∨ i - 3 = 2 ∨ i - 3 = 3 ∨ i - 3 = 4 := by omega
            rcases this with h | h | h | h | h <;> rw [h] <;> decide
           by_cases hi : i < 7
           ·have z8 : ((i : Int) < 7) = True := eq_true (by omega)
            obtain ⟨c, hc⟩ := get_some (l := s) (i := i) (by omega)
            have hc8 := u8_lt c
            rw [drop_at hc, hexUpF] at hF
            simp (maxSteps := 2000000) (disch := omega) only [go_sem, ↓reduceIte, z8, getI_nat, hc]
            refine CallG.of (hexOf_call c.toNat hc8) ?_
            cases hd : hexD c.toNat with
            | none =>
             rw [hd] at hF
             simp only [surM] at hF
             have hk := (hexI_up hc8).2 hd
             have fin : Res.tup [D.str [], D.bool false] = onRes R := by rw [← hF]; rfl
             by_cases hk1 : hexI c.toNat < 0
             ·have z9 := eq_true hk1
              simp (maxSteps := 2000000) (disch := omega) only [go_sem, ↓reduceIte, z9, getI_nat, hc]
              exact fin
             ·have z9 := eq_false hk1
              have z10 : (97 ≤ (c.toNat : Int)) = True := eq_true (by omega)
              simp (maxSteps := 2000000) (disch := omega) only [go_sem, ↓reduceIte, z9, z10, getI_nat, hc]
              exact fin
            | some d =>
             rw [hd] at hF
             simp only at hF
             obtain ⟨k1, k2⟩ := hexI_eq hd
             have k3 := hexD_lt hd
             rw [k1]
             have z9 : ((d : Int) < 0) = False := eq_false (by omega)
             have z10 : (97 ≤ (c.toNat : Int)) = False := eq_false (by omega)
             simp (maxSteps := 2000000) (disch := omega) only [go_sem, ↓reduceIte, z9, z10, getI_nat, hc]
             refine ⟨(i + 1, 16 * n + d), ?_, ⟨by simp only; omega, by simp only; omega, ?_, hF⟩, by simp only; omega⟩
             ·refine weak_mk ?_ trivial
              simp (maxSteps := 2000000) only [go_sem, ↓reduceIte, Sub, Int.natCast_add, Int.natCast_mul]
             ·simp only
              rw [show i + 1 - 3 = (i - 3) + 1 by omega, Nat.pow_succ]; omega
           ·have z8 : ((i : Int) < 7) = False := eq_false (by omega)
            have hi' : i = 7 := by omega
            subst hi'
            rw [List.drop_eq_nil_of_le (by omega)] at hF
            simp only [hexUpF, surM] at hF
            by_cases hsur : 55296 ≤ n ∧ n < 57344
            ·rw [if_pos hsur] at hF
             have z9 : (55295 < (n : Int)) = True := eq_true (by omega)
             have z10 : ((n : Int) < 57344) = True := eq_true (by omega)
             simp (maxSteps := 2000000) (disch := omega) only [go_sem, ↓reduceIte, z8, z9, z10]
             rw [← hF]; rfl
            ·rw [if_neg hsur] at hF
             have hvr : vrune n := by unfold vrune; omega
             by_cases h9 : 55295 < n
             ·have z9 : (55295 < (n : Int)) = True := eq_true (by omega)
              have z10 : ((n : Int) < 57344) = False := eq_false (by omega)
              simp (maxSteps := 2000000) (disch := omega) only [go_sem, ↓reduceIte, z8, z9, z10]
              refine CallG.of (signsR_call [n] (by simpa using hvr) (by simp)) ?_
              simp (maxSteps := 2000000) only [go_sem, ↓reduceIte]
              rw [← hF]; simp [onRes, encM]
             ·have z9 : (55295 < (n : Int)) = False := eq_false (by omega)
              simp (maxSteps := 2000000) (disch := omega) only [go_sem, ↓reduceIte, z8, z9]
              refine CallG.of (signsR_call [n] (by simpa using hvr) (by simp)) ?_
              simp (maxSteps := 2000000) only [go_sem, ↓reduceIte]
              rw [← hF]; simp [onRes, encM]
         ·rw [if_pos (.inr hu)]
          simp (maxSteps := 2000000) (disch := omega) only [go_sem, ↓reduceIte, zl, z7, hcut, hu]
          exact ⟨by omega, rfl⟩
        ·have z7 : ((s.length : Int) = 7) = False := eq_false (by omega)
         rw [if_pos (.inl h7)]
         simp (maxSteps := 2000000) (disch := omega) only [go_sem, ↓reduceIte, zl, z7]
         rfl
 ·have zl1 : ((s.length : Int) = 1) = False := eq_false (by omega)
  have hl0 : letter s = false := by unfold letter; rw [decide_eq_false h1]; rfl
  rw [hl0, if_neg (by decide)] at hG
  generalize hX : uniM s = X at hG
  simp (maxSteps := 2000000) (disch := omega) only [go_sem, ↓reduceIte, L_foliowrightref_Glyph, R_foliowrightref_Glyph, zl1]
  refine run_loop (fun i : Nat => ⟨[(0, .d (.str s)), (4, .own (.t 4) 9 1 [.str [115, 112, 97, 99, 101], .str [112, 101, 114, 105, 111, 100], .str [99, 111, 109, 109, 97], .str [104, 121, 112, 104, 101, 110], .str [99, 111, 108, 111, 110], .str [122, 101, 114, 111], .str [111, 110, 101], .str [116, 119, 111], .str [116, 104, 114, 101, 101], .str [102, 111, 117, 114], .str [102, 105, 118, 101], .str [115, 105, 120], .str [115, 101, 118, 101, 110], .str [101, 105, 103, 104, 116], .str [110, 105, 110, 101]]), (5, .d (.str [32, 46, 44, 45, 58, 48, 49, 50, 51, 52, 53, 54, 55, 56, 57])), (6, .d (.int .i64 i))], [], []⟩)
   (fun i => i ≤ 15 ∧ pickO (look (gNames.drop i) (gSigns.drop i) s) X = G) (fun i => 15 - i) 0 ?_ ?_ ?_
  ·refine weak_mk ?_ trivial
   simp (maxSteps := 2000000) only [go_sem, ↓reduceIte, Sub, Int.natCast_add, Int.natCast_mul]
  ·exact ⟨by omega, hG⟩
  ·rintro i ⟨hi, hF⟩
   by_cases hlt : i < 15
   ·have zl : ((i : Int) < 15) = True := eq_true (by omega)
    rw [look_drop hlt] at hF
    have g1 := hgd i hlt
    have g2 := hsd i hlt
    by_cases hq : s = gNames.getD i []
    ·rw [if_pos hq] at hF
     have zq : (gNames.getD i [] = s) = True := eq_true hq.symm
     simp (maxSteps := 2000000) (disch := omega) only [go_sem, ↓reduceIte, zl, g1, g2, zq]
     refine ⟨by omega, ?_⟩
     rw [← hF]; rfl
    ·rw [if_neg hq] at hF
     have zq : (gNames.getD i [] = s) = False := eq_false fun h => hq h.symm
     simp (maxSteps := 2000000) (disch := omega) only [go_sem, ↓reduceIte, zl, g1, zq]
     refine ⟨i + 1, ?_, ⟨by omega, hF⟩, by omega⟩
     refine weak_mk ?_ trivial
     simp (maxSteps := 2000000) only [go_sem, ↓reduceIte, Sub, Int.natCast_add, Int.natCast_mul]
   ·have zl : ((i : Int) < 15) = False := eq_false (by omega)
    have hi15 : i = 15 := by omega
    subst hi15
    have hX0 : X = G := hF
    subst hX0
    subst hX
    unfold uniM
    by_cases h7 : s.length = 7
    ·have z7 : ((s.length : Int) = 7) = True := eq_true (by omega)
     by_cases hu : s.take 3 = [117, 110, 105]
     ·have hb : ¬ (s.length ≠ 7 ∨ s.take 3 ≠ [117, 110, 105]) := by rintro (h | h); exact h h7; exact h hu
      rw [if_neg hb]
      generalize hR : surM (hexUpF (s.drop 3) 0) = R
      simp (maxSteps := 2000000) (disch := omega) only [go_sem, ↓reduceIte, zl, z7, hcut, hu]
      refine ⟨by omega, ?_⟩
      refine run_loop (fun y : Nat × Nat => ⟨[(0, .d (.str s)), (7, .d (.int .i64 y.2)), (8, .d (.int .i64 y.1))], [], []⟩)
       (fun y => 3 ≤ y.1 ∧ y.1 ≤ 7 ∧ y.2 < 16 ^ (y.1 - 3) ∧ surM (hexUpF (s.drop y.1) y.2) = R) (fun y => 7 - y.1) (3, 0) ?_ ?_ ?_
      ·refine weak_mk ?_ trivial
       simp (maxSteps := 2000000) only [go_sem, ↓reduceIte, Sub, Int.natCast_add, Int.natCast_mul]
      ·exact ⟨by simp, by simp, by simp, hR⟩
      ·rintro ⟨i, n⟩ ⟨h3, hi7, hn, hF⟩
       simp only at h3 hi7 hn hF
       have hpow : 16 ^ (i - 3) ≤ 65536 := by
        have : i - 3 = 0 ∨ i - 3 = 1 ∨ i - 3 = 2 ∨ i - 3 = 3 ∨ i - 3 = 4 := by omega
        rcases this with h | h | h | h | h <;> rw [h] <;> decide
       by_cases hi : i < 7
       ·have z8 : ((i : Int) < 7) = True := eq_true (by omega)
        obtain ⟨c, hc⟩ := get_some (l := s) (i := i) (by omega)
        have hc8 := u8_lt c
        rw [drop_at hc, hexUpF] at hF
        simp (maxSteps := 2000000) (disch := omega) only [go_sem, ↓reduceIte, z8, getI_nat, hc]
        refine CallG.of (hexOf_call c.toNat hc8) ?_
        cases hd : hexD c.toNat with
        | none =>
         rw [hd] at hF
         simp only [surM] at hF
         have hk := (hexI_up hc8).2 hd
         have fin : Res.tup [D.str [], D.bool false] = onRes R := by rw [← hF]; rfl
         by_cases hk1 : hexI c.toNat < 0
         ·have z9 := eq_true hk1
          simp (maxSteps := 2000000) (disch := omega) only [go_sem, ↓reduceIte, z9, getI_nat, hc]
          exact fin
         ·have z9 := eq_false hk1
          have z10 : (97 ≤ (c.toNat : Int)) = True := eq_true (by omega)
          simp (maxSteps := 2000000) (disch := omega) only [go_sem, ↓reduceIte, z9, z10, getI_nat, hc]
          exact fin
        | some d =>
         rw [hd] at hF
         simp only at hF
         obtain ⟨k1, k2⟩ := hexI_eq hd
         have k3 := hexD_lt hd
         rw [k1]
         have z9 : ((d : Int) < 0) = False := eq_false (by omega)
         have z10 : (97 ≤ (c.toNat : Int)) = False := eq_false (by omega)
         simp (maxSteps := 2000000) (disch := omega) only [go_sem, ↓reduceIte, z9, z10, getI_nat, hc]
         refine ⟨(i + 1, 16 * n + d), ?_, ⟨by simp only; omega, by simp only; omega, ?_, hF⟩, by simp only; omega⟩
         ·refine weak_mk ?_ trivial
          simp (maxSteps := 2000000) only [go_sem, ↓reduceIte, Sub, Int.natCast_add, Int.natCast_mul]
         ·simp only
          rw [show i + 1 - 3 = (i - 3) + 1 by omega, Nat.pow_succ]; omega
       ·have z8 : ((i : Int) < 7) = False := eq_false (by omega)
        have hi' : i = 7 := by omega
        subst hi'
        rw [List.drop_eq_nil_of_le (by omega)] at hF
        simp only [hexUpF, surM] at hF
        by_cases hsur : 55296 ≤ n ∧ n < 57344
        ·rw [if_pos hsur] at hF
         have z9 : (55295 < (n : Int)) = True := eq_true (by omega)
         have z10 : ((n : Int) < 57344) = True := eq_true (by omega)
         simp (maxSteps := 2000000) (disch := omega) only [go_sem, ↓reduceIte, z8, z9, z10]
         rw [← hF]; rfl
        ·rw [if_neg hsur] at hF
         have hvr : vrune n := by unfold vrune; omega
         by_cases h9 : 55295 < n
         ·have z9 : (55295 < (n : Int)) = True := eq_true (by omega)
          have z10 : ((n : Int) < 57344) = False := eq_false (by omega)
          simp (maxSteps := 2000000) (disch := omega) only [go_sem, ↓reduceIte, z8, z9, z10]
          refine CallG.of (signsR_call [n] (by simpa using hvr) (by simp)) ?_
          simp (maxSteps := 2000000) only [go_sem, ↓reduceIte]
          rw [← hF]; simp [onRes, encM]
         ·have z9 : (55295 < (n : Int)) = False := eq_false (by omega)
          simp (maxSteps := 2000000) (disch := omega) only [go_sem, ↓reduceIte, z8, z9]
          refine CallG.of (signsR_call [n] (by simpa using hvr) (by simp)) ?_
          simp (maxSteps := 2000000) only [go_sem, ↓reduceIte]
          rw [← hF]; simp [onRes, encM]
     ·rw [if_pos (.inr hu)]
      simp (maxSteps := 2000000) (disch := omega) only [go_sem, ↓reduceIte, zl, z7, hcut, hu]
      exact ⟨by omega, rfl⟩
    ·have z7 : ((s.length : Int) = 7) = False := eq_false (by omega)
     rw [if_pos (.inl h7)]
     simp (maxSteps := 2000000) (disch := omega) only [go_sem, ↓reduceIte, zl, z7]
     rfl
end Go.Av.Tryd
set_option linter.unusedSimpArgs false
set_option maxRecDepth 100000
namespace Go.Av.Tryd
open Go.Proofs
structure Fnt where
 wide : Bool
 ws : List (Int × Int)
 miss : Int
 ns : List (Int × List UInt8)
 cs : List Span
def iKeys {α : Type} (l : List (Int × α)) : List D := l.map fun p => .int .i64 p.1
def wVals (l : List (Int × Int)) : List D := l.map fun p => .int .i64 p.2
def nVals (l : List (Int × List UInt8)) : List D := l.map fun p => .str p.2
def Fnt.d (x : Fnt) : D := .agg [.bool x.wide, .map (iKeys x.ws) (wVals x.ws), .int .i64 x.miss, .map (iKeys x.ns) (nVals x.ns), .list (spansD x.cs)]
def assoc {α : Type} : List (Int × α) → Int → Option α
 | [], _ => none
 | p :: r, c => if c = p.1 then some p.2 else assoc r c
theorem assoc_w (l : List (Int × Int)) (c : Int) : mlook (iKeys l) (wVals l) (.int .i64 c) = (assoc l c).map (D.int .i64) := by
 induction l with
 | nil => rfl
 | cons p r ih =>
  simp only [iKeys, wVals, List.map_cons, mlook, keyEq, beq_iff_eq, assoc] at ih ⊢
  split
  ·rfl
  ·exact ih
theorem assoc_n (l : List (Int × List UInt8)) (c : Int) : mlook (iKeys l) (nVals l) (.int .i64 c) = (assoc l c).map D.str := by
 induction l with
 | nil => rfl
 | cons p r ih =>
  simp only [iKeys, nVals, List.map_cons, mlook, keyEq, beq_iff_eq, assoc] at ih ⊢
  split
  ·rfl
  ·exact ih
theorem iKeys_kind {α : Type} (l : List (Int × α)) : ∀ k ∈ iKeys l, keyKind (.int .i64) k = true := fun k hk => by
 obtain ⟨p, _, rfl⟩ := List.mem_map.1 hk; rfl
theorem assoc_mem {α : Type} : ∀ {l : List (Int × α)} {c : Int} {v : α}, assoc l c = some v → ∃ p ∈ l, p.2 = v
 | [], c, v, h => by cases h
 | p :: r, c, v, h => by
  simp only [assoc] at h
  split at h
  ·cases h; exact ⟨p, by simp, rfl⟩
  ·obtain ⟨q, q1, q2⟩ := assoc_mem h; exact ⟨q, by simp [q1], q2⟩
structure Fnt.ok (x : Fnt) : Prop where
 cs : ∀ s ∈ x.cs, spanOK s
 cl : x.cs.length ≤ 1000000
 nl : ∀ p ∈ x.ns, p.2.length ≤ 1000000
def fTextM (x : Fnt) (c : Int) : List UInt8 :=
 match codeM x.cs c with
 | some t => t
 | none => if x.wide = true then [] else
  match assoc x.ns c with
  | some n => (glyphM n).getD []
  | none => if 32 ≤ c ∧ c ≤ 126 then [UInt8.ofNat c.toNat] else []
theorem mapIS : Tryd.prog.underlying 23 = some (.map 3 9) := by kernel_rfl
theorem mapII : Tryd.prog.underlying 22 = some (.map 3 3) := by kernel_rfl
theorem intT : Tryd.prog.underlying 3 = some (.int .i64) := by kernel_rfl
theorem strZ' : Program.zeroOf Tryd.prog 9 = some (.str []) := by kernel_rfl
theorem intZ' : Program.zeroOf Tryd.prog 3 = some (.int .i64 0) := by kernel_rfl
theorem ascii_enc {c : Nat} (h : c < 128) : (Utf8.encode (c : Int)).data.toList = [UInt8.ofNat c] := by
 rw [encode_enc (by unfold vrune; omega)]
 rcases enc_cases (r := c) (by unfold vrune; omega) with ⟨_, e⟩ | ⟨a, _, _⟩ | ⟨a, _, _⟩ | ⟨a, _, _⟩
 ·exact e
 all_goals omega
def L_font_text : LCode :=
 .seq (.reg [⟨some 2, .box (.t 0), none⟩, Qx 4 (.k (.d (.str [])))]) (.seq (.reg [Q 10 (.fa 4 (.t 2)), Q 11 (.ld false 1 (.t 10)), Qc 12 1, ⟨some 13, .call 24 [.t 11, .t 12], none⟩, 
 Qc 9 13, Q 14 (.ext 0 (.t 9)), Q 15 (.ext 1 (.t 9)), Qa 5 14, Qa 6 15]) (.seq (.seq (.reg [Qc 16 6]) (.cond (.t 16) (.seq (.reg [Qc 17 5, Qa 4 17]) .ret) .skip)) (.seq (.seq 
 (.reg [Q 18 (.fa 0 (.t 2)), Q 19 (.ld false 1 (.t 18))]) (.cond (.t 19) (.seq (.reg [Qx 4 (.k (.d (.str [])))]) .ret) .skip)) (.seq (.reg [Q 21 (.fa 3 (.t 2)), Q 22 (.ld false 1 
 (.t 21)), Qc 23 1, ⟨some 24, .prim (.lookup 23 true) [.t 22, .t 23] [], none⟩, Qc 20 24, Q 25 (.ext 0 (.t 20)), Q 26 (.ext 1 (.t 20)), Qa 7 25, Qa 8 26]) (.seq (.seq (.reg [Qc 27 
 8]) (.cond (.t 27) (.seq (.reg [Qc 29 7, ⟨some 30, .call 10 [.t 29], none⟩, Qc 28 30, Q 31 (.ext 0 (.t 28)), Q 32 (.ext 1 (.t 28)), Qa 5 31]) (.seq (.reg [Qc 33 5, Qa 4 33]) 
 .ret)) .skip)) (.seq (.seq (.reg [Qc 34 1, Q 35 (.bin .geq (.t 34) (Ki 32)), Qc 36 35, Qd 37 1 36 true, Qg 38 (.bin .leq (.t 37) (Ki 126)) 36 true, Q 39 (.pick (.t 36) (.t 38) 
 KF)]) (.cond (.t 39) (.seq (.reg [Qc 40 1, Q 41 (.cvI .i32 (.t 40)), Q 42 (.i2s (.t 41)), Qa 4 42]) .ret) .skip)) (.seq (.reg [Qx 4 (.k (.d (.str [])))]) .ret)))))))
def R_font_text : List LRes := [.tmp 4]
theorem lift_font_text : Lifts Tryd.prog 31 43 L_font_text R_font_text := ⟨_, _, Tryd.func31, rfl, by kernel_rfl, by kernel_rfl, rfl⟩
theorem ftext_call (x : Fnt) (hx : x.ok) (c : Int) (hc : 0 ≤ c ∧ c ≤ 65535) : PCall Tryd.prog 31 [x.d, .int .i64 c] (fun r => r = .one (.str (fTextM x c))) := by
 refine lift_font_text.call rfl ?_
 unfold fTextM
 simp (maxSteps := 2000000) only [go_sem, ↓reduceIte, L_font_text, R_font_text, Fnt.d]
 refine CallG.of (text_call x.cs c hx.cs (by omega) hx.cl) ?_
 cases hcm : codeM x.cs c with
 | some t =>
  simp only [onRes]
  simp (maxSteps := 2000000) only [go_sem, ↓reduceIte]
 | none =>
  simp only [onRes]
  cases hw : x.wide with
  | true =>
   simp (maxSteps := 2000000) only [go_sem, ↓reduceIte]
  | false =>
   simp (maxSteps := 2000000) only [go_sem, ↓reduceIte]
   refine PrimG.lookup (kd := .int .i64) (key := .int .i64 c) (zero := .str []) rfl rfl mapIS intT rfl (iKeys_kind _) strZ' ?_
   rw [assoc_n]
   cases ha : assoc x.ns c with
   | some n =>
    obtain ⟨p, p1, p2⟩ := assoc_mem ha
    have hnl := hx.nl p p1
    rw [p2] at hnl
    simp only [Option.map_some, Option.getD_some, Option.isSome_some]
    simp (maxSteps := 2000000) only [go_sem, ↓reduceIte]
    refine CallG.of (glyph_call n hnl) ?_
    cases glyphM n <;> (simp only [onRes]; simp (maxSteps := 2000000) only [go_sem, ↓reduceIte]) <;> rfl
   | none =>
    simp only [Option.map_none, Option.getD_none, Option.isSome_none]
    obtain ⟨m, rfl⟩ := Int.eq_ofNat_of_zero_le hc.1
    have hw32 : IntKind.i32.wrap (m : Int) = (m : Int) := by rw [IntWalk.i32_in _ (by omega)]
    by_cases h1 : (32 : Int) ≤ m
    ·have z1 := eq_true h1
     by_cases h2 : (m : Int) ≤ 126
     ·have z2 := eq_true h2
      have he := ascii_enc (c := m) (by omega)
      simp (maxSteps := 2000000) (disch := omega) only [go_sem, ↓reduceIte, z1, z2, hw32, he]
      rfl
     ·have z2 := eq_false h2
      simp (maxSteps := 2000000) (disch := omega) only [go_sem, ↓reduceIte, z1, z2]
    ·have z1 := eq_false h1
     simp (maxSteps := 2000000) (disch := omega) only [go_sem, ↓reduceIte, z1]
structure Sgn where
 code : Int
 width : Int
 text : List UInt8
def Sgn.d (x : Sgn) : D := .agg [.int .i64 x.code, .int .i64 x.width, .str x.text]
def sgnsD (l : List Sgn) : List D := l.map Sgn.d
theorem sgnsD_length (l : List Sgn) : (sgnsD l).length = l.length := by simp [sgnsD]
theorem sgnsD_get (l : List Sgn) (j : Nat) : (sgnsD l)[j]? = (l[j]?).map Sgn.d := by simp [sgnsD]
theorem sgnsD_append (a b : List Sgn) : sgnsD (a ++ b) = sgnsD a ++ sgnsD b := by simp [sgnsD]
def sgnM (x : Fnt) (c : Int) : Sgn := ⟨c, (assoc x.ws c).getD x.miss, fTextM x c⟩
def sgns1 (x : Fnt) (s : List UInt8) : List Sgn := s.map fun c => sgnM x c.toNat
def sgns2 (x : Fnt) : List UInt8 → List Sgn
 | a :: b :: r => sgnM x (256 * (a.toNat : Int) + b.toNat) :: sgns2 x r
 | _ => []
def signsM (x : Fnt) (s : List UInt8) : Option (List Sgn) := if x.wide = true then (if s.length % 2 = 0 then some (sgns2 x s) else none) else some (sgns1 x s)
def signsRes (o : Option (List Sgn)) : Res := match o with
 | some l => .tup [.list (sgnsD l), errD 0]
 | none => .tup [.list [], errD 4]
def signsResR (o : Option (List Sgn)) : Res := match o with
 | some l => .tup [.list (sgnsD l), .int .i64 0]
 | none => .tup [.list [], .int .i64 4]
theorem sgns2_app (x : Fnt) (a b : UInt8) : ∀ p : List UInt8, p.length % 2 = 0 → sgns2 x (p ++ [a, b]) = sgns2 x p ++ [sgnM x (256 * (a.toNat : Int) + b.toNat)]
 | [], _ => rfl
 | [c], h => by simp at h
 | c :: d :: r, h => by
  have := sgns2_app x a b r (by simp at h; omega)
  simp only [List.cons_append, sgns2, this]
theorem sgns2_len (x : Fnt) : ∀ p : List UInt8, (sgns2 x p).length ≤ p.length
 | [] => by simp [sgns2]
 | [c] => by simp [sgns2]
 | c :: d :: r => by have := sgns2_len x r; simp only [sgns2, List.length_cons]; omega
def L_font_Signs : LCode :=
 .seq (.reg [⟨some 2, .box (.t 0), none⟩, ⟨some 4, .nils 56 3, none⟩, Qx 5 (.k (.d .nil))]) (.seq (.reg [Qx 6 (Ki 1)]) (.seq (.seq (.reg [Q 12 (.fa 0 (.t 2)), Q 13 (.ld false 1 (.t 
 12))]) (.cond (.t 13) (.reg [Qx 6 (Ki 2)]) .skip)) (.seq (.seq (.reg [Qc 14 1, Q 15 (.len true (.t 14)), Qc 16 6, Q 17 (.bin .rem (.t 15) (.t 16)), Q 18 (.bin .gtr (.t 17) (Ki 
 0))]) (.cond (.t 18) (.seq (.reg [Q 19 (.mkI 65 (Ki 4)), ⟨some 4, .nils 56 3, none⟩, Qa 5 19]) .ret) .skip)) (.seq (.reg [⟨some 7, .nils 56 3, none⟩]) (.seq (.seq (.reg [Qx 8 (Ki 
 0)]) (.block 0 (.loop (.seq (.seq (.reg [Qc 20 8, Qc 21 1, Q 22 (.len true (.t 21)), Q 23 (.bin .lss (.t 20) (.t 22))]) (.cond (.t 23) .skip (.exit 0))) (.seq (.block 1 (.seq 
 (.reg [Qc 27 1, Qc 28 8, Q 29 (.idxS (.t 27) (.t 28)), Q 30 (.cvI .i64 (.t 29)), Qa 9 30]) (.seq (.seq (.reg [Q 31 (.fa 0 (.t 2)), Q 32 (.ld false 1 (.t 31))]) (.cond (.t 32) 
 (.reg [Qc 33 9, Q 34 (.bin .mul (Ki 256) (.t 33)), Qc 35 1, Qc 36 8, Q 37 (.bin .add (.t 36) (Ki 1)), Q 38 (.idxS (.t 35) (.t 37)), Q 39 (.cvI .i64 (.t 38)), Q 40 (.bin .add (.t 
 34) (.t 39)), Qa 9 40]) .skip)) (.seq (.reg [Q 42 (.fa 1 (.t 2)), Q 43 (.ld false 1 (.t 42)), Qc 44 9, ⟨some 45, .prim (.lookup 22 true) [.t 43, .t 44] [], none⟩, Qc 41 45, Q 46 
 (.ext 0 (.t 41)), Q 47 (.ext 1 (.t 41)), Qa 10 46, Qa 11 47]) (.seq (.seq (.reg [Qc 48 11, Q 49 (.not (.t 48))]) (.cond (.t 49) (.reg [Q 50 (.fa 2 (.t 2)), Q 51 (.ld false 1 (.t 
 50)), Qa 10 51]) .skip)) (.reg [Qc 52 7, Qc 53 9, Qc 54 10, Q 55 (.ld true 5 (.t 2)), Qc 56 9, ⟨some 57, .call 31 [.t 55, .t 56], none⟩, Q 58 (.bld [(0, 1), (1, 1), (2, 1)] [.int 
 .i64 0, .int .i64 0, .str []] [] [(0, .t 53), (1, .t 54), (2, .t 57)]), ⟨some 59, .bsl 56 3 [.t 58], none⟩, ⟨some 60, .app 56 3 32 false (.t 52) (.t 59), none⟩, Qa 7 60])))))) 
 (.reg [Qc 24 8, Qc 25 6, Q 26 (.bin .add (.t 24) (.t 25)), Qa 8 26])))))) (.seq (.reg [Qc 61 7, Qa 4 61, Qx 5 (.k (.d .nil))]) .ret))))))
def R_font_Signs : List LRes := [.tmp 4, .tmp 5]
theorem lift_font_Signs : Lifts Tryd.prog 12 62 L_font_Signs R_font_Signs := ⟨_, _, Tryd.func12, rfl, by kernel_rfl, by kernel_rfl, rfl⟩
theorem signs_call (x : Fnt) (hx : x.ok) (s : List UInt8) (hs : s.length ≤ 1000000) : PCall Tryd.prog 12 [x.d, .str s] (fun r => r = signsRes (signsM x s)) := by
 refine lift_font_Signs.call rfl ?_
 unfold signsM
 cases hw : x.wide with
 | true =>
  have hxd : x.d = .agg [.bool true, .map (iKeys x.ws) (wVals x.ws), .int .i64 x.miss, .map (iKeys x.ns) (nVals x.ns), .list (spansD x.cs)] := by unfold Fnt.d; rw [hw]
  simp only [if_true]
  have zm : Int.tmod (s.length : Int) 2 = ((s.length % 2 : Nat) : Int) := rfl
  by_cases h2 : s.length % 2 = 0
  ·rw [if_pos h2]
   have z2 : (0 < ((s.length % 2 : Nat) : Int)) = False := eq_false (by omega)
   simp (maxSteps := 2000000) only [go_sem, ↓reduceIte, L_font_Signs, R_font_Signs, Fnt.d, hw, zm, z2]
   refine run_loop (fun i : Nat => ⟨[(1, .d (.str s)), (2, .ptr (.l 2) 0), (6, .d (.int .i64 2)), (7, .own (.t 7) 56 3 (sgnsD (sgns2 x (s.take i)))), (8, .d (.int .i64 i))], [(2, .cells [.d (.bool true), .d (.map (iKeys x.ws) (wVals x.ws)), .d (.int .i64 x.miss), .d (.map (iKeys x.ns) (nVals x.ns)), .d (.list (spansD x.cs))])], []⟩)
    (fun i => i ≤ s.length ∧ i % 2 = 0) (fun i => s.length - i) 0 ?_ ?_ ?_
   ·refine Weak.mk ?_ ?_ ?_ <;> simp (maxSteps := 2000000) only [go_sem, ↓reduceIte, Sub, Int.natCast_add, Int.natCast_mul, sgns2, sgnsD, List.take_zero, List.map_nil]
   ·exact ⟨Nat.zero_le _, rfl⟩
   ·rintro i ⟨hi, hm⟩
    simp (maxSteps := 2000000) only [go_sem, ↓reduceIte]
    refine ⟨fun hlt => ?_, fun hge => ?_⟩
    ·obtain ⟨a, ha⟩ := get_some (l := s) (i := i) (by omega)
     have ha8 := u8_lt a
     obtain ⟨b, hb⟩ := get_some (l := s) (i := i + 1) (by omega)
     have hb8 := u8_lt b
     have hb' : getI s ((i : Int) + 1) = some b := by rw [getI_add1]; exact hb
     have htl : (s.take i).length = i := by rw [List.length_take]; omega
     have hnext : sgns2 x (s.take (i + 2)) = sgns2 x (s.take i) ++ [sgnM x (256 * (a.toNat : Int) + b.toNat)] := by
      rw [show i + 2 = (i + 1) + 1 by omega, List.take_add_one, List.take_add_one, ha, hb]
      simp only [Option.toList_some, List.append_assoc, List.cons_append, List.nil_append]
      exact sgns2_app x a b (s.take i) (by rw [htl]; exact hm)
     have hl1 := sgns2_len x (s.take i)
     simp (maxSteps := 2000000) (disch := omega) only [go_sem, ↓reduceIte, getI_nat, ha, hb']
     have hsl := sgnsD_length (sgns2 x (s.take i))
     refine PrimG.lookup (kd := .int .i64) (key := .int .i64 (256 * (a.toNat : Int) + b.toNat)) (zero := .int .i64 0) rfl rfl mapII intT rfl (iKeys_kind _) intZ' ?_
     rw [assoc_w]
     have fin : ∀ w : Int, (assoc x.ws (256 * (a.toNat : Int) + b.toNat)).getD x.miss = w → sgnsD (sgns2 x (s.take i)) ++ [.agg [.int .i64 (256 * (a.toNat : Int) + b.toNat), .int .i64 w, .str (fTextM x (256 * (a.toNat : Int) + b.toNat))]] = sgnsD (sgns2 x (s.take (i + 2))) := fun w h => by
      rw [hnext, sgnsD_append]; simp only [sgnsD, List.map_cons, List.map_nil, Sgn.d, sgnM, h]
     cases hq : assoc x.ws (256 * (a.toNat : Int) + b.toNat) with
     | some w =>
      have f1 := fin w (by rw [hq]; rfl)
      simp only [Option.map_some, Option.getD_some, Option.isSome_some]
      simp (maxSteps := 2000000) (disch := omega) only [go_sem, ↓reduceIte, hw]
      have hcall := ftext_call x hx (256 * (a.toNat : Int) + b.toNat) (by omega)
      rw [hxd] at hcall
      refine CallG.of hcall ?_
      simp (maxSteps := 2000000) (disch := omega) only [go_sem, ↓reduceIte, hw, sgnsD_length]
      refine ⟨by omega, i + 2, ?_, ⟨by omega, by omega⟩, by omega⟩
      refine Weak.mk ?_ ?_ ?_ <;> simp (maxSteps := 2000000) only [go_sem, ↓reduceIte, Sub, Int.natCast_add, Int.natCast_mul, f1]
     | none =>
      have f1 := fin x.miss (by rw [hq]; rfl)
      simp only [Option.map_none, Option.getD_none, Option.isSome_none]
      simp (maxSteps := 2000000) (disch := omega) only [go_sem, ↓reduceIte, hw]
      have hcall := ftext_call x hx (256 * (a.toNat : Int) + b.toNat) (by omega)
      rw [hxd] at hcall
      refine CallG.of hcall ?_
      simp (maxSteps := 2000000) (disch := omega) only [go_sem, ↓reduceIte, hw, sgnsD_length]
      refine ⟨by omega, i + 2, ?_, ⟨by omega, by omega⟩, by omega⟩
      refine Weak.mk ?_ ?_ ?_ <;> simp (maxSteps := 2000000) only [go_sem, ↓reduceIte, Sub, Int.natCast_add, Int.natCast_mul, f1]
    ·have hi' : i = s.length := by omega
     subst hi'
     rw [List.take_length]
     rfl
  ·rw [if_neg h2]
   have z2 : (0 < ((s.length % 2 : Nat) : Int)) = True := eq_true (by omega)
   simp (maxSteps := 2000000) only [go_sem, ↓reduceIte, L_font_Signs, R_font_Signs, Fnt.d, hw, zm, z2]
   rfl
 | false =>
  have hxd : x.d = .agg [.bool false, .map (iKeys x.ws) (wVals x.ws), .int .i64 x.miss, .map (iKeys x.ns) (nVals x.ns), .list (spansD x.cs)] := by unfold Fnt.d; rw [hw]
  simp only [Bool.false_eq_true, if_false]
  have zm : Int.tmod (s.length : Int) 1 = 0 := by rw [Int.tmod_eq_emod]; simp
  simp (maxSteps := 2000000) only [go_sem, ↓reduceIte, L_font_Signs, R_font_Signs, Fnt.d, hw, zm]
  refine run_loop (fun i : Nat => ⟨[(1, .d (.str s)), (2, .ptr (.l 2) 0), (6, .d (.int .i64 1)), (7, .own (.t 7) 56 3 (sgnsD (sgns1 x (s.take i)))), (8, .d (.int .i64 i))], [(2, .cells [.d (.bool false), .d (.map (iKeys x.ws) (wVals x.ws)), .d (.int .i64 x.miss), .d (.map (iKeys x.ns) (nVals x.ns)), .d (.list (spansD x.cs))])], []⟩)
   (fun i => i ≤ s.length ∧ i % 1 = 0) (fun i => s.length - i) 0 ?_ ?_ ?_
  ·refine Weak.mk ?_ ?_ ?_ <;> simp (maxSteps := 2000000) only [go_sem, ↓reduceIte, Sub, Int.natCast_add, Int.natCast_mul, sgns1, sgnsD, List.take_zero, List.map_nil]
  ·exact ⟨Nat.zero_le _, rfl⟩
  ·rintro i ⟨hi, hm⟩
   simp (maxSteps := 2000000) only [go_sem, ↓reduceIte]
   refine ⟨fun hlt => ?_, fun hge => ?_⟩
   ·obtain ⟨a, ha⟩ := get_some (l := s) (i := i) (by omega)
    have ha8 := u8_lt a
    have hnext : sgns1 x (s.take (i + 1)) = sgns1 x (s.take i) ++ [sgnM x (a.toNat : Int)] := by
     rw [List.take_add_one, ha]; simp [sgns1]
    have hl1 : (sgns1 x (s.take i)).length ≤ i := by unfold sgns1; rw [List.length_map, List.length_take]; omega
    simp (maxSteps := 2000000) (disch := omega) only [go_sem, ↓reduceIte, getI_nat, ha]
    have hsl := sgnsD_length (sgns1 x (s.take i))
    refine PrimG.lookup (kd := .int .i64) (key := .int .i64 (a.toNat : Int)) (zero := .int .i64 0) rfl rfl mapII intT rfl (iKeys_kind _) intZ' ?_
    rw [assoc_w]
    have fin : ∀ w : Int, (assoc x.ws (a.toNat : Int)).getD x.miss = w → sgnsD (sgns1 x (s.take i)) ++ [.agg [.int .i64 (a.toNat : Int), .int .i64 w, .str (fTextM x (a.toNat : Int))]] = sgnsD (sgns1 x (s.take (i + 1))) := fun w h => by
     rw [hnext, sgnsD_append]; simp only [sgnsD, List.map_cons, List.map_nil, Sgn.d, sgnM, h]
    cases hq : assoc x.ws (a.toNat : Int) with
    | some w =>
     have f1 := fin w (by rw [hq]; rfl)
     simp only [Option.map_some, Option.getD_some, Option.isSome_some]
     simp (maxSteps := 2000000) (disch := omega) only [go_sem, ↓reduceIte, hw]
     have hcall := ftext_call x hx (a.toNat : Int) (by omega)
     rw [hxd] at hcall
     refine CallG.of hcall ?_
     simp (maxSteps := 2000000) (disch := omega) only [go_sem, ↓reduceIte, hw, sgnsD_length]
     refine ⟨by omega, i + 1, ?_, ⟨by omega, by omega⟩, by omega⟩
     refine Weak.mk ?_ ?_ ?_ <;> simp (maxSteps := 2000000) only [go_sem, ↓reduceIte, Sub, Int.natCast_add, Int.natCast_mul, f1]
    | none =>
     have f1 := fin x.miss (by rw [hq]; rfl)
     simp only [Option.map_none, Option.getD_none, Option.isSome_none]
     simp (maxSteps := 2000000) (disch := omega) only [go_sem, ↓reduceIte, hw]
     have hcall := ftext_call x hx (a.toNat : Int) (by omega)
     rw [hxd] at hcall
     refine CallG.of hcall ?_
     simp (maxSteps := 2000000) (disch := omega) only [go_sem, ↓reduceIte, hw, sgnsD_length]
     refine ⟨by omega, i + 1, ?_, ⟨by omega, by omega⟩, by omega⟩
     refine Weak.mk ?_ ?_ ?_ <;> simp (maxSteps := 2000000) only [go_sem, ↓reduceIte, Sub, Int.natCast_add, Int.natCast_mul, f1]
   ·have hi' : i = s.length := by omega
    subst hi'
    rw [List.take_length]
    rfl
end Go.Av.Tryd
set_option linter.unusedSimpArgs false
set_option maxRecDepth 100000
namespace Go.Av.Tryd
open Go.Proofs
def L_foliowrightref_SignsOf : LCode :=
 .seq (.reg [⟨some 2, .box (.t 0), none⟩, ⟨some 4, .nils 56 3, none⟩, Qx 5 (Ki 0)]) (.seq (.reg [⟨some 6, .nils 56 3, none⟩]) (.seq (.reg [Qx 7 (Ki 1)]) (.seq (.seq (.reg [Q 16 (.fa 
 0 (.t 2)), Q 17 (.ld false 1 (.t 16))]) (.cond (.t 17) (.reg [Qx 7 (Ki 2)]) .skip)) (.seq (.seq (.reg [Qc 18 1, Q 19 (.len true (.t 18)), Qc 20 7, Q 21 (.bin .rem (.t 19) (.t 
 20)), Q 22 (.bin .gtr (.t 21) (Ki 0))]) (.cond (.t 22) (.seq (.reg [⟨some 4, .nils 56 3, none⟩, Qx 5 (Ki 4)]) .ret) .skip)) (.seq (.seq (.reg [Qx 8 (Ki 0)]) (.block 0 (.loop 
 (.seq (.seq (.reg [Qc 23 8, Qc 24 1, Q 25 (.len true (.t 24)), Q 26 (.bin .lss (.t 23) (.t 25))]) (.cond (.t 26) .skip (.exit 0))) (.seq (.block 1 (.seq (.reg [Qc 30 1, Qc 31 8, 
 Q 32 (.idxS (.t 30) (.t 31)), Q 33 (.cvI .i64 (.t 32)), Qa 9 33]) (.seq (.seq (.reg [Q 34 (.fa 0 (.t 2)), Q 35 (.ld false 1 (.t 34))]) (.cond (.t 35) (.dreg [Qc 36 1, Qc 37 8, Q 
 38 (.idxS (.t 36) (.t 37)), Q 39 (.cvI .i64 (.t 38)), Q 40 (.bin .mul (Ki 256) (.t 39)), Qc 41 1, Qc 42 8, Q 43 (.bin .add (.t 42) (Ki 1)), Q 44 (.idxS (.t 41) (.t 43)), Q 45 
 (.cvI .i64 (.t 44)), Q 46 (.bin .add (.t 40) (.t 45)), Qa 9 46]) .skip)) (.seq (.reg [Q 48 (.fa 1 (.t 2)), Q 49 (.ld false 1 (.t 48)), Qc 50 9, ⟨some 51, .prim (.lookup 22 true) 
 [.t 49, .t 50] [], none⟩, Qc 47 51, Q 52 (.ext 0 (.t 47)), Q 53 (.ext 1 (.t 47)), Qa 10 52, Qa 11 53]) (.seq (.seq (.reg [Qc 54 11, Q 55 (.not (.t 54))]) (.cond (.t 55) (.reg [Q 
 56 (.fa 2 (.t 2)), Q 57 (.ld false 1 (.t 56)), Qa 10 57]) .skip)) (.seq (.reg [Q 59 (.fa 4 (.t 2)), Q 60 (.ld false 1 (.t 59)), Qc 61 9, ⟨some 62, .call 25 [.t 60, .t 61], none⟩, 
 Qc 58 62, Q 63 (.ext 0 (.t 58)), Q 64 (.ext 1 (.t 58)), Qa 12 63, Qa 13 64]) (.seq (.seq (.reg [Qc 65 13, Q 66 (.not (.t 65)), Qc 67 66, Qg 68 (.fa 0 (.t 2)) 67 true, Qg 69 (.ld 
 false 1 (.t 68)) 67 true, Qg 70 (.not (.t 69)) 67 true, Q 71 (.pick (.t 67) (.t 70) KF)]) (.cond (.t 71) (.seq (.reg [Q 73 (.fa 3 (.t 2)), Q 74 (.ld false 1 (.t 73)), Qc 75 9, 
 ⟨some 76, .prim (.lookup 23 true) [.t 74, .t 75] [], none⟩, Qc 72 76, Q 77 (.ext 0 (.t 72)), Q 78 (.ext 1 (.t 72)), Qa 14 77, Qa 15 78]) (.seq (.reg [Qc 79 15]) (.cond (.t 79) 
 (.reg [Qc 81 14, ⟨some 82, .call 11 [.t 81], none⟩, Qc 80 82, Q 83 (.ext 0 (.t 80)), Q 84 (.ext 1 (.t 80)), Qa 12 83]) (.seq (.reg [Qc 85 9, Q 86 (.bin .geq (.t 85) (Ki 32)), Qc 
 87 86, Qd 88 9 87 true, Qg 89 (.bin .lss (.t 88) (Ki 127)) 87 true, Q 90 (.pick (.t 87) (.t 89) KF)]) (.cond (.t 90) (.reg [Qc 91 9, Q 92 (.cvI .u8 (.t 91)), ⟨some 93, .bsl 5 1 
 [.t 92], none⟩, Q 94 (.b2s (.t 93)), Qa 12 94]) .skip))))) .skip)) (.reg [Qc 95 6, Qc 96 9, Qc 97 10, Qc 98 12, Q 99 (.bld [(0, 1), (1, 1), (2, 1)] [.int .i64 0, .int .i64 0, 
 .str []] [] [(0, .t 96), (1, .t 97), (2, .t 98)]), ⟨some 100, .bsl 56 3 [.t 99], none⟩, ⟨some 101, .app 56 3 32 false (.t 95) (.t 100), none⟩, Qa 6 101])))))))) (.reg [Qc 27 8, 
 Qc 28 7, Q 29 (.bin .add (.t 27) (.t 28)), Qa 8 29])))))) (.seq (.reg [Qc 102 6, Qa 4 102, Qx 5 (Ki 0)]) .ret))))))
def R_foliowrightref_SignsOf : List LRes := [.tmp 4, .tmp 5]
theorem lift_foliowrightref_SignsOf : Lifts Tryd.prog 13 103 L_foliowrightref_SignsOf R_foliowrightref_SignsOf := ⟨_, _, Tryd.func13, rfl, by kernel_rfl, by kernel_rfl, rfl⟩
set_option maxHeartbeats 1000000 in
theorem signsOf_call (x : Fnt) (hx : x.ok) (s : List UInt8) (hs : s.length ≤ 1000000) : PCall Tryd.prog 13 [x.d, .str s] (fun r => r = signsResR (signsM x s)) := by
 refine lift_foliowrightref_SignsOf.call rfl ?_
 unfold signsM
 have hcs : ∀ s ∈ x.cs, s.wf ∧ s.to - s.fr ≤ 1000000 := fun s hs => ⟨(hx.cs s hs).1, (hx.cs s hs).2.1⟩
 cases hw : x.wide with
 | true =>
  simp only [if_true]
  have zm : Int.tmod (s.length : Int) 2 = ((s.length % 2 : Nat) : Int) := rfl
  by_cases h2 : s.length % 2 = 0
  ·rw [if_pos h2]
   have z2 : (0 < ((s.length % 2 : Nat) : Int)) = False := eq_false (by omega)
   simp (maxSteps := 2000000) only [go_sem, ↓reduceIte, L_foliowrightref_SignsOf, R_foliowrightref_SignsOf, Fnt.d, hw, zm, z2]
   refine run_loop (fun i : Nat => ⟨[(1, .d (.str s)), (2, .ptr (.l 2) 0), (6, .own (.t 6) 56 3 (sgnsD (sgns2 x (s.take i)))), (7, .d (.int .i64 2)), (8, .d (.int .i64 i))], [(2, .cells [.d (.bool true), .d (.map (iKeys x.ws) (wVals x.ws)), .d (.int .i64 x.miss), .d (.map (iKeys x.ns) (nVals x.ns)), .d (.list (spansD x.cs))])], []⟩)
    (fun i => i ≤ s.length ∧ i % 2 = 0) (fun i => s.length - i) 0 ?_ ?_ ?_
   ·refine Weak.mk ?_ ?_ ?_ <;> simp (maxSteps := 2000000) only [go_sem, ↓reduceIte, Sub, Int.natCast_add, Int.natCast_mul, sgns2, sgnsD, List.take_zero, List.map_nil]
   ·exact ⟨Nat.zero_le _, rfl⟩
   ·rintro i ⟨hi, hm⟩
    simp (maxSteps := 2000000) only [go_sem, ↓reduceIte]
    refine ⟨fun hlt => ?_, fun hge => ?_⟩
    ·obtain ⟨a, ha⟩ := get_some (l := s) (i := i) (by omega)
     have ha8 := u8_lt a
     obtain ⟨b, hb⟩ := get_some (l := s) (i := i + 1) (by omega)
     have hb8 := u8_lt b
     have hb' : getI s ((i : Int) + 1) = some b := by rw [getI_add1]; exact hb
     have htl : (s.take i).length = i := by rw [List.length_take]; omega
     have hnext : sgns2 x (s.take (i + 2)) = sgns2 x (s.take i) ++ [sgnM x (256 * (a.toNat : Int) + b.toNat)] := by
      rw [show i + 2 = (i + 1) + 1 by omega, List.take_add_one, List.take_add_one, ha, hb]
      simp only [Option.toList_some, List.append_assoc, List.cons_append, List.nil_append]
      exact sgns2_app x a b (s.take i) (by rw [htl]; exact hm)
     have hl1 := sgns2_len x (s.take i)
     simp (maxSteps := 2000000) (disch := omega) only [go_sem, ↓reduceIte, getI_nat, ha, hb']
     have hsl := sgnsD_length (sgns2 x (s.take i))
     have hb2s : bytesOf [D.int .u8 (a.toNat : Int)] = some [a] := bytesOf_bytesD [a]
     refine PrimG.lookup (kd := .int .i64) (key := .int .i64 (256 * (a.toNat : Int) + b.toNat)) (zero := .int .i64 0) rfl rfl mapII intT rfl (iKeys_kind _) intZ' ?_
     rw [assoc_w]
     have fin : ∀ w u, (assoc x.ws (256 * (a.toNat : Int) + b.toNat)).getD x.miss = w → fTextM x (256 * (a.toNat : Int) + b.toNat) = u → sgnsD (sgns2 x (s.take i)) ++ [.agg [.int .i64 (256 * (a.toNat : Int) + b.toNat), .int .i64 w, .str u]] = sgnsD (sgns2 x (s.take (i + 2))) := fun w u h h' => by
      rw [hnext, sgnsD_append]; simp only [sgnsD, List.map_cons, List.map_nil, Sgn.d, sgnM, h, h']
     cases hq : assoc x.ws (256 * (a.toNat : Int) + b.toNat) with
     | some w =>
      have f1 := fun u => fin w u (by rw [hq]; rfl)
      simp only [Option.map_some, Option.getD_some, Option.isSome_some]
      have hcall := codeTextR_call x.cs (256 * (a.toNat : Int) + b.toNat) hcs (by omega) hx.cl
      simp (maxSteps := 2000000) (disch := omega) only [go_sem, ↓reduceIte, hw]
      refine CallG.of hcall ?_
      cases hcm : codeM x.cs (256 * (a.toNat : Int) + b.toNat) with
      | some u =>
       have f2 := f1 u (by unfold fTextM; rw [hcm])
       simp only [onRes]
       simp (maxSteps := 2000000) (disch := omega) only [go_sem, ↓reduceIte, hw, sgnsD_length]
       refine ⟨by omega, i + 2, ?_, ⟨by omega, by omega⟩, by omega⟩
       refine Weak.mk ?_ ?_ ?_ <;> simp (maxSteps := 2000000) only [go_sem, ↓reduceIte, Sub, Int.natCast_add, Int.natCast_mul, f2]
      | none =>
       have f2 := f1 [] (by unfold fTextM; rw [hcm]; simp only [hw, if_true])
       simp only [onRes]
       simp (maxSteps := 2000000) (disch := omega) only [go_sem, ↓reduceIte, hw, sgnsD_length]
       refine ⟨by omega, i + 2, ?_, ⟨by omega, by omega⟩, by omega⟩
       refine Weak.mk ?_ ?_ ?_ <;> simp (maxSteps := 2000000) only [go_sem, ↓reduceIte, Sub, Int.natCast_add, Int.natCast_mul, f2]
     | none =>
      have f1 := fun u => fin x.miss u (by rw [hq]; rfl)
      simp only [Option.map_none, Option.getD_none, Option.isSome_none]
      have hcall := codeTextR_call x.cs (256 * (a.toNat : Int) + b.toNat) hcs (by omega) hx.cl
      simp (maxSteps := 2000000) (disch := omega) only [go_sem, ↓reduceIte, hw]
      refine CallG.of hcall ?_
      cases hcm : codeM x.cs (256 * (a.toNat : Int) + b.toNat) with
      | some u =>
       have f2 := f1 u (by unfold fTextM; rw [hcm])
       simp only [onRes]
       simp (maxSteps := 2000000) (disch := omega) only [go_sem, ↓reduceIte, hw, sgnsD_length]
       refine ⟨by omega, i + 2, ?_, ⟨by omega, by omega⟩, by omega⟩
       refine Weak.mk ?_ ?_ ?_ <;> simp (maxSteps := 2000000) only [go_sem, ↓reduceIte, Sub, Int.natCast_add, Int.natCast_mul, f2]
      | none =>
       have f2 := f1 [] (by unfold fTextM; rw [hcm]; simp only [hw, if_true])
       simp only [onRes]
       simp (maxSteps := 2000000) (disch := omega) only [go_sem, ↓reduceIte, hw, sgnsD_length]
       refine ⟨by omega, i + 2, ?_, ⟨by omega, by omega⟩, by omega⟩
       refine Weak.mk ?_ ?_ ?_ <;> simp (maxSteps := 2000000) only [go_sem, ↓reduceIte, Sub, Int.natCast_add, Int.natCast_mul, f2]
    ·have hi' : i = s.length := by omega
     subst hi'
     rw [List.take_length]
     rfl
  ·rw [if_neg h2]
   have z2 : (0 < ((s.length % 2 : Nat) : Int)) = True := eq_true (by omega)
   simp (maxSteps := 2000000) only [go_sem, ↓reduceIte, L_foliowrightref_SignsOf, R_foliowrightref_SignsOf, Fnt.d, hw, zm, z2]
   rfl
 | false =>
  simp only [Bool.false_eq_true, if_false]
  have zm : Int.tmod (s.length : Int) 1 = 0 := by rw [Int.tmod_eq_emod]; simp
  simp (maxSteps := 2000000) only [go_sem, ↓reduceIte, L_foliowrightref_SignsOf, R_foliowrightref_SignsOf, Fnt.d, hw, zm]
  refine run_loop (fun i : Nat => ⟨[(1, .d (.str s)), (2, .ptr (.l 2) 0), (6, .own (.t 6) 56 3 (sgnsD (sgns1 x (s.take i)))), (7, .d (.int .i64 1)), (8, .d (.int .i64 i))], [(2, .cells [.d (.bool false), .d (.map (iKeys x.ws) (wVals x.ws)), .d (.int .i64 x.miss), .d (.map (iKeys x.ns) (nVals x.ns)), .d (.list (spansD x.cs))])], []⟩)
   (fun i => i ≤ s.length ∧ i % 1 = 0) (fun i => s.length - i) 0 ?_ ?_ ?_
  ·refine Weak.mk ?_ ?_ ?_ <;> simp (maxSteps := 2000000) only [go_sem, ↓reduceIte, Sub, Int.natCast_add, Int.natCast_mul, sgns1, sgnsD, List.take_zero, List.map_nil]
  ·exact ⟨Nat.zero_le _, rfl⟩
  ·rintro i ⟨hi, hm⟩
   simp (maxSteps := 2000000) only [go_sem, ↓reduceIte]
   refine ⟨fun hlt => ?_, fun hge => ?_⟩
   ·obtain ⟨a, ha⟩ := get_some (l := s) (i := i) (by omega)
    have ha8 := u8_lt a
    have hnext : sgns1 x (s.take (i + 1)) = sgns1 x (s.take i) ++ [sgnM x (a.toNat : Int)] := by
     rw [List.take_add_one, ha]; simp [sgns1]
    have hl1 : (sgns1 x (s.take i)).length ≤ i := by unfold sgns1; rw [List.length_map, List.length_take]; omega
    simp (maxSteps := 2000000) (disch := omega) only [go_sem, ↓reduceIte, getI_nat, ha]
    have hsl := sgnsD_length (sgns1 x (s.take i))
    have hb2s : bytesOf [D.int .u8 (a.toNat : Int)] = some [a] := bytesOf_bytesD [a]
    refine PrimG.lookup (kd := .int .i64) (key := .int .i64 (a.toNat : Int)) (zero := .int .i64 0) rfl rfl mapII intT rfl (iKeys_kind _) intZ' ?_
    rw [assoc_w]
    have fin : ∀ w u, (assoc x.ws (a.toNat : Int)).getD x.miss = w → fTextM x (a.toNat : Int) = u → sgnsD (sgns1 x (s.take i)) ++ [.agg [.int .i64 (a.toNat : Int), .int .i64 w, .str u]] = sgnsD (sgns1 x (s.take (i + 1))) := fun w u h h' => by
     rw [hnext, sgnsD_append]; simp only [sgnsD, List.map_cons, List.map_nil, Sgn.d, sgnM, h, h']
    cases hq : assoc x.ws (a.toNat : Int) with
    | some w =>
     have f1 := fun u => fin w u (by rw [hq]; rfl)
     simp only [Option.map_some, Option.getD_some, Option.isSome_some]
     have hcall := codeTextR_call x.cs (a.toNat : Int) hcs (by omega) hx.cl
     simp (maxSteps := 2000000) (disch := omega) only [go_sem, ↓reduceIte, hw]
     refine CallG.of hcall ?_
     cases hcm : codeM x.cs (a.toNat : Int) with
     | some u =>
      have f2 := f1 u (by unfold fTextM; rw [hcm])
      simp only [onRes]
      simp (maxSteps := 2000000) (disch := omega) only [go_sem, ↓reduceIte, hw, sgnsD_length]
      refine ⟨by omega, i + 1, ?_, ⟨by omega, by omega⟩, by omega⟩
      refine Weak.mk ?_ ?_ ?_ <;> simp (maxSteps := 2000000) only [go_sem, ↓reduceIte, Sub, Int.natCast_add, Int.natCast_mul, f2]
     | none =>
      simp only [onRes]
      simp (maxSteps := 2000000) (disch := omega) only [go_sem, ↓reduceIte, hw]
      refine PrimG.lookup (kd := .int .i64) (key := .int .i64 (a.toNat : Int)) (zero := .str []) rfl rfl mapIS intT rfl (iKeys_kind _) strZ' ?_
      rw [assoc_n]
      cases ha2 : assoc x.ns (a.toNat : Int) with
      | some n =>
       obtain ⟨p, p1, p2⟩ := assoc_mem ha2
       have hnl := hx.nl p p1
       rw [p2] at hnl
       have f3 := f1 ((glyphM n).getD []) (by unfold fTextM; rw [hcm]; simp only [hw, Bool.false_eq_true, if_false, ha2])
       simp only [Option.map_some, Option.getD_some, Option.isSome_some]
       simp (maxSteps := 2000000) (disch := omega) only [go_sem, ↓reduceIte, hw]
       refine CallG.of (glyphR_call n hnl) ?_
       cases hgl : glyphM n with
       | some g =>
        have f2 := f3
        rw [hgl, Option.getD_some] at f2
        simp only [onRes]
        simp (maxSteps := 2000000) (disch := omega) only [go_sem, ↓reduceIte, hw, sgnsD_length]
        refine ⟨by omega, i + 1, ?_, ⟨by omega, by omega⟩, by omega⟩
        refine Weak.mk ?_ ?_ ?_ <;> simp (maxSteps := 2000000) only [go_sem, ↓reduceIte, Sub, Int.natCast_add, Int.natCast_mul, f2]
       | none =>
        have f2 := f3
        rw [hgl, Option.getD_none] at f2
        simp only [onRes]
        simp (maxSteps := 2000000) (disch := omega) only [go_sem, ↓reduceIte, hw, sgnsD_length]
        refine ⟨by omega, i + 1, ?_, ⟨by omega, by omega⟩, by omega⟩
        refine Weak.mk ?_ ?_ ?_ <;> simp (maxSteps := 2000000) only [go_sem, ↓reduceIte, Sub, Int.natCast_add, Int.natCast_mul, f2]
      | none =>
       simp only [Option.map_none, Option.getD_none, Option.isSome_none]
       by_cases h1 : (32 : Int) ≤ (a.toNat : Int)
       ·have z1 := eq_true h1
        by_cases h2 : (a.toNat : Int) < 127
        ·have z2 := eq_true h2
         have f2 := f1 [a] (by unfold fTextM; rw [hcm]; simp only [hw, Bool.false_eq_true, if_false, ha2]; rw [if_pos (by omega)]; simp)
         simp (maxSteps := 2000000) (disch := omega) only [go_sem, ↓reduceIte, hw, z1, z2, sgnsD_length, hb2s]
         refine ⟨by omega, i + 1, ?_, ⟨by omega, by omega⟩, by omega⟩
         refine Weak.mk ?_ ?_ ?_ <;> simp (maxSteps := 2000000) only [go_sem, ↓reduceIte, Sub, Int.natCast_add, Int.natCast_mul, f2]
        ·have z2 := eq_false h2
         have f2 := f1 [] (by unfold fTextM; rw [hcm]; simp only [hw, Bool.false_eq_true, if_false, ha2]; rw [if_neg (by omega)])
         simp (maxSteps := 2000000) (disch := omega) only [go_sem, ↓reduceIte, hw, z1, z2, sgnsD_length]
         refine ⟨by omega, i + 1, ?_, ⟨by omega, by omega⟩, by omega⟩
         refine Weak.mk ?_ ?_ ?_ <;> simp (maxSteps := 2000000) only [go_sem, ↓reduceIte, Sub, Int.natCast_add, Int.natCast_mul, f2]
       ·have z1 := eq_false h1
        have f2 := f1 [] (by unfold fTextM; rw [hcm]; simp only [hw, Bool.false_eq_true, if_false, ha2]; rw [if_neg (by omega)])
        simp (maxSteps := 2000000) (disch := omega) only [go_sem, ↓reduceIte, hw, z1, sgnsD_length]
        refine ⟨by omega, i + 1, ?_, ⟨by omega, by omega⟩, by omega⟩
        refine Weak.mk ?_ ?_ ?_ <;> simp (maxSteps := 2000000) only [go_sem, ↓reduceIte, Sub, Int.natCast_add, Int.natCast_mul, f2]
    | none =>
     have f1 := fun u => fin x.miss u (by rw [hq]; rfl)
     simp only [Option.map_none, Option.getD_none, Option.isSome_none]
     have hcall := codeTextR_call x.cs (a.toNat : Int) hcs (by omega) hx.cl
     simp (maxSteps := 2000000) (disch := omega) only [go_sem, ↓reduceIte, hw]
     refine CallG.of hcall ?_
     cases hcm : codeM x.cs (a.toNat : Int) with
     | some u =>
      have f2 := f1 u (by unfold fTextM; rw [hcm])
      simp only [onRes]
      simp (maxSteps := 2000000) (disch := omega) only [go_sem, ↓reduceIte, hw, sgnsD_length]
      refine ⟨by omega, i + 1, ?_, ⟨by omega, by omega⟩, by omega⟩
      refine Weak.mk ?_ ?_ ?_ <;> simp (maxSteps := 2000000) only [go_sem, ↓reduceIte, Sub, Int.natCast_add, Int.natCast_mul, f2]
     | none =>
      simp only [onRes]
      simp (maxSteps := 2000000) (disch := omega) only [go_sem, ↓reduceIte, hw]
      refine PrimG.lookup (kd := .int .i64) (key := .int .i64 (a.toNat : Int)) (zero := .str []) rfl rfl mapIS intT rfl (iKeys_kind _) strZ' ?_
      rw [assoc_n]
      cases ha2 : assoc x.ns (a.toNat : Int) with
      | some n =>
       obtain ⟨p, p1, p2⟩ := assoc_mem ha2
       have hnl := hx.nl p p1
       rw [p2] at hnl
       have f3 := f1 ((glyphM n).getD []) (by unfold fTextM; rw [hcm]; simp only [hw, Bool.false_eq_true, if_false, ha2])
       simp only [Option.map_some, Option.getD_some, Option.isSome_some]
       simp (maxSteps := 2000000) (disch := omega) only [go_sem, ↓reduceIte, hw]
       refine CallG.of (glyphR_call n hnl) ?_
       cases hgl : glyphM n with
       | some g =>
        have f2 := f3
        rw [hgl, Option.getD_some] at f2
        simp only [onRes]
        simp (maxSteps := 2000000) (disch := omega) only [go_sem, ↓reduceIte, hw, sgnsD_length]
        refine ⟨by omega, i + 1, ?_, ⟨by omega, by omega⟩, by omega⟩
        refine Weak.mk ?_ ?_ ?_ <;> simp (maxSteps := 2000000) only [go_sem, ↓reduceIte, Sub, Int.natCast_add, Int.natCast_mul, f2]
       | none =>
        have f2 := f3
        rw [hgl, Option.getD_none] at f2
        simp only [onRes]
        simp (maxSteps := 2000000) (disch := omega) only [go_sem, ↓reduceIte, hw, sgnsD_length]
        refine ⟨by omega, i + 1, ?_, ⟨by omega, by omega⟩, by omega⟩
        refine Weak.mk ?_ ?_ ?_ <;> simp (maxSteps := 2000000) only [go_sem, ↓reduceIte, Sub, Int.natCast_add, Int.natCast_mul, f2]
      | none =>
       simp only [Option.map_none, Option.getD_none, Option.isSome_none]
       by_cases h1 : (32 : Int) ≤ (a.toNat : Int)
       ·have z1 := eq_true h1
        by_cases h2 : (a.toNat : Int) < 127
        ·have z2 := eq_true h2
         have f2 := f1 [a] (by unfold fTextM; rw [hcm]; simp only [hw, Bool.false_eq_true, if_false, ha2]; rw [if_pos (by omega)]; simp)
         simp (maxSteps := 2000000) (disch := omega) only [go_sem, ↓reduceIte, hw, z1, z2, sgnsD_length, hb2s]
         refine ⟨by omega, i + 1, ?_, ⟨by omega, by omega⟩, by omega⟩
         refine Weak.mk ?_ ?_ ?_ <;> simp (maxSteps := 2000000) only [go_sem, ↓reduceIte, Sub, Int.natCast_add, Int.natCast_mul, f2]
        ·have z2 := eq_false h2
         have f2 := f1 [] (by unfold fTextM; rw [hcm]; simp only [hw, Bool.false_eq_true, if_false, ha2]; rw [if_neg (by omega)])
         simp (maxSteps := 2000000) (disch := omega) only [go_sem, ↓reduceIte, hw, z1, z2, sgnsD_length]
         refine ⟨by omega, i + 1, ?_, ⟨by omega, by omega⟩, by omega⟩
         refine Weak.mk ?_ ?_ ?_ <;> simp (maxSteps := 2000000) only [go_sem, ↓reduceIte, Sub, Int.natCast_add, Int.natCast_mul, f2]
       ·have z1 := eq_false h1
        have f2 := f1 [] (by unfold fTextM; rw [hcm]; simp only [hw, Bool.false_eq_true, if_false, ha2]; rw [if_neg (by omega)])
        simp (maxSteps := 2000000) (disch := omega) only [go_sem, ↓reduceIte, hw, z1, sgnsD_length]
        refine ⟨by omega, i + 1, ?_, ⟨by omega, by omega⟩, by omega⟩
        refine Weak.mk ?_ ?_ ?_ <;> simp (maxSteps := 2000000) only [go_sem, ↓reduceIte, Sub, Int.natCast_add, Int.natCast_mul, f2]
   ·have hi' : i = s.length := by omega
    subst hi'
    rw [List.take_length]
    rfl
end Go.Av.Tryd
set_option linter.unusedSimpArgs false
set_option maxRecDepth 100000
namespace Go.Av.Tryd
open Go.Proofs
def L_foliowrightref_SameSigns : LCode :=
 .seq (.reg [Qx 4 KF]) (.seq (.seq (.reg [Qc 6 0, Q 7 (.len false (.t 6)), Qc 8 1, Q 9 (.len false (.t 8)), Q 10 (.bin .neq (.t 7) (.t 9))]) (.cond (.t 10) (.seq (.reg [Qx 4 KF]) 
 .ret) .skip)) (.seq (.seq (.reg [Qx 5 (Ki 0)]) (.block 0 (.loop (.seq (.seq (.reg [Qc 11 5, Qc 12 0, Q 13 (.len false (.t 12)), Q 14 (.bin .lss (.t 11) (.t 13))]) (.cond (.t 14) 
 .skip (.exit 0))) (.seq (.block 1 (.seq (.dreg [Qc 17 0, Qc 18 5, Q 19 (.ia 3 (.t 17) (.t 18)), Q 20 (.ld true 3 (.t 19)), Qc 21 1, Qc 22 5, Q 23 (.ia 3 (.t 21) (.t 22)), Q 24 
 (.ld true 3 (.t 23)), Q 25 (.eqS true [0, 0, 2] (.t 20) (.t 24))]) (.cond (.t 25) (.seq (.reg [Qx 4 KF]) .ret) .skip))) (.reg [Qc 15 5, Q 16 (.bin .add (.t 15) (Ki 1)), Qa 5 
 16])))))) (.seq (.reg [Qx 4 KT]) .ret)))
def R_foliowrightref_SameSigns : List LRes := [.tmp 4]
theorem lift_foliowrightref_SameSigns : Lifts Tryd.prog 15 26 L_foliowrightref_SameSigns R_foliowrightref_SameSigns := ⟨_, _, Tryd.func15, rfl, by kernel_rfl, by kernel_rfl, rfl⟩
theorem sameSigns_call (l : List Sgn) (h : l.length ≤ 1000000) : PCall Tryd.prog 15 [.list (sgnsD l), .list (sgnsD l)] (fun r => r = .one (.bool true)) := by
 refine lift_foliowrightref_SameSigns.call rfl ?_
 have hI : ((sgnsD l).length : Int) = (l.length : Int) := by rw [sgnsD_length]
 simp (maxSteps := 2000000) only [go_sem, ↓reduceIte, L_foliowrightref_SameSigns, R_foliowrightref_SameSigns, hI]
 refine run_loop (fun i : Nat => ⟨[(0, .d (.list (sgnsD l))), (1, .d (.list (sgnsD l))), (5, .d (.int .i64 i))], [], []⟩)
  (fun i => i ≤ l.length) (fun i => l.length - i) 0 ?_ ?_ ?_
 ·refine weak_mk ?_ trivial
  simp (maxSteps := 2000000) only [go_sem, ↓reduceIte, Sub, Int.natCast_add, Int.natCast_mul]
 ·omega
 ·intro i hi
  simp (maxSteps := 2000000) only [go_sem, ↓reduceIte, hI]
  intro q
  obtain ⟨x, hx⟩ := get_some (l := l) (i := i) (by omega)
  simp (maxSteps := 2000000) (disch := omega) only [go_sem, ↓reduceIte, getI_nat, sgnsD_get, hx, Sgn.d]
  refine ⟨i + 1, ?_, by omega, by omega⟩
  refine weak_mk ?_ trivial
  simp (maxSteps := 2000000) only [go_sem, ↓reduceIte, Sub, Int.natCast_add, Int.natCast_mul]
def lightSpansM (l : List Span) : Bool := decide (l.length ≤ 310) && l.all fun x => decide (x.tx.length ≤ 60)
def L_foliowrightlaw_LightSpans : LCode :=
 .seq (.reg [Qx 2 KF]) (.seq (.seq (.reg [Qc 4 0, Q 5 (.len false (.t 4)), Q 6 (.bin .gtr (.t 5) (Ki 310))]) (.cond (.t 6) (.seq (.reg [Qx 2 KF]) .ret) .skip)) (.seq (.seq (.reg [Qx 
 3 (Ki 0)]) (.block 0 (.loop (.seq (.seq (.reg [Qc 7 3, Qc 8 0, Q 9 (.len false (.t 8)), Q 10 (.bin .lss (.t 7) (.t 9))]) (.cond (.t 10) .skip (.exit 0))) (.seq (.block 1 (.seq 
 (.reg [Qc 13 0, Qc 14 3, Q 15 (.ia 3 (.t 13) (.t 14)), Q 16 (.fa 2 (.t 15)), Q 17 (.ld false 1 (.t 16)), Q 18 (.len true (.t 17)), Q 19 (.bin .gtr (.t 18) (Ki 60))]) (.cond (.t 
 19) (.seq (.reg [Qx 2 KF]) .ret) .skip))) (.reg [Qc 11 3, Q 12 (.bin .add (.t 11) (Ki 1)), Qa 3 12])))))) (.seq (.reg [Qx 2 KT]) .ret)))
def R_foliowrightlaw_LightSpans : List LRes := [.tmp 2]
theorem lift_foliowrightlaw_LightSpans : Lifts Tryd.prog 20 20 L_foliowrightlaw_LightSpans R_foliowrightlaw_LightSpans := ⟨_, _, Tryd.func20, rfl, by kernel_rfl, by kernel_rfl, rfl⟩
theorem lightSpans_call (l : List Span) (hl : l.length ≤ 9223372036854775807) : PCall Tryd.prog 20 [.list (spansD l)] (fun r => r = .one (.bool (lightSpansM l))) := by
 refine lift_foliowrightlaw_LightSpans.call rfl ?_
 have hI : ((spansD l).length : Int) = (l.length : Int) := by rw [spansD_length]
 unfold lightSpansM
 by_cases h310 : l.length ≤ 310
 ·have z1 : (310 < (l.length : Int)) = False := eq_false (by omega)
  rw [decide_eq_true h310, Bool.true_and]
  generalize hR : (l.all fun x => decide (x.tx.length ≤ 60)) = R
  simp (maxSteps := 2000000) only [go_sem, ↓reduceIte, L_foliowrightlaw_LightSpans, R_foliowrightlaw_LightSpans, hI, z1]
  refine run_loop (fun i : Nat => ⟨[(0, .d (.list (spansD l))), (3, .d (.int .i64 i))], [], []⟩)
   (fun i => i ≤ l.length ∧ ((l.drop i).all fun x => decide (x.tx.length ≤ 60)) = R) (fun i => l.length - i) 0 ?_ ?_ ?_
  ·refine weak_mk ?_ trivial
   simp (maxSteps := 2000000) only [go_sem, ↓reduceIte, Sub, Int.natCast_add, Int.natCast_mul]
  ·exact ⟨Nat.zero_le _, hR⟩
  ·rintro i ⟨hi, hF⟩
   simp (maxSteps := 2000000) only [go_sem, ↓reduceIte, hI]
   refine ⟨fun hlt => ?_, fun hge => ?_⟩
   ·obtain ⟨x, hx⟩ := get_some (l := l) (i := i) (by omega)
    rw [drop_at hx, List.all_cons] at hF
    by_cases h60 : x.tx.length ≤ 60
    ·have z2 : (60 < (x.tx.length : Int)) = False := eq_false (by omega)
     rw [decide_eq_true h60, Bool.true_and] at hF
     simp (maxSteps := 2000000) (disch := omega) only [go_sem, ↓reduceIte, getI_nat, spansD_get, hx, Span.d, z2]
     refine ⟨i + 1, ?_, ⟨by omega, hF⟩, by omega⟩
     refine weak_mk ?_ trivial
     simp (maxSteps := 2000000) only [go_sem, ↓reduceIte, Sub, Int.natCast_add, Int.natCast_mul]
    ·have z2 : (60 < (x.tx.length : Int)) = True := eq_true (by omega)
     rw [decide_eq_false h60, Bool.false_and] at hF
     simp (maxSteps := 2000000) (disch := omega) only [go_sem, ↓reduceIte, getI_nat, spansD_get, hx, Span.d, z2]
     rw [← hF]
   ·have : l.drop i = [] := List.drop_eq_nil_of_le (by omega)
    rw [this] at hF
    rw [← hF]; rfl
 ·have z1 : (310 < (l.length : Int)) = True := eq_true (by omega)
  rw [decide_eq_false h310, Bool.false_and]
  simp (maxSteps := 2000000) only [go_sem, ↓reduceIte, L_foliowrightlaw_LightSpans, R_foliowrightlaw_LightSpans, hI, z1]
def okN (p : Int × List UInt8) : Bool := decide (p.2.length ≤ 100)
def lightFontM (x : Fnt) : Bool := lightSpansM x.cs && (decide (x.ws.length ≤ 400) && (decide (x.ns.length ≤ 300) && (x.ns.all okN && decide (faultM x.cs x.wide = 0))))
def pairsD (l : List (Int × List UInt8)) : List (D × D) := l.map fun p => (.int .i64 p.1, .str p.2)
theorem zip_pairs (l : List (Int × List UInt8)) : (iKeys l).zip (nVals l) = pairsD l := by
 induction l with
 | nil => rfl
 | cons p r ih => simp only [iKeys, nVals, pairsD, List.map_cons, List.zip_cons_cons] at ih ⊢; rw [ih]
theorem pairs_get (l : List (Int × List UInt8)) (i : Nat) {k v : D} (h : (pairsD l)[i]? = some (k, v)) : ∃ p, l[i]? = some p ∧ k = .int .i64 p.1 ∧ v = .str p.2 := by
 unfold pairsD at h
 rw [List.getElem?_map] at h
 cases hp : l[i]? with
 | none => rw [hp] at h; cases h
 | some p => rw [hp] at h; cases h; exact ⟨p, rfl, rfl, rfl⟩
theorem pairs_erase : ∀ (l : List (Int × List UInt8)) (i : Nat), (pairsD l).eraseIdx i = pairsD (l.eraseIdx i)
 | [], i => by simp [pairsD]
 | p :: r, 0 => by simp [pairsD]
 | p :: r, i + 1 => by have := pairs_erase r i; simp only [pairsD, List.map_cons, List.eraseIdx_cons_succ] at this ⊢; rw [this]
theorem all_erase {α : Type} (f : α → Bool) : ∀ (l : List α) (i : Nat) (p : α), l[i]? = some p → f p = true → (l.eraseIdx i).all f = l.all f
 | [], i, p, h, _ => by simp at h
 | a :: r, 0, p, h, hf => by simp at h; subst h; simp [hf]
 | a :: r, i + 1, p, h, hf => by
  have := all_erase f r i p (by simpa using h) hf
  simp only [List.eraseIdx_cons_succ, List.all_cons, this]
theorem all_not {α : Type} (f : α → Bool) {l : List α} {i : Nat} {p : α} (h : l[i]? = some p) (hf : f p = false) : l.all f = false := by
 rw [Bool.eq_false_iff]; intro h2
 have := List.all_eq_true.1 h2 p (List.mem_of_getElem? h)
 rw [hf] at this; cases this
structure Fnt.wf (x : Fnt) : Prop where
 cs : ∀ s ∈ x.cs, -9223372036854775808 ≤ s.fr ∧ s.fr ≤ 9223372036854775807 ∧ -9223372036854775808 ≤ s.to ∧ s.to ≤ 9223372036854775807
 cl : x.cs.length ≤ 9223372036854775807
def L_foliowrightlaw_LightFont : LCode :=
 .seq (.reg [⟨some 1, .box (.t 0), none⟩, Qx 2 KF]) (.seq (.seq (.reg [Q 5 (.fa 4 (.t 1)), Q 6 (.ld false 1 (.t 5)), ⟨some 7, .call 20 [.t 6], none⟩, Q 8 (.not (.t 7)), Qc 9 8, Qg 
 10 (.fa 1 (.t 1)) 9 false, Qg 11 (.ld false 1 (.t 10)) 9 false, ⟨some 12, .prim (.bi .len [22]) [.t 11] [], some (9, false)⟩, Qg 13 (.bin .gtr (.t 12) (Ki 400)) 9 false, Q 14 
 (.pick (.t 9) KT (.t 13)), Qc 15 14, Qg 16 (.fa 3 (.t 1)) 15 false, Qg 17 (.ld false 1 (.t 16)) 15 false, ⟨some 18, .prim (.bi .len [23]) [.t 17] [], some (15, false)⟩, Qg 19 
 (.bin .gtr (.t 18) (Ki 300)) 15 false, Q 20 (.pick (.t 15) KT (.t 19))]) (.cond (.t 20) (.seq (.reg [Qx 2 KF]) .ret) .skip)) (.seq (.seq (.reg [Q 21 (.fa 3 (.t 1)), Q 22 (.ld 
 false 1 (.t 21)), ⟨some 23, .prim (.range 23) [.t 22] [], none⟩]) (.block 0 (.loop (.seq (.reg [⟨some 24, .prim (.next false 0) [.t 23] [], none⟩, Q 25 (.ext 0 (.t 24))]) (.seq 
 (.cond (.t 25) .skip (.exit 0)) (.block 1 (.seq (.reg [⟨some 26, .prim .entry [.t 23] [], none⟩, Q 27 (.ext 1 (.t 26)), Qa 4 27]) (.seq (.reg [Qc 28 4, Q 29 (.len true (.t 28)), 
 Q 30 (.bin .gtr (.t 29) (Ki 100))]) (.cond (.t 30) (.seq (.reg [Qx 2 KF]) .ret) .skip))))))))) (.seq (.reg [Q 31 (.fa 4 (.t 1)), Q 32 (.ld false 1 (.t 31)), Q 33 (.fa 0 (.t 1)), 
 Q 34 (.ld false 1 (.t 33)), ⟨some 35, .call 21 [.t 32, .t 34], none⟩, Q 36 (.bin .eql (.t 35) (Ki 0)), Qa 2 36]) .ret)))
def R_foliowrightlaw_LightFont : List LRes := [.tmp 2]
theorem lift_foliowrightlaw_LightFont : Lifts Tryd.prog 9 37 L_foliowrightlaw_LightFont R_foliowrightlaw_LightFont := ⟨_, _, Tryd.func9, rfl, by kernel_rfl, by kernel_rfl, rfl⟩
theorem lightFont_call (x : Fnt) (hx : x.wf) : PCall Tryd.prog 9 [x.d] (fun r => r = .one (.bool (lightFontM x))) := by
 refine lift_foliowrightlaw_LightFont.call rfl ?_
 unfold lightFontM
 have hwl : (iKeys x.ws).length = x.ws.length := by simp [iKeys]
 have hnl : (iKeys x.ns).length = x.ns.length := by simp [iKeys]
 simp (maxSteps := 2000000) only [go_sem, ↓reduceIte, L_foliowrightlaw_LightFont, R_foliowrightlaw_LightFont, Fnt.d]
 refine CallG.of (lightSpans_call x.cs hx.cl) ?_
 cases hls : lightSpansM x.cs with
 | false =>
  simp (maxSteps := 2000000) only [go_sem, ↓reduceIte]
 | true =>
  have hcs : ∀ s ∈ x.cs, s.wf := fun s hs => by
   obtain ⟨a, b, c, d⟩ := hx.cs s hs
   unfold lightSpansM at hls
   simp only [Bool.and_eq_true, List.all_eq_true, decide_eq_true_eq] at hls
   exact ⟨a, b, c, d, by have := hls.2 s hs; omega⟩
  simp (maxSteps := 2000000) only [go_sem, ↓reduceIte]
  refine PrimG.mapLen rfl mapII ?_
  rw [hwl]
  by_cases h400 : x.ws.length ≤ 400
  ·have z1 : (400 < (x.ws.length : Int)) = False := eq_false (by omega)
   rw [decide_eq_true h400]
   simp (maxSteps := 2000000) only [go_sem, ↓reduceIte, z1]
   refine PrimG.mapLen rfl mapIS ?_
   rw [hnl]
   by_cases h300 : x.ns.length ≤ 300
   ·have z2 : (300 < (x.ns.length : Int)) = False := eq_false (by omega)
    rw [decide_eq_true h300]
    simp (maxSteps := 2000000) only [go_sem, ↓reduceIte, z2]
    refine PrimG.rangeMap rfl mapIS ?_
    rw [zip_pairs]
    generalize hR : x.ns.all okN = R
    simp (maxSteps := 2000000) only [go_sem, ↓reduceIte]
    refine run_loop (fun y : List (Int × List UInt8) × List (D × D) => ⟨[(1, .ptr (.l 1) 0), (23, .ptr (.l 23) 0)],
      [(1, .cells [.d (.bool x.wide), .d (.map (iKeys x.ws) (wVals x.ws)), .d (.int .i64 x.miss), .d (.map (iKeys x.ns) (nVals x.ns)), .d (.list (spansD x.cs))]), (23, .miter (pairsD y.1) y.2)], []⟩)
     (fun y => y.1.all okN = R) (fun y => y.1.length) (x.ns, []) ?_ ?_ ?_
    ·refine Weak.mk ?_ ?_ ?_ <;> simp (maxSteps := 2000000) only [go_sem, ↓reduceIte, Sub, Int.natCast_add, Int.natCast_mul]
    ·exact hR
    ·rintro ⟨rem, cur⟩ hF
     simp only at hF
     simp (maxSteps := 2000000) only [go_sem, ↓reduceIte]
     refine PrimG.nextMap rfl rfl (fun h0 => ?_) (fun i k v hik => ?_)
     ·have hrem : rem = [] := by cases rem with | nil => rfl | cons a r => cases h0
      subst hrem
      simp only [List.all_nil] at hF
      subst hF
      simp (maxSteps := 2000000) only [go_sem, ↓reduceIte]
      refine CallG.of (spansFault_call x.cs x.wide hcs) ?_
      simp (maxSteps := 2000000) only [go_sem, ↓reduceIte]
      have e : ((faultM x.cs x.wide : Nat) : Int) = 0 ↔ faultM x.cs x.wide = 0 := by omega
      simp only [e, Bool.true_and]
     ·obtain ⟨p, hp, rfl, rfl⟩ := pairs_get rem i hik
      rw [pairs_erase]
      simp (maxSteps := 2000000) only [go_sem, ↓reduceIte]
      refine PrimG.entryMap rfl rfl ?_
      by_cases h100 : p.2.length ≤ 100
      ·have z3 : (100 < (p.2.length : Int)) = False := eq_false (by omega)
       simp (maxSteps := 2000000) only [go_sem, ↓reduceIte, z3]
       have hlt := (List.getElem?_eq_some_iff.1 hp).1
       refine ⟨(rem.eraseIdx i, [(.int .i64 p.1, .str p.2)]), ?_, ?_, ?_⟩
       ·refine Weak.mk ?_ ?_ ?_ <;> simp (maxSteps := 2000000) only [go_sem, ↓reduceIte, Sub, Int.natCast_add, Int.natCast_mul]
       ·simp only
        rw [all_erase okN rem i p hp (by unfold okN; exact decide_eq_true h100)]; exact hF
       ·simp only
        rw [List.length_eraseIdx, if_pos hlt]; omega
      ·have z3 : (100 < (p.2.length : Int)) = True := eq_true (by omega)
       simp (maxSteps := 2000000) only [go_sem, ↓reduceIte, z3]
       rw [all_not okN hp (by unfold okN; exact decide_eq_false h100)] at hF
       rw [← hF]; rfl
   ·have z2 : (300 < (x.ns.length : Int)) = True := eq_true (by omega)
    rw [decide_eq_false h300]
    simp (maxSteps := 2000000) only [go_sem, ↓reduceIte, z2]
  ·have z1 : (400 < (x.ws.length : Int)) = True := eq_true (by omega)
   rw [decide_eq_false h400]
   simp (maxSteps := 2000000) only [go_sem, ↓reduceIte, z1]
theorem light_ok {x : Fnt} (hx : x.wf) (h : lightFontM x = true) : x.ok := by
 unfold lightFontM at h
 simp only [Bool.and_eq_true, decide_eq_true_eq] at h
 obtain ⟨h1, h2, h3, h4, h5⟩ := h
 unfold lightSpansM at h1
 simp only [Bool.and_eq_true, List.all_eq_true, decide_eq_true_eq] at h1
 obtain ⟨h6, h7⟩ := h1
 refine ⟨fun s hs => ?_, by omega, fun p hp => ?_⟩
 ·obtain ⟨a, b, c, d⟩ := hx.cs s hs
  have key : ∀ (m : Int), 0 ≤ m → m ≤ 65535 → ∀ (l : List Span) (prev : Option Int), faultsF m prev l = 0 → s ∈ l → 0 ≤ s.fr ∧ s.to ≤ 65535 ∧ ∃ rs, runesM s.tx = some rs ∧ rs ≠ [] := by
   intro m m0 m1 l
   induction l with
   | nil => intro _ _ hs; cases hs
   | cons y r ih =>
    intro prev hf hs
    simp only [faultsF] at hf
    split at hf
    ·rename_i hy
     rcases List.mem_cons.1 hs with rfl | hs
     ·unfold spanFault at hy
      split at hy
      ·cases hy
      ·split at hy
       ·cases hy
       ·rename_i q1 q2
        cases hrs : runesM s.tx with
        | none => exact absurd (.inr (.inr (.inl hrs))) q2
        | some rs =>
         refine ⟨by omega, by omega, rs, rfl, fun e => ?_⟩
         subst e
         have := (runesM_enc s.tx.length (Nat.le_refl _) hrs).1
         exact q2 (.inr (.inr (.inr (.inl this.symm))))
     ·exact ih _ hf hs
    ·rename_i hy; exact absurd hf hy
  have hf : faultsF (mostM x.wide) none x.cs = 0 := by
   unfold faultM at h5
   split at h5
   ·cases h5
   ·exact h5
  obtain ⟨k1, k2, k3⟩ := key (mostM x.wide) (by unfold mostM; split <;> omega) (by unfold mostM; split <;> omega) x.cs none hf hs
  exact ⟨⟨a, b, c, d, by have := h7 s hs; omega⟩, by omega, k3⟩
 ·have := List.all_eq_true.1 h4 p hp
  unfold okN at this
  simp only [decide_eq_true_eq] at this
  omega
def L_foliowrightlaw_glyphs : LCode :=
 .seq (.reg [Qx 0 KF]) (.seq (.reg [⟨some 4, .call 10 [.k (.d (.str [117, 110, 105, 48, 48, 52, 49]))], none⟩, Qc 3 4, Q 5 (.ext 0 (.t 3)), Q 6 (.ext 1 (.t 3)), Qa 1 5, Qa 2 6]) 
 (.seq (.reg [Qc 7 2, Qc 8 7, Qd 9 1 8 true, Qg 10 (.bin .eql (.t 9) (.k (.d (.str [65])))) 8 true, Q 11 (.pick (.t 8) (.t 10) KF), Qa 0 11]) .ret))
def R_foliowrightlaw_glyphs : List LRes := [.tmp 0]
theorem lift_foliowrightlaw_glyphs : Lifts Tryd.prog 8 12 L_foliowrightlaw_glyphs R_foliowrightlaw_glyphs := ⟨_, _, Tryd.func8, rfl, by kernel_rfl, by kernel_rfl, rfl⟩
theorem glyphs_call : PCall Tryd.prog 8 [] (fun r => r = .one (.bool true)) := by
 refine lift_foliowrightlaw_glyphs.call rfl ?_
 simp (maxSteps := 2000000) only [go_sem, ↓reduceIte, L_foliowrightlaw_glyphs, R_foliowrightlaw_glyphs]
 refine CallG.of (glyph_call [117, 110, 105, 48, 48, 52, 49] (by decide)) ?_
 have e : glyphM [117, 110, 105, 48, 48, 52, 49] = some [65] := by decide +kernel
 rw [e]
 simp only [onRes]
 simp (maxSteps := 2000000) only [go_sem, ↓reduceIte]
def L_foliowrightlaw_GlyphSays : LCode :=
 .seq (.reg [⟨some 4, .box (.t 1), none⟩, Qx 6 KF]) (.seq (.reg [⟨some 16, .call 8 [], none⟩, Qa 7 16]) (.seq (.seq (.reg [Qc 17 7, Q 18 (.not (.t 17)), Qc 19 18, Qd 20 0 19 false, 
 Qg 21 (.len true (.t 20)) 19 false, Qg 22 (.bin .gtr (.t 21) (Ki 100)) 19 false, Q 23 (.pick (.t 19) KT (.t 22)), Qc 24 23, Qg 25 (.ld true 5 (.t 4)) 24 false, ⟨some 26, .call 9 
 [.t 25], some (24, false)⟩, Qg 27 (.not (.t 26)) 24 false, Q 28 (.pick (.t 24) KT (.t 27)), Qc 29 28, Qd 30 2 29 false, Qg 31 (.len true (.t 30)) 29 false, Qg 32 (.bin .gtr (.t 
 31) (Ki 300)) 29 false, Q 33 (.pick (.t 29) KT (.t 32))]) (.cond (.t 33) (.seq (.reg [Qc 34 7, Qa 6 34]) .ret) .skip)) (.seq (.reg [Qc 36 0, ⟨some 37, .call 10 [.t 36], none⟩, Qc 
 35 37, Q 38 (.ext 0 (.t 35)), Q 39 (.ext 1 (.t 35)), Qa 8 38, Qa 9 39]) (.seq (.reg [Qc 41 0, ⟨some 42, .call 11 [.t 41], none⟩, Qc 40 42, Q 43 (.ext 0 (.t 40)), Q 44 (.ext 1 (.t 
 40)), Qa 10 43, Qa 11 44]) (.seq (.reg [Q 46 (.ld true 5 (.t 4)), Qc 47 2, ⟨some 48, .call 12 [.t 46, .t 47], none⟩, Qc 45 48, Q 49 (.ext 0 (.t 45)), Q 50 (.ext 1 (.t 45)), Qa 12 
 49, Qa 13 50]) (.seq (.reg [Q 52 (.ld true 5 (.t 4)), Qc 53 2, ⟨some 54, .call 13 [.t 52, .t 53], none⟩, Qc 51 54, Q 55 (.ext 0 (.t 51)), Q 56 (.ext 1 (.t 51)), Qa 14 55, Qa 15 
 56]) (.seq (.reg [Qc 57 8, Qc 58 10, Q 59 (.bin .eql (.t 57) (.t 58)), Qc 60 59, Qd 61 9 60 true, Qd 62 11 60 true, Qg 63 (.eqB false (.t 61) (.t 62)) 60 true, Q 64 (.pick (.t 
 60) (.t 63) KF), Qc 65 64, Qd 66 13 65 true, Qd 67 15 65 true, ⟨some 68, .call 14 [.t 66, .t 67], some (65, true)⟩, Q 69 (.pick (.t 65) (.t 68) KF), Qc 70 69, Qd 71 12 70 true, 
 Qd 72 14 70 true, ⟨some 73, .call 15 [.t 71, .t 72], some (70, true)⟩, Q 74 (.pick (.t 70) (.t 73) KF), Qa 6 74]) .ret)))))))
def R_foliowrightlaw_GlyphSays : List LRes := [.tmp 6]
theorem lift_foliowrightlaw_GlyphSays : Lifts Tryd.prog 3 75 L_foliowrightlaw_GlyphSays R_foliowrightlaw_GlyphSays := ⟨_, _, Tryd.func3, rfl, by kernel_rfl, by kernel_rfl, rfl⟩
theorem glyphSays_call (n : List UInt8) (x : Fnt) (s : List UInt8) (hx : x.wf) (hn : n.length ≤ 9223372036854775807) (hs : s.length ≤ 9223372036854775807) : PCall Tryd.prog 3 [.str n, x.d, .str s] (fun r => r = .one (.bool true)) := by
 refine lift_foliowrightlaw_GlyphSays.call rfl ?_
 have hD : x.d = .agg [.bool x.wide, .map (iKeys x.ws) (wVals x.ws), .int .i64 x.miss, .map (iKeys x.ns) (nVals x.ns), .list (spansD x.cs)] := rfl
 simp (maxSteps := 2000000) only [go_sem, ↓reduceIte, L_foliowrightlaw_GlyphSays, R_foliowrightlaw_GlyphSays, hD]
 refine CallG.of glyphs_call ?_
 by_cases h1 : n.length ≤ 100
 ·have z1 : (100 < (n.length : Int)) = False := eq_false (by omega)
  simp (maxSteps := 2000000) only [go_sem, ↓reduceIte, z1]
  have hl := lightFont_call x hx
  rw [hD] at hl
  refine CallG.of hl ?_
  cases hlf : lightFontM x with
  | false =>
   simp (maxSteps := 2000000) only [go_sem, ↓reduceIte]
  | true =>
   have ok := light_ok hx hlf
   by_cases h2 : s.length ≤ 300
   ·have z2 : (300 < (s.length : Int)) = False := eq_false (by omega)
    simp (maxSteps := 2000000) only [go_sem, ↓reduceIte, z2]
    refine CallG.of (glyph_call n (by omega)) ?_
    have hsg := signs_call x ok s (by omega)
    have hsr := signsOf_call x ok s (by omega)
    rw [hD] at hsg hsr
    have e0 : errD 0 = .nil := rfl
    have hbl : ∀ l, signsM x s = some l → l.length ≤ 300 := fun l h => by
     unfold signsM at h
     split at h
     ·split at h
      ·cases h; exact Nat.le_trans (sgns2_len x s) h2
      ·cases h
     ·cases h; unfold sgns1; rw [List.length_map]; exact h2
    cases hg : glyphM n <;> cases hq : signsM x s
    all_goals
     simp only [onRes]
     simp (maxSteps := 2000000) only [go_sem, ↓reduceIte]
     refine CallG.of (glyphR_call n (by omega)) ?_
     rw [hg]
     simp only [onRes]
     simp (maxSteps := 2000000) only [go_sem, ↓reduceIte]
     refine CallG.of hsg ?_
     rw [hq]
     simp only [signsRes]
     simp (maxSteps := 2000000) only [go_sem, ↓reduceIte]
     refine CallG.of hsr ?_
     rw [hq]
     simp only [signsResR]
     simp (maxSteps := 2000000) only [go_sem, ↓reduceIte]
    ·refine CallG.of (same_law 4 4) ?_
     simp (maxSteps := 2000000) only [go_sem, ↓reduceIte]
     refine CallG.of (sameSigns_call [] (by simp)) ?_
     simp (maxSteps := 2000000) only [go_sem, ↓reduceIte]
    ·rename_i l
     refine CallG.of (same_law 0 0) ?_
     simp (maxSteps := 2000000) only [go_sem, ↓reduceIte]
     refine CallG.of (sameSigns_call l (by have := hbl l hq; omega)) ?_
     simp (maxSteps := 2000000) only [go_sem, ↓reduceIte]
    ·refine CallG.of (same_law 4 4) ?_
     simp (maxSteps := 2000000) only [go_sem, ↓reduceIte]
     refine CallG.of (sameSigns_call [] (by simp)) ?_
     simp (maxSteps := 2000000) only [go_sem, ↓reduceIte]
    ·rename_i l
     refine CallG.of (same_law 0 0) ?_
     simp (maxSteps := 2000000) only [go_sem, ↓reduceIte]
     refine CallG.of (sameSigns_call l (by have := hbl l hq; omega)) ?_
     simp (maxSteps := 2000000) only [go_sem, ↓reduceIte]
   ·have z2 : (300 < (s.length : Int)) = True := eq_true (by omega)
    simp (maxSteps := 2000000) only [go_sem, ↓reduceIte, z2]
 ·have z1 : (100 < (n.length : Int)) = True := eq_true (by omega)
  simp (maxSteps := 2000000) only [go_sem, ↓reduceIte, z1]
end Go.Av.Tryd
