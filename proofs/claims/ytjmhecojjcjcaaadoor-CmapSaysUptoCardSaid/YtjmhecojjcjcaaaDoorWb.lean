import Derived.Test.YtjmhecojjcjcaaaDoorWa
import Derived.Test.YtjmhecojjcjcaaaDoorAvF
import Derived.Shelf.Strings.Builder1
set_option linter.unusedSimpArgs false
set_option maxRecDepth 100000
namespace Go.Av.Tryd
open Go.Proofs
def onM (s : List UInt8) (n : Nat) : Option (List UInt8) :=
 match runesM s with
 | none => none
 | some rs => if rs = [] then none else
  if 1114111 < rs.getLastD 0 + n ∨ (55295 < rs.getLastD 0 + n ∧ rs.getLastD 0 + n < 57344) ∨ (rs.getLastD 0 ≤ 55295 ∧ 57344 ≤ rs.getLastD 0 + n) then none
  else some (encM (rs.dropLast ++ [rs.getLastD 0 + n]))
def onRes (o : Option (List UInt8)) : Res := match o with
 | some t => .tup [.str t, .bool true]
 | none => .tup [.str [], .bool false]
theorem last_get {rs : List Nat} (h : rs ≠ []) : rs[rs.length - 1]? = some (rs.getLastD 0) := by
 rw [List.getLastD_eq_getLast?, List.getLast?_eq_getElem?]
 have : rs.length - 1 < rs.length := by have := List.length_pos_iff.2 h; omega
 rw [List.getElem?_eq_getElem this]; rfl
theorem set_last {rs : List Nat} (h : rs ≠ []) (x : Nat) : rs.set (rs.length - 1) x = rs.dropLast ++ [x] := by
 obtain ⟨a, b, rfl⟩ : ∃ a b, rs = a ++ [b] := ⟨rs.dropLast, rs.getLast h, (List.dropLast_concat_getLast h).symm⟩
 rw [List.dropLast_concat, List.length_append, List.set_append_right _ _ (by simp)]
 simp
theorem natsU_set (l : List Nat) (i x : Nat) : (natsU l).set i (.int .i64 x) = natsU (l.set i x) := by simp [natsU, List.map_set]
theorem natsU_one (l : List Nat) : ∀ y ∈ natsU l, y.cells = [y] := fun y hy => by
 simp only [natsU, List.mem_map] at hy
 obtain ⟨n, _, rfl⟩ := hy; rfl
theorem intRow : liftSl Tryd.prog 64 = some (3, 1, 8) := by kernel_rfl
theorem intZero : zeroOne Tryd.prog 3 = true := by kernel_rfl
theorem intSl : isSl Tryd.prog 64 = true := by kernel_rfl
def L_foliowrightref_on : LCode :=
 .seq (.reg [Qx 4 (.k (.d (.str []))), Qx 5 KF]) (.seq (.reg [Qc 12 0, ⟨some 13, .call 46 [.t 12], none⟩, Qc 11 13, Q 14 (.ext 0 (.t 11)), Q 15 (.ext 1 (.t 11)), Qa 6 14, Qa 7 15]) 
 (.seq (.seq (.reg [Qc 16 7, Q 17 (.not (.t 16)), Qc 18 17, Qd 19 6 18 false, Qg 20 (.len false (.t 19)) 18 false, Qg 21 (.bin .eql (.t 20) (Ki 0)) 18 false, Q 22 (.pick (.t 18) 
 KT (.t 21))]) (.cond (.t 22) (.seq (.reg [Qx 4 (.k (.d (.str []))), Qx 5 KF]) .ret) .skip)) (.seq (.reg [Qc 23 6, Qc 24 6, Q 25 (.len false (.t 24)), Q 26 (.bin .sub (.t 25) (Ki 
 1)), Q 27 (.ia 1 (.t 23) (.t 26)), Q 28 (.ld false 1 (.t 27)), Qa 8 28]) (.seq (.reg [Qc 29 8, Qc 30 1, Q 31 (.bin .add (.t 29) (.t 30)), Qa 9 31]) (.seq (.seq (.reg [Qc 32 9, Q 
 33 (.bin .gtr (.t 32) (Ki 1114111)), Qc 34 33, Qd 35 9 34 false, Qg 36 (.bin .gtr (.t 35) (Ki 55295)) 34 false, Qd 37 36 34 false, Qd 38 9 37 true, Qg 39 (.bin .lss (.t 38) (Ki 
 57344)) 37 true, Qg 40 (.pick (.t 37) (.t 39) KF) 34 false, Q 41 (.pick (.t 34) KT (.t 40)), Qc 42 41, Qd 43 8 42 false, Qg 44 (.bin .leq (.t 43) (Ki 55295)) 42 false, Qd 45 44 
 42 false, Qd 46 9 45 true, Qg 47 (.bin .geq (.t 46) (Ki 57344)) 45 true, Qg 48 (.pick (.t 45) (.t 47) KF) 42 false, Q 49 (.pick (.t 42) KT (.t 48))]) (.cond (.t 49) (.seq (.reg 
 [Qx 4 (.k (.d (.str []))), Qx 5 KF]) .ret) .skip)) (.seq (.reg [Qc 50 6, ⟨some 51, .prim (.bi .append [64, 64]) [.k (.d (.list [])), .t 50] [], none⟩, Qa 10 51]) (.seq (.reg [Qc 
 52 10, Qc 53 10, Q 54 (.len false (.t 53)), Q 55 (.bin .sub (.t 54) (Ki 1)), Qc 56 9, Q 57 (.ia 1 (.t 52) (.t 55)), ⟨none, .st 1 (.t 57) (.t 56), none⟩]) (.seq (.reg [Qc 58 10, 
 ⟨some 59, .call 30 [.t 58], none⟩, Qa 4 59, Qx 5 KT]) .ret))))))))
def R_foliowrightref_on : List LRes := [.tmp 4, .tmp 5]
theorem lift_foliowrightref_on : Lifts Tryd.prog 47 60 L_foliowrightref_on R_foliowrightref_on := ⟨_, _, Tryd.func47, rfl, by kernel_rfl, by kernel_rfl, rfl⟩
theorem onR_call (s : List UInt8) (n : Nat) (hs : s.length ≤ 1000000) (hn : n ≤ 1000000) : PCall Tryd.prog 47 [.str s, .int .i64 n] (fun r => r = onRes (onM s n)) := by
 refine lift_foliowrightref_on.call rfl ?_
 simp (maxSteps := 2000000) only [go_sem, ↓reduceIte, L_foliowrightref_on, R_foliowrightref_on]
 refine CallG.of (runes_call s (by omega)) ?_
 unfold onM
 cases hrs : runesM s with
 | none =>
  simp only [runesRes]
  simp (maxSteps := 2000000) only [go_sem, ↓reduceIte]
  simp [onRes]
 | some rs =>
  obtain ⟨e1, e2⟩ := runesM_enc s.length (Nat.le_refl _) hrs
  have hI : ((natsU rs).length : Int) = (rs.length : Int) := by rw [natsU_length]
  simp only [runesRes]
  by_cases h0 : rs = []
  ·subst h0
   simp (maxSteps := 2000000) only [go_sem, ↓reduceIte, natsU]
   simp [onRes]
  ·have hpos := List.length_pos_iff.2 h0
   have hlast := last_get h0
   have hlv := e2 _ (List.mem_of_getElem? hlast)
   have hle : rs.length ≤ s.length := by
    rw [← e1]
    have : ∀ l : List Nat, (∀ r ∈ l, vrune r) → l.length ≤ (encM l).length := fun l => by
     induction l with
     | nil => intro _; simp
     | cons a l ih =>
      intro h
      have h1 := (enc_len (h a (by simp))).1
      have h2 := ih fun x hx => h x (List.mem_cons_of_mem _ hx)
      have h3 : encM (a :: l) = enc a ++ encM l := rfl
      rw [h3, List.length_append, List.length_cons]; omega
    exact this rs e2
   rw [if_neg h0]
   have hd := set_last h0 (rs.getLastD 0 + n)
   generalize rs.getLastD 0 = k at *
   unfold vrune at hlv
   have z0 : ((rs.length : Int) = 0) = False := eq_false (by omega)
   have g1 : getI (natsU rs) ((rs.length : Int) - 1) = some (.int .i64 k) := by
    rw [show ((rs.length : Int) - 1) = ((rs.length - 1 : Nat) : Int) by omega, getI_nat, natsU_get, hlast]; rfl
   by_cases hb : 1114111 < k + n ∨ (55295 < k + n ∧ k + n < 57344) ∨ (k ≤ 55295 ∧ 57344 ≤ k + n)
   ·rw [if_pos hb]
    by_cases hA : 1114111 < k + n
    ·have zA : (1114111 < (k : Int) + n) = True := eq_true (by omega)
     simp (maxSteps := 2000000) (disch := omega) only [go_sem, ↓reduceIte, hI, z0, g1, zA]
     simp [onRes]
    ·by_cases hB : 55295 < k + n ∧ k + n < 57344
     ·have zA : (1114111 < (k : Int) + n) = False := eq_false (by omega)
      have zB : (55295 < (k : Int) + n) = True := eq_true (by omega)
      have zC : ((k : Int) + n < 57344) = True := eq_true (by omega)
      simp (maxSteps := 2000000) (disch := omega) only [go_sem, ↓reduceIte, hI, z0, g1, zA, zB, zC]
      simp [onRes]
     ·have zA : (1114111 < (k : Int) + n) = False := eq_false (by omega)
      have zB : (55295 < (k : Int) + n) = True := eq_true (by omega)
      have zC : ((k : Int) + n < 57344) = False := eq_false (by omega)
      have zD : ((k : Int) ≤ 55295) = True := eq_true (by omega)
      have zE : (57344 ≤ (k : Int) + n) = True := eq_true (by omega)
      simp (maxSteps := 2000000) (disch := omega) only [go_sem, ↓reduceIte, hI, z0, g1, zA, zB, zC, zD, zE]
      simp [onRes]
   ·rw [if_neg hb]
    have zA : (1114111 < (k : Int) + n) = False := eq_false (by omega)
    have hnl : (rs.dropLast ++ [k + n]).length = rs.length := by rw [← hd, List.length_set]
    have hvn : ∀ r ∈ rs.dropLast ++ [k + n], vrune r := fun r hr => by
     rcases List.mem_append.1 hr with hr | hr
     ·exact e2 r ((List.dropLast_subset _ hr))
     ·simp at hr; subst hr; unfold vrune; omega
    by_cases hB : 55295 < k + n
    ·have zB : (55295 < (k : Int) + n) = True := eq_true (by omega)
     have zC : ((k : Int) + n < 57344) = False := eq_false (by omega)
     have zE : (57344 ≤ (k : Int) + n) = True := eq_true (by omega)
     have zD : ((k : Int) ≤ 55295) = False := eq_false (by omega)
     simp (maxSteps := 2000000) (disch := omega) only [go_sem, ↓reduceIte, hI, z0, g1, zA, zB, zC, zE, zD]
     refine PrimG.appRow (fs := []) (ys := natsU rs) (c := 0) intRow intZero intSl (.inl ⟨.inr rfl, rfl⟩) rfl (by intro h; exact h0 (List.length_eq_zero_iff.1 (by rw [← natsU_length, h]; rfl))) (fun y hy => by rw [natsU_one _ y hy]; rfl) (by simp) (by simp only [List.length_nil, natsU_length, maxLen]; omega) (fun c' h1 h2 => ?_)
     have hrl : (rowC 1 (natsU rs) c').length = c' := by rw [rowC_len (fun y hy => by rw [natsU_one _ y hy]; rfl) (by simpa using h1)]; omega
     have hcl : rs.length ≤ c' := by simpa [natsU_length] using h1
     have hset : (rowC 1 (natsU rs) c').set (rs.length - 1) (.d (.int .i64 ((k : Int) + n))) = rowC 1 (natsU (rs.dropLast ++ [k + n])) c' := by
      rw [← Int.natCast_add, rowC_put (natsU_one rs) (by rw [natsU_length]; omega) rfl, natsU_set, hd]
     have hto : ((rs.length : Int) - 1).toNat = rs.length - 1 := by omega
     simp (maxSteps := 2000000) (disch := omega) only [go_sem, ↓reduceIte, hI, natsU_length, hrl, hto, Nat.mul_one, hset]
     refine ⟨by omega, by omega, CallG.cstep (CStep.frozen (k := 51) (sz := 1) (c := c') (fs := natsU (rs.dropLast ++ [k + n])) (by rw [natsU_length, hnl]; rfl) rfl (fun y hy => by rw [natsU_one _ y hy]; rfl) (by rw [natsU_length, hnl]; exact hcl) (signsR_call _ hvn (by rw [hnl]; omega)) ?_)⟩
     simp (maxSteps := 2000000) only [go_sem, ↓reduceIte]
     simp [onRes]
    ·have zB : (55295 < (k : Int) + n) = False := eq_false (by omega)
     have zE : (57344 ≤ (k : Int) + n) = False := eq_false (by omega)
     by_cases hD : k ≤ 55295
     ·have zD : ((k : Int) ≤ 55295) = True := eq_true (by omega)
      simp (maxSteps := 2000000) (disch := omega) only [go_sem, ↓reduceIte, hI, z0, g1, zA, zB, zE, zD]
      refine PrimG.appRow (fs := []) (ys := natsU rs) (c := 0) intRow intZero intSl (.inl ⟨.inr rfl, rfl⟩) rfl (by intro h; exact h0 (List.length_eq_zero_iff.1 (by rw [← natsU_length, h]; rfl))) (fun y hy => by rw [natsU_one _ y hy]; rfl) (by simp) (by simp only [List.length_nil, natsU_length, maxLen]; omega) (fun c' h1 h2 => ?_)
      have hrl : (rowC 1 (natsU rs) c').length = c' := by rw [rowC_len (fun y hy => by rw [natsU_one _ y hy]; rfl) (by simpa using h1)]; omega
      have hcl : rs.length ≤ c' := by simpa [natsU_length] using h1
      have hset : (rowC 1 (natsU rs) c').set (rs.length - 1) (.d (.int .i64 ((k : Int) + n))) = rowC 1 (natsU (rs.dropLast ++ [k + n])) c' := by
       rw [← Int.natCast_add, rowC_put (natsU_one rs) (by rw [natsU_length]; omega) rfl, natsU_set, hd]
      have hto : ((rs.length : Int) - 1).toNat = rs.length - 1 := by omega
      simp (maxSteps := 2000000) (disch := omega) only [go_sem, ↓reduceIte, hI, natsU_length, hrl, hto, Nat.mul_one, hset]
      refine ⟨by omega, by omega, CallG.cstep (CStep.frozen (k := 51) (sz := 1) (c := c') (fs := natsU (rs.dropLast ++ [k + n])) (by rw [natsU_length, hnl]; rfl) rfl (fun y hy => by rw [natsU_one _ y hy]; rfl) (by rw [natsU_length, hnl]; exact hcl) (signsR_call _ hvn (by rw [hnl]; omega)) ?_)⟩
      simp (maxSteps := 2000000) only [go_sem, ↓reduceIte]
      simp [onRes]
     ·exfalso; omega
end Go.Av.Tryd
set_option linter.unusedSimpArgs false
set_option maxRecDepth 100000
namespace Go.Av.Tryd
open Go.Proofs
structure Span where
 fr : Int
 «to» : Int
 tx : List UInt8
def Span.d (x : Span) : D := .agg [.int .i64 x.fr, .int .i64 x.to, .str x.tx]
def spansD (l : List Span) : List D := l.map Span.d
theorem spansD_length (l : List Span) : (spansD l).length = l.length := by simp [spansD]
theorem spansD_get (l : List Span) (j : Nat) : (spansD l)[j]? = (l[j]?).map Span.d := by simp [spansD]
def Span.wf (x : Span) : Prop := -9223372036854775808 ≤ x.fr ∧ x.fr ≤ 9223372036854775807 ∧ -9223372036854775808 ≤ x.to ∧ x.to ≤ 9223372036854775807 ∧ x.tx.length ≤ 1000000
def spanFault (most : Int) (prev : Option Int) (x : Span) : Nat :=
 if x.fr < 0 ∨ most < x.to then 1
 else if x.to < x.fr ∨ (∃ p, prev = some p ∧ x.fr ≤ p) ∨ runesM x.tx = none ∨ x.tx = [] ∨ 40 < x.tx.length then 3
 else if onM x.tx (x.to - x.fr).toNat = none then 3 else 0
instance (prev : Option Int) (f : Int) : Decidable (∃ p, prev = some p ∧ f ≤ p) := match prev with
 | none => .isFalse (by rintro ⟨p, h, _⟩; cases h)
 | some p => if h : f ≤ p then .isTrue ⟨p, rfl, h⟩ else .isFalse (by rintro ⟨q, h1, h2⟩; cases h1; exact h h2)
def faultsF (most : Int) : Option Int → List Span → Nat
 | _, [] => 0
 | prev, x :: r => if spanFault most prev x = 0 then faultsF most (some x.to) r else spanFault most prev x
def mostM (wide : Bool) : Int := if wide = true then 65535 else 255
def faultM (l : List Span) (wide : Bool) : Nat := if 300 < l.length then 2 else faultsF (mostM wide) none l
def prevM (l : List Span) (i : Nat) : Option Int := if i = 0 then none else (l[i - 1]?).map Span.to
theorem onR_call' (s : List UInt8) (m : Int) (hs : s.length ≤ 1000000) (h0 : 0 ≤ m) (h1 : m ≤ 1000000) : PCall Tryd.prog 47 [.str s, .int .i64 m] (fun r => r = onRes (onM s m.toNat)) := by
 obtain ⟨n, rfl⟩ := Int.eq_ofNat_of_zero_le h0
 exact onR_call s n hs (by omega)
def L_foliowrightref_SpansFault : LCode :=
 .seq (.reg [Qx 4 (Ki 0)]) (.seq (.seq (.reg [Qc 12 0, Q 13 (.len false (.t 12)), Q 14 (.bin .gtr (.t 13) (Ki 300))]) (.cond (.t 14) (.seq (.reg [Qx 4 (Ki 2)]) .ret) .skip)) (.seq 
 (.reg [Qx 5 (Ki 255)]) (.seq (.seq (.reg [Qc 15 1]) (.cond (.t 15) (.reg [Qx 5 (Ki 65535)]) .skip)) (.seq (.seq (.reg [Qx 6 (Ki 0)]) (.block 0 (.loop (.seq (.seq (.reg [Qc 16 6, 
 Qc 17 0, Q 18 (.len false (.t 17)), Q 19 (.bin .lss (.t 16) (.t 18))]) (.cond (.t 19) .skip (.exit 0))) (.seq (.block 1 (.seq (.reg [Qc 22 0, Qc 23 6, Q 24 (.ia 3 (.t 22) (.t 
 23)), Q 25 (.ld true 3 (.t 24)), ⟨some 7, .allo [.int .i64 0, .int .i64 0, .str []], none⟩, ⟨none, .st 3 (.t 7) (.t 25), none⟩]) (.seq (.seq (.reg [Q 26 (.fa 0 (.t 7)), Q 27 (.ld 
 false 1 (.t 26)), Q 28 (.bin .lss (.t 27) (Ki 0)), Qc 29 28, Qg 30 (.fa 1 (.t 7)) 29 false, Qg 31 (.ld false 1 (.t 30)) 29 false, Qd 32 5 29 false, Qg 33 (.bin .gtr (.t 31) (.t 
 32)) 29 false, Q 34 (.pick (.t 29) KT (.t 33))]) (.cond (.t 34) (.seq (.reg [Qx 4 (Ki 1)]) .ret) .skip)) (.seq (.reg [Q 36 (.fa 2 (.t 7)), Q 37 (.ld false 1 (.t 36)), ⟨some 38, 
 .call 46 [.t 37], none⟩, Qc 35 38, Q 39 (.ext 0 (.t 35)), Q 40 (.ext 1 (.t 35)), Qa 8 39, Qa 9 40]) (.seq (.seq (.dreg [Q 41 (.fa 0 (.t 7)), Q 42 (.ld false 1 (.t 41)), Q 43 (.fa 
 1 (.t 7)), Q 44 (.ld false 1 (.t 43)), Q 45 (.bin .gtr (.t 42) (.t 44)), Qc 46 45, Qd 47 6 46 false, Qg 48 (.bin .gtr (.t 47) (Ki 0)) 46 false, Qd 49 48 46 false, Qg 50 (.fa 0 
 (.t 7)) 49 true, Qg 51 (.ld false 1 (.t 50)) 49 true, Qd 52 0 49 true, Qd 53 6 49 true, Qg 54 (.bin .sub (.t 53) (Ki 1)) 49 true, Qg 55 (.ia 3 (.t 52) (.t 54)) 49 true, Qg 56 
 (.fa 1 (.t 55)) 49 true, Qg 57 (.ld false 1 (.t 56)) 49 true, Qg 58 (.bin .leq (.t 51) (.t 57)) 49 true, Qg 59 (.pick (.t 49) (.t 58) KF) 46 false, Q 60 (.pick (.t 46) KT (.t 
 59)), Qc 61 60, Qd 62 9 61 false, Qg 63 (.not (.t 62)) 61 false, Q 64 (.pick (.t 61) KT (.t 63)), Qc 65 64, Qg 66 (.fa 2 (.t 7)) 65 false, Qg 67 (.ld false 1 (.t 66)) 65 false, 
 Qg 68 (.bin .eql (.t 67) (.k (.d (.str [])))) 65 false, Q 69 (.pick (.t 65) KT (.t 68)), Qc 70 69, Qg 71 (.fa 2 (.t 7)) 70 false, Qg 72 (.ld false 1 (.t 71)) 70 false, Qg 73 
 (.len true (.t 72)) 70 false, Qg 74 (.bin .gtr (.t 73) (Ki 40)) 70 false, Q 75 (.pick (.t 70) KT (.t 74))]) (.cond (.t 75) (.seq (.reg [Qx 4 (Ki 3)]) .ret) .skip)) (.seq (.reg [Q 
 77 (.fa 2 (.t 7)), Q 78 (.ld false 1 (.t 77)), Q 79 (.fa 1 (.t 7)), Q 80 (.ld false 1 (.t 79)), Q 81 (.fa 0 (.t 7)), Q 82 (.ld false 1 (.t 81)), Q 83 (.bin .sub (.t 80) (.t 82)), 
 ⟨some 84, .call 47 [.t 78, .t 83], none⟩, Qc 76 84, Q 85 (.ext 0 (.t 76)), Q 86 (.ext 1 (.t 76)), Qa 10 85, Qa 11 86]) (.seq (.reg [Qc 87 11, Q 88 (.not (.t 87))]) (.cond (.t 88) 
 (.seq (.reg [Qx 4 (Ki 3)]) .ret) .skip)))))))) (.reg [Qc 20 6, Q 21 (.bin .add (.t 20) (Ki 1)), Qa 6 21])))))) (.seq (.reg [Qx 4 (Ki 0)]) .ret)))))
def R_foliowrightref_SpansFault : List LRes := [.tmp 4]
theorem lift_foliowrightref_SpansFault : Lifts Tryd.prog 21 89 L_foliowrightref_SpansFault R_foliowrightref_SpansFault := ⟨_, _, Tryd.func21, rfl, by kernel_rfl, by kernel_rfl, rfl⟩
theorem spansFault_call (l : List Span) (wide : Bool) (hw : ∀ x ∈ l, x.wf) : PCall Tryd.prog 21 [.list (spansD l), .bool wide] (fun r => r = .one (.int .i64 (faultM l wide))) := by
 have hI : ((spansD l).length : Int) = (l.length : Int) := by rw [spansD_length]
 refine lift_foliowrightref_SpansFault.call rfl ?_
 unfold faultM
 by_cases h300 : 300 < l.length
 ·rw [if_pos h300]
  have z : (300 < (l.length : Int)) = True := eq_true (by omega)
  simp (maxSteps := 2000000) only [go_sem, ↓reduceIte, L_foliowrightref_SpansFault, R_foliowrightref_SpansFault, hI, z]
 ·rw [if_neg h300]
  have z : (300 < (l.length : Int)) = False := eq_false (by omega)
  generalize hR : faultsF (mostM wide) none l = R
  simp (maxSteps := 2000000) only [go_sem, ↓reduceIte, L_foliowrightref_SpansFault, R_foliowrightref_SpansFault, hI, z]
  refine ⟨fun hwd => ?_, fun hwd => ?_⟩
  ·have e5 : mostM wide = 65535 := by rw [hwd]; rfl
   rw [e5] at hR
   refine run_loop (fun i : Nat => ⟨[(0, .d (.list (spansD l))), (5, .d (.int .i64 65535)), (6, .d (.int .i64 i))], [], []⟩)
    (fun i => i ≤ l.length ∧ faultsF 65535 (prevM l i) (l.drop i) = R) (fun i => l.length - i) 0 ?_ ?_ ?_
   ·refine weak_mk ?_ trivial
    simp (maxSteps := 2000000) only [go_sem, ↓reduceIte, Sub, Int.natCast_add, Int.natCast_mul]
   ·exact ⟨Nat.zero_le _, hR⟩
   ·rintro i ⟨hi, hF⟩
    simp (maxSteps := 2000000) only [go_sem, ↓reduceIte, hI]
    refine ⟨fun hlt => ?_, fun hge => ?_⟩
    ·obtain ⟨x, hx⟩ := get_some (l := l) (i := i) (by omega)
     obtain ⟨w1, w2, w3, w4, w5⟩ := hw x (List.mem_of_getElem? hx)
     rw [drop_at hx, faultsF] at hF
     have hprev : prevM l (i + 1) = some x.to := by unfold prevM; rw [if_neg (by omega), Nat.add_sub_cancel, hx]; rfl
     rw [← hprev] at hF
     have hbad : ∀ k : Nat, k ≠ 0 → spanFault 65535 (prevM l i) x = k → Res.one (.int .i64 (k : Int)) = Res.one (.int .i64 (R : Int)) := fun k h0 h => by rw [h, if_neg h0] at hF; rw [hF]
     unfold spanFault at hF hbad
     by_cases hA : x.fr < 0 ∨ 65535 < x.to
     ·have b1 := hbad 1 (by decide) (if_pos hA)
      by_cases hA1 : x.fr < 0
      ·have z1 := eq_true hA1
       simp (maxSteps := 2000000) (disch := omega) only [go_sem, ↓reduceIte, hI, getI_nat, spansD_get, hx, Span.d, z1]
       exact b1
      ·have z1 := eq_false hA1
       have z2 : (65535 < x.to) = True := eq_true (by omega)
       simp (maxSteps := 2000000) (disch := omega) only [go_sem, ↓reduceIte, hI, getI_nat, spansD_get, hx, Span.d, z1, z2]
       exact b1
     ·rw [if_neg hA] at hF
      simp only [if_neg hA] at hbad
      have z1 : (x.fr < 0) = False := eq_false (by omega)
      have z2 : (65535 < x.to) = False := eq_false (by omega)
      simp (maxSteps := 2000000) (disch := omega) only [go_sem, ↓reduceIte, hI, getI_nat, spansD_get, hx, Span.d, z1, z2]
      refine CallG.of (runes_call x.tx (by omega)) ?_
      by_cases hC : x.to < x.fr
      ·have b3 := hbad 3 (by decide) (if_pos (.inl hC))
       have z3 := eq_true hC
       cases hrs : runesM x.tx <;> (simp only [runesRes]; simp (maxSteps := 2000000) (disch := omega) only [go_sem, ↓reduceIte, z3]; exact b3)
      ·have z3 := eq_false hC
       by_cases hi0 : i = 0
       ·have z4 : (0 < (i : Int)) = False := eq_false (by omega)
        have hp : ¬ ∃ p, prevM l i = some p ∧ x.fr ≤ p := by rintro ⟨p, h1, _⟩; unfold prevM at h1; rw [if_pos hi0] at h1; cases h1
        cases hrs : runesM x.tx with
        | none =>
         have b3 := hbad 3 (by decide) (if_pos (.inr (.inr (.inl hrs))))
         simp only [runesRes]
         simp (maxSteps := 2000000) (disch := omega) only [go_sem, ↓reduceIte, hI, getI_nat, spansD_get, hx, Span.d, z3, z4]
         exact b3
        | some rs =>
         simp only [runesRes]
         by_cases h5 : x.tx = []
         ·have b3 := hbad 3 (by decide) (if_pos (.inr (.inr (.inr (.inl h5)))))
          simp (maxSteps := 2000000) (disch := omega) only [go_sem, ↓reduceIte, hI, getI_nat, spansD_get, hx, Span.d, z3, z4, h5]
          exact b3
         ·by_cases h6 : 40 < x.tx.length
          ·have b3 := hbad 3 (by decide) (if_pos (.inr (.inr (.inr (.inr h6)))))
           have z6 : (40 < (x.tx.length : Int)) = True := eq_true (by omega)
           simp (maxSteps := 2000000) (disch := omega) only [go_sem, ↓reduceIte, hI, getI_nat, spansD_get, hx, Span.d, z3, z4, h5, z6]
           exact b3
          ·have hgood : ¬ (x.to < x.fr ∨ (∃ p, prevM l i = some p ∧ x.fr ≤ p) ∨ runesM x.tx = none ∨ x.tx = [] ∨ 40 < x.tx.length) := by
            rintro (h | h | h | h | h)
            ·exact hC h
            ·exact hp h
            ·rw [hrs] at h; cases h
            ·exact h5 h
            ·exact h6 h
           rw [if_neg hgood] at hF
           simp only [if_neg hgood] at hbad
           have z6 : (40 < (x.tx.length : Int)) = False := eq_false (by omega)
           simp (maxSteps := 2000000) (disch := omega) only [go_sem, ↓reduceIte, hI, getI_nat, spansD_get, hx, Span.d, z3, z4, h5, z6]
           refine CallG.of (onR_call' x.tx (x.to - x.fr) (by omega) (by omega) (by omega)) ?_
           cases ho : onM x.tx (x.to - x.fr).toNat with
           | none =>
            have b3 := hbad 3 (by decide) (if_pos ho)
            simp only [onRes]
            simp (maxSteps := 2000000) (disch := omega) only [go_sem, ↓reduceIte]
            exact b3
           | some u =>
            simp only [onRes]
            simp only [ho, reduceCtorEq, if_false, if_true] at hF
            simp (maxSteps := 2000000) (disch := omega) only [go_sem, ↓reduceIte]
            refine ⟨i + 1, ?_, ⟨by omega, hF⟩, by omega⟩
            refine weak_mk ?_ trivial
            simp (maxSteps := 2000000) only [go_sem, ↓reduceIte, Sub, Int.natCast_add, Int.natCast_mul]
       ·have z4 : (0 < (i : Int)) = True := eq_true (by omega)
        obtain ⟨y, hy⟩ := get_some (l := l) (i := i - 1) (by omega)
        have gy : getI (spansD l) ((i : Int) - 1) = some (.agg [.int .i64 y.fr, .int .i64 y.to, .str y.tx]) := by
         rw [show ((i : Int) - 1) = ((i - 1 : Nat) : Int) by omega, getI_nat, spansD_get, hy]; rfl
        have hpv : prevM l i = some y.to := by unfold prevM; rw [if_neg hi0, hy]; rfl
        by_cases hq : x.fr ≤ y.to
        ·have b3 := hbad 3 (by decide) (if_pos (.inr (.inl ⟨y.to, hpv, hq⟩)))
         have z7 := eq_true hq
         cases hrs : runesM x.tx <;> (simp only [runesRes]; simp (maxSteps := 2000000) (disch := omega) only [go_sem, ↓reduceIte, z3, z4, gy, z7]; exact b3)
        ·have z7 := eq_false hq
         have hp : ¬ ∃ p, prevM l i = some p ∧ x.fr ≤ p := by rintro ⟨p, h1, h2⟩; rw [hpv] at h1; cases h1; exact hq h2
         cases hrs : runesM x.tx with
         | none =>
          have b3 := hbad 3 (by decide) (if_pos (.inr (.inr (.inl hrs))))
          simp only [runesRes]
          simp (maxSteps := 2000000) (disch := omega) only [go_sem, ↓reduceIte, hI, getI_nat, spansD_get, hx, Span.d, z3, z4, gy, z7]
          exact b3
         | some rs =>
          simp only [runesRes]
          by_cases h5 : x.tx = []
          ·have b3 := hbad 3 (by decide) (if_pos (.inr (.inr (.inr (.inl h5)))))
           simp (maxSteps := 2000000) (disch := omega) only [go_sem, ↓reduceIte, hI, getI_nat, spansD_get, hx, Span.d, z3, z4, gy, z7, h5]
           exact b3
          ·by_cases h6 : 40 < x.tx.length
           ·have b3 := hbad 3 (by decide) (if_pos (.inr (.inr (.inr (.inr h6)))))
            have z6 : (40 < (x.tx.length : Int)) = True := eq_true (by omega)
            simp (maxSteps := 2000000) (disch := omega) only [go_sem, ↓reduceIte, hI, getI_nat, spansD_get, hx, Span.d, z3, z4, gy, z7, h5, z6]
            exact b3
           ·have hgood : ¬ (x.to < x.fr ∨ (∃ p, prevM l i = some p ∧ x.fr ≤ p) ∨ runesM x.tx = none ∨ x.tx = [] ∨ 40 < x.tx.length) := by
             rintro (h | h | h | h | h)
             ·exact hC h
             ·exact hp h
             ·rw [hrs] at h; cases h
             ·exact h5 h
             ·exact h6 h
            rw [if_neg hgood] at hF
            simp only [if_neg hgood] at hbad
            have z6 : (40 < (x.tx.length : Int)) = False := eq_false (by omega)
            simp (maxSteps := 2000000) (disch := omega) only [go_sem, ↓reduceIte, hI, getI_nat, spansD_get, hx, Span.d, z3, z4, gy, z7, h5, z6]
            refine CallG.of (onR_call' x.tx (x.to - x.fr) (by omega) (by omega) (by omega)) ?_
            cases ho : onM x.tx (x.to - x.fr).toNat with
            | none =>
             have b3 := hbad 3 (by decide) (if_pos ho)
             simp only [onRes]
             simp (maxSteps := 2000000) (disch := omega) only [go_sem, ↓reduceIte]
             exact b3
            | some u =>
             simp only [onRes]
             simp only [ho, reduceCtorEq, if_false, if_true] at hF
             simp (maxSteps := 2000000) (disch := omega) only [go_sem, ↓reduceIte]
             refine ⟨i + 1, ?_, ⟨by omega, hF⟩, by omega⟩
             refine weak_mk ?_ trivial
             simp (maxSteps := 2000000) only [go_sem, ↓reduceIte, Sub, Int.natCast_add, Int.natCast_mul]
    ·have : l.drop i = [] := List.drop_eq_nil_of_le (by omega)
     rw [this] at hF
     simp only [faultsF] at hF
     subst hF
     rfl
  ·have e5 : mostM wide = 255 := by rw [hwd]; rfl
   rw [e5] at hR
   refine run_loop (fun i : Nat => ⟨[(0, .d (.list (spansD l))), (5, .d (.int .i64 255)), (6, .d (.int .i64 i))], [], []⟩)
    (fun i => i ≤ l.length ∧ faultsF 255 (prevM l i) (l.drop i) = R) (fun i => l.length - i) 0 ?_ ?_ ?_
   ·refine weak_mk ?_ trivial
    simp (maxSteps := 2000000) only [go_sem, ↓reduceIte, Sub, Int.natCast_add, Int.natCast_mul]
   ·exact ⟨Nat.zero_le _, hR⟩
   ·rintro i ⟨hi, hF⟩
    simp (maxSteps := 2000000) only [go_sem, ↓reduceIte, hI]
    refine ⟨fun hlt => ?_, fun hge => ?_⟩
    ·obtain ⟨x, hx⟩ := get_some (l := l) (i := i) (by omega)
     obtain ⟨w1, w2, w3, w4, w5⟩ := hw x (List.mem_of_getElem? hx)
     rw [drop_at hx, faultsF] at hF
     have hprev : prevM l (i + 1) = some x.to := by unfold prevM; rw [if_neg (by omega), Nat.add_sub_cancel, hx]; rfl
     rw [← hprev] at hF
     have hbad : ∀ k : Nat, k ≠ 0 → spanFault 255 (prevM l i) x = k → Res.one (.int .i64 (k : Int)) = Res.one (.int .i64 (R : Int)) := fun k h0 h => by rw [h, if_neg h0] at hF; rw [hF]
     unfold spanFault at hF hbad
     by_cases hA : x.fr < 0 ∨ 255 < x.to
     ·have b1 := hbad 1 (by decide) (if_pos hA)
      by_cases hA1 : x.fr < 0
      ·have z1 := eq_true hA1
       simp (maxSteps := 2000000) (disch := omega) only [go_sem, ↓reduceIte, hI, getI_nat, spansD_get, hx, Span.d, z1]
       exact b1
      ·have z1 := eq_false hA1
       have z2 : (255 < x.to) = True := eq_true (by omega)
       simp (maxSteps := 2000000) (disch := omega) only [go_sem, ↓reduceIte, hI, getI_nat, spansD_get, hx, Span.d, z1, z2]
       exact b1
     ·rw [if_neg hA] at hF
      simp only [if_neg hA] at hbad
      have z1 : (x.fr < 0) = False := eq_false (by omega)
      have z2 : (255 < x.to) = False := eq_false (by omega)
      simp (maxSteps := 2000000) (disch := omega) only [go_sem, ↓reduceIte, hI, getI_nat, spansD_get, hx, Span.d, z1, z2]
      refine CallG.of (runes_call x.tx (by omega)) ?_
      by_cases hC : x.to < x.fr
      ·have b3 := hbad 3 (by decide) (if_pos (.inl hC))
       have z3 := eq_true hC
       cases hrs : runesM x.tx <;> (simp only [runesRes]; simp (maxSteps := 2000000) (disch := omega) only [go_sem, ↓reduceIte, z3]; exact b3)
      ·have z3 := eq_false hC
       by_cases hi0 : i = 0
       ·have z4 : (0 < (i : Int)) = False := eq_false (by omega)
        have hp : ¬ ∃ p, prevM l i = some p ∧ x.fr ≤ p := by rintro ⟨p, h1, _⟩; unfold prevM at h1; rw [if_pos hi0] at h1; cases h1
        cases hrs : runesM x.tx with
        | none =>
         have b3 := hbad 3 (by decide) (if_pos (.inr (.inr (.inl hrs))))
         simp only [runesRes]
         simp (maxSteps := 2000000) (disch := omega) only [go_sem, ↓reduceIte, hI, getI_nat, spansD_get, hx, Span.d, z3, z4]
         exact b3
        | some rs =>
         simp only [runesRes]
         by_cases h5 : x.tx = []
         ·have b3 := hbad 3 (by decide) (if_pos (.inr (.inr (.inr (.inl h5)))))
          simp (maxSteps := 2000000) (disch := omega) only [go_sem, ↓reduceIte, hI, getI_nat, spansD_get, hx, Span.d, z3, z4, h5]
          exact b3
         ·by_cases h6 : 40 < x.tx.length
          ·have b3 := hbad 3 (by decide) (if_pos (.inr (.inr (.inr (.inr h6)))))
           have z6 : (40 < (x.tx.length : Int)) = True := eq_true (by omega)
           simp (maxSteps := 2000000) (disch := omega) only [go_sem, ↓reduceIte, hI, getI_nat, spansD_get, hx, Span.d, z3, z4, h5, z6]
           exact b3
          ·have hgood : ¬ (x.to < x.fr ∨ (∃ p, prevM l i = some p ∧ x.fr ≤ p) ∨ runesM x.tx = none ∨ x.tx = [] ∨ 40 < x.tx.length) := by
            rintro (h | h | h | h | h)
            ·exact hC h
            ·exact hp h
            ·rw [hrs] at h; cases h
            ·exact h5 h
            ·exact h6 h
           rw [if_neg hgood] at hF
           simp only [if_neg hgood] at hbad
           have z6 : (40 < (x.tx.length : Int)) = False := eq_false (by omega)
           simp (maxSteps := 2000000) (disch := omega) only [go_sem, ↓reduceIte, hI, getI_nat, spansD_get, hx, Span.d, z3, z4, h5, z6]
           refine CallG.of (onR_call' x.tx (x.to - x.fr) (by omega) (by omega) (by omega)) ?_
           cases ho : onM x.tx (x.to - x.fr).toNat with
           | none =>
            have b3 := hbad 3 (by decide) (if_pos ho)
            simp only [onRes]
            simp (maxSteps := 2000000) (disch := omega) only [go_sem, ↓reduceIte]
            exact b3
           | some u =>
            simp only [onRes]
            simp only [ho, reduceCtorEq, if_false, if_true] at hF
            simp (maxSteps := 2000000) (disch := omega) only [go_sem, ↓reduceIte]
            refine ⟨i + 1, ?_, ⟨by omega, hF⟩, by omega⟩
            refine weak_mk ?_ trivial
            simp (maxSteps := 2000000) only [go_sem, ↓reduceIte, Sub, Int.natCast_add, Int.natCast_mul]
       ·have z4 : (0 < (i : Int)) = True := eq_true (by omega)
        obtain ⟨y, hy⟩ := get_some (l := l) (i := i - 1) (by omega)
        have gy : getI (spansD l) ((i : Int) - 1) = some (.agg [.int .i64 y.fr, .int .i64 y.to, .str y.tx]) := by
         rw [show ((i : Int) - 1) = ((i - 1 : Nat) : Int) by omega, getI_nat, spansD_get, hy]; rfl
        have hpv : prevM l i = some y.to := by unfold prevM; rw [if_neg hi0, hy]; rfl
        by_cases hq : x.fr ≤ y.to
        ·have b3 := hbad 3 (by decide) (if_pos (.inr (.inl ⟨y.to, hpv, hq⟩)))
         have z7 := eq_true hq
         cases hrs : runesM x.tx <;> (simp only [runesRes]; simp (maxSteps := 2000000) (disch := omega) only [go_sem, ↓reduceIte, z3, z4, gy, z7]; exact b3)
        ·have z7 := eq_false hq
         have hp : ¬ ∃ p, prevM l i = some p ∧ x.fr ≤ p := by rintro ⟨p, h1, h2⟩; rw [hpv] at h1; cases h1; exact hq h2
         cases hrs : runesM x.tx with
         | none =>
          have b3 := hbad 3 (by decide) (if_pos (.inr (.inr (.inl hrs))))
          simp only [runesRes]
          simp (maxSteps := 2000000) (disch := omega) only [go_sem, ↓reduceIte, hI, getI_nat, spansD_get, hx, Span.d, z3, z4, gy, z7]
          exact b3
         | some rs =>
          simp only [runesRes]
          by_cases h5 : x.tx = []
          ·have b3 := hbad 3 (by decide) (if_pos (.inr (.inr (.inr (.inl h5)))))
           simp (maxSteps := 2000000) (disch := omega) only [go_sem, ↓reduceIte, hI, getI_nat, spansD_get, hx, Span.d, z3, z4, gy, z7, h5]
           exact b3
          ·by_cases h6 : 40 < x.tx.length
           ·have b3 := hbad 3 (by decide) (if_pos (.inr (.inr (.inr (.inr h6)))))
            have z6 : (40 < (x.tx.length : Int)) = True := eq_true (by omega)
            simp (maxSteps := 2000000) (disch := omega) only [go_sem, ↓reduceIte, hI, getI_nat, spansD_get, hx, Span.d, z3, z4, gy, z7, h5, z6]
            exact b3
           ·have hgood : ¬ (x.to < x.fr ∨ (∃ p, prevM l i = some p ∧ x.fr ≤ p) ∨ runesM x.tx = none ∨ x.tx = [] ∨ 40 < x.tx.length) := by
             rintro (h | h | h | h | h)
             ·exact hC h
             ·exact hp h
             ·rw [hrs] at h; cases h
             ·exact h5 h
             ·exact h6 h
            rw [if_neg hgood] at hF
            simp only [if_neg hgood] at hbad
            have z6 : (40 < (x.tx.length : Int)) = False := eq_false (by omega)
            simp (maxSteps := 2000000) (disch := omega) only [go_sem, ↓reduceIte, hI, getI_nat, spansD_get, hx, Span.d, z3, z4, gy, z7, h5, z6]
            refine CallG.of (onR_call' x.tx (x.to - x.fr) (by omega) (by omega) (by omega)) ?_
            cases ho : onM x.tx (x.to - x.fr).toNat with
            | none =>
             have b3 := hbad 3 (by decide) (if_pos ho)
             simp only [onRes]
             simp (maxSteps := 2000000) (disch := omega) only [go_sem, ↓reduceIte]
             exact b3
            | some u =>
             simp only [onRes]
             simp only [ho, reduceCtorEq, if_false, if_true] at hF
             simp (maxSteps := 2000000) (disch := omega) only [go_sem, ↓reduceIte]
             refine ⟨i + 1, ?_, ⟨by omega, hF⟩, by omega⟩
             refine weak_mk ?_ trivial
             simp (maxSteps := 2000000) only [go_sem, ↓reduceIte, Sub, Int.natCast_add, Int.natCast_mul]
    ·have : l.drop i = [] := List.drop_eq_nil_of_le (by omega)
     rw [this] at hF
     simp only [faultsF] at hF
     subst hF
     rfl
def L_foliowrightref_CodeText : LCode :=
 .seq (.reg [Qx 4 (.k (.d (.str []))), Qx 5 KF]) (.seq (.seq (.reg [Qx 6 (Ki 0)]) (.block 0 (.loop (.seq (.seq (.reg [Qc 7 6, Qc 8 0, Q 9 (.len false (.t 8)), Q 10 (.bin .lss (.t 7) 
 (.t 9))]) (.cond (.t 10) .skip (.exit 0))) (.seq (.block 1 (.seq (.reg [Qc 13 1, Qc 14 0, Qc 15 6, Q 16 (.ia 3 (.t 14) (.t 15)), Q 17 (.fa 0 (.t 16)), Q 18 (.ld false 1 (.t 17)), 
 Q 19 (.bin .geq (.t 13) (.t 18)), Qc 20 19, Qd 21 1 20 true, Qd 22 0 20 true, Qd 23 6 20 true, Qg 24 (.ia 3 (.t 22) (.t 23)) 20 true, Qg 25 (.fa 1 (.t 24)) 20 true, Qg 26 (.ld 
 false 1 (.t 25)) 20 true, Qg 27 (.bin .leq (.t 21) (.t 26)) 20 true, Q 28 (.pick (.t 20) (.t 27) KF)]) (.cond (.t 28) (.seq (.dreg [Qc 29 0, Qc 30 6, Q 31 (.ia 3 (.t 29) (.t 
 30)), Q 32 (.fa 2 (.t 31)), Q 33 (.ld false 1 (.t 32)), Qc 34 1, Qc 35 0, Qc 36 6, Q 37 (.ia 3 (.t 35) (.t 36)), Q 38 (.fa 0 (.t 37)), Q 39 (.ld false 1 (.t 38)), Q 40 (.bin .sub 
 (.t 34) (.t 39)), ⟨some 41, .call 47 [.t 33, .t 40], none⟩, Q 42 (.ext 0 (.t 41)), Q 43 (.ext 1 (.t 41)), Qa 4 42, Qa 5 43]) .ret) .skip))) (.reg [Qc 11 6, Q 12 (.bin .add (.t 
 11) (Ki 1)), Qa 6 12])))))) (.seq (.reg [Qx 4 (.k (.d (.str []))), Qx 5 KF]) .ret))
def R_foliowrightref_CodeText : List LRes := [.tmp 4, .tmp 5]
theorem lift_foliowrightref_CodeText : Lifts Tryd.prog 25 44 L_foliowrightref_CodeText R_foliowrightref_CodeText := ⟨_, _, Tryd.func25, rfl, by kernel_rfl, by kernel_rfl, rfl⟩
def codeM : List Span → Int → Option (List UInt8)
 | [], _ => none
 | x :: r, c => if x.fr ≤ c ∧ c ≤ x.to then onM x.tx (c - x.fr).toNat else codeM r c
theorem codeTextR_call (l : List Span) (c : Int) (hw : ∀ x ∈ l, x.wf ∧ x.to - x.fr ≤ 1000000) (hc : -9223372036854775808 ≤ c ∧ c ≤ 9223372036854775807) (hl : l.length ≤ 1000000) : PCall Tryd.prog 25 [.list (spansD l), .int .i64 c] (fun r => r = onRes (codeM l c)) := by
 have hI : ((spansD l).length : Int) = (l.length : Int) := by rw [spansD_length]
 refine lift_foliowrightref_CodeText.call rfl ?_
 generalize hR : codeM l c = R
 simp (maxSteps := 2000000) only [go_sem, ↓reduceIte, L_foliowrightref_CodeText, R_foliowrightref_CodeText, hI]
 refine run_loop (fun i : Nat => ⟨[(0, .d (.list (spansD l))), (1, .d (.int .i64 c)), (6, .d (.int .i64 i))], [], []⟩)
  (fun i => i ≤ l.length ∧ codeM (l.drop i) c = R) (fun i => l.length - i) 0 ?_ ?_ ?_
 ·refine weak_mk ?_ trivial
  simp (maxSteps := 2000000) only [go_sem, ↓reduceIte, Sub, Int.natCast_add, Int.natCast_mul]
 ·exact ⟨Nat.zero_le _, hR⟩
 ·rintro i ⟨hi, hF⟩
  simp (maxSteps := 2000000) only [go_sem, ↓reduceIte, hI]
  refine ⟨fun hlt => ?_, fun hge => ?_⟩
  ·obtain ⟨x, hx⟩ := get_some (l := l) (i := i) (by omega)
   obtain ⟨⟨w1, w2, w3, w4, w5⟩, w6⟩ := hw x (List.mem_of_getElem? hx)
   rw [drop_at hx, codeM] at hF
   by_cases hA : x.fr ≤ c ∧ c ≤ x.to
   ·rw [if_pos hA] at hF
    have z1 := eq_true hA.1
    have z2 := eq_true hA.2
    simp (maxSteps := 2000000) (disch := omega) only [go_sem, ↓reduceIte, hI, getI_nat, spansD_get, hx, Span.d, z1, z2]
    refine CallD.of (onR_call' x.tx (c - x.fr) (by omega) (by omega) (by omega)) ?_
    rw [hF]
    cases R <;> (simp only [onRes]; simp (maxSteps := 2000000) (disch := omega) only [go_sem, ↓reduceIte])
   ·rw [if_neg hA] at hF
    by_cases hA1 : x.fr ≤ c
    ·have z1 := eq_true hA1
     have z2 : (c ≤ x.to) = False := eq_false (by omega)
     simp (maxSteps := 2000000) (disch := omega) only [go_sem, ↓reduceIte, hI, getI_nat, spansD_get, hx, Span.d, z1, z2]
     refine ⟨i + 1, ?_, ⟨by omega, hF⟩, by omega⟩
     refine weak_mk ?_ trivial
     simp (maxSteps := 2000000) only [go_sem, ↓reduceIte, Sub, Int.natCast_add, Int.natCast_mul]
    ·have z1 := eq_false hA1
     simp (maxSteps := 2000000) (disch := omega) only [go_sem, ↓reduceIte, hI, getI_nat, spansD_get, hx, Span.d, z1]
     refine ⟨i + 1, ?_, ⟨by omega, hF⟩, by omega⟩
     refine weak_mk ?_ trivial
     simp (maxSteps := 2000000) only [go_sem, ↓reduceIte, Sub, Int.natCast_add, Int.natCast_mul]
  ·have : l.drop i = [] := List.drop_eq_nil_of_le (by omega)
   rw [this] at hF
   simp only [codeM] at hF
   subst hF
   rfl
abbrev ROut := Option (List Span)
def ROut.v : ROut → AV
 | none => .ns
 | some l => .own (.c (.x 0) 4) 59 3 (spansD l)
def ROut.l : ROut → List Span
 | none => []
 | some l => l
attribute [go_sem] ROut.v
inductive Bld where
 | new
 | nul
 | has (s : List UInt8)
def Bld.obj : Bld → AObj
 | .new => .cells [.nt 92, .ns]
 | .nul => .cells [.ptr (.x 0) 0, .ns]
 | .has s => .cells [.ptr (.x 0) 0, .own (.c (.x 0) 1) 5 1 (bytesD s)]
def Bld.bytes : Bld → List UInt8
 | .has s => s
 | _ => []
def L___strings_Builder__copyCheck : LCode :=
 .seq (.reg [Qc 2 0, Q 3 (.nck (.t 2)), Q 4 (.fa 0 (.t 3)), Q 5 (.ld false 1 (.t 4)), Q 6 (.eqN 1 false (.t 5))]) (.cond (.t 6) (.reg [Qc 7 0, Qc 8 0, ⟨some 9, .prim (.conv 90 118) 
 [.t 8] [], none⟩, ⟨some 10, .prim .call [.k (.fn (.func 81) [] []), .t 9] [], none⟩, ⟨some 11, .prim (.conv 118 90) [.t 10] [], none⟩, Q 12 (.nck (.t 7)), Q 13 (.fa 0 (.t 12)), 
 ⟨none, .st 1 (.t 13) (.t 11), none⟩]) (.seq (.reg [Qc 14 0, Q 15 (.nck (.t 14)), Q 16 (.fa 0 (.t 15)), Q 17 (.ld false 1 (.t 16)), Qc 18 0, ⟨some 19, .prim (.eq .neq 90) [.t 17, 
 .t 18] [], none⟩]) (.cond (.t 19) .bad .skip)))
def R___strings_Builder__copyCheck : List LRes := []
theorem lift___strings_Builder__copyCheck : Lifts Tryd.prog 67 20 L___strings_Builder__copyCheck R___strings_Builder__copyCheck := ⟨_, _, Tryd.func67, rfl, by kernel_rfl, by kernel_rfl, rfl⟩
theorem copyCheck_new : MCallE Tryd.prog 67 [.ptr (.x 0) 0] [.cells [.nt 92, .ns]] (.tuple []) [.cells [.ptr (.x 0) 0, .ns]] := by
 refine lift___strings_Builder__copyCheck.mcall (by kernel_rfl) rfl ?_
 simp (maxSteps := 2000000) only [go_sem, ↓reduceIte, L___strings_Builder__copyCheck, R___strings_Builder__copyCheck, AV.den]
 refine PrimG.toUnsafe (m := 1) rfl rfl (by decide) Tryd.underlying90 Tryd.underlying118 (by kernel_rfl) ?_
 simp (maxSteps := 2000000) only [go_sem, ↓reduceIte]
 refine PrimG.entry Tryd.func81 (by kernel_rfl) (by kernel_rfl) (by kernel_rfl) (e := Extern.AbiNoEscape.same) (by kernel_rfl) (.ptr (.x 0) 0) (fun G w vs hl hv => ?_) ?_
 ·match vs, hl with
  | [v], _ => exact ⟨v, Lib.run_noEscape w v, hv 0 _ rfl⟩
 simp (maxSteps := 2000000) only [go_sem, ↓reduceIte]
 refine PrimG.fromUnsafe (i := 0) rfl rfl rfl Tryd.underlying118 Tryd.underlying90 (m := 2) (by kernel_rfl) (by kernel_rfl) ?_
 simp (maxSteps := 2000000) only [go_sem, ↓reduceIte]
theorem info147 : ∃ j, Tryd.prog.info? 92 = some j := by
 have h : (Tryd.prog.info? 92).isSome = true := by kernel_rfl
 exact Option.isSome_iff_exists.1 h
theorem copyCheck_used (x : AV) (hx : x = .ns ∨ ∃ s, x = .own (.c (.x 0) 1) 5 1 (bytesD s)) : MCallE Tryd.prog 67 [.ptr (.x 0) 0] [.cells [.ptr (.x 0) 0, x]] (.tuple []) [.cells [.ptr (.x 0) 0, x]] := by
 obtain ⟨j, hj⟩ := info147
 have done : MCallE Tryd.prog 67 [.ptr (.x 0) 0] [.cells [.ptr (.x 0) 0, x]] (.tuple []) [.cells [.ptr (.x 0) 0, x]] := by
  refine lift___strings_Builder__copyCheck.mcall (by kernel_rfl) rfl ?_
  simp (maxSteps := 2000000) only [go_sem, ↓reduceIte, L___strings_Builder__copyCheck, R___strings_Builder__copyCheck, AV.den]
  refine PrimG.samePtr rfl rfl Tryd.underlying90 hj ?_
  simp (maxSteps := 2000000) only [go_sem, ↓reduceIte]
 exact done
def L___strings_Builder__WriteByte : LCode :=
 .seq (.reg [Qx 4 (.k (.d .nil))]) (.seq (.reg [Qc 5 0, ⟨some 6, .prim .call [.k (.fn (.func 67) [] []), .t 5] [], none⟩]) (.seq (.reg [Qc 7 0, Qc 8 0, Q 9 (.nck (.t 8)), Q 10 (.fa 
 1 (.t 9)), Q 11 (.ld false 1 (.t 10)), Qc 12 1, ⟨some 13, .bsl 5 1 [.t 12], none⟩, ⟨some 14, .app 5 1 1 false (.t 11) (.t 13), none⟩, Q 15 (.nck (.t 7)), Q 16 (.fa 1 (.t 15)), 
 ⟨none, .st 1 (.t 16) (.t 14), none⟩]) (.seq (.reg [Qx 4 (.k (.d .nil))]) .ret)))
def R___strings_Builder__WriteByte : List LRes := [.tmp 4]
theorem lift___strings_Builder__WriteByte : Lifts Tryd.prog 68 17 L___strings_Builder__WriteByte R___strings_Builder__WriteByte := ⟨_, _, Tryd.func68, rfl, by kernel_rfl, by kernel_rfl, rfl⟩
def L___strings_Builder__WriteString : LCode :=
 .seq (.reg [Qx 4 (Ki 0), Qx 5 (.k (.d .nil))]) (.seq (.reg [Qc 6 0, ⟨some 7, .prim .call [.k (.fn (.func 67) [] []), .t 6] [], none⟩]) (.seq (.reg [Qc 8 0, Qc 9 0, Q 10 (.nck (.t 
 9)), Q 11 (.fa 1 (.t 10)), Q 12 (.ld false 1 (.t 11)), Qc 13 1, ⟨some 14, .app 5 1 1 true (.t 12) (.t 13), none⟩, Q 15 (.nck (.t 8)), Q 16 (.fa 1 (.t 15)), ⟨none, .st 1 (.t 16) 
 (.t 14), none⟩]) (.seq (.reg [Qc 17 1, Q 18 (.len true (.t 17)), Qa 4 18, Qx 5 (.k (.d .nil))]) .ret)))
def R___strings_Builder__WriteString : List LRes := [.tmp 4, .tmp 5]
theorem lift___strings_Builder__WriteString : Lifts Tryd.prog 48 19 L___strings_Builder__WriteString R___strings_Builder__WriteString := ⟨_, _, Tryd.func48, rfl, by kernel_rfl, by kernel_rfl, rfl⟩
theorem writeString_call (b : Bld) (t : List UInt8) (hl : (b.bytes ++ t).length ≤ 1000000000) : MCallE Tryd.prog 48 [.ptr (.x 0) 0, .d (.str t)] [b.obj] (.tuple [.d (.int .i64 t.length), .d .nil]) [Bld.obj (.has (b.bytes ++ t))] := by
 have hbl := bytesD_length t
 cases b with
 | new =>
  refine lift___strings_Builder__WriteString.mcall (by kernel_rfl) rfl ?_
  simp (maxSteps := 2000000) only [go_sem, ↓reduceIte, L___strings_Builder__WriteString, R___strings_Builder__WriteString, AV.den, Bld.obj]
  refine PrimG.mc1 (.x 0) rfl (copyCheck_new) rfl rfl rfl rfl ⟨rfl, rfl⟩ ?_
  simp only [Bld.bytes, List.nil_append] at hl
  simp (maxSteps := 2000000) only [go_sem, ↓reduceIte, Bld.bytes, AV.den, hbl]
  omega
 | nul =>
  refine lift___strings_Builder__WriteString.mcall (by kernel_rfl) rfl ?_
  simp (maxSteps := 2000000) only [go_sem, ↓reduceIte, L___strings_Builder__WriteString, R___strings_Builder__WriteString, AV.den, Bld.obj]
  refine PrimG.mc1 (.x 0) rfl (copyCheck_used _ (.inl rfl)) rfl rfl rfl rfl ⟨rfl, rfl⟩ ?_
  simp only [Bld.bytes, List.nil_append] at hl
  simp (maxSteps := 2000000) only [go_sem, ↓reduceIte, Bld.bytes, AV.den, hbl]
  omega
 | has s =>
  have hbs := bytesD_length s
  refine lift___strings_Builder__WriteString.mcall (by kernel_rfl) rfl ?_
  simp (maxSteps := 2000000) only [go_sem, ↓reduceIte, L___strings_Builder__WriteString, R___strings_Builder__WriteString, AV.den, Bld.obj]
  refine PrimG.mc1 (.x 0) rfl (copyCheck_used _ (.inr ⟨s, rfl⟩)) rfl rfl rfl rfl ⟨rfl, rfl⟩ ?_
  simp only [Bld.bytes, List.length_append] at hl
  simp (maxSteps := 2000000) only [go_sem, ↓reduceIte, Bld.bytes, AV.den, hbl, hbs, bytesD_append]
  omega
theorem writeByte_call (b : Bld) (c : UInt8) (hl : b.bytes.length + 1 ≤ 1000000000) : MCallE Tryd.prog 68 [.ptr (.x 0) 0, .d (.int .u8 c.toNat)] [b.obj] (.d .nil) [Bld.obj (.has (b.bytes ++ [c]))] := by
 cases b with
 | new =>
  refine lift___strings_Builder__WriteByte.mcall (by kernel_rfl) rfl ?_
  simp (maxSteps := 2000000) only [go_sem, ↓reduceIte, L___strings_Builder__WriteByte, R___strings_Builder__WriteByte, AV.den, Bld.obj]
  refine PrimG.mc1 (.x 0) rfl (copyCheck_new) rfl rfl rfl rfl ⟨rfl, rfl⟩ ?_
  simp (maxSteps := 2000000) only [go_sem, ↓reduceIte, Bld.bytes, AV.den, bytesD_cons, bytesD_nil]
 | nul =>
  refine lift___strings_Builder__WriteByte.mcall (by kernel_rfl) rfl ?_
  simp (maxSteps := 2000000) only [go_sem, ↓reduceIte, L___strings_Builder__WriteByte, R___strings_Builder__WriteByte, AV.den, Bld.obj]
  refine PrimG.mc1 (.x 0) rfl (copyCheck_used _ (.inl rfl)) rfl rfl rfl rfl ⟨rfl, rfl⟩ ?_
  simp (maxSteps := 2000000) only [go_sem, ↓reduceIte, Bld.bytes, AV.den, bytesD_cons, bytesD_nil]
 | has s =>
  have hbs := bytesD_length s
  refine lift___strings_Builder__WriteByte.mcall (by kernel_rfl) rfl ?_
  simp (maxSteps := 2000000) only [go_sem, ↓reduceIte, L___strings_Builder__WriteByte, R___strings_Builder__WriteByte, AV.den, Bld.obj]
  refine PrimG.mc1 (.x 0) rfl (copyCheck_used _ (.inr ⟨s, rfl⟩)) rfl rfl rfl rfl ⟨rfl, rfl⟩ ?_
  simp only [Bld.bytes] at hl
  simp (maxSteps := 2000000) only [go_sem, ↓reduceIte, Bld.bytes, AV.den, hbs, bytesD_append, bytesD_cons, bytesD_nil]
  omega
/-! ### Builders, wherever they lie -/
def Bld.at (r : Ref) : Bld → AObj
 | .new => .cells [.nt 92, .ns]
 | .nul => .cells [.ptr r 0, .ns]
 | .has s => .cells [.ptr r 0, .own (.c r 1) 5 1 (bytesD s)]
theorem Bld.obj_at (b : Bld) : b.obj = b.at (.x 0) := by cases b <;> rfl
theorem Bld.at_ren (b : Bld) (r : Ref) : (b.at (.x 0)).ren [r] = b.at r := by cases b <;> rfl
theorem Bld.at_wf (b : Bld) : (b.at (.x 0)).wf 1 = true := by cases b <;> rfl
theorem Bld.at_loc (b : Bld) (i : Nat) : (b.at (.x i)).noLoc = true := by cases b <;> rfl
theorem Bld.bytes_has (s : List UInt8) : Bld.bytes (.has s) = s := rfl
theorem bldCall {dst : Option Nat} {f : LX} {args : List LX} {K : St → Prop} {σ : St} {g : FuncId} {first cap : List AV} {xs : List AV} {ret : AV} (r : Ref) {b b' : Bld} (hf : σ.ev f = .fn (.func g) first cap) (hc : MCallE Tryd.prog g xs [b.at (.x 0)] ret [b'.at (.x 0)])
  (hx : passQ [] 0 (first ++ (evL σ args ++ cap)) = renL [r] xs) (hwx : wfAL [] 1 0 xs = true) (ho : σ.obj r = some (b.at r)) (hr : retOK 1 ret = true)
  (hK : K (retO (({ σ with ρ := amap (AV.unown [r]) σ.ρ } : St).setObj r (b'.at r)) dst [r] ret)) : PrimG Tryd.prog dst .call (f :: args) K σ := by
 refine PrimG.mcall [r] [] hf hc hx hwx ?_ ?_ ?_ ?_ ⟨hr, ?_⟩ ?_
 ·exact ⟨by rw [Bld.at_ren]; exact ho, trivial⟩
 ·show (Bld.at (.x 0) b).wf 1 && true = true
  rw [Bld.at_wf]; rfl
 ·rfl
 ·rfl
 ·show ((Bld.at (.x 0) b').wf 1 && (isLocal r || ((Bld.at (.x 0) b').ren [r]).noLoc)) && true = true
  rw [Bld.at_wf, Bld.at_ren]
  cases r with
  | l s => rfl
  | x i => rw [Bld.at_loc]; rfl
 ·show K (retO (setObjs [r] { (eraseL σ []) with ρ := amap (AV.unown [r]) (eraseL σ []).ρ } [r] [Bld.at (.x 0) b']) dst [r] ret)
  simp only [setObjs, Bld.at_ren, eraseL]
  exact hK
theorem writeString_at (b : Bld) (t : List UInt8) (hl : (b.bytes ++ t).length ≤ 1000000000) : MCallE Tryd.prog 48 [.ptr (.x 0) 0, .d (.str t)] [b.at (.x 0)] (.tuple [.d (.int .i64 t.length), .d .nil]) [Bld.at (.x 0) (.has (b.bytes ++ t))] := by
 rw [← Bld.obj_at, ← Bld.obj_at]; exact writeString_call b t hl
theorem writeByte_at (b : Bld) (c : UInt8) (hl : b.bytes.length + 1 ≤ 1000000000) : MCallE Tryd.prog 68 [.ptr (.x 0) 0, .d (.int .u8 c.toNat)] [b.at (.x 0)] (.d .nil) [Bld.at (.x 0) (.has (b.bytes ++ [c]))] := by
 rw [← Bld.obj_at, ← Bld.obj_at]; exact writeByte_call b c hl
def a63 (n : Int) : Int := IntKind.u8.wrap ((BitVec.ofInt IntKind.u8.bits n &&& BitVec.ofInt IntKind.u8.bits 63).toNat)
def oB (k n : Int) : Int := IntKind.u8.wrap ((BitVec.ofInt IntKind.u8.bits k ||| BitVec.ofInt IntKind.u8.bits n).toNat)
theorem and63 (n : Nat) (h : n < 256) : a63 (n : Int) = (n % 64 : Nat) := by
 have : ∀ n : Fin 256, a63 ((n.val : Nat) : Int) = (n.val % 64 : Nat) := by decide +kernel
 exact this ⟨n, h⟩
theorem or128 (n : Nat) (h : n < 64) : oB 128 (n : Int) = (128 + n : Nat) := by
 have : ∀ n : Fin 64, oB 128 ((n.val : Nat) : Int) = (128 + n.val : Nat) := by decide +kernel
 exact this ⟨n, h⟩
theorem or192 (n : Nat) (h : n < 32) : oB 192 (n : Int) = (192 + n : Nat) := by
 have : ∀ n : Fin 32, oB 192 ((n.val : Nat) : Int) = (192 + n.val : Nat) := by decide +kernel
 exact this ⟨n, h⟩
theorem or224 (n : Nat) (h : n < 16) : oB 224 (n : Int) = (224 + n : Nat) := by
 have : ∀ n : Fin 16, oB 224 ((n.val : Nat) : Int) = (224 + n.val : Nat) := by decide +kernel
 exact this ⟨n, h⟩
theorem or240 (n : Nat) (h : n < 8) : oB 240 (n : Int) = (240 + n : Nat) := by
 have : ∀ n : Fin 8, oB 240 ((n.val : Nat) : Int) = (240 + n.val : Nat) := by decide +kernel
 exact this ⟨n, h⟩
theorem w8 (n : Nat) : IntKind.u8.wrap (n : Int) = (n % 256 : Nat) := by rw [IntKind.wrap_u8]; omega
theorem fd6 (n : Nat) : (n : Int).fdiv (2 ^ min 6 32) = (n / 64 : Nat) := by rw [Int.fdiv_eq_ediv_of_nonneg _ (by decide)]; rfl
theorem fd12 (n : Nat) : (n : Int).fdiv (2 ^ min 12 32) = (n / 4096 : Nat) := by rw [Int.fdiv_eq_ediv_of_nonneg _ (by decide)]; rfl
theorem fd18 (n : Nat) : (n : Int).fdiv (2 ^ min 18 32) = (n / 262144 : Nat) := by rw [Int.fdiv_eq_ediv_of_nonneg _ (by decide)]; rfl
def L_unicode_utf8_appendRuneNonASCII : LCode :=
 .seq (.reg [⟨some 4, .nils 5 1, none⟩]) (.seq (.reg [Qc 6 1, Q 7 (.cvI .u32 (.t 6)), Qa 5 7]) (.block 0 (.seq (.reg [Qc 12 5, Q 13 (.bin .leq (.t 12) (.k (.d (.int .u32 2047)))), 
 Qa 11 13]) (.cond (.t 11) (.seq (.reg [Qc 14 0, Qc 15 1, Q 16 (.bin .shr (.t 15) (.k (.d (.int .u64 6)))), Q 17 (.cvI .u8 (.t 16)), Q 18 (.bin .or (Kb 192) (.t 17)), Qc 19 1, Q 
 20 (.cvI .u8 (.t 19)), Q 21 (.bin .and (.t 20) (Kb 63)), Q 22 (.bin .or (Kb 128) (.t 21)), ⟨some 23, .bsl 5 1 [.t 18, .t 22], none⟩, ⟨some 24, .app 5 1 1 false (.t 14) (.t 23), 
 none⟩, Qa 4 24]) .ret) (.seq (.seq (.reg [Qc 26 5, Q 27 (.bin .lss (.t 26) (.k (.d (.int .u32 55296)))), Qa 25 27]) (.cond (.t 25) .skip (.reg [Qc 28 5, Q 29 (.bin .lss (.k (.d 
 (.int .u32 57343))) (.t 28)), Qc 30 29, Qd 31 5 30 true, Qg 32 (.bin .leq (.t 31) (.k (.d (.int .u32 65535)))) 30 true, Q 33 (.pick (.t 30) (.t 32) KF), Qa 25 33]))) (.cond (.t 
 25) (.seq (.reg [Qc 34 0, Qc 35 1, Q 36 (.bin .shr (.t 35) (.k (.d (.int .u64 12)))), Q 37 (.cvI .u8 (.t 36)), Q 38 (.bin .or (Kb 224) (.t 37)), Qc 39 1, Q 40 (.bin .shr (.t 39) 
 (.k (.d (.int .u64 6)))), Q 41 (.cvI .u8 (.t 40)), Q 42 (.bin .and (.t 41) (Kb 63)), Q 43 (.bin .or (Kb 128) (.t 42)), Qc 44 1, Q 45 (.cvI .u8 (.t 44)), Q 46 (.bin .and (.t 45) 
 (Kb 63)), Q 47 (.bin .or (Kb 128) (.t 46)), ⟨some 48, .bsl 5 1 [.t 38, .t 43, .t 47], none⟩, ⟨some 49, .app 5 1 1 false (.t 34) (.t 48), none⟩, Qa 4 49]) .ret) (.seq (.reg [Qc 51 
 5, Q 52 (.bin .gtr (.t 51) (.k (.d (.int .u32 65535)))), Qc 53 52, Qd 54 5 53 true, Qg 55 (.bin .leq (.t 54) (.k (.d (.int .u32 1114111)))) 53 true, Q 56 (.pick (.t 53) (.t 55) 
 KF), Qa 50 56]) (.cond (.t 50) (.seq (.reg [Qc 57 0, Qc 58 1, Q 59 (.bin .shr (.t 58) (.k (.d (.int .u64 18)))), Q 60 (.cvI .u8 (.t 59)), Q 61 (.bin .or (Kb 240) (.t 60)), Qc 62 
 1, Q 63 (.bin .shr (.t 62) (.k (.d (.int .u64 12)))), Q 64 (.cvI .u8 (.t 63)), Q 65 (.bin .and (.t 64) (Kb 63)), Q 66 (.bin .or (Kb 128) (.t 65)), Qc 67 1, Q 68 (.bin .shr (.t 
 67) (.k (.d (.int .u64 6)))), Q 69 (.cvI .u8 (.t 68)), Q 70 (.bin .and (.t 69) (Kb 63)), Q 71 (.bin .or (Kb 128) (.t 70)), Qc 72 1, Q 73 (.cvI .u8 (.t 72)), Q 74 (.bin .and (.t 
 73) (Kb 63)), Q 75 (.bin .or (Kb 128) (.t 74)), ⟨some 76, .bsl 5 1 [.t 61, .t 66, .t 71, .t 75], none⟩, ⟨some 77, .app 5 1 1 false (.t 57) (.t 76), none⟩, Qa 4 77]) .ret) (.seq 
 (.reg [Qc 8 0, ⟨some 9, .bsl 5 1 [.k (.d (.int .u8 239)), .k (.d (.int .u8 191)), .k (.d (.int .u8 189))], none⟩, ⟨some 10, .app 5 1 1 false (.t 8) (.t 9), none⟩, Qa 4 10]) 
 .ret)))))))))
def R_unicode_utf8_appendRuneNonASCII : List LRes := [.tmp 4]
theorem lift_unicode_utf8_appendRuneNonASCII : Lifts Tryd.prog 91 78 L_unicode_utf8_appendRuneNonASCII R_unicode_utf8_appendRuneNonASCII := ⟨_, _, Tryd.func91, rfl, by kernel_rfl, by kernel_rfl, rfl⟩
def L_unicode_utf8_AppendRune : LCode :=
 .seq (.reg [⟨some 4, .nils 5 1, none⟩]) (.seq (.seq (.reg [Qc 5 1, Q 6 (.cvI .u32 (.t 5)), Q 7 (.bin .leq (.t 6) (.k (.d (.int .u32 127))))]) (.cond (.t 7) (.seq (.reg [Qc 8 0, Qc 
 9 1, Q 10 (.cvI .u8 (.t 9)), ⟨some 11, .bsl 5 1 [.t 10], none⟩, ⟨some 12, .app 5 1 1 false (.t 8) (.t 11), none⟩, Qa 4 12]) .ret) .skip)) (.seq (.reg [Qc 13 0, Qc 14 1, ⟨some 15, 
 .call 91 [.t 13, .t 14], none⟩, Qa 4 15]) .ret))
def R_unicode_utf8_AppendRune : List LRes := [.tmp 4]
theorem lift_unicode_utf8_AppendRune : Lifts Tryd.prog 87 16 L_unicode_utf8_AppendRune R_unicode_utf8_AppendRune := ⟨_, _, Tryd.func87, rfl, by kernel_rfl, by kernel_rfl, rfl⟩
theorem appendNon {c : Nat} (hc : vrune c) (hc2 : 128 ≤ c) (s : List UInt8) (hs : s.length ≤ 1000000000) : MCallE Tryd.prog 91 [.own (.t 0) 5 1 (bytesD s), .d (.int .i32 c)] [] (.own (.t 0) 5 1 (bytesD (s ++ enc c))) [] := by
 have hbl := bytesD_length s
 have w32 : IntKind.u32.wrap (c : Int) = c := by unfold vrune at hc; simp [IntKind.wrap, IntKind.bits]; omega
 rcases enc_cases hc with ⟨h, _⟩ | ⟨h1, h2, e⟩ | ⟨h1, h2, e⟩ | ⟨h1, h2, e⟩
 ·omega
 ·have z1 : ((c : Int) ≤ 2047) = True := eq_true (by omega)
  refine lift_unicode_utf8_appendRuneNonASCII.mcall (by kernel_rfl) rfl ?_
  simp (maxSteps := 2000000) only [go_sem, ↓reduceIte, L_unicode_utf8_appendRuneNonASCII, R_unicode_utf8_appendRuneNonASCII, w32, z1, hbl]
  have q0 : oB 192 (IntKind.u8.wrap ((c : Int).fdiv (2 ^ min 6 32))) = (192 + c / 64 : Nat) := by rw [fd6, w8, or192 _ (by omega), show c / 64 % 256 = c / 64 by omega]
  have q1 : oB 128 (a63 (IntKind.u8.wrap (c : Int))) = (128 + c % 64 : Nat) := by rw [w8, and63 _ (by omega), or128 _ (by omega), show c % 256 % 64 = c % 64 by omega]
  show _ ∧ AV.own (Lab.t 0) _ 1 (bytesD s ++ [D.int .u8 (oB 192 (IntKind.u8.wrap ((c : Int).fdiv (2 ^ min 6 32)))), D.int .u8 (oB 128 (a63 (IntKind.u8.wrap (c : Int))))]) = _
  rw [q0, q1, e, bytesD_append, bytesD_cons, bytesD_cons, bytesD_nil, ofNat_toNat (by omega), ofNat_toNat (by omega)]
  exact ⟨by omega, rfl⟩
 ·have z1 : ((c : Int) ≤ 2047) = False := eq_false (by omega)
  have z3 : ((c : Int) ≤ 65535) = True := eq_true (by omega)
  have z4 : ((c : Int) < 55296) = True ∨ ((57343 : Int) < (c : Int)) = True ∧ ((c : Int) < 55296) = False := by
   unfold vrune at hc
   rcases hc with h | h
   ·exact .inl (eq_true (by omega))
   ·exact .inr ⟨eq_true (by omega), eq_false (by omega)⟩
  rcases z4 with z2 | ⟨z2, z5⟩
  ·refine lift_unicode_utf8_appendRuneNonASCII.mcall (by kernel_rfl) rfl ?_
   simp (maxSteps := 2000000) only [go_sem, ↓reduceIte, L_unicode_utf8_appendRuneNonASCII, R_unicode_utf8_appendRuneNonASCII, w32, z1, z2, z3, hbl]
   have q0 : oB 224 (IntKind.u8.wrap ((c : Int).fdiv (2 ^ min 12 32))) = (224 + c / 4096 : Nat) := by rw [fd12, w8, or224 _ (by omega), show c / 4096 % 256 = c / 4096 by omega]
   have q1 : oB 128 (a63 (IntKind.u8.wrap ((c : Int).fdiv (2 ^ min 6 32)))) = (128 + c / 64 % 64 : Nat) := by rw [fd6, w8, and63 _ (by omega), or128 _ (by omega), show c / 64 % 256 % 64 = c / 64 % 64 by omega]
   have q2 : oB 128 (a63 (IntKind.u8.wrap (c : Int))) = (128 + c % 64 : Nat) := by rw [w8, and63 _ (by omega), or128 _ (by omega), show c % 256 % 64 = c % 64 by omega]
   show _ ∧ AV.own (Lab.t 0) _ 1 (bytesD s ++ [D.int .u8 (oB 224 (IntKind.u8.wrap ((c : Int).fdiv (2 ^ min 12 32)))), D.int .u8 (oB 128 (a63 (IntKind.u8.wrap ((c : Int).fdiv (2 ^ min 6 32))))), D.int .u8 (oB 128 (a63 (IntKind.u8.wrap (c : Int))))]) = _
   rw [q0, q1, q2, e, bytesD_append, bytesD_cons, bytesD_cons, bytesD_cons, bytesD_nil, ofNat_toNat (by omega), ofNat_toNat (by omega), ofNat_toNat (by omega)]
   exact ⟨by omega, rfl⟩
  ·refine lift_unicode_utf8_appendRuneNonASCII.mcall (by kernel_rfl) rfl ?_
   simp (maxSteps := 2000000) only [go_sem, ↓reduceIte, L_unicode_utf8_appendRuneNonASCII, R_unicode_utf8_appendRuneNonASCII, w32, z1, z2, z3, z5, hbl]
   have q0 : oB 224 (IntKind.u8.wrap ((c : Int).fdiv (2 ^ min 12 32))) = (224 + c / 4096 : Nat) := by rw [fd12, w8, or224 _ (by omega), show c / 4096 % 256 = c / 4096 by omega]
   have q1 : oB 128 (a63 (IntKind.u8.wrap ((c : Int).fdiv (2 ^ min 6 32)))) = (128 + c / 64 % 64 : Nat) := by rw [fd6, w8, and63 _ (by omega), or128 _ (by omega), show c / 64 % 256 % 64 = c / 64 % 64 by omega]
   have q2 : oB 128 (a63 (IntKind.u8.wrap (c : Int))) = (128 + c % 64 : Nat) := by rw [w8, and63 _ (by omega), or128 _ (by omega), show c % 256 % 64 = c % 64 by omega]
   show _ ∧ AV.own (Lab.t 0) _ 1 (bytesD s ++ [D.int .u8 (oB 224 (IntKind.u8.wrap ((c : Int).fdiv (2 ^ min 12 32)))), D.int .u8 (oB 128 (a63 (IntKind.u8.wrap ((c : Int).fdiv (2 ^ min 6 32))))), D.int .u8 (oB 128 (a63 (IntKind.u8.wrap (c : Int))))]) = _
   rw [q0, q1, q2, e, bytesD_append, bytesD_cons, bytesD_cons, bytesD_cons, bytesD_nil, ofNat_toNat (by omega), ofNat_toNat (by omega), ofNat_toNat (by omega)]
   exact ⟨by omega, rfl⟩
 ·have z1 : ((c : Int) ≤ 2047) = False := eq_false (by omega)
  have z2 : ((c : Int) < 55296) = False := eq_false (by omega)
  have z3 : ((c : Int) ≤ 65535) = False := eq_false (by omega)
  have z4 : ((57343 : Int) < (c : Int)) = True := eq_true (by omega)
  have z5 : ((65535 : Int) < (c : Int)) = True := eq_true (by omega)
  have z6 : ((c : Int) ≤ 1114111) = True := eq_true (by omega)
  refine lift_unicode_utf8_appendRuneNonASCII.mcall (by kernel_rfl) rfl ?_
  simp (maxSteps := 2000000) only [go_sem, ↓reduceIte, L_unicode_utf8_appendRuneNonASCII, R_unicode_utf8_appendRuneNonASCII, w32, z1, z2, z3, z4, z5, z6, hbl]
  have q0 : oB 240 (IntKind.u8.wrap ((c : Int).fdiv (2 ^ min 18 32))) = (240 + c / 262144 : Nat) := by rw [fd18, w8, or240 _ (by omega), show c / 262144 % 256 = c / 262144 by omega]
  have q1 : oB 128 (a63 (IntKind.u8.wrap ((c : Int).fdiv (2 ^ min 12 32)))) = (128 + c / 4096 % 64 : Nat) := by rw [fd12, w8, and63 _ (by omega), or128 _ (by omega), show c / 4096 % 256 % 64 = c / 4096 % 64 by omega]
  have q2 : oB 128 (a63 (IntKind.u8.wrap ((c : Int).fdiv (2 ^ min 6 32)))) = (128 + c / 64 % 64 : Nat) := by rw [fd6, w8, and63 _ (by omega), or128 _ (by omega), show c / 64 % 256 % 64 = c / 64 % 64 by omega]
  have q3 : oB 128 (a63 (IntKind.u8.wrap (c : Int))) = (128 + c % 64 : Nat) := by rw [w8, and63 _ (by omega), or128 _ (by omega), show c % 256 % 64 = c % 64 by omega]
  show _ ∧ AV.own (Lab.t 0) _ 1 (bytesD s ++ [D.int .u8 (oB 240 (IntKind.u8.wrap ((c : Int).fdiv (2 ^ min 18 32)))), D.int .u8 (oB 128 (a63 (IntKind.u8.wrap ((c : Int).fdiv (2 ^ min 12 32))))), D.int .u8 (oB 128 (a63 (IntKind.u8.wrap ((c : Int).fdiv (2 ^ min 6 32))))), D.int .u8 (oB 128 (a63 (IntKind.u8.wrap (c : Int))))]) = _
  rw [q0, q1, q2, q3, e, bytesD_append, bytesD_cons, bytesD_cons, bytesD_cons, bytesD_cons, bytesD_nil, ofNat_toNat (by omega), ofNat_toNat (by omega), ofNat_toNat (by omega), ofNat_toNat (by omega)]
  exact ⟨by omega, rfl⟩
theorem appendRune {c : Nat} (hc : vrune c) (s : List UInt8) (hs : s.length ≤ 1000000000) : MCallE Tryd.prog 87 [.own (.t 0) 5 1 (bytesD s), .d (.int .i32 c)] [] (.own (.t 0) 5 1 (bytesD (s ++ enc c))) [] := by
 have hbl := bytesD_length s
 have w32 : IntKind.u32.wrap (c : Int) = c := by unfold vrune at hc; simp [IntKind.wrap, IntKind.bits]; omega
 by_cases h : c < 128
 ·have z1 : ((c : Int) ≤ 127) = True := eq_true (by omega)
  have e : enc c = [UInt8.ofNat c] := by
   rcases enc_cases hc with ⟨_, e⟩ | ⟨h1, _⟩ | ⟨h1, _⟩ | ⟨h1, _⟩
   ·exact e
   ·omega
   ·omega
   ·omega
  refine lift_unicode_utf8_AppendRune.mcall (by kernel_rfl) rfl ?_
  simp (maxSteps := 2000000) only [go_sem, ↓reduceIte, L_unicode_utf8_AppendRune, R_unicode_utf8_AppendRune, w32, z1, hbl]
  rw [w8, e, bytesD_append, bytesD_cons, bytesD_nil, ofNat_toNat (by omega), show c % 256 = c by omega]
  exact ⟨by omega, rfl⟩
 ·have z1 : ((c : Int) ≤ 127) = False := eq_false (by omega)
  refine lift_unicode_utf8_AppendRune.mcall (by kernel_rfl) rfl ?_
  simp (maxSteps := 2000000) only [go_sem, ↓reduceIte, L_unicode_utf8_AppendRune, R_unicode_utf8_AppendRune, w32, z1, hbl]
  refine CallG.cstep (CStep.mcall [] [(0, .t 0)] (appendNon hc (by omega) s hs) rfl rfl trivial rfl rfl rfl (fun r hs' hr _ => ?_))
  obtain ⟨e1, e2⟩ := hr
  subst e1
  subst e2
  refine ⟨⟨rfl, rfl⟩, ?_⟩
  simp (maxSteps := 2000000) only [go_sem, ↓reduceIte]
theorem appendNon0 {c : Nat} (hc : vrune c) (hc2 : 128 ≤ c) : MCallE Tryd.prog 91 [.ns, .d (.int .i32 c)] [] (.own (.t 0) 5 1 (bytesD (enc c))) [] := by
 have w32 : IntKind.u32.wrap (c : Int) = c := by unfold vrune at hc; simp [IntKind.wrap, IntKind.bits]; omega
 rcases enc_cases hc with ⟨h, _⟩ | ⟨h1, h2, e⟩ | ⟨h1, h2, e⟩ | ⟨h1, h2, e⟩
 ·omega
 ·have z1 : ((c : Int) ≤ 2047) = True := eq_true (by omega)
  refine lift_unicode_utf8_appendRuneNonASCII.mcall (by kernel_rfl) rfl ?_
  simp (maxSteps := 2000000) only [go_sem, ↓reduceIte, L_unicode_utf8_appendRuneNonASCII, R_unicode_utf8_appendRuneNonASCII, w32, z1]
  have q0 : oB 192 (IntKind.u8.wrap ((c : Int).fdiv (2 ^ min 6 32))) = (192 + c / 64 : Nat) := by rw [fd6, w8, or192 _ (by omega), show c / 64 % 256 = c / 64 by omega]
  have q1 : oB 128 (a63 (IntKind.u8.wrap (c : Int))) = (128 + c % 64 : Nat) := by rw [w8, and63 _ (by omega), or128 _ (by omega), show c % 256 % 64 = c % 64 by omega]
  show AV.own (Lab.t 0) _ 1 ([D.int .u8 (oB 192 (IntKind.u8.wrap ((c : Int).fdiv (2 ^ min 6 32)))), D.int .u8 (oB 128 (a63 (IntKind.u8.wrap (c : Int))))]) = _
  rw [q0, q1, e, bytesD_cons, bytesD_cons, bytesD_nil, ofNat_toNat (by omega), ofNat_toNat (by omega)]
 ·have z1 : ((c : Int) ≤ 2047) = False := eq_false (by omega)
  have z3 : ((c : Int) ≤ 65535) = True := eq_true (by omega)
  have z4 : ((c : Int) < 55296) = True ∨ ((57343 : Int) < (c : Int)) = True ∧ ((c : Int) < 55296) = False := by
   unfold vrune at hc
   rcases hc with h | h
   ·exact .inl (eq_true (by omega))
   ·exact .inr ⟨eq_true (by omega), eq_false (by omega)⟩
  rcases z4 with z2 | ⟨z2, z5⟩
  ·refine lift_unicode_utf8_appendRuneNonASCII.mcall (by kernel_rfl) rfl ?_
   simp (maxSteps := 2000000) only [go_sem, ↓reduceIte, L_unicode_utf8_appendRuneNonASCII, R_unicode_utf8_appendRuneNonASCII, w32, z1, z2, z3]
   have q0 : oB 224 (IntKind.u8.wrap ((c : Int).fdiv (2 ^ min 12 32))) = (224 + c / 4096 : Nat) := by rw [fd12, w8, or224 _ (by omega), show c / 4096 % 256 = c / 4096 by omega]
   have q1 : oB 128 (a63 (IntKind.u8.wrap ((c : Int).fdiv (2 ^ min 6 32)))) = (128 + c / 64 % 64 : Nat) := by rw [fd6, w8, and63 _ (by omega), or128 _ (by omega), show c / 64 % 256 % 64 = c / 64 % 64 by omega]
   have q2 : oB 128 (a63 (IntKind.u8.wrap (c : Int))) = (128 + c % 64 : Nat) := by rw [w8, and63 _ (by omega), or128 _ (by omega), show c % 256 % 64 = c % 64 by omega]
   show AV.own (Lab.t 0) _ 1 ([D.int .u8 (oB 224 (IntKind.u8.wrap ((c : Int).fdiv (2 ^ min 12 32)))), D.int .u8 (oB 128 (a63 (IntKind.u8.wrap ((c : Int).fdiv (2 ^ min 6 32))))), D.int .u8 (oB 128 (a63 (IntKind.u8.wrap (c : Int))))]) = _
   rw [q0, q1, q2, e, bytesD_cons, bytesD_cons, bytesD_cons, bytesD_nil, ofNat_toNat (by omega), ofNat_toNat (by omega), ofNat_toNat (by omega)]
  ·refine lift_unicode_utf8_appendRuneNonASCII.mcall (by kernel_rfl) rfl ?_
   simp (maxSteps := 2000000) only [go_sem, ↓reduceIte, L_unicode_utf8_appendRuneNonASCII, R_unicode_utf8_appendRuneNonASCII, w32, z1, z2, z3, z5]
   have q0 : oB 224 (IntKind.u8.wrap ((c : Int).fdiv (2 ^ min 12 32))) = (224 + c / 4096 : Nat) := by rw [fd12, w8, or224 _ (by omega), show c / 4096 % 256 = c / 4096 by omega]
   have q1 : oB 128 (a63 (IntKind.u8.wrap ((c : Int).fdiv (2 ^ min 6 32)))) = (128 + c / 64 % 64 : Nat) := by rw [fd6, w8, and63 _ (by omega), or128 _ (by omega), show c / 64 % 256 % 64 = c / 64 % 64 by omega]
   have q2 : oB 128 (a63 (IntKind.u8.wrap (c : Int))) = (128 + c % 64 : Nat) := by rw [w8, and63 _ (by omega), or128 _ (by omega), show c % 256 % 64 = c % 64 by omega]
   show AV.own (Lab.t 0) _ 1 ([D.int .u8 (oB 224 (IntKind.u8.wrap ((c : Int).fdiv (2 ^ min 12 32)))), D.int .u8 (oB 128 (a63 (IntKind.u8.wrap ((c : Int).fdiv (2 ^ min 6 32))))), D.int .u8 (oB 128 (a63 (IntKind.u8.wrap (c : Int))))]) = _
   rw [q0, q1, q2, e, bytesD_cons, bytesD_cons, bytesD_cons, bytesD_nil, ofNat_toNat (by omega), ofNat_toNat (by omega), ofNat_toNat (by omega)]
 ·have z1 : ((c : Int) ≤ 2047) = False := eq_false (by omega)
  have z2 : ((c : Int) < 55296) = False := eq_false (by omega)
  have z3 : ((c : Int) ≤ 65535) = False := eq_false (by omega)
  have z4 : ((57343 : Int) < (c : Int)) = True := eq_true (by omega)
  have z5 : ((65535 : Int) < (c : Int)) = True := eq_true (by omega)
  have z6 : ((c : Int) ≤ 1114111) = True := eq_true (by omega)
  refine lift_unicode_utf8_appendRuneNonASCII.mcall (by kernel_rfl) rfl ?_
  simp (maxSteps := 2000000) only [go_sem, ↓reduceIte, L_unicode_utf8_appendRuneNonASCII, R_unicode_utf8_appendRuneNonASCII, w32, z1, z2, z3, z4, z5, z6]
  have q0 : oB 240 (IntKind.u8.wrap ((c : Int).fdiv (2 ^ min 18 32))) = (240 + c / 262144 : Nat) := by rw [fd18, w8, or240 _ (by omega), show c / 262144 % 256 = c / 262144 by omega]
  have q1 : oB 128 (a63 (IntKind.u8.wrap ((c : Int).fdiv (2 ^ min 12 32)))) = (128 + c / 4096 % 64 : Nat) := by rw [fd12, w8, and63 _ (by omega), or128 _ (by omega), show c / 4096 % 256 % 64 = c / 4096 % 64 by omega]
  have q2 : oB 128 (a63 (IntKind.u8.wrap ((c : Int).fdiv (2 ^ min 6 32)))) = (128 + c / 64 % 64 : Nat) := by rw [fd6, w8, and63 _ (by omega), or128 _ (by omega), show c / 64 % 256 % 64 = c / 64 % 64 by omega]
  have q3 : oB 128 (a63 (IntKind.u8.wrap (c : Int))) = (128 + c % 64 : Nat) := by rw [w8, and63 _ (by omega), or128 _ (by omega), show c % 256 % 64 = c % 64 by omega]
  show AV.own (Lab.t 0) _ 1 ([D.int .u8 (oB 240 (IntKind.u8.wrap ((c : Int).fdiv (2 ^ min 18 32)))), D.int .u8 (oB 128 (a63 (IntKind.u8.wrap ((c : Int).fdiv (2 ^ min 12 32))))), D.int .u8 (oB 128 (a63 (IntKind.u8.wrap ((c : Int).fdiv (2 ^ min 6 32))))), D.int .u8 (oB 128 (a63 (IntKind.u8.wrap (c : Int))))]) = _
  rw [q0, q1, q2, q3, e, bytesD_cons, bytesD_cons, bytesD_cons, bytesD_cons, bytesD_nil, ofNat_toNat (by omega), ofNat_toNat (by omega), ofNat_toNat (by omega), ofNat_toNat (by omega)]
theorem appendRune0 {c : Nat} (hc : vrune c) : MCallE Tryd.prog 87 [.ns, .d (.int .i32 c)] [] (.own (.t 0) 5 1 (bytesD (enc c))) [] := by
 have w32 : IntKind.u32.wrap (c : Int) = c := by unfold vrune at hc; simp [IntKind.wrap, IntKind.bits]; omega
 by_cases h : c < 128
 ·have z1 : ((c : Int) ≤ 127) = True := eq_true (by omega)
  have e : enc c = [UInt8.ofNat c] := by
   rcases enc_cases hc with ⟨_, e⟩ | ⟨h1, _⟩ | ⟨h1, _⟩ | ⟨h1, _⟩
   ·exact e
   ·omega
   ·omega
   ·omega
  refine lift_unicode_utf8_AppendRune.mcall (by kernel_rfl) rfl ?_
  simp (maxSteps := 2000000) only [go_sem, ↓reduceIte, L_unicode_utf8_AppendRune, R_unicode_utf8_AppendRune, w32, z1]
  rw [w8, e, bytesD_cons, bytesD_nil, ofNat_toNat (by omega), show c % 256 = c by omega]
 ·have z1 : ((c : Int) ≤ 127) = False := eq_false (by omega)
  refine lift_unicode_utf8_AppendRune.mcall (by kernel_rfl) rfl ?_
  simp (maxSteps := 2000000) only [go_sem, ↓reduceIte, L_unicode_utf8_AppendRune, R_unicode_utf8_AppendRune, w32, z1]
  refine CallG.cstep (CStep.mcall [] [] (appendNon0 hc (by omega)) rfl rfl trivial rfl rfl rfl (fun r hs' hr _ => ?_))
  obtain ⟨e1, e2⟩ := hr
  subst e1
  subst e2
  refine ⟨⟨rfl, rfl⟩, ?_⟩
  simp (maxSteps := 2000000) only [go_sem, ↓reduceIte]
def L___strings_Builder__WriteRune : LCode :=
 .seq (.reg [Qx 4 (Ki 0), Qx 5 (.k (.d .nil))]) (.seq (.reg [Qc 7 0, ⟨some 8, .prim .call [.k (.fn (.func 67) [] []), .t 7] [], none⟩]) (.seq (.reg [Qc 9 0, Q 10 (.nck (.t 9)), Q 11 
 (.fa 1 (.t 10)), Q 12 (.ld false 1 (.t 11)), Q 13 (.len false (.t 12)), Qa 6 13]) (.seq (.reg [Qc 14 0, Qc 15 0, Q 16 (.nck (.t 15)), Q 17 (.fa 1 (.t 16)), Q 18 (.ld false 1 (.t 
 17)), Qc 19 1, ⟨some 20, .call 87 [.t 18, .t 19], none⟩, Q 21 (.nck (.t 14)), Q 22 (.fa 1 (.t 21)), ⟨none, .st 1 (.t 22) (.t 20), none⟩]) (.seq (.reg [Qc 23 0, Q 24 (.nck (.t 
 23)), Q 25 (.fa 1 (.t 24)), Q 26 (.ld false 1 (.t 25)), Q 27 (.len false (.t 26)), Qc 28 6, Q 29 (.bin .sub (.t 27) (.t 28)), Qa 4 29, Qx 5 (.k (.d .nil))]) .ret))))
def R___strings_Builder__WriteRune : List LRes := [.tmp 4, .tmp 5]
theorem lift___strings_Builder__WriteRune : Lifts Tryd.prog 78 30 L___strings_Builder__WriteRune R___strings_Builder__WriteRune := ⟨_, _, Tryd.func78, rfl, by kernel_rfl, by kernel_rfl, rfl⟩
theorem writeRune_call (b : Bld) {c : Nat} (hc : vrune c) (hl : b.bytes.length ≤ 1000000000) : MCallE Tryd.prog 78 [.ptr (.x 0) 0, .d (.int .i32 c)] [b.obj] (.tuple [.d (.int .i64 (enc c).length), .d .nil]) [Bld.obj (.has (b.bytes ++ enc c))] := by
 have hel := (enc_len hc).2.1
 have hbe := bytesD_length (enc c)
 cases b with
 | new =>
  refine lift___strings_Builder__WriteRune.mcall (by kernel_rfl) rfl ?_
  simp (maxSteps := 2000000) only [go_sem, ↓reduceIte, L___strings_Builder__WriteRune, R___strings_Builder__WriteRune, AV.den, Bld.obj]
  refine PrimG.mc1 (.x 0) rfl (copyCheck_new) rfl rfl rfl rfl ⟨rfl, rfl⟩ ?_
  simp (maxSteps := 2000000) only [go_sem, ↓reduceIte, Bld.bytes, AV.den]
  refine CallG.cstep (CStep.mcall [] [] (appendRune0 hc) rfl rfl trivial rfl rfl rfl (fun r hs' hr _ => ?_))
  obtain ⟨e1, e2⟩ := hr
  subst e1
  subst e2
  refine ⟨⟨rfl, rfl⟩, ?_⟩
  simp (maxSteps := 2000000) (disch := omega) only [go_sem, ↓reduceIte, Bld.bytes, AV.den, hbe]
  rw [Int.sub_zero]
 | nul =>
  refine lift___strings_Builder__WriteRune.mcall (by kernel_rfl) rfl ?_
  simp (maxSteps := 2000000) only [go_sem, ↓reduceIte, L___strings_Builder__WriteRune, R___strings_Builder__WriteRune, AV.den, Bld.obj]
  refine PrimG.mc1 (.x 0) rfl (copyCheck_used _ (.inl rfl)) rfl rfl rfl rfl ⟨rfl, rfl⟩ ?_
  simp (maxSteps := 2000000) only [go_sem, ↓reduceIte, Bld.bytes, AV.den]
  refine CallG.cstep (CStep.mcall [] [] (appendRune0 hc) rfl rfl trivial rfl rfl rfl (fun r hs' hr _ => ?_))
  obtain ⟨e1, e2⟩ := hr
  subst e1
  subst e2
  refine ⟨⟨rfl, rfl⟩, ?_⟩
  simp (maxSteps := 2000000) (disch := omega) only [go_sem, ↓reduceIte, Bld.bytes, AV.den, hbe]
  rw [Int.sub_zero]
 | has s =>
  have hbs := bytesD_length s
  refine lift___strings_Builder__WriteRune.mcall (by kernel_rfl) rfl ?_
  simp (maxSteps := 2000000) only [go_sem, ↓reduceIte, L___strings_Builder__WriteRune, R___strings_Builder__WriteRune, AV.den, Bld.obj]
  refine PrimG.mc1 (.x 0) rfl (copyCheck_used _ (.inr ⟨s, rfl⟩)) rfl rfl rfl rfl ⟨rfl, rfl⟩ ?_
  simp only [Bld.bytes] at hl
  simp (maxSteps := 2000000) only [go_sem, ↓reduceIte, Bld.bytes, AV.den]
  refine CallG.cstep (CStep.mcall [] [(0, .c (.x 0) 1)] (appendRune hc s hl) rfl rfl trivial rfl rfl rfl (fun r hs' hr _ => ?_))
  obtain ⟨e1, e2⟩ := hr
  subst e1
  subst e2
  refine ⟨⟨rfl, rfl⟩, ?_⟩
  have hbse := bytesD_length (s ++ enc c)
  rw [List.length_append] at hbse
  simp (maxSteps := 2000000) (disch := omega) only [go_sem, ↓reduceIte, Bld.bytes, AV.den, hbe, hbse, hbs]
  rw [show (((s.length + (enc c).length : Nat) : Int) - s.length) = ((enc c).length : Int) by omega]
section
open Go.Shelf Go.RowKit
set_option maxHeartbeats 2000000
set_option maxRecDepth 100000
theorem bstr_row (b g cap : Nat) (p : Value) (cur : Array Value) (el : TypeId) (l : List UInt8) (w : World) (hbk : w.heap[b]? = some (.cells #[p, .slice (some ⟨g, 0, none⟩) l.length cap] el (0, 0))) (h0 : l ≠ [])
  (hg : w.heap[g]? = some (.cells cur 5 (0, 0))) (hnc : l.length ≤ cap) (hcm : cap ≤ maxLen) (hcs : cur.size = cap) (hcell : ∀ (j : Nat) (x : UInt8), l[j]? = some x → w.cell? ((⟨g, 0, none⟩ : Addr).add j) = some (.int .u8 x.toNat)) :
  Calls Tryd.prog 51 #[.pointer (some ⟨b, 0, none⟩)] w fun e w' => e = .returned (.string ⟨l.toArray⟩) ∧ w' = w.drew.freeze ⟨g, 0, none⟩ l.length := by
 have hl0 : l.length ≠ 0 := by simpa using h0
 have c1 : w.drew.cell? ⟨b, 1, none⟩ = some (.slice (some ⟨g, 0, none⟩) l.length cap) := by
  have : w.drew.heap[b]? = some (.cells #[p, .slice (some ⟨g, 0, none⟩) l.length cap] el (0, 0)) := hbk
  rw [Lib.cell_of_heap this]; rfl
 have hSD : (Builtin.unsafeSliceData_ #[68] 106 #[.slice (some ⟨g, 0, none⟩) l.length cap]).run Tryd.prog w.drew = .ok (.pointer (some ⟨g, 0, none⟩)) w.drew :=
  Lib.run_unsafeSliceData_row _ _ _ _ _ _ (by omega)
 have hUS : (Builtin.unsafeString_ #[106, 3] 9 #[.pointer (some ⟨g, 0, none⟩), .int .i64 l.length]).run Tryd.prog w.drew = .ok (.string ⟨l.toArray⟩) (w.drew.freeze ⟨g, 0, none⟩ l.length) := by
  refine Lib.run_unsafeString_row w.drew 106 3 9 5 Tryd.underlying106 (by kernel_rfl) g cur.size (by have hg' : w.drew.heap[g]? = some (.cells cur 5 (0, 0)) := hg; simp [World.shape?, hg']) l h0 (by omega) (by unfold maxLen at hcm; omega) ?_
  intro j x hx
  exact hcell j x hx
 go_enter Tryd.func51, Tryd.ntmps51
 go_wp2
 go_region
 all_goals (go_wp2; go_ret; exact ⟨rfl, rfl⟩)
theorem bstr_nil (b : Nat) (p : Value) (el : TypeId) (w : World) (hbk : w.heap[b]? = some (.cells #[p, .slice none 0 0] el (0, 0))) :
  Calls Tryd.prog 51 #[.pointer (some ⟨b, 0, none⟩)] w fun e w' => e = .returned (.string ⟨#[]⟩) ∧ w' = w.drew := by
 have hUS : ∀ (W : World) (q : Option Addr), (Builtin.unsafeString_ #[106, 3] 9 #[.pointer q, .int .i64 0]).run Tryd.prog W = .ok (.string .empty) W := fun W q => Lib.run_unsafeString_none W _ _ _ q
 have c1 : w.drew.cell? ⟨b, 1, none⟩ = some (.slice none 0 0) := by
  have : w.drew.heap[b]? = some (.cells #[p, .slice none 0 0] el (0, 0)) := hbk
  rw [Lib.cell_of_heap this]; rfl
 have hSD : (Builtin.unsafeSliceData_ #[68] 106 #[.slice none 0 0]).run Tryd.prog w.drew = .ok (.pointer none) w.drew := rfl
 go_enter Tryd.func51, Tryd.ntmps51
 go_wp2
 go_region
 all_goals (go_wp2; go_ret; exact ⟨rfl, rfl⟩)
theorem bstr_room (b g cap : Nat) (p : Value) (el : TypeId) (w : World) (hc0 : cap ≠ 0) (hbk : w.heap[b]? = some (.cells #[p, .slice (some ⟨g, 0, none⟩) 0 cap] el (0, 0))) :
  Calls Tryd.prog 51 #[.pointer (some ⟨b, 0, none⟩)] w fun e w' => e = .returned (.string ⟨#[]⟩) ∧ w' = w.drew := by
 have hUS : ∀ (W : World) (q : Option Addr), (Builtin.unsafeString_ #[106, 3] 9 #[.pointer q, .int .i64 0]).run Tryd.prog W = .ok (.string .empty) W := fun W q => Lib.run_unsafeString_none W _ _ _ q
 have c1 : w.drew.cell? ⟨b, 1, none⟩ = some (.slice (some ⟨g, 0, none⟩) 0 cap) := by
  have : w.drew.heap[b]? = some (.cells #[p, .slice (some ⟨g, 0, none⟩) 0 cap] el (0, 0)) := hbk
  rw [Lib.cell_of_heap this]; rfl
 have hSD : (Builtin.unsafeSliceData_ #[68] 106 #[.slice (some ⟨g, 0, none⟩) 0 cap]).run Tryd.prog w.drew = .ok (.pointer (some ⟨g, 0, none⟩)) w.drew :=
  Lib.run_unsafeSliceData_row _ _ _ _ _ _ hc0
 clear hc0
 go_enter Tryd.func51, Tryd.ntmps51
 go_wp2
 go_region
 all_goals (go_wp2; go_ret; exact ⟨rfl, rfl⟩)
theorem bstr_noroom (b g : Nat) (p : Value) (el : TypeId) (cur : Array Value) (w : World) (hbk : w.heap[b]? = some (.cells #[p, .slice (some ⟨g, 0, none⟩) 0 0] el (0, 0))) (hg : w.heap[g]? = some (.cells cur 5 (0, 0))) :
  Calls Tryd.prog 51 #[.pointer (some ⟨b, 0, none⟩)] w fun e w' => e = .returned (.string ⟨#[]⟩) ∧ w' = w.drew.alloc (.view ⟨g, 0, none⟩ 5) := by
 have hUS : ∀ (W : World) (q : Option Addr), (Builtin.unsafeString_ #[106, 3] 9 #[.pointer q, .int .i64 0]).run Tryd.prog W = .ok (.string .empty) W := fun W q => Lib.run_unsafeString_none W _ _ _ q
 have hlt : b < w.heap.size := by
  rcases Nat.lt_or_ge b w.heap.size with h' | h'
  ·exact h'
  ·simp [Array.getElem?_eq_none h'] at hbk
 have c1 : w.drew.cell? ⟨b, 1, none⟩ = some (.slice (some ⟨g, 0, none⟩) 0 0) := by
  have : w.drew.heap[b]? = some (.cells #[p, .slice (some ⟨g, 0, none⟩) 0 0] el (0, 0)) := hbk
  rw [Lib.cell_of_heap this]; rfl
 have hSD : (Builtin.unsafeSliceData_ #[68] 106 #[.slice (some ⟨g, 0, none⟩) 0 0]).run Tryd.prog w.drew = .ok (.pointer (some ⟨w.drew.heap.size, 0, none⟩)) (w.drew.alloc (.view ⟨g, 0, none⟩ 5)) :=
  Lib.run_unsafeSliceData_zero w.drew _ _ 5 Tryd.underlying106 ⟨g, 0, none⟩ 0 (5, cur.size) (by have hg' : w.drew.heap[g]? = some (.cells cur 5 (0, 0)) := hg; simp [World.shape?, hg'])
 have c2 : (w.drew.alloc (.view ⟨g, 0, none⟩ 5)).cell? ⟨b, 1, none⟩ = some (.slice (some ⟨g, 0, none⟩) 0 0) := by
  have : (w.drew.alloc (.view ⟨g, 0, none⟩ 5)).heap[b]? = _ := (Lib.alloc_old w.drew _ b hlt).trans hbk
  rw [Lib.cell_of_heap this]; rfl
 have c3 : (w.alloc (.view ⟨g, 0, none⟩ 5)).drew.cell? ⟨b, 1, none⟩ = some (.slice (some ⟨g, 0, none⟩) 0 0) := c2
 have c0 : w.cell? ⟨b, 1, none⟩ = some (.slice (some ⟨g, 0, none⟩) 0 0) := c1
 go_enter Tryd.func51, Tryd.ntmps51
 go_wp2
 go_region
 all_goals (go_wp2; go_ret; exact ⟨rfl, rfl⟩)
end
theorem heap_freeze_ne (w : World) (g n b : Nat) (h : b ≠ g) : (w.freeze ⟨g, 0, none⟩ n).heap[b]? = w.heap[b]? := by
 unfold World.freeze
 split
 ·rfl
 ·simp only [Array.getElem?_modify]
  rw [if_neg (fun e => h e.symm)]
theorem heap_freeze_at (w : World) (g n : Nat) {cur : Array Value} {e : TypeId} {fz : Nat × Nat} (h : w.heap[g]? = some (.cells cur e fz)) : ∃ fz', (w.freeze ⟨g, 0, none⟩ n).heap[g]? = some (.cells cur e fz') := by
 unfold World.freeze
 split
 ·exact ⟨fz, h⟩
 ·obtain ⟨lo, hi⟩ := fz
  simp only [Array.getElem?_modify, if_true, h, Option.map_some]
  exact ⟨_, rfl⟩
theorem freeze_size (w : World) (g n : Nat) : (w.freeze ⟨g, 0, none⟩ n).heap.size = w.heap.size := by
 unfold World.freeze
 split
 ·rfl
 ·simp
theorem freeze_rest (w : World) (g n : Nat) : (w.freeze ⟨g, 0, none⟩ n).os = w.os ∧ (w.freeze ⟨g, 0, none⟩ n).tape = w.tape ∧ (w.freeze ⟨g, 0, none⟩ n).output = w.output := by
 unfold World.freeze
 split <;> exact ⟨rfl, rfl, rfl⟩
theorem Ext.freeze {f : Nat → Nat} {w : World} {g n : Nat} {cur : Array Value} {e : TypeId} {fz : Nat × Nat} (h : w.heap[g]? = some (.cells cur e fz)) : Ext f w f (w.freeze ⟨g, 0, none⟩ n) := by
 refine ⟨by rw [freeze_size]; exact Nat.le_refl _, fun _ => Nat.le_refl _, fun b i _ => ?_, fun b es c _ hm => ?_⟩
 ·by_cases hb : b = g
  ·subst hb
   obtain ⟨fz', h'⟩ := heap_freeze_at w b n h
   simp [World.cell?, at_, h, h']
  ·simp only [World.cell?, at_]
   rw [heap_freeze_ne w g n b hb]
 ·by_cases hb : b = g
  ·subst hb; rw [h] at hm; cases hm
  ·rw [heap_freeze_ne w g n b hb]; exact hm
theorem one_final {E : Entry} {n : Nat} {G : Ghost} {σ : St} {ts : Array Value} {w : World} (h : SR E n G σ ts w) {x : D} {v : Value} (hr : RD G.f w x v) {o : AObj} (ho : σ.obj (.x 0) = some o) :
  ∃ G', SR E 1 G' ⟨[(0, .d x)], [], numO 0 [o]⟩ #[v] w :=
 ⟨_, h.final (q0 := none) (r := .d x) (v := v) (.d _ _ hr) (fun q hq => by simp [AV.lab?] at hq) (fun _ _ e => by cases e) (hs' := [o]) (fun i o' hi => by
  cases i with
  | zero => simp at hi; subst hi; exact ho
  | succ i => simp at hi)⟩
def Bld.said : Bld → AObj
 | .has s => .cells [.ptr (.x 0) 0, .d (.list (bytesD s))]
 | b => b.obj
theorem string_call (b : Bld) (hl : b.bytes.length ≤ 1000000000) : MCallE Tryd.prog 51 [.ptr (.x 0) 0] [b.obj] (.d (.str b.bytes)) [b.said] := by
 refine ⟨by kernel_rfl, fun G w vs hI hown hsr => ?_⟩
 have hv : vs = #[.pointer (some (at_ (G.b (.x 0)) 0))] := by
  have h1 := hsr.slot 0 (.ptr (.x 0) 0) rfl
  have h2 := hsr.size
  match vs, h2 with
  | ⟨[v]⟩, _ =>
   have h1 : AVR G w (.ptr (.x 0) 0) v := h1
   cases h1; rfl
 subst hv
 have hob : St.obj ⟨initA 0 [.ptr (.x 0) 0], [], numO 0 [b.obj]⟩ (.x 0) = some b.obj := rfl
 obtain ⟨a0, c1, hbo, hc1⟩ : ∃ a0 c1, b.obj = .cells [a0, c1] ∧ ((c1 = .ns ∧ b.bytes = [] ∧ b.said = b.obj) ∨ ∃ s, b = .has s ∧ c1 = .own (.c (.x 0) 1) 5 1 (bytesD s)) := by
  cases b with
  | new => exact ⟨_, _, rfl, .inl ⟨rfl, rfl, rfl⟩⟩
  | nul => exact ⟨_, _, rfl, .inl ⟨rfl, rfl, rfl⟩⟩
  | has s => exact ⟨_, _, rfl, .inr ⟨s, rfl, rfl⟩⟩
 have ho := hsr.obj _ _ hob
 rw [hbo] at ho
 obtain ⟨arr, el, g1, g2, g3⟩ := ho
 obtain ⟨p, v, rfl⟩ : ∃ p v, arr = #[p, v] := by
  match arr, g2 with
  | ⟨[p, v]⟩, _ => exact ⟨p, v, rfl⟩
 have hcell := (g3 1 c1 rfl).1
 have hcell : AVR G w c1 v := hcell
 rcases hc1 with ⟨rfl, hb0, hsd⟩ | ⟨s, rfl, rfl⟩
 ·cases hcell
  refine (bstr_nil _ p el w g1).mono fun e w' ⟨e1, e2⟩ => ?_
  subst e2
  obtain ⟨G', h5⟩ := one_final (hsr.drew) (x := .str b.bytes) (v := .string ⟨#[]⟩) (by rw [hb0]; exact .str []) hob
  exact ⟨_, _, G', _, ⟨rfl, rfl⟩, e1, rfl, by rw [hsd]; exact h5⟩
 ·cases hcell with
  | own _ _ _ _ _ hq hrd hsz =>
   have h1 := hsr.erase (.c (.x 0) 1)
   have hob1 : (St.erase ⟨initA 0 [.ptr (.x 0) 0], [], numO 0 [Bld.obj (.has s)]⟩ (.c (.x 0) 1)).obj (.x 0) = some (.cells [.ptr (.x 0) 0, .d (.list (bytesD s))]) := by
    rw [St.obj_erase, hob]
    simp [Bld.obj, eraseObj, amod, AV.erase]
   obtain ⟨k, xs, hown', hfb⟩ := hsr.lam _ _ _ _ hq
   have hk : k = s.length := by have := own_len hrd hown'; rwa [bytesD_length] at this
   subst hk
   rcases hown'.2 with ⟨rfl, h0⟩ | ⟨g, cap, cur, rfl, _, hg, hnc, hcm, hcs, htk⟩
   ·have hs0 : s = [] := by simpa using h0
    subst hs0
    refine (bstr_nil _ p el w g1).mono fun e w' ⟨e1, e2⟩ => ?_
    subst e2
    obtain ⟨G', h5⟩ := one_final (h1.drew) (x := .str []) (v := .string ⟨#[]⟩) (.str []) hob1
    exact ⟨_, _, G', _, ⟨rfl, rfl⟩, e1, rfl, h5⟩
   ·by_cases hs0 : s = []
    ·subst hs0
     by_cases hc0 : cap = 0
     ·subst hc0
      refine (bstr_noroom _ g p el cur w g1 hg).mono fun e w' ⟨e1, e2⟩ => ?_
      subst e2
      obtain ⟨G', h5⟩ := one_final ((h1.drew).alloc (.view ⟨g, 0, none⟩ 5) 0) (x := .str []) (v := .string ⟨#[]⟩) (.str []) hob1
      exact ⟨_, _, G', _, ⟨rfl, rfl⟩, e1, rfl, h5⟩
     ·refine (bstr_room _ g cap p el w hc0 g1).mono fun e w' ⟨e1, e2⟩ => ?_
      subst e2
      obtain ⟨G', h5⟩ := one_final (h1.drew) (x := .str []) (v := .string ⟨#[]⟩) (.str []) hob1
      exact ⟨_, _, G', _, ⟨rfl, rfl⟩, e1, rfl, h5⟩
    ·refine (bstr_row _ g cap p cur el s w g1 hs0 hg hnc hcm (by simpa using hcs) (fun j x hx => ?_)).mono fun e w' ⟨e1, e2⟩ => ?_
     ·have hlt : j < s.length := (List.getElem?_eq_some_iff.1 hx).1
      have hadd : (⟨g, 0, none⟩ : Addr).add j = at_ g j := add_zero_at g j
      rw [hadd]
      generalize hL : bytesD s = L at hrd
      have hLl : L.length = s.length := by rw [← hL, bytesD_length]
      have hLj : L[j]? = some (.int .u8 x.toNat) := by rw [← hL]; simp [bytesD, hx]
      generalize hvv : Value.slice (some ⟨g, 0, none⟩) s.length cap = vv at hrd
      cases hrd with
      | nils => cases hvv
      | emp a c => simp at hLj
      | list l b o cap' sz vs hcap hsz' hb' hc' hr' =>
       simp only [Value.slice.injEq, Option.some.injEq] at hvv
       obtain ⟨e0, _, _⟩ := hvv
       simp only [at_, Addr.mk.injEq] at e0
       obtain ⟨rfl, rfl, _⟩ := e0
       have hm := List.mem_of_getElem? hLj
       have hsz1 : sz = 1 := by have := (hsz' _ hm).1; simpa [D.cells] using this.symm
       subst hsz1
       have q1 := hc' j (by omega)
       have q2 := hr' j _ 0 _ hLj rfl
       rw [Nat.zero_add] at q1
       rw [q1]
       have e3 : j * 1 + 0 = j := by omega
       rw [e3] at q2
       cases hvs : vs j <;> rw [hvs] at q2 <;> cases q2
       rfl
     ·subst e2
      have hX := h1.drew.world' (w' := w.drew.freeze ⟨g, 0, none⟩ s.length) (f' := G.f) (fun b => b = g) (fun b hb => by
       subst hb
       refine ⟨fun r o hr e => ?_, fun q v' p' hq' hvb => ?_, ?_⟩
       ·have hr' : ∃ o', St.obj ⟨initA 0 [.ptr (.x 0) 0], [], numO 0 [Bld.obj (.has s)]⟩ r = some o' := by
         rw [St.obj_erase] at hr
         cases h0 : St.obj ⟨initA 0 [.ptr (.x 0) 0], [], numO 0 [Bld.obj (.has s)]⟩ r with
         | none => simp [h0] at hr
         | some o' => exact ⟨o', rfl⟩
        obtain ⟨o', hr'⟩ := hr'
        exact hsr.lamObj _ _ _ _ _ hq rfl r o' hr' e
       ·simp only [updf] at hq'
        split at hq'
        ·cases hq'
        ·rename_i hne
         exact hne (hsr.lamInj _ _ _ _ _ _ _ hq' hq hvb rfl)
       ·exact hsr.newLam _ _ _ _ _ hq rfl) (Ext.freeze (w := w.drew) hg) (fun b hb hne => ⟨heap_freeze_ne _ _ _ _ hne, rfl⟩) (fun b hb => h1.drew.top b (by rw [freeze_size] at hb; exact hb)) (freeze_rest _ _ _).1 (freeze_rest _ _ _).2.1 (freeze_rest _ _ _).2.2
      obtain ⟨G', h5⟩ := one_final hX (x := .str s) (v := .string ⟨s.toArray⟩) (.str s) hob1
      exact ⟨_, _, G', _, ⟨rfl, rfl⟩, e1, rfl, h5⟩
def sgsF : List Nat → Option (List Nat)
 | [] => some []
 | u :: r =>
  if 55296 ≤ u ∧ u < 57344 then
   match r with
   | [] => none
   | v :: r' => if 56320 ≤ u ∨ v < 56320 ∨ 57343 < v then none else (sgsF r').map ((65536 + (u - 55296) * 1024 + v - 56320) :: ·)
  else (sgsF r).map (u :: ·)
theorem sgsF_cons (u : Nat) (r : List Nat) : sgsF (u :: r) = if 55296 ≤ u ∧ u < 57344 then
   match r with
   | [] => none
   | v :: r' => if 56320 ≤ u ∨ v < 56320 ∨ 57343 < v then none else (sgsF r').map ((65536 + (u - 55296) * 1024 + v - 56320) :: ·)
  else (sgsF r).map (u :: ·) := by cases r <;> simp [sgsF]
theorem sgsF_ok : ∀ (u l : List Nat), (∀ x ∈ u, x ≤ 65535) → sgsF u = some l → l.length ≤ u.length ∧ ∀ c ∈ l, vrune c
 | [], l, _, h => by simp [sgsF] at h; subst h; simp
 | u :: r, l, hu, h => by
  have h0 := hu u (by simp)
  rw [sgsF_cons] at h
  split at h
  ·rename_i h1
   cases r with
   | nil => simp at h
   | cons v r' =>
    have hv := hu v (by simp)
    simp only at h
    split at h
    ·cases h
    ·rename_i h2
     cases hq : sgsF r' with
     | none => rw [hq] at h; simp at h
     | some l' =>
      rw [hq] at h
      simp only [Option.map_some, Option.some.injEq] at h
      subst h
      obtain ⟨g1, g2⟩ := sgsF_ok r' l' (fun x hx => hu x (by simp [hx])) hq
      refine ⟨by simp only [List.length_cons]; omega, fun c hc => ?_⟩
      rcases List.mem_cons.1 hc with hc | hc
      ·rw [hc]; unfold vrune; omega
      ·exact g2 c hc
  ·rename_i h1
   cases hq : sgsF r with
   | none => rw [hq] at h; simp at h
   | some l' =>
    rw [hq] at h
    simp only [Option.map_some, Option.some.injEq] at h
    subst h
    obtain ⟨g1, g2⟩ := sgsF_ok r l' (fun x hx => hu x (by simp [hx])) hq
    refine ⟨by simp only [List.length_cons]; omega, fun c hc => ?_⟩
    rcases List.mem_cons.1 hc with rfl | hc
    ·unfold vrune; omega
    ·exact g2 c hc
def unitD (l : List Nat) : List D := l.map fun (n : Nat) => .int .i64 (n : Int)
theorem unitD_length (l : List Nat) : (unitD l).length = l.length := by simp [unitD]
theorem unitD_get (l : List Nat) (j : Nat) : (unitD l)[j]? = (l[j]?).map fun (n : Nat) => D.int .i64 (n : Int) := by simp [unitD]
def sgsO : Option (List Nat) → List UInt8 | some l => encM l | none => []
def sgsR (u : List Nat) : List UInt8 := sgsO (sgsF u)
theorem map_cons (x : Option (List Nat)) (acc : List Nat) (c : Nat) : x.map ((acc ++ [c]) ++ ·) = (x.map (c :: ·)).map (acc ++ ·) := by cases x <;> simp
theorem writeRune_at (b : Bld) {c : Nat} (hc : vrune c) (hl : b.bytes.length ≤ 1000000000) : MCallE Tryd.prog 78 [.ptr (.x 0) 0, .d (.int .i32 c)] [b.at (.x 0)] (.tuple [.d (.int .i64 (enc c).length), .d .nil]) [Bld.at (.x 0) (.has (b.bytes ++ enc c))] := by
 rw [← Bld.obj_at, ← Bld.obj_at]; exact writeRune_call b hc hl
theorem w32 {n : Nat} (h : n ≤ 1114111) : IntKind.i32.wrap (n : Int) = n := by simp [IntKind.wrap, IntKind.bits]; omega
theorem encM_snoc (l : List Nat) (c : Nat) : encM (l ++ [c]) = encM l ++ enc c := by simp [encM]
def L_cmap_signs : LCode :=
 .seq (.reg [Qx 2 (.k (.d (.str []))), Qx 3 KF]) (.seq (.reg [⟨some 4, .allo [.nilpT 92, .list []], none⟩]) (.seq (.seq (.reg [Qx 5 (Ki 0)]) (.block 0 (.loop (.seq (.seq (.reg [Qc 7 
 5, Qc 8 0, Q 9 (.len false (.t 8)), Q 10 (.bin .lss (.t 7) (.t 9))]) (.cond (.t 10) .skip (.exit 0))) (.seq (.block 1 (.seq (.reg [Qc 13 0, Qc 14 5, Q 15 (.ia 1 (.t 13) (.t 14)), 
 Q 16 (.ld false 1 (.t 15)), Qa 6 16]) (.seq (.seq (.reg [Qc 17 6, Q 18 (.bin .geq (.t 17) (Ki 55296)), Qc 19 18, Qd 20 6 19 true, Qg 21 (.bin .lss (.t 20) (Ki 57344)) 19 true, Q 
 22 (.pick (.t 19) (.t 21) KF)]) (.cond (.t 22) (.seq (.seq (.reg [Qc 23 6, Q 24 (.bin .geq (.t 23) (Ki 56320)), Qc 25 24, Qd 26 5 25 false, Qg 27 (.bin .add (.t 26) (Ki 1)) 25 
 false, Qd 28 0 25 false, Qg 29 (.len false (.t 28)) 25 false, Qg 30 (.bin .eql (.t 27) (.t 29)) 25 false, Q 31 (.pick (.t 25) KT (.t 30)), Qc 32 31, Qd 33 0 32 false, Qd 34 5 32 
 false, Qg 35 (.bin .add (.t 34) (Ki 1)) 32 false, Qg 36 (.ia 1 (.t 33) (.t 35)) 32 false, Qg 37 (.ld false 1 (.t 36)) 32 false, Qg 38 (.bin .lss (.t 37) (Ki 56320)) 32 false, Q 
 39 (.pick (.t 32) KT (.t 38)), Qc 40 39, Qd 41 0 40 false, Qd 42 5 40 false, Qg 43 (.bin .add (.t 42) (Ki 1)) 40 false, Qg 44 (.ia 1 (.t 41) (.t 43)) 40 false, Qg 45 (.ld false 1 
 (.t 44)) 40 false, Qg 46 (.bin .gtr (.t 45) (Ki 57343)) 40 false, Q 47 (.pick (.t 40) KT (.t 46))]) (.cond (.t 47) (.seq (.reg [Qx 2 (.k (.d (.str []))), Qx 3 KF]) .ret) .skip)) 
 (.seq (.reg [Qc 48 5, Q 49 (.bin .add (.t 48) (Ki 1)), Qa 5 49]) (.reg [Qc 50 6, Q 51 (.bin .sub (.t 50) (Ki 55296)), Q 52 (.bin .shl (.t 51) (.k (.d (.int .u64 10)))), Q 53 
 (.bin .add (Ki 65536) (.t 52)), Qc 54 0, Qc 55 5, Q 56 (.ia 1 (.t 54) (.t 55)), Q 57 (.ld false 1 (.t 56)), Q 58 (.bin .add (.t 53) (.t 57)), Q 59 (.bin .sub (.t 58) (Ki 56320)), 
 Qa 6 59]))) .skip)) (.reg [Qc 60 6, Q 61 (.cvI .i32 (.t 60)), ⟨some 62, .prim .call [.k (.fn (.func 78) [] []), .t 4, .t 61] [], none⟩])))) (.reg [Qc 11 5, Q 12 (.bin .add (.t 
 11) (Ki 1)), Qa 5 12])))))) (.seq (.reg [⟨some 63, .prim .call [.k (.fn (.func 51) [] []), .t 4] [], none⟩, Qa 2 63, Qx 3 KT]) .ret)))
def R_cmap_signs : List LRes := [.tmp 2, .tmp 3]
theorem lift_cmap_signs : Lifts Tryd.prog 60 64 L_cmap_signs R_cmap_signs := ⟨_, _, Tryd.func60, rfl, by kernel_rfl, by kernel_rfl, rfl⟩
theorem usigns_call (u : List Nat) (hl : u.length ≤ 40000) (hu : ∀ x ∈ u, x ≤ 65535) : PCall Tryd.prog 60 [.list (unitD u)] (fun r => r = .tup [.str (sgsR u), .bool (sgsF u).isSome]) := by
 generalize hR : sgsF u = R
 have hS : sgsR u = sgsO R := by unfold sgsR; rw [hR]
 generalize sgsR u = S at hS
 have hul := unitD_length u
 refine lift_cmap_signs.call rfl ?_
 simp (maxSteps := 2000000) only [go_sem, ↓reduceIte, L_cmap_signs, R_cmap_signs]
 refine run_loop (fun y : Nat × List Nat × Bld => ⟨[(0, .d (.list (unitD u))), (2, .d (.str [])), (3, .d (.bool false)), (4, .ptr (.l 4) 0), (5, .d (.int .i64 y.1))], [(4, y.2.2.at (.l 4))], []⟩)
  (fun y => y.1 ≤ u.length ∧ y.2.2.bytes = encM y.2.1 ∧ (encM y.2.1).length ≤ 4 * y.1 ∧ (sgsF (u.drop y.1)).map (y.2.1 ++ ·) = R) (fun y => u.length - y.1) (0, [], .new) ?_ ?_ ?_
 ·refine Weak.mk ?_ ?_ ?_ <;> simp (maxSteps := 2000000) only [go_sem, ↓reduceIte, Sub, Int.natCast_add, Int.natCast_mul, Bld.at]
 ·refine ⟨Nat.zero_le _, rfl, by simp [encM], ?_⟩
  simp only [List.drop_zero, List.nil_append, hR]; cases R <;> rfl
 ·rintro ⟨i, acc, b⟩ ⟨hi, hb, hbl, hF⟩
  simp only at hi hb hbl hF
  simp (maxSteps := 2000000) (disch := omega) only [go_sem, ↓reduceIte, hul]
  refine ⟨fun hlt => ?_, fun hge => ?_⟩
  ·obtain ⟨n, hn⟩ := get_some (l := u) (i := i) (by omega)
   have hn16 := hu n (List.mem_of_getElem? hn)
   rw [dropW hn, sgsF_cons] at hF
   have one : ∀ c : Nat, vrune c → encM (acc ++ [c]) = encM acc ++ enc c ∧ (enc c).length ≤ 4 := fun c hc => ⟨encM_snoc _ _, (enc_len hc).2.1⟩
   by_cases h1 : 55296 ≤ n ∧ n < 57344
   ·rw [if_pos h1] at hF
    have z1 : ((55296 : Int) ≤ (n : Int)) = True := eq_true (by omega)
    have z2 : ((n : Int) < 57344) = True := eq_true (by omega)
    by_cases h2 : 56320 ≤ n
    ·have e : R = none := by rw [← hF]; split <;> simp [h2]
     subst e
     have z3 : ((56320 : Int) ≤ (n : Int)) = True := eq_true (by omega)
     simp (maxSteps := 2000000) (disch := omega) only [go_sem, ↓reduceIte, getI_nat, unitD_get, hn, z1, z2, z3, hS, sgsO]
     rfl
    ·have z3 : ((56320 : Int) ≤ (n : Int)) = False := eq_false (by omega)
     by_cases h3 : i + 1 = u.length
     ·rw [List.drop_eq_nil_of_le (by omega)] at hF
      subst hF
      have z4 : ((i : Int) + 1 = (u.length : Int)) = True := eq_true (by omega)
      simp (maxSteps := 2000000) (disch := omega) only [go_sem, ↓reduceIte, getI_nat, unitD_get, hn, z1, z2, z3, z4, hul, hS, sgsO]
      rfl
     ·obtain ⟨v, hv⟩ := get_some (l := u) (i := i + 1) (by omega)
      have hv16 := hu v (List.mem_of_getElem? hv)
      rw [dropW hv] at hF
      simp only at hF
      have z4 : ((i : Int) + 1 = (u.length : Int)) = False := eq_false (by omega)
      have gv : getI (unitD u) ((i : Int) + 1) = some (.int .i64 (v : Int)) := by rw [show (i : Int) + 1 = ((i + 1 : Nat) : Int) from rfl, getI_nat, unitD_get, hv]; rfl
      by_cases h4 : v < 56320
      ·rw [if_pos (.inr (.inl h4))] at hF
       subst hF
       have z5 : ((v : Int) < 56320) = True := eq_true (by omega)
       simp (maxSteps := 2000000) (disch := omega) only [go_sem, ↓reduceIte, getI_nat, unitD_get, hn, z1, z2, z3, z4, z5, gv, hul, hS, sgsO]
       rfl
      ·have z5 : ((v : Int) < 56320) = False := eq_false (by omega)
       by_cases h5 : 57343 < v
       ·rw [if_pos (.inr (.inr h5))] at hF
        subst hF
        have z6 : ((57343 : Int) < (v : Int)) = True := eq_true (by omega)
        simp (maxSteps := 2000000) (disch := omega) only [go_sem, ↓reduceIte, getI_nat, unitD_get, hn, z1, z2, z3, z4, z5, z6, gv, hul, hS, sgsO]
        rfl
       ·rw [if_neg (by omega)] at hF
        have z6 : ((57343 : Int) < (v : Int)) = False := eq_false (by omega)
        simp (maxSteps := 2000000) (disch := omega) only [go_sem, ↓reduceIte, getI_nat, unitD_get, hn, z1, z2, z3, z4, z5, z6, gv, hul]
        have hc : vrune (65536 + (n - 55296) * 1024 + v - 56320) := by unfold vrune; omega
        have hon := one _ hc
        have h6 := writeRune_at b hc (by rw [hb]; omega)
        have hsum : IntKind.i32.wrap (IntKind.i64.wrap (IntKind.i64.wrap (IntKind.i64.wrap (65536 + IntKind.i64.wrap (((n : Int) - 55296) * 2 ^ min 10 64)) + (v : Int)) - 56320)) = ((65536 + (n - 55296) * 1024 + v - 56320 : Nat) : Int) := by
         have e10 : (2 : Int) ^ min 10 64 = 1024 := rfl
         rw [e10]
         simp (disch := omega) only [IntWalk.i64_in]
         rw [show (65536 + ((n : Int) - 55296) * 1024 + (v : Int) - 56320) = ((65536 + (n - 55296) * 1024 + v - 56320 : Nat) : Int) by omega]
         exact w32 (by omega)
        rw [hsum]
        generalize 65536 + (n - 55296) * 1024 + v - 56320 = c at *
        refine bldCall (.l 4) rfl (h6) rfl rfl rfl rfl ?_
        simp (maxSteps := 2000000) (disch := omega) only [go_sem, ↓reduceIte]
        refine ⟨(i + 1 + 1, acc ++ [c], .has (b.bytes ++ enc c)), ?_, ⟨by simp only; omega, by simp only [Bld.bytes_has]; rw [hb, hon.1], by simp only; rw [hon.1, List.length_append]; omega, by simp only; rw [← hF, map_cons]⟩, by simp only; omega⟩
        refine Weak.mk ?_ ?_ ?_ <;> simp (maxSteps := 2000000) only [go_sem, ↓reduceIte, Sub, Int.natCast_add, Int.natCast_mul]
   ·rw [if_neg h1] at hF
    have hc : vrune n := by unfold vrune; omega
    have hon := one n hc
    have hz : (((55296 : Int) ≤ (n : Int)) = False) ∨ (((55296 : Int) ≤ (n : Int)) = True ∧ ((n : Int) < 57344) = False) := by
     by_cases h2 : 55296 ≤ n
     ·exact .inr ⟨eq_true (by omega), eq_false (by omega)⟩
     ·exact .inl (eq_false (by omega))
    have h3 := writeRune_at b hc (by rw [hb]; omega)
    rcases hz with z1 | ⟨z1, z2⟩
    ·simp (maxSteps := 2000000) (disch := omega) only [go_sem, ↓reduceIte, getI_nat, unitD_get, hn, z1, w32 (n := n) (by omega)]
     refine bldCall (.l 4) rfl (h3) rfl rfl rfl rfl ?_
     simp (maxSteps := 2000000) (disch := omega) only [go_sem, ↓reduceIte]
     refine ⟨(i + 1, acc ++ [n], .has (b.bytes ++ enc n)), ?_, ⟨by simp only; omega, by simp only [Bld.bytes_has]; rw [hb, hon.1], by simp only; rw [hon.1, List.length_append]; omega, by simp only; rw [← hF, map_cons]⟩, by simp only; omega⟩
     refine Weak.mk ?_ ?_ ?_ <;> simp (maxSteps := 2000000) only [go_sem, ↓reduceIte, Sub, Int.natCast_add, Int.natCast_mul]
    ·simp (maxSteps := 2000000) (disch := omega) only [go_sem, ↓reduceIte, getI_nat, unitD_get, hn, z1, z2, w32 (n := n) (by omega)]
     refine bldCall (.l 4) rfl (h3) rfl rfl rfl rfl ?_
     simp (maxSteps := 2000000) (disch := omega) only [go_sem, ↓reduceIte]
     refine ⟨(i + 1, acc ++ [n], .has (b.bytes ++ enc n)), ?_, ⟨by simp only; omega, by simp only [Bld.bytes_has]; rw [hb, hon.1], by simp only; rw [hon.1, List.length_append]; omega, by simp only; rw [← hF, map_cons]⟩, by simp only; omega⟩
     refine Weak.mk ?_ ?_ ?_ <;> simp (maxSteps := 2000000) only [go_sem, ↓reduceIte, Sub, Int.natCast_add, Int.natCast_mul]
  ·rw [List.drop_eq_nil_of_le (by omega), sgsF] at hF
   simp only [Option.map_some, List.append_nil] at hF
   subst hF
   have h3 := string_call b (by rw [hb]; omega)
   rw [Bld.obj_at, hb] at h3
   simp only [sgsO] at hS
   subst hS
   cases b with
   | new =>
    simp only [Bld.at, Bld.said, Bld.obj, Bld.bytes] at h3 ⊢
    refine PrimG.mc1 (.l 4) rfl (h3) rfl rfl rfl rfl ⟨rfl, rfl⟩ ?_
    simp (maxSteps := 2000000) only [go_sem, ↓reduceIte]
    rfl
   | nul =>
    simp only [Bld.at, Bld.said, Bld.obj, Bld.bytes] at h3 ⊢
    refine PrimG.mc1 (.l 4) rfl (h3) rfl rfl rfl rfl ⟨rfl, rfl⟩ ?_
    simp (maxSteps := 2000000) only [go_sem, ↓reduceIte]
    rfl
   | has s =>
    simp only [Bld.at, Bld.said, Bld.obj, Bld.bytes] at h3 ⊢
    refine PrimG.mc1 (.l 4) rfl (h3) rfl rfl rfl rfl ⟨rfl, rfl⟩ ?_
    simp (maxSteps := 2000000) only [go_sem, ↓reduceIte]
    rfl
def unitsB : List UInt8 → List Nat
 | a :: b :: r => (256 * a.toNat + b.toNat) :: unitsB r
 | _ => []
theorem unitsB_short {l : List UInt8} (h : l.length < 2) : unitsB l = [] := by
 match l, h with
 | [], _ => rfl
 | [_], _ => rfl
theorem unitsB_len : ∀ (l : List UInt8), 2 * (unitsB l).length ≤ l.length
 | [] => by simp [unitsB]
 | [_] => by simp [unitsB]
 | a :: b :: r => by have := unitsB_len r; simp only [unitsB, List.length_cons]; omega
theorem unitsB_le : ∀ (l : List UInt8), ∀ x ∈ unitsB l, x ≤ 65535
 | [] => by simp [unitsB]
 | [_] => by simp [unitsB]
 | a :: b :: r => by
  intro x hx
  simp only [unitsB, List.mem_cons] at hx
  rcases hx with rfl | hx
  ·have := u8_lt a; have := u8_lt b; omega
  ·exact unitsB_le r x hx
def txtE1 (w : List UInt8) (n : Nat) : Nat := if orE n (cBe w) = 0 ∧ (cBl w).length % 2 = 1 then 4 else orE n (cBe w)
def txtE (w : List UInt8) (n : Nat) : Nat := orE (txtE1 w n) (if sgsF (unitsB (cBl w)) = none then 4 else 0)
def txtS (w : List UInt8) : List UInt8 := sgsR (unitsB (cBl w))
theorem bytesD_getU (l : List UInt8) (j : Nat) : (bytesD l)[j]? = (l[j]?).map fun (n : UInt8) => D.int .u8 (n.toNat : Int) := by simp [bytesD]
theorem unitD_snoc (l : List Nat) (n : Nat) : unitD l ++ [D.int .i64 (n : Int)] = unitD (l ++ [n]) := by simp [unitD]
def L___cmap_reader__text : LCode :=
 .seq (.reg [Qx 4 (.k (.d (.str [])))]) (.seq (.reg [Qc 10 0, Qc 11 1, ⟨some 12, .prim .call [.k (.fn (.func 58) [] []), .t 10, .t 11] [], none⟩, Qa 5 12]) (.seq (.seq (.reg [Qc 13 
 0, Q 14 (.nck (.t 13)), Q 15 (.fa 4 (.t 14)), Q 16 (.ld false 1 (.t 15)), Q 17 (.eqN 0 false (.t 16)), Qc 18 17, Qd 19 5 18 true, Qg 20 (.len false (.t 19)) 18 true, Qg 21 (.bin 
 .rem (.t 20) (Ki 2)) 18 true, Qg 22 (.bin .gtr (.t 21) (Ki 0)) 18 true, Q 23 (.pick (.t 18) (.t 22) KF)]) (.cond (.t 23) (.reg [Qc 24 0, Q 25 (.mkI 65 (Ki 4)), ⟨some 26, .prim 
 .call [.k (.fn (.func 41) [] []), .t 24, .t 25] [], none⟩]) .skip)) (.seq (.reg [⟨some 6, .nils 3 1, none⟩]) (.seq (.seq (.reg [Qx 7 (Ki 0)]) (.block 0 (.loop (.seq (.seq (.reg 
 [Qc 27 7, Q 28 (.bin .add (.t 27) (Ki 1)), Qc 29 5, Q 30 (.len false (.t 29)), Q 31 (.bin .lss (.t 28) (.t 30))]) (.cond (.t 31) .skip (.exit 0))) (.seq (.block 1 (.dreg [Qc 34 
 6, Qc 35 5, Qc 36 7, Q 37 (.ia 1 (.t 35) (.t 36)), Q 38 (.ld false 1 (.t 37)), Q 39 (.cvI .i64 (.t 38)), Q 40 (.bin .mul (Ki 256) (.t 39)), Qc 41 5, Qc 42 7, Q 43 (.bin .add (.t 
 42) (Ki 1)), Q 44 (.ia 1 (.t 41) (.t 43)), Q 45 (.ld false 1 (.t 44)), Q 46 (.cvI .i64 (.t 45)), Q 47 (.bin .add (.t 40) (.t 46)), ⟨some 48, .bsl 3 1 [.t 47], none⟩, ⟨some 49, 
 .app 3 1 8 false (.t 34) (.t 48), none⟩, Qa 6 49])) (.reg [Qc 32 7, Q 33 (.bin .add (.t 32) (Ki 2)), Qa 7 33])))))) (.seq (.reg [Qc 51 6, ⟨some 52, .call 60 [.t 51], none⟩, Qc 50 
 52, Q 53 (.ext 0 (.t 50)), Q 54 (.ext 1 (.t 50)), Qa 8 53, Qa 9 54]) (.seq (.seq (.reg [Qc 55 9, Q 56 (.not (.t 55))]) (.cond (.t 56) (.seq (.reg [Qc 57 0, Q 58 (.mkI 65 (Ki 4)), 
 ⟨some 59, .prim .call [.k (.fn (.func 41) [] []), .t 57, .t 58] [], none⟩]) (.seq (.reg [Qx 4 (.k (.d (.str [])))]) .ret)) .skip)) (.seq (.reg [Qc 60 8, Qa 4 60]) .ret)))))))
def R___cmap_reader__text : List LRes := [.tmp 4]
theorem lift___cmap_reader__text : Lifts Tryd.prog 38 61 L___cmap_reader__text R___cmap_reader__text := ⟨_, _, Tryd.func38, rfl, by kernel_rfl, by kernel_rfl, rfl⟩
theorem ctext (s : List UInt8) (k : Int) (b : Bool) (r : Row) (n : Nat) (w : List UInt8) (hs : w.length ≤ 60000) : MVE Tryd.prog 38 [.ptr (.x 0) 0, .d (.str w)] [crd s k b r n] r.ob (.d (.str (txtS w))) [crd s k b r (txtE w n)] r.ob := by
 have hby := cbytes s k b r n w hs
 have hlw := cBl_len w
 have hE : txtE1 w n = if orE n (cBe w) = 0 ∧ (cBl w).length % 2 = 1 then 4 else orE n (cBe w) := rfl
 have hT : txtE w n = orE (txtE1 w n) (if sgsF (unitsB (cBl w)) = none then 4 else 0) := rfl
 have hS : txtS w = sgsR (unitsB (cBl w)) := rfl
 generalize txtS w = S at *
 generalize txtE w n = T at *
 generalize txtE1 w n = e1 at *
 generalize orE n (cBe w) = e0 at *
 generalize cBl w = bs at *
 have hblen := bytesD_length bs
 have hm : ((bs.length : Nat) : Int).tmod 2 = ((bs.length % 2 : Nat) : Int) := rfl
 have hf := cfail s k b r 0 4
 have hf1 := cfail s k b r e1 4
 have hsg := usigns_call (unitsB bs) (by have := unitsB_len bs; omega) (unitsB_le bs)
 have hul := unitsB_len bs
 have z0 : errD 0 = .nil := rfl
 have hro := Row.ok r
 obtain ⟨S0, hS0⟩ : ∃ S0 : Nat × List Nat → St, ∀ y, S0 y = ⟨[(0, .ptr (.x 0) 0), (4, .d (.str [])), (5, .d (.list (bytesD bs))), (6, .own (.t 6) 3 1 (unitD y.2)), (7, .d (.int .i64 y.1))], [], (0, crd s k b r e1) :: mob r.ob⟩ := ⟨_, fun _ => rfl⟩
 have e4 : AV.d (.iface 65 (.int .i64 4)) = AV.d (errD 4) := rfl
 rcases r with _ | ⟨fs, c⟩
 all_goals
  refine lift___cmap_reader__text.mv (by kernel_rfl) rfl rfl ?_
  simp (maxSteps := 2000000) only [go_sem, ↓reduceIte, L___cmap_reader__text, R___cmap_reader__text, crd]
  refine PrimG.mvE ([.x 0]) rfl (hby) rfl rfl (by repeat' (first | exact trivial | exact rfl | constructor)) rfl rfl rfl rfl (hro) ⟨⟨rfl, rfl⟩, rfl⟩ ?_
  simp (maxSteps := 2000000) only [go_sem, ↓reduceIte, crd]
  rcases Nat.eq_zero_or_pos e0 with he | he
  rw [he]
  simp (maxSteps := 2000000) only [go_sem, ↓reduceIte, z0, hblen, hm]
  refine ⟨fun ho => ?_, fun ho => ?_⟩
  rw [he, if_pos ⟨rfl, by omega⟩] at hE
  rw [he] at hby
  refine PrimG.mvE ([.x 0]) rfl (hf) rfl rfl (by repeat' (first | exact trivial | exact rfl | constructor)) rfl rfl rfl rfl (hro) ⟨⟨rfl, rfl⟩, rfl⟩ ?_
  simp (maxSteps := 2000000) only [go_sem, ↓reduceIte, crd, orE]
  rotate_left
  rw [he, if_neg (fun h => by omega)] at hE
  rotate_left
  rw [if_neg (fun h => by omega)] at hE
  simp (maxSteps := 2000000) only [go_sem, ↓reduceIte, errD_ne (Nat.pos_iff_ne_zero.1 he)]
  all_goals
   refine run_loop S0 (fun y => y.1 ≤ bs.length + 1 ∧ 2 * y.2.length ≤ y.1 ∧ y.2 ++ unitsB (bs.drop y.1) = unitsB bs) (fun y => bs.length + 1 - y.1) (0, []) ?_ ?_ ?_
   ·rw [hS0]
    refine Weak.mk ?_ ?_ ?_ <;> simp (maxSteps := 2000000) only [go_sem, ↓reduceIte, Sub, Int.natCast_add, Int.natCast_mul, unitD, crd]
    all_goals first
     | rfl
     | (rw [hE]; done)
     | (rw [hE]; rfl)
     | (rw [hE, errD_ne (Nat.pos_iff_ne_zero.1 he)])
   ·exact ⟨Nat.zero_le _, Nat.le_refl _, by simp⟩
   ·rintro ⟨i, acc⟩ ⟨hi, hal, hF⟩
    simp only at hi hal hF
    have hau := unitD_length acc
    rw [hS0]
    simp (maxSteps := 2000000) (disch := omega) only [go_sem, ↓reduceIte, hblen]
    refine ⟨fun hlt => ?_, fun hge => ?_⟩
    ·obtain ⟨x, hx⟩ := get_some (l := bs) (i := i) (by omega)
     obtain ⟨y, hy⟩ := get_some (l := bs) (i := i + 1) (by omega)
     have hx8 := u8_lt x
     have hy8 := u8_lt y
     rw [dropW hx, dropW hy, unitsB] at hF
     have gx : getI (bytesD bs) (i : Int) = some (.int .u8 (x.toNat : Int)) := by rw [getI_nat, bytesD_getU, hx]; rfl
     have gy : getI (bytesD bs) ((i : Int) + 1) = some (.int .u8 (y.toNat : Int)) := by rw [show (i : Int) + 1 = ((i + 1 : Nat) : Int) from rfl, getI_nat, bytesD_getU, hy]; rfl
     simp (maxSteps := 2000000) (disch := omega) only [go_sem, ↓reduceIte, gx, gy, hau]
     refine ⟨by omega, (i + 2, acc ++ [256 * x.toNat + y.toNat]), ?_, ⟨by simp only; omega, by simp only [List.length_append, List.length_cons, List.length_nil]; omega, by simp only; rw [List.append_assoc]; exact hF⟩, by simp only; omega⟩
     rw [hS0]
     refine Weak.mk ?_ ?_ ?_ <;> simp (maxSteps := 2000000) only [go_sem, ↓reduceIte, Sub, Int.natCast_add, Int.natCast_mul]
     rw [← unitD_snoc]
     rfl
    ·rw [unitsB_short (by rw [List.length_drop]; omega), List.append_nil] at hF
     subst hF
     refine CallG.of hsg ?_
     cases hq : sgsF (unitsB bs) with
     | none =>
      rw [hq, if_pos rfl] at hT
      simp (maxSteps := 2000000) only [go_sem, ↓reduceIte, Option.isSome_none, crd]
      refine PrimG.mvE ([.x 0]) rfl (hf1) rfl rfl (by repeat' (first | exact trivial | exact rfl | constructor)) rfl rfl rfl rfl (hro) ⟨⟨rfl, rfl⟩, rfl⟩ ?_
      simp (maxSteps := 2000000) only [go_sem, ↓reduceIte]
      rw [hS, hT, sgsR, hq, sgsO]
      exact ⟨rfl, rfl⟩
     | some l =>
      rw [hq, if_neg (by simp), orE_0] at hT
      rw [hS, hT]
      simp (maxSteps := 2000000) only [go_sem, ↓reduceIte, Option.isSome_some, crd]
end Go.Av.Tryd
