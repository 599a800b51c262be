import Derived.Test.YtbfljokjkcdbeaaPListR
/- The document's dictionaries, read. -/
set_option linter.unusedSimpArgs false
namespace Go.Av.Try
open Go.Proofs

/-- A dictionary that grows in a variable: nothing at first. -/
def dobj : List Fld → AObj
  | [] => .cells [.d (.int .i64 6), .d (.int .i64 0), .d (.str []), .ns, .ns]
  | x :: l => .cells [.d (.int .i64 6), .d (.int .i64 0), .d (.str []), .d (.list []), .d (.list (fldsD (x :: l)))]
theorem dobj_cases (l : List Fld) : (dobj l = .cells [.d (.int .i64 6), .d (.int .i64 0), .d (.str []), .ns, .ns] ∧ l = []) ∨ dobj l = .cells [.d (.int .i64 6), .d (.int .i64 0), .d (.str []), .d (.list []), .d (.list (fldsD l))] := by
  cases l with
  | nil => exact .inl ⟨rfl, rfl⟩
  | cons x l => exact .inr rfl
theorem dobj_ne {l : List Fld} (h : l ≠ []) : dobj l = .cells [.d (.int .i64 6), .d (.int .i64 0), .d (.str []), .d (.list []), .d (.list (fldsD l))] := by
  cases l with
  | nil => exact absurd rfl h
  | cons x l => rfl
theorem setF_ne (nm : List UInt8) (x : Val) (l : List Fld) (h : ∀ z ∈ l, z.name ≠ nm) : setF nm x l ≠ [] := fun e => by
  have := (setF_pt (nm := nm) (x := x) h).2
  rw [e] at this; simp at this

/-- foliowrightref.readDict -/
def L_foliowrightref_readDict : LCode :=
  .seq (.reg [⟨some 6, .allo [.int .i64 0, .int .i64 0, .str [], .list [], .list []], none⟩, ⟨some 7, .asg (.k (.d (.int .i64 0))), none⟩, ⟨some 8, .asg (.k (.d (.int .i64 0))), 
  none⟩]) (.seq (.reg [⟨some 16, .val (.bld [(0, 1), (1, 1), (2, 1), (3, 1), (4, 1)] [.int .i64 0, .int .i64 0, .str [], .list [], .list []] [false, false, false, true, true] [(0, 
  .k (.d (.int .i64 6)))]), none⟩, ⟨some 9, .allo [.int .i64 0, .int .i64 0, .str [], .list [], .list []], none⟩, ⟨none, .st 5 (.t 9) (.t 16), none⟩]) (.block 0 (.loop (.block 1 
  (.seq (.reg [⟨some 17, .val (.cp (.t 0)), none⟩, ⟨some 18, .val (.cp (.t 1)), none⟩, ⟨some 19, .call 24 [.t 17, .t 18], none⟩, ⟨some 1, .asg (.t 19), none⟩]) (.seq (.seq (.reg 
  [⟨some 20, .val (.cp (.t 1)), none⟩, ⟨some 21, .val (.cp (.t 0)), none⟩, ⟨some 22, .val (.len true (.t 21)), none⟩, ⟨some 23, .val (.bin .eql (.t 20) (.t 22)), none⟩]) (.cond (.t 
  23) (.seq (.reg [⟨some 24, .val (.ld true 5 (.t 9)), none⟩, ⟨none, .st 5 (.t 6) (.t 24), none⟩, ⟨some 7, .asg (.k (.d (.int .i64 0))), none⟩, ⟨some 8, .asg (.k (.d (.int .i64 
  5))), none⟩]) .ret) .skip)) (.seq (.seq (.reg [⟨some 25, .val (.cp (.t 0)), none⟩, ⟨some 26, .val (.cp (.t 1)), none⟩, ⟨some 27, .val (.idxS (.t 25) (.t 26)), none⟩, ⟨some 28, 
  .val (.bin .eql (.t 27) (.k (.d (.int .u8 62)))), none⟩, ⟨some 29, .val (.cp (.t 28)), none⟩, ⟨some 30, .val (.cp (.t 1)), some (29, true)⟩, ⟨some 31, .val (.bin .add (.t 30) (.k 
  (.d (.int .i64 1)))), some (29, true)⟩, ⟨some 32, .val (.cp (.t 0)), some (29, true)⟩, ⟨some 33, .val (.len true (.t 32)), some (29, true)⟩, ⟨some 34, .val (.bin .lss (.t 31) (.t 
  33)), some (29, true)⟩, ⟨some 35, .val (.pick (.t 29) (.t 34) (.k (.d (.bool false)))), none⟩, ⟨some 36, .val (.cp (.t 35)), none⟩, ⟨some 37, .val (.cp (.t 0)), some (36, true)⟩, 
  ⟨some 38, .val (.cp (.t 1)), some (36, true)⟩, ⟨some 39, .val (.bin .add (.t 38) (.k (.d (.int .i64 1)))), some (36, true)⟩, ⟨some 40, .val (.idxS (.t 37) (.t 39)), some (36, 
  true)⟩, ⟨some 41, .val (.bin .eql (.t 40) (.k (.d (.int .u8 62)))), some (36, true)⟩, ⟨some 42, .val (.pick (.t 36) (.t 41) (.k (.d (.bool false)))), none⟩]) (.cond (.t 42) (.seq 
  (.reg [⟨some 43, .val (.ld true 5 (.t 9)), none⟩, ⟨some 44, .val (.cp (.t 1)), none⟩, ⟨some 45, .val (.bin .add (.t 44) (.k (.d (.int .i64 2)))), none⟩, ⟨none, .st 5 (.t 6) (.t 
  43), none⟩, ⟨some 7, .asg (.t 45), none⟩, ⟨some 8, .asg (.k (.d (.int .i64 0))), none⟩]) .ret) .skip)) (.seq (.seq (.reg [⟨some 46, .val (.cp (.t 0)), none⟩, ⟨some 47, .val (.cp 
  (.t 1)), none⟩, ⟨some 48, .val (.idxS (.t 46) (.t 47)), none⟩, ⟨some 49, .val (.bin .neq (.t 48) (.k (.d (.int .u8 47)))), none⟩]) (.cond (.t 49) (.seq (.reg [⟨some 50, .val (.ld 
  true 5 (.t 9)), none⟩, ⟨none, .st 5 (.t 6) (.t 50), none⟩, ⟨some 7, .asg (.k (.d (.int .i64 0))), none⟩, ⟨some 8, .asg (.k (.d (.int .i64 4))), none⟩]) .ret) .skip)) (.seq (.reg 
  [⟨some 52, .val (.cp (.t 0)), none⟩, ⟨some 53, .val (.cp (.t 1)), none⟩, ⟨some 54, .call 66 [.t 52, .t 53], none⟩, ⟨some 51, .val (.cp (.t 54)), none⟩, ⟨some 55, .val (.ext 0 (.t 
  51)), none⟩, ⟨some 56, .val (.ext 1 (.t 51)), none⟩, ⟨some 57, .val (.ext 2 (.t 51)), none⟩, ⟨some 10, .asg (.t 55), none⟩, ⟨some 11, .asg (.t 56), none⟩, ⟨some 12, .asg (.t 57), 
  none⟩]) (.seq (.seq (.reg [⟨some 58, .val (.cp (.t 12)), none⟩, ⟨some 59, .val (.bin .gtr (.t 58) (.k (.d (.int .i64 0)))), none⟩]) (.cond (.t 59) (.seq (.reg [⟨some 60, .val 
  (.ld true 5 (.t 9)), none⟩, ⟨some 61, .val (.cp (.t 12)), none⟩, ⟨none, .st 5 (.t 6) (.t 60), none⟩, ⟨some 7, .asg (.k (.d (.int .i64 0))), none⟩, ⟨some 8, .asg (.t 61), none⟩]) 
  .ret) .skip)) (.seq (.reg [⟨some 63, .val (.cp (.t 0)), none⟩, ⟨some 64, .val (.cp (.t 11)), none⟩, ⟨some 65, .val (.cp (.t 2)), none⟩, ⟨some 66, .val (.bin .add (.t 65) (.k (.d 
  (.int .i64 1)))), none⟩, ⟨some 67, .call 42 [.t 63, .t 64, .t 66], none⟩, ⟨some 62, .val (.cp (.t 67)), none⟩, ⟨some 68, .val (.ext 0 (.t 62)), none⟩, ⟨some 69, .val (.ext 1 (.t 
  62)), none⟩, ⟨some 70, .val (.ext 2 (.t 62)), none⟩, ⟨some 13, .allo [.int .i64 0, .int .i64 0, .str [], .list [], .list []], none⟩, ⟨none, .st 5 (.t 13) (.t 68), none⟩, ⟨some 
  11, .asg (.t 69), none⟩, ⟨some 12, .asg (.t 70), none⟩]) (.seq (.seq (.reg [⟨some 71, .val (.cp (.t 12)), none⟩, ⟨some 72, .val (.bin .gtr (.t 71) (.k (.d (.int .i64 0)))), 
  none⟩]) (.cond (.t 72) (.seq (.reg [⟨some 73, .val (.ld true 5 (.t 9)), none⟩, ⟨some 74, .val (.cp (.t 12)), none⟩, ⟨none, .st 5 (.t 6) (.t 73), none⟩, ⟨some 7, .asg (.k (.d 
  (.int .i64 0))), none⟩, ⟨some 8, .asg (.t 74), none⟩]) .ret) .skip)) (.seq (.reg [⟨some 76, .val (.ld true 5 (.t 9)), none⟩, ⟨some 77, .val (.cp (.t 10)), none⟩, ⟨some 78, .call 
  92 [.t 76, .t 77], none⟩, ⟨some 75, .val (.cp (.t 78)), none⟩, ⟨some 79, .val (.ext 0 (.t 75)), none⟩, ⟨some 80, .val (.ext 1 (.t 75)), none⟩, ⟨some 14, .allo [.int .i64 0, .int 
  .i64 0, .str [], .list [], .list []], none⟩, ⟨none, .st 5 (.t 14) (.t 79), none⟩, ⟨some 15, .asg (.t 80), none⟩]) (.seq (.seq (.reg [⟨some 81, .val (.cp (.t 15)), none⟩]) (.cond 
  (.t 81) (.seq (.reg [⟨some 82, .val (.ld true 5 (.t 9)), none⟩, ⟨none, .st 5 (.t 6) (.t 82), none⟩, ⟨some 7, .asg (.k (.d (.int .i64 0))), none⟩, ⟨some 8, .asg (.k (.d (.int .i64 
  3))), none⟩]) .ret) .skip)) (.seq (.reg [⟨some 83, .val (.ld true 5 (.t 9)), none⟩, ⟨some 84, .val (.cp (.t 10)), none⟩, ⟨some 85, .val (.ld true 5 (.t 13)), none⟩, ⟨some 86, 
  .call 93 [.t 83, .t 84, .t 85], none⟩, ⟨none, .st 5 (.t 9) (.t 86), none⟩]) (.seq (.seq (.reg [⟨some 87, .val (.fa 4 (.t 9)), none⟩, ⟨some 88, .val (.ld false 1 (.t 87)), none⟩, 
  ⟨some 89, .val (.len false (.t 88)), none⟩, ⟨some 90, .val (.bin .gtr (.t 89) (.k (.d (.int .i64 300)))), none⟩]) (.cond (.t 90) (.seq (.reg [⟨some 91, .val (.ld true 5 (.t 9)), 
  none⟩, ⟨none, .st 5 (.t 6) (.t 91), none⟩, ⟨some 7, .asg (.k (.d (.int .i64 0))), none⟩, ⟨some 8, .asg (.k (.d (.int .i64 2))), none⟩]) .ret) .skip)) (.reg [⟨some 92, .val (.cp 
  (.t 11)), none⟩, ⟨some 1, .asg (.t 92), none⟩])))))))))))))))))
def R_foliowrightref_readDict : List LRes := [.cell 6 true 5, .tmp 7, .tmp 8]
theorem lift_foliowrightref_readDict : Lifts Try.prog 68 93 L_foliowrightref_readDict R_foliowrightref_readDict := ⟨_, _, Try.func68, rfl, by kernel_rfl, by kernel_rfl, rfl⟩

theorem readDict_of (s : List UInt8) (hs : s.length ≤ 60000) (rd : Nat → RV) (deep : Int) (hd : 0 ≤ deep ∧ deep ≤ 8) (hg : ∀ k, k ≤ s.length → goodR s k (rd k))
    (ih : ∀ k, k ≤ s.length → PCall Try.prog 42 [.str s, .int .i64 k, .int .i64 (deep + 1)] (resRV (rd k))) (k : Nat) (hk : k ≤ s.length) :
    PCall Try.prog 68 [.str s, .int .i64 k, .int .i64 deep] (resRV (dictF rd s 301 [] k)) := by
  refine lift_foliowrightref_readDict.call rfl ?_
  generalize hR : dictF rd s 301 [] k = R
  simp (maxSteps := 2000000) (disch := omega) only [go_sem, ↓reduceIte, L_foliowrightref_readDict, R_foliowrightref_readDict]
  refine run_loop (fun y : Nat × List Fld => ⟨[(0, .d (.str s)), (1, .d (.int .i64 y.1)), (2, .d (.int .i64 deep)), (6, .ptr (.l 6) 0), (9, .ptr (.l 9) 0)],
      [(6, .cells [.d (.int .i64 0), .d (.int .i64 0), .d (.str []), .ns, .ns]), (9, dobj y.2)], []⟩)
    (fun y => y.1 ≤ s.length ∧ y.2.length ≤ 300 ∧ srt y.2 ∧ dictF rd s (301 - y.2.length) y.2 y.1 = R) (fun y => s.length - y.1) (k, []) ?_ ?_ ?_
  · refine Weak.mk ?_ ?_ ?_ <;> simp (maxSteps := 2000000) only [go_sem, ↓reduceIte, Sub, Int.natCast_add, Int.natCast_mul, dobj]
  · exact ⟨hk, by simp, srt_nil, hR⟩
  · rintro ⟨i, acc⟩ ⟨hi, ha, hsrt, hF⟩
    simp only at hi ha hsrt hF
    obtain ⟨m, hm⟩ : ∃ m, 301 - acc.length = m + 1 := ⟨300 - acc.length, by omega⟩
    rw [hm, dictF] at hF
    have hsk := skipP_le hi
    have hw := skipR_call s ((i : Nat) : Int) (by omega)
    rw [clamp_in hi] at hw
    generalize skipP s i = q at *
    have hal := fldsD_length acc
    have dd : (dicV acc).d = D.agg [.int .i64 6, .int .i64 0, .str [], .list [], .list (fldsD acc)] := by rw [Val.d_eq]; rfl
    have lis : resRV R (.tup [(dicV acc).d, .int .i64 (q + 2 : Nat), .int .i64 0]) → resRV R (.tup [D.agg [.int .i64 6, .int .i64 0, .str [], .list [], .list (fldsD acc)], .int .i64 (q + 2 : Nat), .int .i64 0]) := fun h => by rwa [dd] at h
    have bad : ∀ (e : Nat), R = .bad e → resRV R (.tup [D.agg [.int .i64 6, .int .i64 0, .str [], .list [], .list (fldsD acc)], .int .i64 0, .int .i64 e]) := fun e he => by
      have := resRV_bad (dicV acc) 0 he
      rwa [dd] at this
    have hget := fun nm => getR_call (dicV acc) nm (by show acc.length ≤ _; omega)
    have hset := fun nm x => setR_call (dicV acc) x nm (by show acc.length ≤ _; omega)
    simp only [dd] at hget hset
    have hcs : (dobj acc = .cells [.d (.int .i64 6), .d (.int .i64 0), .d (.str []), .ns, .ns] ∧ fldsD acc = []) ∨ dobj acc = .cells [.d (.int .i64 6), .d (.int .i64 0), .d (.str []), .d (.list []), .d (.list (fldsD acc))] := by
      rcases dobj_cases acc with ⟨h, rfl⟩ | h
      · exact .inl ⟨h, rfl⟩
      · exact .inr h
    generalize fldsD acc = fd at bad lis hget hset hcs hal
    simp (maxSteps := 2000000) only [go_sem, ↓reduceIte]
    refine CallG.of hw ?_
    rcases hcs with ⟨hl, rfl⟩ | hl <;> rw [hl]
    all_goals
      simp (maxSteps := 2000000) only [go_sem, ↓reduceIte]
      refine ⟨fun h1 => ?_, fun h1 => ?_⟩
      · rw [List.getElem?_eq_none (by omega)] at hF
        exact bad 5 hF.symm
      · obtain ⟨c, hc⟩ := get_some (l := s) (i := q) (by omega)
        have hc8 := u8_lt c
        rw [hc] at hF
        simp only at hF
        by_cases c62 : c.toNat = 62
        · have z1 : ((c.toNat : Int) = 62) = True := by simp only [eq_iff_iff, iff_true]; omega
          have z2 : ((c.toNat : Int) = 47) = False := by simp only [eq_iff_iff, iff_false]; omega
          have nodd : ¬ s[q + 1]? = some 62 → R = .bad 4 := fun h => by
            rw [if_neg (fun h' => h h'.2), if_pos (by omega)] at hF
            exact hF.symm
          simp (maxSteps := 2000000) (disch := omega) only [go_sem, ↓reduceIte, getI_nat, hc, z1]
          refine ⟨fun h2 => ?_, fun h2 => ?_⟩
          · obtain ⟨e, he⟩ := get_some (l := s) (i := q + 1) (by omega)
            have g1 : getI s ((q : Int) + 1) = some e := by rw [getI_add1, he]
            simp (maxSteps := 2000000) (disch := omega) only [go_sem, ↓reduceIte, g1]
            refine ⟨fun h3 => ?_, fun h3 => ?_⟩
            · have e62 : e = 62 := UInt8.toNat_inj.1 (by have : (62 : UInt8).toNat = 62 := rfl; omega)
              rw [if_pos ⟨c62, by rw [he, e62]⟩] at hF
              exact lis (resRV_ok hF.symm)
            · simp (maxSteps := 2000000) (disch := omega) only [go_sem, ↓reduceIte, getI_nat, hc, z2]
              exact bad 4 (nodd (by rw [he]; intro e'; cases e'; exact h3 rfl))
          · simp (maxSteps := 2000000) (disch := omega) only [go_sem, ↓reduceIte, getI_nat, hc, z2]
            exact bad 4 (nodd (by rw [List.getElem?_eq_none (by omega)]; simp))
        · have z1 : ((c.toNat : Int) = 62) = False := by simp only [eq_iff_iff, iff_false]; omega
          rw [if_neg (fun h => c62 h.1)] at hF
          simp (maxSteps := 2000000) (disch := omega) only [go_sem, ↓reduceIte, getI_nat, hc, z1]
          refine ⟨fun h2 => ?_, fun h2 => ?_⟩
          · rw [if_pos (by omega)] at hF
            exact bad 4 hF.symm
          · rw [if_neg (by omega)] at hF
            have hlt : q < s.length := (List.getElem?_eq_some_iff.1 hc).1
            refine CallG.of (readName_call s q (by omega) hlt) ?_
            cases hn : nameAt s q with
            | none =>
              rw [hn] at hF
              simp only [nameRes]
              simp (maxSteps := 2000000) only [go_sem, ↓reduceIte]
              exact bad 4 hF.symm
            | some p =>
              obtain ⟨nm, kn⟩ := p
              rw [hn] at hF
              simp only at hF
              obtain ⟨n1, n2, n3, n4⟩ := nameAt_good hlt hn
              simp only [nameRes]
              simp (maxSteps := 2000000) (disch := omega) only [go_sem, ↓reduceIte]
              have hgq := hg kn n2
              refine CallG.post (ih kn n2) (fun r hr => ?_)
              cases hx : rd kn with
              | bad e =>
                rw [hx] at hF hr hgq
                obtain ⟨v, n, rfl⟩ := hr
                rw [Val.d_eq v]
                simp (maxSteps := 2000000) only [go_sem, ↓reduceIte]
                refine ⟨fun h3 => bad e hF.symm, fun h3 => ?_⟩
                obtain ⟨g1, _⟩ := hgq
                omega
              | ok x k' =>
                rw [hx] at hF hr hgq
                simp only [resRV] at hr
                subst hr
                obtain ⟨g1, g2, g3, g4⟩ := hgq
                rw [Val.d_eq x]
                simp (maxSteps := 2000000) only [go_sem, ↓reduceIte]
                have hgt := hget nm
                have eg : getR (getV nm (dicV acc).f) = .tup [((getV nm acc).getD zeroV).d, .bool (getV nm acc).isSome] := rfl
                rw [eg] at hgt
                simp only at hF
                have hnone := getV_none (nm := nm) (l := acc)
                have hst := hset nm x
                rw [refSet_eq (l := (dicV acc).f) hsrt] at hst
                have es : (Val.mk (dicV acc).kind (dicV acc).n (dicV acc).s (dicV acc).l (setF nm x (dicV acc).f)).d = .agg [.int .i64 6, .int .i64 0, .str [], .list [], .list (fldsD (setF nm x acc))] := by rw [mk_d]; rfl
                rw [es, Val.d_eq x] at hst
                generalize (getV nm acc).getD zeroV = gv at hgt
                generalize (getV nm acc).isSome = gs at hgt hF hnone
                rw [Val.d_eq gv] at hgt
                refine CallG.of hgt ?_
                cases gs with
                | true =>
                  rw [if_pos rfl] at hF
                  simp (maxSteps := 2000000) only [go_sem, ↓reduceIte]
                  exact bad 3 hF.symm
                | false =>
                  rw [if_neg (by decide)] at hF
                  have hno := hnone rfl
                  simp (maxSteps := 2000000) only [go_sem, ↓reduceIte]
                  refine CallG.of hst ?_
                  obtain ⟨p1, p2⟩ := setF_pt (x := x) hno
                  have hsl := fldsD_length (setF nm x acc)
                  simp (maxSteps := 2000000) only [go_sem, ↓reduceIte, hsl]
                  refine ⟨fun h3 => ?_, fun h3 => ?_⟩
                  · have hm0 : m = 0 := by omega
                    rw [hm0, dictF] at hF
                    have := resRV_bad (dicV (setF nm x acc)) 0 hF.symm
                    rwa [Val.d_eq] at this
                  · have hm0 : m = 301 - (setF nm x acc).length := by omega
                    rw [hm0] at hF
                    refine ⟨(k', setF nm x acc), ?_, ⟨g2, by simp only; omega, srt_set hsrt hno, hF⟩, by simp only; omega⟩
                    have hob := dobj_ne (setF_ne nm x acc hno)
                    refine Weak.mk ?_ ?_ ?_ <;> simp (maxSteps := 2000000) only [go_sem, ↓reduceIte, Sub, Int.natCast_add, Int.natCast_mul, hob]
end Go.Av.Try
