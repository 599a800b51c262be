import Derived.Test.YtbfjcggilepoeaaFilTop
set_option linter.unusedSimpArgs false
namespace Go.Av.Try
open Go.Proofs

theorem tab_facts : ∀ k : Fin 16, (hexTab.getD k.val 0).toNat ≠ 62 ∧ blankB (hexTab.getD k.val 0).toNat = false ∧ hexI (hexTab.getD k.val 0).toNat = k.val := by decide

theorem byteI_self (c : UInt8) : byteI (16 * ((c.toNat / 16 : Nat) : Int) + ((c.toNat % 16 : Nat) : Int)) = c := by
  have h : (16 * ((c.toNat / 16 : Nat) : Int) + ((c.toNat % 16 : Nat) : Int)) = (c.toNat : Int) := by omega
  rw [h]
  apply UInt8.toNat_inj.1
  have h8 := u8_lt c
  have := byteI_toNat (n := (c.toNat : Int)) (by omega)
  omega

theorem rt_hex (s b : List UInt8) : unhexF (hexP s ++ [62]) (-1) b = (b ++ s, 0) := by
  induction s generalizing b with
  | nil => simp [hexP, unhexF]
  | cons c s ih =>
    have h8 := u8_lt c
    obtain ⟨a1, a2, a3⟩ := tab_facts ⟨c.toNat / 16, by omega⟩
    obtain ⟨b1, b2, b3⟩ := tab_facts ⟨c.toNat % 16, by omega⟩
    simp only at a1 a2 a3 b1 b2 b3
    have e : hexP (c :: s) ++ [62] = hexTab.getD (c.toNat / 16) 0 :: hexTab.getD (c.toNat % 16) 0 :: (hexP s ++ [62]) := by simp [hexP, hexB]
    rw [e]
    unfold unhexF
    rw [if_neg a1, if_neg (by rw [a2]; decide), a3, if_neg (by omega), if_pos (by omega)]
    unfold unhexF
    rw [if_neg b1, if_neg (by rw [b2]; decide), b3, if_neg (by omega), if_neg (by omega), byteI_self, ih]
    simp

theorem be4_lt (a b c d : UInt8) : be4 a b c d < 4294967296 := by
  have := u8_lt a; have := u8_lt b; have := u8_lt c; have := u8_lt d
  unfold be4; omega
theorem four_be4 (a b c d : UInt8) : fourB (be4 a b c d) = [a, b, c, d] := by
  have ha := u8_lt a; have hb := u8_lt b; have hc := u8_lt c; have hd := u8_lt d
  have e : ∀ (x : UInt8) (n : Nat), n = x.toNat → byteN n = x := fun x n h => by subst h; simp [byteN]
  unfold fourB be4
  rw [e a _ (by omega), e b _ (by omega), e c _ (by omega), e d _ (by omega)]

/-- A digit. -/
theorem un_digit {n : Nat} (hn : n < 85) (r : List UInt8) (l : List Nat) (b : List UInt8) (hl : l.length ≠ 4) : uneightyF (byteN (33 + n) :: r) l b = uneightyF r (l ++ [n]) b := by
  have h : (byteN (33 + n)).toNat = 33 + n := byteN_toNat (by omega)
  have hb : blankB ((33 + n : Nat) : Int) = false := by simp [blankB]; omega
  rw [uneightyF, h, if_neg (by omega), if_neg (by rw [hb]; decide), if_neg (by omega), if_neg (by omega), if_neg hl]
  congr 2; simp
theorem un_digit5 {n : Nat} (hn : n < 85) (r : List UInt8) (l : List Nat) (b g : List UInt8) (hl : l.length = 4) (hg : groupF (l ++ [n]) = (g, 0)) : uneightyF (byteN (33 + n) :: r) l b = uneightyF r [] (b ++ g) := by
  have h : (byteN (33 + n)).toNat = 33 + n := byteN_toNat (by omega)
  have hb : blankB ((33 + n : Nat) : Int) = false := by simp [blankB]; omega
  have e : 33 + n - 33 = n := by omega
  rw [uneightyF, h, if_neg (by omega), if_neg (by rw [hb]; decide), if_neg (by omega), if_neg (by omega), if_pos hl, e, hg, if_neg (by simp)]
theorem un_end (l : List Nat) (b : List UInt8) : uneightyF [126, 62] l b = if l = [] then (b, 0) else (b ++ (groupF l).1, (groupF l).2) := by
  rw [uneightyF]; rfl

theorem accG5 (a b c d e : Nat) : accG [a, b, c, d, e] 5 = 85 * (85 * (85 * (85 * a + b) + c) + d) + e := by simp [accG]
theorem accG4 (a b c d : Nat) : accG [a, b, c, d] 5 = 85 * (85 * (85 * (85 * a + b) + c) + d) + 84 := by simp [accG]
theorem accG3 (a b c : Nat) : accG [a, b, c] 5 = 85 * (85 * (85 * (85 * a + b) + c) + 84) + 84 := by simp [accG]
theorem accG2 (a b : Nat) : accG [a, b] 5 = 85 * (85 * (85 * (85 * a + b) + 84) + 84) + 84 := by simp [accG]

theorem hor (N : Nat) (h : N < 4294967296) :
    85 * (85 * (85 * (85 * (N / 52200625 % 85) + N / 614125 % 85) + 84) + 84) + 84 = 614125 * (N / 614125) + 614124 ∧
    85 * (85 * (85 * (85 * (N / 52200625 % 85) + N / 614125 % 85) + N / 7225 % 85) + 84) + 84 = 7225 * (N / 7225) + 7224 ∧
    85 * (85 * (85 * (85 * (N / 52200625 % 85) + N / 614125 % 85) + N / 7225 % 85) + N / 85 % 85) + 84 = 85 * (N / 85) + 84 ∧
    85 * (85 * (85 * (85 * (N / 52200625 % 85) + N / 614125 % 85) + N / 7225 % 85) + N / 85 % 85) + N % 85 = N := by
  have d1 : N / 614125 / 85 = N / 52200625 := by rw [Nat.div_div_eq_div_mul]
  have d2 : N / 7225 / 85 = N / 614125 := by rw [Nat.div_div_eq_div_mul]
  have d3 : N / 85 / 85 = N / 7225 := by rw [Nat.div_div_eq_div_mul]
  have d0 : N / 52200625 < 85 := by omega
  have e1 := Nat.div_add_mod (N / 614125) 85
  have e2 := Nat.div_add_mod (N / 7225) 85
  have e3 := Nat.div_add_mod (N / 85) 85
  have e4 := Nat.div_add_mod N 85
  rw [d1] at e1
  rw [d2] at e2
  rw [d3] at e3
  have e0 : N / 52200625 % 85 = N / 52200625 := Nat.mod_eq_of_lt d0
  rw [e0]
  generalize N / 614125 % 85 = m1 at *
  generalize N / 7225 % 85 = m2 at *
  generalize N / 85 % 85 = m3 at *
  generalize N % 85 = m4 at *
  generalize N / 52200625 = q0 at *
  generalize N / 614125 = q1 at *
  generalize N / 7225 = q2 at *
  generalize N / 85 = q3 at *
  refine ⟨?_, ?_, ?_, ?_⟩ <;> omega

theorem be4_val (x y z t : UInt8) : be4 x y z t = 16777216 * x.toNat + 65536 * y.toNat + 256 * z.toNat + t.toNat := by unfold be4; omega

theorem rt_85 (s : List UInt8) : ∀ b, uneightyF (e85P s ++ [126, 62]) [] b = (b ++ s, 0) := by
  induction hn : s.length using Nat.strongRecOn generalizing s with
  | _ n ih =>
    intro b
    have e : ∀ (x : UInt8) (n : Nat), n = x.toNat → byteN n = x := fun x n h => by subst h; simp [byteN]
    match s, hn with
    | [], _ => rw [e85P, dif_pos rfl]; simp [un_end]
    | [x], hn =>
      have hx := u8_lt x
      have hC : e85C [x] = [byteN (33 + be4 x 0 0 0 / 52200625 % 85), byteN (33 + be4 x 0 0 0 / 614125 % 85)] := by
        unfold e85C; rw [if_neg (by simp)]; rfl
      rw [e85P, dif_neg (by simp)]
      show uneightyF (e85C [x] ++ e85P [] ++ [126, 62]) [] b = _
      rw [e85P, dif_pos rfl, hC]
      show uneightyF (_ :: _ :: [126, 62]) [] b = _
      rw [un_digit (Nat.mod_lt _ (by decide)) _ _ _ (by simp), un_digit (Nat.mod_lt _ (by decide)) _ _ _ (by simp), un_end, if_neg (by simp)]
      have hz : (0 : UInt8).toNat = 0 := rfl
      have hG : groupF ([] ++ [be4 x 0 0 0 / 52200625 % 85] ++ [be4 x 0 0 0 / 614125 % 85]) = ([x], 0) := by
        have hlt := be4_lt x 0 0 0
        have hv := be4_val x 0 0 0
        have hh := (hor _ hlt).1
        generalize be4 x 0 0 0 = N at hv hh hlt ⊢
        show groupF [N / 52200625 % 85, N / 614125 % 85] = _
        unfold groupF
        rw [if_neg (by simp), accG2, hh, if_neg (by omega)]
        simp only [fourB, List.length_cons, List.length_nil, Nat.zero_add, Nat.reduceAdd, Nat.reduceSub, List.take_succ_cons, List.take_zero]
        rw [e x _ (by omega)]
      rw [hG]
    | [x, y], hn =>
      have hx := u8_lt x
      have hy := u8_lt y
      have hz : (0 : UInt8).toNat = 0 := rfl
      have hC : e85C [x, y] = [byteN (33 + be4 x y 0 0 / 52200625 % 85), byteN (33 + be4 x y 0 0 / 614125 % 85), byteN (33 + be4 x y 0 0 / 7225 % 85)] := by
        unfold e85C; rw [if_neg (by simp)]; rfl
      rw [e85P, dif_neg (by simp)]
      show uneightyF (e85C [x, y] ++ e85P [] ++ [126, 62]) [] b = _
      rw [e85P, dif_pos rfl, hC]
      show uneightyF (_ :: _ :: _ :: [126, 62]) [] b = _
      rw [un_digit (Nat.mod_lt _ (by decide)) _ _ _ (by simp), un_digit (Nat.mod_lt _ (by decide)) _ _ _ (by simp), un_digit (Nat.mod_lt _ (by decide)) _ _ _ (by simp), un_end, if_neg (by simp)]
      have hG : groupF ([] ++ [be4 x y 0 0 / 52200625 % 85] ++ [be4 x y 0 0 / 614125 % 85] ++ [be4 x y 0 0 / 7225 % 85]) = ([x, y], 0) := by
        have hlt := be4_lt x y 0 0
        have hv := be4_val x y 0 0
        have hh := (hor _ hlt).2.1
        generalize be4 x y 0 0 = N at hv hh hlt ⊢
        show groupF [N / 52200625 % 85, N / 614125 % 85, N / 7225 % 85] = _
        unfold groupF
        rw [if_neg (by simp), accG3, hh, if_neg (by omega)]
        simp only [fourB, List.length_cons, List.length_nil, Nat.zero_add, Nat.reduceAdd, Nat.reduceSub, List.take_succ_cons, List.take_zero]
        have hM : (7225 * (N / 7225) + 7224) / 65536 = 256 * x.toNat + y.toNat := by omega
        rw [e x _ (by omega), e y _ (by rw [hM]; omega)]
      rw [hG]
    | [x, y, z], hn =>
      have hx := u8_lt x
      have hy := u8_lt y
      have hz := u8_lt z
      have h0 : (0 : UInt8).toNat = 0 := rfl
      have hC : e85C [x, y, z] = [byteN (33 + be4 x y z 0 / 52200625 % 85), byteN (33 + be4 x y z 0 / 614125 % 85), byteN (33 + be4 x y z 0 / 7225 % 85), byteN (33 + be4 x y z 0 / 85 % 85)] := by
        unfold e85C; rw [if_neg (by simp)]; rfl
      rw [e85P, dif_neg (by simp)]
      show uneightyF (e85C [x, y, z] ++ e85P [] ++ [126, 62]) [] b = _
      rw [e85P, dif_pos rfl, hC]
      show uneightyF (_ :: _ :: _ :: _ :: [126, 62]) [] b = _
      rw [un_digit (Nat.mod_lt _ (by decide)) _ _ _ (by simp), un_digit (Nat.mod_lt _ (by decide)) _ _ _ (by simp), un_digit (Nat.mod_lt _ (by decide)) _ _ _ (by simp), un_digit (Nat.mod_lt _ (by decide)) _ _ _ (by simp), un_end, if_neg (by simp)]
      have hG : groupF ([] ++ [be4 x y z 0 / 52200625 % 85] ++ [be4 x y z 0 / 614125 % 85] ++ [be4 x y z 0 / 7225 % 85] ++ [be4 x y z 0 / 85 % 85]) = ([x, y, z], 0) := by
        have hlt := be4_lt x y z 0
        have hv := be4_val x y z 0
        have hh := (hor _ hlt).2.2.1
        generalize be4 x y z 0 = N at hv hh hlt ⊢
        show groupF [N / 52200625 % 85, N / 614125 % 85, N / 7225 % 85, N / 85 % 85] = _
        unfold groupF
        rw [if_neg (by simp), accG4, hh, if_neg (by omega)]
        simp only [fourB, List.length_cons, List.length_nil, Nat.zero_add, Nat.reduceAdd, Nat.reduceSub, List.take_succ_cons, List.take_zero]
        have hM : (85 * (N / 85) + 84) / 65536 = 256 * x.toNat + y.toNat := by omega
        have hM2 : (85 * (N / 85) + 84) / 256 = 65536 * x.toNat + 256 * y.toNat + z.toNat := by omega
        rw [e x _ (by omega), e y _ (by rw [hM]; omega), e z _ (by rw [hM2]; omega)]
      rw [hG]
    | x :: y :: z :: t :: r, hn =>
      have hx := u8_lt x
      have hy := u8_lt y
      have hz := u8_lt z
      have ht := u8_lt t
      have hih := ih r.length (by simp at hn; omega) r rfl
      rw [e85P, dif_neg (by simp)]
      show uneightyF (e85C [x, y, z, t] ++ e85P r ++ [126, 62]) [] b = _
      by_cases h0 : be4 x y z t = 0
      · have hC : e85C [x, y, z, t] = [122] := by unfold e85C; rw [if_pos ⟨h0, rfl⟩]
        rw [hC]
        show uneightyF (122 :: (e85P r ++ [126, 62])) [] b = _
        rw [uneightyF, if_neg (by decide), if_neg (by decide), if_pos ⟨by decide, rfl⟩, hih]
        have e1 : x = 0 := UInt8.toNat_inj.1 (by show x.toNat = 0; unfold be4 at h0; omega)
        have e2 : y = 0 := UInt8.toNat_inj.1 (by show y.toNat = 0; unfold be4 at h0; omega)
        have e3 : z = 0 := UInt8.toNat_inj.1 (by show z.toNat = 0; unfold be4 at h0; omega)
        have e4 : t = 0 := UInt8.toNat_inj.1 (by show t.toNat = 0; unfold be4 at h0; omega)
        subst e1 e2 e3 e4
        simp
      · have hC : e85C [x, y, z, t] = dig85 (be4 x y z t) := by unfold e85C; rw [if_neg (fun h => h0 h.1)]; rfl
        have hlt := be4_lt x y z t
        have h4 := four_be4 x y z t
        rw [hC]
        generalize be4 x y z t = N at h4 hlt
        have hD : dig85 N ++ e85P r ++ [126, 62] = byteN (33 + N / 52200625 % 85) :: byteN (33 + N / 614125 % 85) :: byteN (33 + N / 7225 % 85) :: byteN (33 + N / 85 % 85) :: byteN (33 + N % 85) :: (e85P r ++ [126, 62]) := by simp [dig85]
        rw [hD]
        rw [un_digit (Nat.mod_lt _ (by decide)) _ _ _ (by simp), un_digit (Nat.mod_lt _ (by decide)) _ _ _ (by simp), un_digit (Nat.mod_lt _ (by decide)) _ _ _ (by simp), un_digit (Nat.mod_lt _ (by decide)) _ _ _ (by simp),
          un_digit5 (g := [x, y, z, t]) (Nat.mod_lt _ (by decide)) _ _ _ (by simp) (by
            show groupF [N / 52200625 % 85, N / 614125 % 85, N / 7225 % 85, N / 85 % 85, N % 85] = _
            unfold groupF
            have hN : accG [N / 52200625 % 85, N / 614125 % 85, N / 7225 % 85, N / 85 % 85, N % 85] 5 = N := by rw [accG5]; exact (hor N hlt).2.2.2
            rw [if_neg (by simp), hN, if_neg (by omega), h4]; rfl), hih]
        simp

theorem take_lead (c : UInt8) (l : List UInt8) (k : Nat) (h : k ≤ lead c l) : l.take k = List.replicate k c := by
  induction l generalizing k with
  | nil => simp [lead] at h; subst h; rfl
  | cons x r ih =>
    cases k with
    | zero => rfl
    | succ k =>
      unfold lead at h
      split at h
      · rename_i hx; subst hx
        rw [List.take_succ_cons, ih k (by omega), List.replicate_succ]
      · omega

theorem rt_runs (s : List UInt8) : ∀ b, (b ++ s).length ≤ 20000 → unrunsF (runsP s ++ [128]) b = (b ++ s, 0) := by
  induction hn : s.length using Nat.strongRecOn generalizing s with
  | _ n ih =>
    intro b hb
    cases s with
    | nil => rw [runsP, dif_pos rfl, List.nil_append, unrunsF]; simp
    | cons c r =>
      rw [runsP, dif_neg (by simp)]
      have ha2 := alike_le (l := c :: r) (by simp)
      by_cases ha : 2 ≤ alike (c :: r)
      · rw [if_pos ha]
        generalize hm : min (alike (c :: r)) 128 = m
        have htk : (c :: r).take m = List.replicate m c := by
          cases m with
          | zero => rfl
          | succ k =>
            rw [List.take_succ_cons, take_lead c r k (by simp only [alike] at hm ha2; omega), List.replicate_succ]
        have hN : (byteN (257 - m)).toNat = 257 - m := byteN_toNat (by omega)
        have e257 : 257 - (257 - m) = m := by omega
        show unrunsF (byteN (257 - m) :: c :: (runsP ((c :: r).drop m) ++ [128])) b = _
        rw [unrunsF, hN, if_neg (by omega), if_neg (by omega)]
        simp only [e257]
        have hsplit : b ++ List.replicate m c ++ (c :: r).drop m = b ++ c :: r := by rw [← htk, List.append_assoc, List.take_append_drop]
        have hlen : (b ++ List.replicate m c).length ≤ 20000 := by
          have := congrArg List.length hsplit
          simp only [List.length_append] at this hb ⊢; omega
        rw [if_neg (by omega), ih ((c :: r).drop m).length (by rw [List.length_drop]; omega) _ rfl _ (by rw [hsplit]; exact hb), hsplit]
      · rw [if_neg ha]
        generalize hm : litF (List.drop 1 (c :: r)) 1 = m
        have hm1 : 1 ≤ m := by rw [← hm]; exact litF_ge _ _
        have hm2 : m ≤ 128 := by rw [← hm]; exact litF_max _ _ (by omega)
        have hm3 : m ≤ (c :: r).length := by have := litF_le (List.drop 1 (c :: r)) 1; rw [hm, List.length_drop] at this; simp at this ⊢; omega
        have hN : (byteN (m - 1)).toNat = m - 1 := byteN_toNat (by omega)
        have hm4 : m - 1 + 1 = m := by omega
        show unrunsF (byteN (m - 1) :: ((c :: r).take m ++ runsP ((c :: r).drop m) ++ [128])) b = _
        have htl : ((c :: r).take m).length = m := by rw [List.length_take]; omega
        have ht1 : ((c :: r).take m ++ runsP ((c :: r).drop m) ++ [128]).take m = (c :: r).take m := by
          rw [List.append_assoc, List.take_append_of_le_length (by omega), List.take_of_length_le (by omega)]
        have ht2 : ((c :: r).take m ++ runsP ((c :: r).drop m) ++ [128]).drop m = runsP ((c :: r).drop m) ++ [128] := by
          rw [List.append_assoc, List.drop_append_of_le_length (by omega), List.drop_of_length_le (by omega), List.nil_append]
        unfold unrunsF
        rw [hN, if_neg (by omega), if_pos (by omega), hm4, ht1, ht2]
        have hsplit : b ++ (c :: r).take m ++ (c :: r).drop m = b ++ c :: r := by rw [List.append_assoc, List.take_append_drop]
        have hlen : (b ++ (c :: r).take m).length ≤ 20000 := by
          have := congrArg List.length hsplit
          simp only [List.length_append] at this hb ⊢; omega
        rw [if_neg (by simp only [List.length_append] at htl ⊢; omega), if_neg (by omega), ih ((c :: r).drop m).length (by rw [List.length_drop]; simp at hn ⊢; omega) _ rfl _ (by rw [hsplit]; exact hb), hsplit]

theorem rt_one {n s t : List UInt8} (hs : s.length ≤ 20000) (h : oneF n s false = (t, 0)) : oneF n t true = (s, 0) ∧ t.length ≤ 20000 := by
  have hl := oneF_len (n := n) (s := s) (b := false) (by rw [h])
  rw [h] at hl
  unfold oneF at h ⊢
  by_cases hk : known n = true
  · rw [if_pos hk, if_neg (by simp)] at h
    rw [if_pos hk, if_pos rfl]
    have ht : makeOne n s = t := by
      unfold sizeF at h
      rw [if_neg (by simp)] at h
      split at h
      · simp at h
      · simpa using congrArg Prod.fst h
    have hT : takeOne n t = (s, 0) := by
      subst ht
      unfold takeOne makeOne
      by_cases h1 : n = nHex
      · rw [if_pos h1, if_pos h1]; simpa using rt_hex s []
      · rw [if_neg h1, if_neg h1]
        by_cases h2 : n = n85
        · rw [if_pos h2, if_pos h2]; simpa using rt_85 s []
        · rw [if_neg h2, if_neg h2]; simpa using rt_runs s [] (by simpa using hs)
    rw [hT]
    refine ⟨?_, hl⟩
    unfold sizeF
    rw [if_neg (by simp), if_neg (by simp only; omega)]
  · rw [if_neg hk] at h; simp at h

theorem chainF_append (l1 l2 : List (List UInt8)) (s : List UInt8) (b : Bool) : chainF (l1 ++ l2) s b = if (chainF l1 s b).2 ≠ 0 then ([], (chainF l1 s b).2) else chainF l2 (chainF l1 s b).1 b := by
  induction l1 generalizing s with
  | nil => simp [chainF]
  | cons n r ih =>
    show chainF (n :: (r ++ l2)) s b = _
    rw [chainF, chainF]
    by_cases hz : (oneF n s b).2 ≠ 0
    · rw [if_pos hz, if_pos hz, if_pos hz]
    · rw [if_neg hz, if_neg hz, ih]

theorem rt_chain (names : List (List UInt8)) : ∀ s t, s.length ≤ 20000 → chainF names.reverse s false = (t, 0) → chainF names t true = (s, 0) := by
  induction names with
  | nil => intro s t _ h; simp [chainF] at h ⊢; exact h.symm
  | cons n r ih =>
    intro s t hs h
    rw [List.reverse_cons, chainF_append] at h
    by_cases hz : (chainF r.reverse s false).2 ≠ 0
    · rw [if_pos hz] at h; simp at h; exact absurd h.2 hz
    · rw [if_neg hz] at h
      have hl := chainF_len (l := r.reverse) (b := false) hs
      generalize hu : chainF r.reverse s false = u at h hz hl
      obtain ⟨u1, u2⟩ := u
      simp only [ne_eq, Decidable.not_not] at hz h hl
      subst hz
      rw [chainF] at h
      by_cases hz2 : (oneF n u1 false).2 ≠ 0
      · rw [if_pos hz2] at h; simp at h; exact absurd h.2 hz2
      · rw [if_neg hz2] at h
        simp only [ne_eq, Decidable.not_not] at hz2
        have ho : oneF n u1 false = (t, 0) := by
          have h1 : (oneF n u1 false).1 = t := by simpa [chainF] using h
          rw [← h1, ← hz2]
        obtain ⟨h3, _⟩ := rt_one hl ho
        rw [chainF, h3, if_neg (by simp)]
        exact ih s u1 hs hu

theorem rt_all (names : List (List UInt8)) (s : List UInt8) (hn : names.length ≤ 5) (hs : s.length ≤ 2000) (h : (allF names s false).2 = 0) : allF names (allF names s false).1 true = (s, 0) := by
  have hl : (allF names s false).1.length ≤ 20000 := by
    unfold allF; rw [if_neg (by omega)]; exact chainF_len (by omega)
  generalize ha : allF names s false = a at h hl
  obtain ⟨t, z⟩ := a
  simp only at h hl
  subst h
  unfold allF at ha ⊢
  rw [if_neg (by omega), if_neg (by simp)] at ha
  rw [if_neg (by simp only; omega), if_pos rfl]
  exact rt_chain names s t (by omega) ha
end Go.Av.Try
