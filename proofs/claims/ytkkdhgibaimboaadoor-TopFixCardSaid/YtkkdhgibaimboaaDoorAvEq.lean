/- Equality of structs of plain fields. -/
import Derived.Test.YtkkdhgibaimboaaDoorAvOps4
import Derived.Laws.StructEq
namespace Go.Av

variable {E : Entry} {n : Nat} {G : Ghost} {σ : St} {a : Act} {w : World} {P : Program}

def eqC : Nat → D → D → Option Bool
  | 0, .int k x, .int k' y => if k = k' then some (decide (x = y)) else none
  | 1, .bool x, .bool y => some (decide (x = y))
  | 2, .str x, .str y => some (decide (x = y))
  | _, _, _ => none

def eqCs : List Nat → List D → List D → Option Bool
  | [], [], [] => some true
  | k :: ks, x :: xs, y :: ys => match eqC k x y, eqCs ks xs ys with
    | some b, some c => some (b && c)
    | _, _ => none
  | _, _, _ => none

def fEqS (neg : Bool) (ks : List Nat) : AV → AV → Option AV
  | .d (.agg xs), .d (.agg ys) => (eqCs ks xs ys).map fun b => .d (.bool (if neg then !b else b))
  | _, _ => none

def kindOfT : TypeDesc → Option Nat
  | .int _ => some 0
  | .bool => some 1
  | .string => some 2
  | _ => none

/-- The kinds of plain fields that lie one behind the other. -/
def kindsOf (P : Program) : Nat → List Field → Option (List Nat)
  | _, [] => some []
  | i, f :: r => if f.offset = i ∧ f.name ≠ "_" then
      match (P.underlying f.type).bind kindOfT, kindsOf P (i + 1) r with
      | some k, some l => some (k :: l)
      | _, _ => none
    else none

theorem kind_part {t : TypeId} {k : Nat} (h : (P.underlying t).bind kindOfT = some k) (vs : Array Value) (i : Nat) (hi : i < vs.size) : (part t vs i).run P w = .ok (vs.getD i undef) w := by
  cases hu : P.underlying t with
  | none => simp [hu] at h
  | some d =>
    have : aggT d = false := by simp [hu] at h; cases d <;> simp [kindOfT] at h <;> rfl
    simp [part, isAgg_run hu, this, hi]

theorem eqC_run {t : TypeId} {k : Nat} (h : (P.underlying t).bind kindOfT = some k) {x y : D} {u v : Value} (hx : RD G.f w x u) (hy : RD G.f w y v) {b : Bool} (he : eqC k x y = some b) (d : Nat) : (Op.equalIn (d + 1) t u v).run P w = .ok b w := by
  cases hu : P.underlying t with
  | none => simp [hu] at h
  | some td =>
    unfold eqC at he
    split at he
    · rename_i k1 x k2 y
      cases hx; cases hy
      split at he
      · cases he
        have : ∃ k, td = .int k := by simp [hu] at h; cases td <;> simp [kindOfT] at h; exact ⟨_, rfl⟩
        obtain ⟨k0, rfl⟩ := this
        rename_i e; subst e
        rw [run_equalIn_int w d t k1 k0 x y hu]
        rfl
      · cases he
    · cases hx; cases hy; cases he
      have : td = .bool := by simp [hu] at h; cases td <;> simp [kindOfT] at h; rfl
      subst this
      rw [run_equalIn_bool' w d t _ _ hu]; rfl
    · cases hx; cases hy; cases he
      have : td = .string := by simp [hu] at h; cases td <;> simp [kindOfT] at h; rfl
      subst this
      rw [run_equalIn_string w d t _ _ hu]
      simp only [ByteArray.toList_eq]
      congr 1; rw [Bool.eq_iff_iff]; simp
    · cases he

theorem eqCs_run : ∀ {fs : List Field} {ks : List Nat} {i : Nat} {xs ys : List D} {b : Bool} (us vs : Array Value) (d : Nat), kindsOf P i fs = some ks → eqCs ks xs ys = some b → i + xs.length = us.size → i + ys.length = vs.size →
    (∀ (j : Nat) (x : D), xs[j]? = some x → RD G.f w x (us.getD (i + j) undef)) → (∀ (j : Nat) (y : D), ys[j]? = some y → RD G.f w y (vs.getD (i + j) undef)) → (Op.eqFields (d + 1) us vs fs).run P w = .ok b w
  | [], ks, i, xs, ys, b, us, vs, d, hk, he, h1, h2, hx, hy => by
    simp [kindsOf] at hk; subst hk
    have : b = true := by cases xs <;> cases ys <;> simp [eqCs] at he; exact he
    subst this
    simp [Op.eqFields]
  | f :: fs, ks, i, xs, ys, b, us, vs, d, hk, he, h1, h2, hx, hy => by
    simp only [kindsOf] at hk
    split at hk
    · rename_i hf
      split at hk
      · rename_i k l hk1 hk2
        cases hk
        cases xs with
        | nil => simp [eqCs] at he
        | cons x xs =>
          cases ys with
          | nil => simp [eqCs] at he
          | cons y ys =>
            simp only [eqCs] at he
            split at he
            · rename_i b1 b2 e1 e2
              cases he
              have hi1 : i < us.size := by simp at h1; omega
              have hi2 : i < vs.size := by simp at h2; omega
              have r1 := eqC_run (P := P) hk1 (hx 0 x rfl) (hy 0 y rfl) e1 d
              have r2 := eqCs_run us vs d hk2 e2 (by simp at h1; omega) (by simp at h2; omega) (fun j z hz => by have := hx (j + 1) z (by simpa using hz); rw [show i + (j + 1) = i + 1 + j by omega] at this; exact this)
                (fun j z hz => by have := hy (j + 1) z (by simpa using hz); rw [show i + (j + 1) = i + 1 + j by omega] at this; exact this)
              simp only [Op.eqFields, hf.2, ne_eq, not_false_eq_true, if_true, hf.1, Sem.run_bind, kind_part hk1 us i hi1, kind_part hk1 vs i hi2, Result.andThen_ok]
              rw [show i + 0 = i from rfl] at r1
              rw [r1]
              cases b1 <;> simp [r2]
            · cases he
      · cases hk
    · cases hk

theorem fEqS_run {neg : Bool} {t : TypeId} {ks : List Nat} {x y z : AV} {u v : Value} (ht : P.underlying t = some (.struct (P.fieldsOf t))) (hp : P.stoodInHeld t = false) (hk : kindsOf P 0 (P.fieldsOf t).toList = some ks) (hx : AVR G w x u) (hy : AVR G w y v) (h : fEqS neg ks x y = some z) :
    ∃ r, (binOp (eqOp neg) t u v).run P w = .ok r w ∧ AVR G w z r := by
  unfold fEqS at h
  split at h
  · rename_i xs ys
    cases hb : eqCs ks xs ys with
    | none => simp [hb] at h
    | some b =>
      simp [hb] at h; subst h
      have hx := hx.dinv; have hy := hy.dinv
      cases hx with | agg _ us hl1 _ h1 => ?_
      cases hy with | agg _ vs hl2 _ h2 => ?_
      have hr := eqCs_run (P := P) (G := G) (w := w) us vs 9998 hk hb (by simp [hl1]) (by simp [hl2]) (fun j x hj => by simpa using h1 j x hj) (fun j x hj => by simpa using h2 j x hj)
      refine ⟨.bool (if neg then !b else b), ?_, .d _ _ (.bool _)⟩
      cases neg
      · simp only [eqOp, Bool.false_eq_true, if_false]
        rw [run_eql_struct, run_equalIn_agg w 9999 t us vs ht hp, hr]; rfl
      · simp only [eqOp, if_true]
        rw [run_neq_struct, run_equalIn_agg w 9999 t us vs ht hp, hr]; rfl
  · cases h

end Go.Av
