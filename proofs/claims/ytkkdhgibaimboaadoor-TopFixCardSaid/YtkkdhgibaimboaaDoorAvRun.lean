/- Stepping through statements over abstract states: equations to rewrite with. -/
import Derived.Test.YtkkdhgibaimboaaDoorAvMach2
namespace Go.Av

variable {P : Program} [Inv P]

theorem lopsR_mono {K K' : St → Prop} (hK : ∀ σ, K σ → K' σ) : ∀ {l : List LOper} {σ : St}, LOpsR P l K σ → LOpsR P l K' σ
  | [], σ, h => hK σ h
  | o :: l, σ, h => by
    simp only [LOpsR] at *
    cases hg : o.guard with
    | none => rw [hg] at h; exact lstep_mono (fun _ => lopsR_mono hK) h
    | some sb =>
      obtain ⟨s, b⟩ := sb
      rw [hg] at h
      rcases h with ⟨t, h1, h2, h3⟩ | ⟨h1, h2⟩
      · exact .inl ⟨t, h1, fun e => lstep_mono (fun _ => lopsR_mono hK) (h2 e), fun e => lopsR_mono hK (h3 e)⟩
      · exact .inr ⟨h1, lopsR_mono hK h2⟩

/-! ### What is asked may be more -/
theorem deff_mono {o : LOper} {K K' : St → Prop} {σ : St} (hK : ∀ σ, K σ → K' σ) (h : DStep P o K σ) : DStep P o K' σ := by
  unfold DStep at *
  split at h
  · rename_i hm; rw [if_pos hm]; obtain ⟨e, h1, h2⟩ := h; exact ⟨e, h1, hK _ h2⟩
  · rename_i hm; rw [if_neg hm]; exact lops_mono hK h

theorem dops_mono {K K' : St → Prop} (hK : ∀ σ, K σ → K' σ) : ∀ {l : List LOper} {σ : St}, DOps P l K σ → DOps P l K' σ
  | [], σ, h => hK σ h
  | _ :: _, _, h => deff_mono (fun _ => dops_mono hK) h

theorem lw_mono : ∀ {L : LCode} {K K' : Exit → St → Prop} {σ : St}, LW P L K σ → (∀ e σ, K e σ → K' e σ) → LW P L K' σ := by
  intro L
  induction L with
  | skip => intro K K' σ h hK; exact hK _ _ h
  | reg l => intro K K' σ h hK; exact lopsR_mono (fun σ => hK _ σ) h
  | dreg l => intro K K' σ h hK; exact dops_mono (fun σ => hK _ σ) h
  | dead ds c ih =>
    intro K K' σ h hK
    refine ih h fun e σ h => ?_
    cases e <;> exact hK _ _ h
  | seq a b iha ihb =>
    intro K K' σ h hK
    refine iha h fun e σ h => ?_
    cases e <;> first | exact hK _ _ h | exact ihb h hK
  | cond c a b iha ihb =>
    intro K K' σ h hK
    obtain ⟨t, h1, h2, h3⟩ := h
    exact ⟨t, h1, fun e => iha (h2 e) hK, fun e => ihb (h3 e) hK⟩
  | block id c ih =>
    intro K K' σ h hK
    refine ih h fun e σ h => ?_
    cases e with
    | exit id' =>
      simp only [blockK] at *
      split at h
      · rename_i e; rw [if_pos e]; exact hK _ _ h
      · rename_i e; rw [if_neg e]; exact hK _ _ h
    | _ => exact hK _ _ h
  | loop c ih =>
    intro K K' σ h hK
    obtain ⟨α, r, I, h0, h1, h2⟩ := h
    refine ⟨α, r, I, h0, h1, fun m τ hI => ih (h2 m τ hI) fun e σ h => ?_⟩
    cases e <;> first | exact hK _ _ h | exact h
  | exit id => intro K K' σ h hK; exact hK _ _ h
  | ret => intro K K' σ h hK; exact hK _ _ h

/-- What is still to do. -/
inductive Item where
  | code (c : LCode)
  | blk (id : Nat)
  | goal (g : St → Prop)
  | dead (ds : List Nat)

def stackK (P : Program) [Inv P] : List Item → (Exit → St → Prop) → Exit → St → Prop
  | [], K => K
  | .code c :: k, K => thenK (LW P c (stackK P k K)) (stackK P k K)
  | .blk id :: k, K => blockK id (stackK P k K)
  | .goal g :: k, K => thenK g (stackK P k K)
  | .dead ds :: k, K => deadK ds (stackK P k K)

def RUN (P : Program) [Inv P] (c : LCode) (k : List Item) (K : Exit → St → Prop) (σ : St) : Prop := LW P c (stackK P k K) σ
def POP (P : Program) [Inv P] (e : Exit) (k : List Item) (K : Exit → St → Prop) (σ : St) : Prop := stackK P k K e σ
def OPS (P : Program) [Inv P] (l : List LOper) (k : List Item) (K : Exit → St → Prop) (σ : St) : Prop := LOpsR P l (stackK P k K .normal) σ

def PutG (z : Option AV) (σ : St) (d : Nat) (N : St → Prop) : Prop := ∃ x, z = some x ∧ N (σ.put d x)
def StG (z : Option St) (N : St → Prop) : Prop := ∃ τ, z = some τ ∧ N τ
def BoolG (x : AV) (A B : St → Prop) (σ : St) : Prop := ∃ t, x = .d (.bool t) ∧ (t = true → A σ) ∧ (t = false → B σ)
def CallG (P : Program) [Inv P] (f : Nat) (ds : Option (List D)) (d : Option Nat) (N : St → Prop) (σ : St) : Prop := ∃ l Post, ds = some l ∧ PCall P f l Post ∧ ∀ r, Post r → N (putO σ d r.av)

theorem CallG.of {f : Nat} {l : List D} {d : Option Nat} {N : St → Prop} {σ : St} {r : Res} (h : PCall P f l (fun x => x = r)) (hN : N (putO σ d r.av)) : CallG P f (some l) d N σ :=
  ⟨l, _, rfl, h, fun _ e => e ▸ hN⟩

theorem CallG.post {f : Nat} {l : List D} {d : Option Nat} {N : St → Prop} {σ : St} {Post : Res → Prop} (h : PCall P f l Post) (hN : ∀ r, Post r → N (putO σ d r.av)) : CallG P f (some l) d N σ :=
  ⟨l, _, rfl, h, hN⟩

theorem PutG_some {x : AV} {σ : St} {d : Nat} {N : St → Prop} : PutG (some x) σ d N = N (σ.put d x) :=
  propext ⟨fun ⟨_, e, h⟩ => by cases e; exact h, fun h => ⟨_, rfl, h⟩⟩
theorem PutG_if {p : Prop} [Decidable p] {z : Option AV} {σ : St} {d : Nat} {N : St → Prop} : PutG (if p then z else none) σ d N = (p ∧ PutG z σ d N) := by
  by_cases h : p <;> simp [h, PutG]
theorem PutG_if' {p : Prop} [Decidable p] {z : Option AV} {σ : St} {d : Nat} {N : St → Prop} : PutG (if p then none else z) σ d N = (¬ p ∧ PutG z σ d N) := by
  by_cases h : p <;> simp [h, PutG]
theorem StG_some {τ : St} {N : St → Prop} : StG (some τ) N = N τ :=
  propext ⟨fun ⟨_, e, h⟩ => by cases e; exact h, fun h => ⟨_, rfl, h⟩⟩
theorem StG_if {p : Prop} [Decidable p] {z : Option St} {N : St → Prop} : StG (if p then z else none) N = (p ∧ StG z N) := by
  by_cases h : p <;> simp [h, StG]
theorem BoolG_d {t : Bool} {A B : St → Prop} {σ : St} : BoolG (.d (.bool t)) A B σ = if t = true then A σ else B σ := by
  have : BoolG (.d (.bool t)) A B σ = ((t = true → A σ) ∧ (t = false → B σ)) := propext ⟨fun ⟨_, e, h⟩ => by cases e; exact h, fun h => ⟨_, rfl, h⟩⟩
  rw [this]; cases t <;> simp
theorem IteG {p : Prop} [Decidable p] {A B : Prop} : (if p then A else B) = ((p → A) ∧ (¬ p → B)) := by
  by_cases h : p <;> simp [h]
theorem BoolG_tt {A B : St → Prop} {σ : St} : BoolG (.d (.bool true)) A B σ = A σ := by simp [BoolG_d]
theorem BoolG_ff {A B : St → Prop} {σ : St} : BoolG (.d (.bool false)) A B σ = B σ := by simp [BoolG_d]

/-- A guard: what it holds is then known. -/
def GuardG (x : AV) (b : Bool) (A B : St → Prop) (σ τ : St) : Prop := ∃ t, x = .d (.bool t) ∧ (t = b → A σ) ∧ (t = !b → B τ)
theorem GuardG_d {t b : Bool} {A B : St → Prop} {σ τ : St} : GuardG (.d (.bool t)) b A B σ τ = if t = b then A σ else B τ := by
  have : GuardG (.d (.bool t)) b A B σ τ = ((t = b → A σ) ∧ (t = !b → B τ)) := propext ⟨fun ⟨_, e, h⟩ => by cases e; exact h, fun h => ⟨_, rfl, h⟩⟩
  rw [this]; cases t <;> cases b <;> simp
theorem GuardG_tt {A B : St → Prop} {σ τ : St} : GuardG (.d (.bool true)) true A B σ τ = A σ := by simp [GuardG_d]
theorem GuardG_ff {A B : St → Prop} {σ τ : St} : GuardG (.d (.bool false)) false A B σ τ = A σ := by simp [GuardG_d]
theorem GuardG_tf {A B : St → Prop} {σ τ : St} : GuardG (.d (.bool true)) false A B σ τ = B τ := by simp [GuardG_d]
theorem GuardG_ft {A B : St → Prop} {σ τ : St} : GuardG (.d (.bool false)) true A B σ τ = B τ := by simp [GuardG_d]

/-- A guard in a region that runs in order: it may have been passed over itself. -/
def GuardR (x : AV) (b : Bool) (A B : St → Prop) (σ τ ρ : St) : Prop := (∃ t, x = .d (.bool t) ∧ (t = b → A σ) ∧ (t = !b → B τ)) ∨ (x = .tuple [] ∧ B ρ)
theorem GuardR_d {t b : Bool} {A B : St → Prop} {σ τ ρ : St} : GuardR (.d (.bool t)) b A B σ τ ρ = if t = b then A σ else B τ := by
  have : GuardR (.d (.bool t)) b A B σ τ ρ = ((t = b → A σ) ∧ (t = !b → B τ)) := by
    apply propext
    constructor
    · intro h
      rcases h with ⟨_, e, h⟩ | ⟨e, _⟩
      · cases e; exact h
      · cases e
    · exact fun h => .inl ⟨_, rfl, h⟩
  rw [this]; cases t <;> cases b <;> simp
theorem GuardR_u {b : Bool} {A B : St → Prop} {σ τ ρ : St} : GuardR (.tuple []) b A B σ τ ρ = B ρ := by
  apply propext
  constructor
  · intro h
    rcases h with ⟨_, e, _⟩ | ⟨_, h⟩
    · cases e
    · exact h
  · exact fun h => .inr ⟨rfl, h⟩

/-- What is told at the end. -/
def RetG (r : Option Res) (Post : Res → Prop) : Prop := ∃ x, r = some x ∧ Post x
theorem RetG_some {r : Res} {Post : Res → Prop} : RetG (some r) Post = Post r :=
  propext ⟨fun ⟨_, e, h⟩ => by cases e; exact h, fun h => ⟨_, rfl, h⟩⟩
theorem retK_normal {l : List LRes} {Post : Res → Prop} {σ : St} : retK l Post .normal σ = RetG (resS σ l) Post := rfl
theorem retK_ret {l : List LRes} {Post : Res → Prop} {σ : St} : retK l Post .ret σ = RetG (resS σ l) Post := rfl

section
variable {k : List Item} {K : Exit → St → Prop} {σ : St}

theorem run_skip : RUN P .skip k K σ = POP P .normal k K σ := rfl
theorem run_reg {l : List LOper} : RUN P (.reg l) k K σ = OPS P l k K σ := rfl
theorem run_seq {a b : LCode} : RUN P (.seq a b) k K σ = RUN P a (.code b :: k) K σ := rfl
theorem run_cond {c : LX} {a b : LCode} : RUN P (.cond c a b) k K σ = BoolG (σ.ev c) (RUN P a k K) (RUN P b k K) σ := rfl
theorem run_block {id : Nat} {c : LCode} : RUN P (.block id c) k K σ = RUN P c (.blk id :: k) K σ := rfl
theorem run_exit {id : Nat} : RUN P (.exit id) k K σ = POP P (.exit id) k K σ := rfl
theorem run_ret : RUN P .ret k K σ = POP P .ret k K σ := rfl
theorem pop_code {c : LCode} : POP P .normal (.code c :: k) K σ = RUN P c k K σ := rfl
theorem pop_goal {g : St → Prop} : POP P .normal (.goal g :: k) K σ = g σ := rfl
theorem pop_blk {id : Nat} : POP P .normal (.blk id :: k) K σ = POP P .normal k K σ := rfl
theorem run_dead {ds : List Nat} {c : LCode} : RUN P (.dead ds c) k K σ = RUN P c (.dead ds :: k) K σ := rfl
theorem pop_dead {ds : List Nat} : POP P .normal (.dead ds :: k) K σ = POP P .normal k K (σ.dead ds) := rfl
theorem pop_ret_dead {ds : List Nat} : POP P .ret (.dead ds :: k) K σ = POP P .ret k K σ := rfl
theorem pop_exit_dead {id : Nat} {ds : List Nat} : POP P (.exit id) (.dead ds :: k) K σ = POP P (.exit id) k K σ := rfl
theorem pop_nil {e : Exit} : POP P e [] K σ = K e σ := rfl
theorem pop_ret_code {c : LCode} : POP P .ret (.code c :: k) K σ = POP P .ret k K σ := rfl
theorem pop_ret_goal {g : St → Prop} : POP P .ret (.goal g :: k) K σ = POP P .ret k K σ := rfl
theorem pop_ret_blk {id : Nat} : POP P .ret (.blk id :: k) K σ = POP P .ret k K σ := rfl
theorem pop_exit_code {id : Nat} {c : LCode} : POP P (.exit id) (.code c :: k) K σ = POP P (.exit id) k K σ := rfl
theorem pop_exit_goal {id : Nat} {g : St → Prop} : POP P (.exit id) (.goal g :: k) K σ = POP P (.exit id) k K σ := rfl
theorem pop_exit_blk {id id' : Nat} : POP P (.exit id) (.blk id' :: k) K σ = if id = id' then POP P .normal k K σ else POP P (.exit id) k K σ := rfl

theorem ops_nil : OPS P [] k K σ = POP P .normal k K σ := rfl
theorem ops_val {d : Nat} {v : LV} {l : List LOper} : OPS P (⟨some d, .val v, none⟩ :: l) k K σ = PutG (pev σ v) σ d (OPS P l k K) := by
  apply propext
  show (∃ τ, putV σ d (pev σ v) = some τ ∧ _) ↔ _
  unfold putV PutG
  cases pev σ v <;> simp [OPS]
theorem ops_asg {d : Nat} {x : LX} {l : List LOper} : OPS P (⟨some d, .asg x, none⟩ :: l) k K σ = OPS P l k K (asgS σ d (σ.ev x)) :=
  propext ⟨fun ⟨_, e, h⟩ => by cases e; exact h, fun h => ⟨_, rfl, h⟩⟩
theorem ops_nils {d e sz : Nat} {l : List LOper} : OPS P (⟨some d, .nils e sz, none⟩ :: l) k K σ = OPS P l k K (nilS σ d e sz) :=
  propext ⟨fun ⟨_, e, h⟩ => by cases e; exact h, fun h => ⟨_, rfl, h⟩⟩
theorem ops_box {d : Nat} {x : LX} {l : List LOper} : OPS P (⟨some d, .box x, none⟩ :: l) k K σ = StG (boxS σ d (σ.ev x)) (OPS P l k K) := rfl
theorem ops_allo {d : Nat} {z : List D} {l : List LOper} : OPS P (⟨some d, .allo z, none⟩ :: l) k K σ = OPS P l k K (newO σ d z) :=
  propext ⟨fun ⟨_, e, h⟩ => by cases e; exact h, fun h => ⟨_, rfl, h⟩⟩
theorem ops_app {d e sz by_ : Nat} {str : Bool} {s x : LX} {l : List LOper} : OPS P (⟨some d, .app e sz by_ str s x, none⟩ :: l) k K σ = StG (appS σ d e sz by_ str (σ.ev s) (σ.ev x)) (OPS P l k K) := rfl
theorem ops_bsl {d e sz : Nat} {xs : List LX} {l : List LOper} : OPS P (⟨some d, .bsl e sz xs, none⟩ :: l) k K σ = StG (bslS σ d e sz (evL σ xs)) (OPS P l k K) := rfl
theorem ops_sla {d len : Nat} {x : LX} {lo hi : Option LX} {l : List LOper} : OPS P (⟨some d, .sla len x lo hi, none⟩ :: l) k K σ = StG (slaS σ d len (σ.ev x) (evO σ lo) (evO σ hi)) (OPS P l k K) := rfl
theorem ops_st {m : Nat} {x y : LX} {l : List LOper} : OPS P (⟨none, .st m x y, none⟩ :: l) k K σ = StG (stS σ m (σ.ev x) (σ.ev y)) (OPS P l k K) := rfl
theorem ops_call {d : Option Nat} {f : Nat} {xs : List LX} {l : List LOper} : OPS P (⟨d, .call f xs, none⟩ :: l) k K σ = CallG P f (rdAll (evL σ xs)) d (OPS P l k K) σ := rfl

theorem aset_same {α : Type} : ∀ {l : List (Nat × α)} {s : Nat} {x : α}, aget l s = some x → aset l s x = l
  | [], _, _, h => by simp [aget] at h
  | (k, v) :: r, s, x, h => by
    simp only [aget] at h
    simp only [aset]
    split at h
    · rename_i e; cases h; rw [if_pos e]
    · rename_i e; rw [if_neg e, aset_same h]

theorem mark_same {s : Nat} {t : Bool} (h : σ.get s = .d (.bool t)) : σ.mark s (.d (.bool t)) = σ := by
  unfold St.get at h
  cases hx : aget σ.ρ s with
  | none => rw [hx] at h; cases h
  | some x => rw [hx] at h; simp at h; subst h; simp only [St.mark, aset_same hx]

theorem ops_guard {d : Option Nat} {op : LO} {s : Nat} {b : Bool} {l : List LOper} : OPS P (⟨d, op, some (s, b)⟩ :: l) k K σ =
    GuardR (σ.get s) b (OPS P (⟨d, op, none⟩ :: l) k K) (OPS P l k K) (σ.mark s (.d (.bool b))) (putO (σ.mark s (.d (.bool (!b)))) d (.tuple [])) (putO σ d (.tuple [])) := by
  apply propext
  show ((∃ t, σ.get s = .d (.bool t) ∧ (t = b → LStep P ⟨d, op, some (s, b)⟩ (LOpsR P l (stackK P k K .normal)) σ) ∧ (t ≠ b → LOpsR P l (stackK P k K .normal) (putO σ d und))) ∨ (σ.get s = und ∧ LOpsR P l (stackK P k K .normal) (putO σ d und))) ↔ _
  have hst : ∀ {K' : St → Prop} {σ : St}, LStep P ⟨d, op, some (s, b)⟩ K' σ ↔ LStep P ⟨d, op, none⟩ K' σ := fun {K' σ} => by unfold LStep; exact Iff.rfl
  unfold GuardR
  refine or_congr ?_ Iff.rfl
  constructor
  · rintro ⟨t, h1, h2, h3⟩
    refine ⟨t, h1, fun e => ?_, fun e => ?_⟩
    · subst e; rw [mark_same h1]; exact hst.1 (h2 rfl)
    · have e' : t ≠ b := by rw [e]; cases b <;> simp
      rw [← e, mark_same h1]; exact h3 e'
  · rintro ⟨t, h1, h2, h3⟩
    refine ⟨t, h1, fun e => ?_, fun e => ?_⟩
    · subst e; have := h2 rfl; rw [mark_same h1] at this; exact hst.2 this
    · have e' : t = !b := by cases t <;> cases b <;> simp_all
      have := h3 e'; rw [← e', mark_same h1] at this; exact this

/-- The rule of a loop: what it keeps is told by a family of states. -/
theorem run_loop {α : Type} {c : LCode} (S : α → St) (p : α → Prop) (μ : α → Nat) (y0 : α) (h0 : Weak (S y0) σ) (p0 : p y0)
    (h : ∀ y, p y → RUN P c (.goal (fun τ => ∃ y', Weak (S y') τ ∧ p y' ∧ μ y' < μ y) :: k) K (S y)) : RUN P (.loop c) k K σ := by
  refine ⟨Nat, fun a b => a < b, fun m τ => ∃ y, τ = S y ∧ p y ∧ μ y = m, Nat.lt_wfRel.wf, ⟨μ y0, S y0, h0.wk, y0, rfl, p0, rfl⟩, fun m τ ⟨y, hτ, hp, hm⟩ => ?_⟩
  subst hτ hm
  exact lw_mono (h y hp) fun e τ' ht => by
    cases e <;> first | exact ht | skip
    obtain ⟨y', h1, h2, h3⟩ := ht
    exact ⟨μ y', S y', h1.wk, ⟨y', rfl, h2, rfl⟩, h3⟩

end

/-- One round more, and a round that is first. -/
inductive Round {β : Type} {γ : β → Type} (r : ∀ b, γ b → γ b → Prop) : Option (Σ b, γ b) → Option (Σ b, γ b) → Prop
  | of {b : β} {x y : γ b} (h : r b x y) : Round r (some ⟨b, x⟩) (some ⟨b, y⟩)
  | top (p : Σ b, γ b) : Round r (some p) none

theorem Round.wf {β : Type} {γ : β → Type} {r : ∀ b, γ b → γ b → Prop} (h : ∀ b, WellFounded (r b)) : WellFounded (Round r) := by
  have h1 : ∀ (b : β) (x : γ b), Acc (Round r) (some ⟨b, x⟩) := fun b x => by
    induction x using (h b).induction with
    | _ x ih => exact ⟨_, fun y hy => by cases hy with | of hxy => exact ih _ hxy⟩
  refine ⟨fun a => ?_⟩
  cases a with
  | some p => exact h1 p.1 p.2
  | none => exact ⟨_, fun y hy => by cases hy with | top p => exact h1 p.1 p.2⟩

/-- A round of a loop, walked. -/
theorem run_unroll {c : LCode} {k : List Item} {K : Exit → St → Prop} {σ : St} (h : RUN P c (.code (.loop c) :: k) K σ) : RUN P (.loop c) k K σ := by
  let K' := stackK P k K
  have h : LW P c (thenK (fun τ => LW P (.loop c) K' τ) K') σ := h
  let β := { τ : St // LW P (.loop c) K' τ }
  have hβ : ∀ b : β, ∃ (α : Type) (r : α → α → Prop) (I : α → St → Prop), WellFounded r ∧ (∃ m τ, Wk τ b.1 ∧ I m τ) ∧ ∀ m τ, I m τ → LW P c (thenK (fun τ' => ∃ m' τ'', Wk τ'' τ' ∧ I m' τ'' ∧ r m' m) K') τ := fun b => b.2
  let γ : β → Type := fun b => Classical.choose (hβ b)
  have hγ : ∀ b : β, ∃ (r : γ b → γ b → Prop) (I : γ b → St → Prop), WellFounded r ∧ (∃ m τ, Wk τ b.1 ∧ I m τ) ∧ ∀ m τ, I m τ → LW P c (thenK (fun τ' => ∃ m' τ'', Wk τ'' τ' ∧ I m' τ'' ∧ r m' m) K') τ := fun b => Classical.choose_spec (hβ b)
  let r : ∀ b, γ b → γ b → Prop := fun b => Classical.choose (hγ b)
  have hr : ∀ b : β, ∃ (I : γ b → St → Prop), WellFounded (r b) ∧ (∃ m τ, Wk τ b.1 ∧ I m τ) ∧ ∀ m τ, I m τ → LW P c (thenK (fun τ' => ∃ m' τ'', Wk τ'' τ' ∧ I m' τ'' ∧ r b m' m) K') τ := fun b => Classical.choose_spec (hγ b)
  let I : ∀ b, γ b → St → Prop := fun b => Classical.choose (hr b)
  have hI : ∀ b : β, WellFounded (r b) ∧ (∃ m τ, Wk τ b.1 ∧ I b m τ) ∧ ∀ m τ, I b m τ → LW P c (thenK (fun τ' => ∃ m' τ'', Wk τ'' τ' ∧ I b m' τ'' ∧ r b m' m) K') τ := fun b => Classical.choose_spec (hr b)
  refine ⟨Option (Σ b, γ b), Round r, fun m τ => match m with | none => τ = σ | some p => I p.1 p.2 τ, Round.wf fun b => (hI b).1, ⟨none, σ, Wk.refl σ, rfl⟩, fun m τ hm => ?_⟩
  cases m with
  | none =>
    have hm : τ = σ := hm
    subst hm
    refine lw_mono h fun e τ' ht => ?_
    cases e <;> first | exact ht | skip
    obtain ⟨m, τ'', h1, h2⟩ := (hI ⟨τ', ht⟩).2.1
    exact ⟨some ⟨⟨τ', ht⟩, m⟩, τ'', h1, h2, .top _⟩
  | some p =>
    refine lw_mono ((hI p.1).2.2 p.2 τ hm) fun e τ' ht => ?_
    cases e <;> first | exact ht | skip
    obtain ⟨m', τ'', h1, h2, h3⟩ := ht
    exact ⟨some ⟨p.1, m'⟩, τ'', h1, h2, .of h3⟩

/-- What a function does, run from its start. -/
theorem PCall.run {f : FuncId} {fn : Func} {c : Code} {L : LCode} {l : List LRes} {args : List D} {Post : Res → Prop} (hf : P.funcs[f]? = some fn) (hb : fn.body = some c) (hL : liftC P fn.ntmps c = some L.strip) (hl : liftRes P fn.results.toList = some l) (hn : args.length ≤ fn.ntmps)
    (h : RUN P L [] (retK l Post) ⟨initρ 0 args, [], fun _ => none⟩) : PCall P f args Post := pcall_of hf hb hL hl hn h

end Go.Av
