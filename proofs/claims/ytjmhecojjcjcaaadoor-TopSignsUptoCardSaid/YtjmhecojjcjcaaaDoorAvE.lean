import Derived.Test.YtjmhecojjcjcaaaDoorAvD
import Derived.IntWalk
/- Stepping through statements over abstract states: equations to rewrite with. -/
namespace Go.Av

variable {P : Program} [Inv P]

theorem lopsR_mono {K K' : St → Prop} (hK : ∀ σ, K σ → K' σ) : ∀ {l : List LOper} {σ : St}, LOpsR P l K σ → LOpsR P l K' σ
  | [], σ, h => hK σ h
  | o :: l, σ, h => by
    simp only [LOpsR] at *
    cases hg : o.guard with
    | none => rw [hg] at h; exact lstep_mono (fun _ => lopsR_mono hK) h
    | some sb =>
      obtain ⟨s, b⟩ := sb
      rw [hg] at h
      rcases h with ⟨t, h1, h2, h3⟩ | ⟨h1, h2⟩
      · exact .inl ⟨t, h1, fun e => lstep_mono (fun _ => lopsR_mono hK) (h2 e), fun e => lopsR_mono hK (h3 e)⟩
      · exact .inr ⟨h1, lopsR_mono hK h2⟩

/-! ### What is asked may be more -/
theorem deff_mono {o : LOper} {K K' : St → Prop} {σ : St} (hK : ∀ σ, K σ → K' σ) (h : DStep P o K σ) : DStep P o K' σ := by
  unfold DStep at *
  split at h
  · rename_i hm; rw [if_pos hm]; obtain ⟨e, h1, h2⟩ := h; exact ⟨e, h1, hK _ h2⟩
  · rename_i hm; rw [if_neg hm]; exact lops_mono hK h

theorem dops_mono {K K' : St → Prop} (hK : ∀ σ, K σ → K' σ) : ∀ {l : List LOper} {σ : St}, DOps P l K σ → DOps P l K' σ
  | [], σ, h => hK σ h
  | _ :: _, _, h => deff_mono (fun _ => dops_mono hK) h

theorem lw_mono : ∀ {L : LCode} {K K' : Exit → St → Prop} {σ : St}, LW P L K σ → (∀ e σ, K e σ → K' e σ) → LW P L K' σ := by
  intro L
  induction L with
  | skip => intro K K' σ h hK; exact hK _ _ h
  | reg l => intro K K' σ h hK; exact lopsR_mono (fun σ => hK _ σ) h
  | dreg l => intro K K' σ h hK; exact dops_mono (fun σ => hK _ σ) h
  | dead ds c ih =>
    intro K K' σ h hK
    refine ih h fun e σ h => ?_
    cases e <;> exact hK _ _ h
  | seq a b iha ihb =>
    intro K K' σ h hK
    refine iha h fun e σ h => ?_
    cases e <;> first | exact hK _ _ h | exact ihb h hK
  | cond c a b iha ihb =>
    intro K K' σ h hK
    obtain ⟨t, h1, h2, h3⟩ := h
    exact ⟨t, h1, fun e => iha (h2 e) hK, fun e => ihb (h3 e) hK⟩
  | block id c ih =>
    intro K K' σ h hK
    refine ih h fun e σ h => ?_
    cases e with
    | exit id' =>
      simp only [blockK] at *
      split at h
      · rename_i e; rw [if_pos e]; exact hK _ _ h
      · rename_i e; rw [if_neg e]; exact hK _ _ h
    | _ => exact hK _ _ h
  | loop c ih =>
    intro K K' σ h hK
    obtain ⟨α, r, I, h0, h1, h2⟩ := h
    refine ⟨α, r, I, h0, h1, fun m τ hI => ih (h2 m τ hI) fun e σ h => ?_⟩
    cases e <;> first | exact hK _ _ h | exact h
  | exit id => intro K K' σ h hK; exact hK _ _ h
  | bad => intro K K' σ h hK; exact h.elim
  | ret => intro K K' σ h hK; exact hK _ _ h

inductive Item where
  | code (c : LCode)
  | blk (id : Nat)
  | goal (g : St → Prop)
  | dead (ds : List Nat)

def stackK (P : Program) [Inv P] : List Item → (Exit → St → Prop) → Exit → St → Prop
  | [], K => K
  | .code c :: k, K => thenK (LW P c (stackK P k K)) (stackK P k K)
  | .blk id :: k, K => blockK id (stackK P k K)
  | .goal g :: k, K => thenK g (stackK P k K)
  | .dead ds :: k, K => deadK ds (stackK P k K)

def RUN (P : Program) [Inv P] (c : LCode) (k : List Item) (K : Exit → St → Prop) (σ : St) : Prop := LW P c (stackK P k K) σ
def POP (P : Program) [Inv P] (e : Exit) (k : List Item) (K : Exit → St → Prop) (σ : St) : Prop := stackK P k K e σ
def OPS (P : Program) [Inv P] (l : List LOper) (k : List Item) (K : Exit → St → Prop) (σ : St) : Prop := LOpsR P l (stackK P k K .normal) σ

def PutG (z : Option AV) (σ : St) (d : Nat) (N : St → Prop) : Prop := ∃ x, z = some x ∧ N (σ.put d x)
def StG (z : Option St) (N : St → Prop) : Prop := ∃ τ, z = some τ ∧ N τ
def BoolG (x : AV) (A B : St → Prop) (σ : St) : Prop := ∃ t, x = .d (.bool t) ∧ (t = true → A σ) ∧ (t = false → B σ)
def CallG (P : Program) [Inv P] (f : Nat) (xs : List LX) (ds : Option (List D)) (d : Option Nat) (N : St → Prop) (σ : St) : Prop := (∃ l Post, ds = some l ∧ PCall P f l Post ∧ ∀ r, Post r → N (putO σ d r.av)) ∨ CStep P d f xs N σ

theorem CallG.of {f : Nat} {xs : List LX} {l : List D} {d : Option Nat} {N : St → Prop} {σ : St} {r : Res} (h : PCall P f l (fun x => x = r)) (hN : N (putO σ d r.av)) : CallG P f xs (some l) d N σ :=
  .inl ⟨l, _, rfl, h, fun _ e => e ▸ hN⟩

theorem CallG.post {f : Nat} {xs : List LX} {l : List D} {d : Option Nat} {N : St → Prop} {σ : St} {Post : Res → Prop} (h : PCall P f l Post) (hN : ∀ r, Post r → N (putO σ d r.av)) : CallG P f xs (some l) d N σ :=
  .inl ⟨l, _, rfl, h, hN⟩

theorem CallG.cstep {f : Nat} {xs : List LX} {ds : Option (List D)} {d : Option Nat} {N : St → Prop} {σ : St} (h : CStep P d f xs N σ) : CallG P f xs ds d N σ := .inr h

theorem PutG_some {x : AV} {σ : St} {d : Nat} {N : St → Prop} : PutG (some x) σ d N = N (σ.put d x) :=
  propext ⟨fun ⟨_, e, h⟩ => by cases e; exact h, fun h => ⟨_, rfl, h⟩⟩
theorem PutG_if {p : Prop} [Decidable p] {z : Option AV} {σ : St} {d : Nat} {N : St → Prop} : PutG (if p then z else none) σ d N = (p ∧ PutG z σ d N) := by
  by_cases h : p <;> simp [h, PutG]
theorem PutG_if' {p : Prop} [Decidable p] {z : Option AV} {σ : St} {d : Nat} {N : St → Prop} : PutG (if p then none else z) σ d N = (¬ p ∧ PutG z σ d N) := by
  by_cases h : p <;> simp [h, PutG]
theorem StG_some {τ : St} {N : St → Prop} : StG (some τ) N = N τ :=
  propext ⟨fun ⟨_, e, h⟩ => by cases e; exact h, fun h => ⟨_, rfl, h⟩⟩
theorem StG_if {p : Prop} [Decidable p] {z : Option St} {N : St → Prop} : StG (if p then z else none) N = (p ∧ StG z N) := by
  by_cases h : p <;> simp [h, StG]
theorem BoolG_d {t : Bool} {A B : St → Prop} {σ : St} : BoolG (.d (.bool t)) A B σ = if t = true then A σ else B σ := by
  have : BoolG (.d (.bool t)) A B σ = ((t = true → A σ) ∧ (t = false → B σ)) := propext ⟨fun ⟨_, e, h⟩ => by cases e; exact h, fun h => ⟨_, rfl, h⟩⟩
  rw [this]; cases t <;> simp
theorem IteG {p : Prop} [Decidable p] {A B : Prop} : (if p then A else B) = ((p → A) ∧ (¬ p → B)) := by
  by_cases h : p <;> simp [h]
def GuardG (x : AV) (b : Bool) (A B : St → Prop) (σ τ : St) : Prop := ∃ t, x = .d (.bool t) ∧ (t = b → A σ) ∧ (t = !b → B τ)
theorem GuardG_d {t b : Bool} {A B : St → Prop} {σ τ : St} : GuardG (.d (.bool t)) b A B σ τ = if t = b then A σ else B τ := by
  have : GuardG (.d (.bool t)) b A B σ τ = ((t = b → A σ) ∧ (t = !b → B τ)) := propext ⟨fun ⟨_, e, h⟩ => by cases e; exact h, fun h => ⟨_, rfl, h⟩⟩
  rw [this]; cases t <;> cases b <;> simp
def GuardR (x : AV) (b : Bool) (A B : St → Prop) (σ τ ρ : St) : Prop := (∃ t, x = .d (.bool t) ∧ (t = b → A σ) ∧ (t = !b → B τ)) ∨ (x = .tuple [] ∧ B ρ)
theorem GuardR_d {t b : Bool} {A B : St → Prop} {σ τ ρ : St} : GuardR (.d (.bool t)) b A B σ τ ρ = if t = b then A σ else B τ := by
  have : GuardR (.d (.bool t)) b A B σ τ ρ = ((t = b → A σ) ∧ (t = !b → B τ)) := by
    apply propext
    constructor
    · intro h
      rcases h with ⟨_, e, h⟩ | ⟨e, _⟩
      · cases e; exact h
      · cases e
    · exact fun h => .inl ⟨_, rfl, h⟩
  rw [this]; cases t <;> cases b <;> simp
theorem GuardR_u {b : Bool} {A B : St → Prop} {σ τ ρ : St} : GuardR (.tuple []) b A B σ τ ρ = B ρ := by
  apply propext
  constructor
  · intro h
    rcases h with ⟨_, e, _⟩ | ⟨_, h⟩
    · cases e
    · exact h
  · exact fun h => .inr ⟨rfl, h⟩

def RetG (r : Option Res) (Post : Res → Prop) : Prop := ∃ x, r = some x ∧ Post x
theorem RetG_some {r : Res} {Post : Res → Prop} : RetG (some r) Post = Post r :=
  propext ⟨fun ⟨_, e, h⟩ => by cases e; exact h, fun h => ⟨_, rfl, h⟩⟩
theorem retK_normal {l : List LRes} {Post : Res → Prop} {σ : St} : retK l Post .normal σ = RetG (resS σ l) Post := rfl
theorem retK_ret {l : List LRes} {Post : Res → Prop} {σ : St} : retK l Post .ret σ = RetG (resS σ l) Post := rfl

section
variable {k : List Item} {K : Exit → St → Prop} {σ : St}

theorem run_skip : RUN P .skip k K σ = POP P .normal k K σ := rfl
theorem run_reg {l : List LOper} : RUN P (.reg l) k K σ = OPS P l k K σ := rfl
theorem run_seq {a b : LCode} : RUN P (.seq a b) k K σ = RUN P a (.code b :: k) K σ := rfl
theorem run_cond {c : LX} {a b : LCode} : RUN P (.cond c a b) k K σ = BoolG (σ.ev c) (RUN P a k K) (RUN P b k K) σ := rfl
theorem run_block {id : Nat} {c : LCode} : RUN P (.block id c) k K σ = RUN P c (.blk id :: k) K σ := rfl
theorem run_exit {id : Nat} : RUN P (.exit id) k K σ = POP P (.exit id) k K σ := rfl
theorem run_ret : RUN P .ret k K σ = POP P .ret k K σ := rfl
theorem pop_code {c : LCode} : POP P .normal (.code c :: k) K σ = RUN P c k K σ := rfl
theorem pop_goal {g : St → Prop} : POP P .normal (.goal g :: k) K σ = g σ := rfl
theorem pop_blk {id : Nat} : POP P .normal (.blk id :: k) K σ = POP P .normal k K σ := rfl
theorem run_dead {ds : List Nat} {c : LCode} : RUN P (.dead ds c) k K σ = RUN P c (.dead ds :: k) K σ := rfl
theorem pop_dead {ds : List Nat} : POP P .normal (.dead ds :: k) K σ = POP P .normal k K (σ.dead ds) := rfl
theorem pop_ret_dead {ds : List Nat} : POP P .ret (.dead ds :: k) K σ = POP P .ret k K σ := rfl
theorem pop_exit_dead {id : Nat} {ds : List Nat} : POP P (.exit id) (.dead ds :: k) K σ = POP P (.exit id) k K σ := rfl
theorem pop_nil {e : Exit} : POP P e [] K σ = K e σ := rfl
theorem pop_ret_code {c : LCode} : POP P .ret (.code c :: k) K σ = POP P .ret k K σ := rfl
theorem pop_ret_goal {g : St → Prop} : POP P .ret (.goal g :: k) K σ = POP P .ret k K σ := rfl
theorem pop_ret_blk {id : Nat} : POP P .ret (.blk id :: k) K σ = POP P .ret k K σ := rfl
theorem pop_exit_code {id : Nat} {c : LCode} : POP P (.exit id) (.code c :: k) K σ = POP P (.exit id) k K σ := rfl
theorem pop_exit_goal {id : Nat} {g : St → Prop} : POP P (.exit id) (.goal g :: k) K σ = POP P (.exit id) k K σ := rfl
theorem pop_exit_blk {id id' : Nat} : POP P (.exit id) (.blk id' :: k) K σ = if id = id' then POP P .normal k K σ else POP P (.exit id) k K σ := rfl

theorem ops_nil : OPS P [] k K σ = POP P .normal k K σ := rfl
theorem ops_val {d : Nat} {v : LV} {l : List LOper} : OPS P (⟨some d, .val v, none⟩ :: l) k K σ = PutG (pev σ v) σ d (OPS P l k K) := by
  apply propext
  show (∃ τ, putV σ d (pev σ v) = some τ ∧ _) ↔ _
  unfold putV PutG
  cases pev σ v <;> simp [OPS]
theorem ops_asg {d : Nat} {x : LX} {l : List LOper} : OPS P (⟨some d, .asg x, none⟩ :: l) k K σ = OPS P l k K (asgS σ d (σ.ev x)) :=
  propext ⟨fun ⟨_, e, h⟩ => by cases e; exact h, fun h => ⟨_, rfl, h⟩⟩
theorem ops_nils {d e sz : Nat} {l : List LOper} : OPS P (⟨some d, .nils e sz, none⟩ :: l) k K σ = OPS P l k K (nilS σ d e sz) :=
  propext ⟨fun ⟨_, e, h⟩ => by cases e; exact h, fun h => ⟨_, rfl, h⟩⟩
theorem ops_box {d : Nat} {x : LX} {l : List LOper} : OPS P (⟨some d, .box x, none⟩ :: l) k K σ = StG (boxS σ d (σ.ev x)) (OPS P l k K) := rfl
theorem ops_allo {d : Nat} {z : List D} {l : List LOper} : OPS P (⟨some d, .allo z, none⟩ :: l) k K σ = OPS P l k K (newO σ d z) :=
  propext ⟨fun ⟨_, e, h⟩ => by cases e; exact h, fun h => ⟨_, rfl, h⟩⟩
theorem ops_app {d e sz by_ : Nat} {str : Bool} {s x : LX} {l : List LOper} : OPS P (⟨some d, .app e sz by_ str s x, none⟩ :: l) k K σ = StG (appS σ d e sz by_ str (σ.ev s) (σ.ev x)) (OPS P l k K) := rfl
theorem ops_bsl {d e sz : Nat} {xs : List LX} {l : List LOper} : OPS P (⟨some d, .bsl e sz xs, none⟩ :: l) k K σ = StG (bslS σ d e sz (evL σ xs)) (OPS P l k K) := rfl
theorem ops_sla {d len : Nat} {x : LX} {lo hi : Option LX} {l : List LOper} : OPS P (⟨some d, .sla len x lo hi, none⟩ :: l) k K σ = StG (slaS σ d len (σ.ev x) (evO σ lo) (evO σ hi)) (OPS P l k K) := rfl
theorem ops_st {m : Nat} {x y : LX} {l : List LOper} : OPS P (⟨none, .st m x y, none⟩ :: l) k K σ = StG (stS σ m (σ.ev x) (σ.ev y)) (OPS P l k K) := rfl
theorem ops_call {d : Option Nat} {f : Nat} {xs : List LX} {l : List LOper} : OPS P (⟨d, .call f xs, none⟩ :: l) k K σ = CallG P f xs (rdAll (evL σ xs)) d (OPS P l k K) σ := rfl

theorem aset_same {α : Type} : ∀ {l : List (Nat × α)} {s : Nat} {x : α}, aget l s = some x → aset l s x = l
  | [], _, _, h => by simp [aget] at h
  | (k, v) :: r, s, x, h => by
    simp only [aget] at h
    simp only [aset]
    split at h
    · rename_i e; cases h; rw [if_pos e]
    · rename_i e; rw [if_neg e, aset_same h]

theorem mark_same {s : Nat} {t : Bool} (h : σ.get s = .d (.bool t)) : σ.mark s (.d (.bool t)) = σ := by
  unfold St.get at h
  cases hx : aget σ.ρ s with
  | none => rw [hx] at h; cases h
  | some x => rw [hx] at h; simp at h; subst h; simp only [St.mark, aset_same hx]

theorem ops_guard {d : Option Nat} {op : LO} {s : Nat} {b : Bool} {l : List LOper} : OPS P (⟨d, op, some (s, b)⟩ :: l) k K σ =
    GuardR (σ.get s) b (OPS P (⟨d, op, none⟩ :: l) k K) (OPS P l k K) (σ.mark s (.d (.bool b))) (putO (σ.mark s (.d (.bool (!b)))) d (.tuple [])) (putO σ d (.tuple [])) := by
  apply propext
  show ((∃ t, σ.get s = .d (.bool t) ∧ (t = b → LStep P ⟨d, op, some (s, b)⟩ (LOpsR P l (stackK P k K .normal)) σ) ∧ (t ≠ b → LOpsR P l (stackK P k K .normal) (putO σ d und))) ∨ (σ.get s = und ∧ LOpsR P l (stackK P k K .normal) (putO σ d und))) ↔ _
  have hst : ∀ {K' : St → Prop} {σ : St}, LStep P ⟨d, op, some (s, b)⟩ K' σ ↔ LStep P ⟨d, op, none⟩ K' σ := fun {K' σ} => by unfold LStep; exact Iff.rfl
  unfold GuardR
  refine or_congr ?_ Iff.rfl
  constructor
  · rintro ⟨t, h1, h2, h3⟩
    refine ⟨t, h1, fun e => ?_, fun e => ?_⟩
    · subst e; rw [mark_same h1]; exact hst.1 (h2 rfl)
    · have e' : t ≠ b := by rw [e]; cases b <;> simp
      rw [← e, mark_same h1]; exact h3 e'
  · rintro ⟨t, h1, h2, h3⟩
    refine ⟨t, h1, fun e => ?_, fun e => ?_⟩
    · subst e; have := h2 rfl; rw [mark_same h1] at this; exact hst.2 this
    · have e' : t = !b := by cases t <;> cases b <;> simp_all
      have := h3 e'; rw [← e', mark_same h1] at this; exact this

theorem run_loop {α : Type} {c : LCode} (S : α → St) (p : α → Prop) (μ : α → Nat) (y0 : α) (h0 : Weak (S y0) σ) (p0 : p y0)
    (h : ∀ y, p y → RUN P c (.goal (fun τ => ∃ y', Weak (S y') τ ∧ p y' ∧ μ y' < μ y) :: k) K (S y)) : RUN P (.loop c) k K σ := by
  refine ⟨Nat, fun a b => a < b, fun m τ => ∃ y, τ = S y ∧ p y ∧ μ y = m, Nat.lt_wfRel.wf, ⟨μ y0, S y0, h0.wk, y0, rfl, p0, rfl⟩, fun m τ ⟨y, hτ, hp, hm⟩ => ?_⟩
  subst hτ hm
  exact lw_mono (h y hp) fun e τ' ht => by
    cases e <;> first | exact ht | skip
    obtain ⟨y', h1, h2, h3⟩ := ht
    exact ⟨μ y', S y', h1.wk, ⟨y', rfl, h2, rfl⟩, h3⟩

end

inductive Round {β : Type} {γ : β → Type} (r : ∀ b, γ b → γ b → Prop) : Option (Σ b, γ b) → Option (Σ b, γ b) → Prop
  | of {b : β} {x y : γ b} (h : r b x y) : Round r (some ⟨b, x⟩) (some ⟨b, y⟩)
  | top (p : Σ b, γ b) : Round r (some p) none

theorem Round.wf {β : Type} {γ : β → Type} {r : ∀ b, γ b → γ b → Prop} (h : ∀ b, WellFounded (r b)) : WellFounded (Round r) := by
  have h1 : ∀ (b : β) (x : γ b), Acc (Round r) (some ⟨b, x⟩) := fun b x => by
    induction x using (h b).induction with
    | _ x ih => exact ⟨_, fun y hy => by cases hy with | of hxy => exact ih _ hxy⟩
  refine ⟨fun a => ?_⟩
  cases a with
  | some p => exact h1 p.1 p.2
  | none => exact ⟨_, fun y hy => by cases hy with | top p => exact h1 p.1 p.2⟩

theorem PCall.run {f : FuncId} {fn : Func} {c : Code} {L : LCode} {l : List LRes} {args : List D} {Post : Res → Prop} (hf : P.funcs[f]? = some fn) (hb : fn.body = some c) (hL : liftC P fn.ntmps c = some L.strip) (hl : liftRes P fn.results.toList = some l) (hn : args.length ≤ fn.ntmps)
    (h : RUN P L [] (retK l Post) ⟨initρ 0 args, [], []⟩) : PCall P f args Post := pcall_of hf hb hL hl hn h

end Go.Av
/- Stepping through regions that draw their order: equations to rewrite with. -/
namespace Go.Av

variable {P : Program} [Inv P]

def DPS (P : Program) [Inv P] (l : List LOper) (k : List Item) (K : Exit → St → Prop) (σ : St) : Prop := DOps P l (stackK P k K .normal) σ
def CallD (P : Program) [Inv P] (f : Nat) (ds : Option (List D)) (d : Option Nat) (N : St → Prop) (σ : St) : Prop := ∃ l r, ds = some l ∧ PCall P f l (fun x => x = r) ∧ N (putO σ d r.av)

theorem CallD.of {f : Nat} {l : List D} {d : Option Nat} {N : St → Prop} {σ : St} {r : Res} (h : PCall P f l (fun x => x = r)) (hN : N (putO σ d r.av)) : CallD P f (some l) d N σ := ⟨l, r, rfl, h, hN⟩

def bspS (σ : St) (d sz : Nat) (xs : List AV) : Option St :=
  match rdAll xs with
  | some l => if allSz sz l = true ∧ xs.length * sz ≤ 16777216 ∧ sz ≠ 0 then some (σ.put d (.d (.list l))) else none
  | none => none

section
variable {k : List Item} {K : Exit → St → Prop} {σ : St}

theorem run_dreg {l : List LOper} : RUN P (.dreg l) k K σ = DPS P l k K σ := rfl
theorem dps_nil : DPS P [] k K σ = POP P .normal k K σ := propext ⟨fun h => h, fun h => h⟩

theorem dps_val {d : Nat} {v : LV} {l : List LOper} : DPS P (⟨some d, .val v, none⟩ :: l) k K σ = PutG (pev σ v) σ d (DPS P l k K) := by
  apply propext
  show (∃ e : Eff, (true = true ∧ ∃ z, pev σ v = some z ∧ e = (⟨[], z⟩ : Eff)) ∧ _) ↔ _
  constructor
  · rintro ⟨e, ⟨_, z, h1, rfl⟩, h2⟩; exact ⟨z, h1, h2⟩
  · rintro ⟨z, h1, h2⟩; exact ⟨_, ⟨rfl, z, h1, rfl⟩, h2⟩

theorem dps_call {d : Option Nat} {f : Nat} {xs : List LX} {l : List LOper} : DPS P (⟨d, .call f xs, none⟩ :: l) k K σ = CallD P f (rdAll (evL σ xs)) d (DPS P l k K) σ := by
  apply propext
  show (∃ e : Eff, (∃ ds r, rdAll (evL σ xs) = some ds ∧ PCall P f ds (fun x => x = r) ∧ e = (⟨[], r.av⟩ : Eff)) ∧ _) ↔ _
  constructor
  · rintro ⟨e, ⟨ds, r, h1, h2, rfl⟩, h3⟩; exact ⟨ds, r, h1, h2, h3⟩
  · rintro ⟨ds, r, h1, h2, h3⟩; exact ⟨_, ⟨ds, r, h1, h2, rfl⟩, h3⟩

theorem dps_bsl {d e sz : Nat} {xs : List LX} {l : List LOper} : DPS P (⟨some d, .bsl e sz xs, none⟩ :: l) k K σ = StG (bspS σ d sz (evL σ xs)) (DPS P l k K) := by
  apply propext
  show (∃ ef : Eff, (∃ k' l', some d = some k' ∧ rdAll (evL σ xs) = some l' ∧ (allSz sz l' = true ∧ (evL σ xs).length * sz ≤ 16777216 ∧ sz ≠ 0) ∧ ef = (⟨[], .d (.list l')⟩ : Eff)) ∧ _) ↔ _
  unfold StG bspS
  constructor
  · rintro ⟨e, ⟨k', l', h1, h2, h3, rfl⟩, h4⟩
    cases h1
    rw [h2]
    exact ⟨_, by simp only; rw [if_pos h3]; rfl, h4⟩
  · rintro ⟨τ, h1, h2⟩
    split at h1
    · rename_i l' hl
      split at h1
      · rename_i h3; cases h1
        exact ⟨_, ⟨d, l', rfl, hl, h3, rfl⟩, h2⟩
      · cases h1
    · cases h1

def appD (σ : St) (d e sz bytes : Nat) (str : Bool) (s x : AV) : Option St :=
  match s, srcL str sz x with
  | .own q e' sz' l, some ys => if e' = e ∧ sz' = sz ∧ l.length + ys.length ≤ 140737488355327 ∧ (l.length + ys.length) * bytes ≤ 140737488355328 then
      some (((σ.erase q).erase (.t d)).put d (.own (.t d) e sz (l ++ ys))) else none
  | .ns, some ys => if ys.length ≤ 140737488355327 ∧ ys.length * bytes ≤ 140737488355328 then some ((σ.erase (.t d)).put d (.own (.t d) e sz ys)) else none
  | _, _ => none

theorem dps_app {d e sz by_ : Nat} {str : Bool} {s x : LX} {l : List LOper} : DPS P (⟨some d, .app e sz by_ str s x, none⟩ :: l) k K σ = StG (appD σ d e sz by_ str (σ.ev s) (σ.ev x)) (DPS P l k K) := by
  apply propext
  show (∃ ef : Eff, (∃ k' er l' ys, some d = some k' ∧ ((∃ q, σ.ev s = .own q e sz l' ∧ er = [q, .t k']) ∨ (σ.ev s = .ns ∧ l' = [] ∧ er = [.t k'])) ∧ srcL str sz (σ.ev x) = some ys ∧ (l'.length + ys.length ≤ 140737488355327 ∧ (l'.length + ys.length) * by_ ≤ 140737488355328) ∧ ef = (⟨er, .own (.t k') e sz (l' ++ ys)⟩ : Eff)) ∧ _) ↔ _
  unfold StG appD
  constructor
  · rintro ⟨ef, ⟨k', er, l', ys, h1, h2, h3, h4, rfl⟩, h5⟩
    cases h1
    rcases h2 with ⟨q, h2, rfl⟩ | ⟨h2, rfl, rfl⟩
    · rw [h2, h3]
      exact ⟨_, by simp only; rw [if_pos ⟨trivial, trivial, h4.1, h4.2⟩]; rfl, h5⟩
    · rw [h2, h3]
      simp only [List.length_nil, Nat.zero_add] at h4
      exact ⟨_, by simp only; rw [if_pos h4]; rfl, h5⟩
  · rintro ⟨τ, h1, h2⟩
    split at h1
    · rename_i q e' sz' l' ys e1 e2
      split at h1
      · rename_i h3; cases h1
        obtain ⟨rfl, rfl, h3, h4⟩ := h3
        exact ⟨_, ⟨d, _, l', ys, rfl, .inl ⟨q, e1, rfl⟩, e2, ⟨h3, h4⟩, rfl⟩, h2⟩
      · cases h1
    · rename_i ys e1 e2
      split at h1
      · rename_i h3; cases h1
        exact ⟨_, ⟨d, _, [], ys, rfl, .inr ⟨e1, rfl, rfl⟩, e2, by simpa using h3, rfl⟩, h2⟩
      · cases h1
    · cases h1

theorem dps_asg {d : Nat} {x : LX} {l : List LOper} : DPS P (⟨some d, .asg x, none⟩ :: l) k K σ = DPS P l k K (asgS σ d (σ.ev x)) :=
  propext ⟨fun ⟨_, e, h⟩ => by cases e; exact h, fun h => ⟨_, rfl, h⟩⟩
theorem dps_nils {d e sz : Nat} {l : List LOper} : DPS P (⟨some d, .nils e sz, none⟩ :: l) k K σ = DPS P l k K (nilS σ d e sz) :=
  propext ⟨fun ⟨_, e, h⟩ => by cases e; exact h, fun h => ⟨_, rfl, h⟩⟩
theorem dps_box {d : Nat} {x : LX} {l : List LOper} : DPS P (⟨some d, .box x, none⟩ :: l) k K σ = StG (boxS σ d (σ.ev x)) (DPS P l k K) := propext ⟨fun h => h, fun h => h⟩
theorem dps_allo {d : Nat} {z : List D} {l : List LOper} : DPS P (⟨some d, .allo z, none⟩ :: l) k K σ = DPS P l k K (newO σ d z) :=
  propext ⟨fun ⟨_, e, h⟩ => by cases e; exact h, fun h => ⟨_, rfl, h⟩⟩
theorem dps_sla {d len : Nat} {x : LX} {lo hi : Option LX} {l : List LOper} : DPS P (⟨some d, .sla len x lo hi, none⟩ :: l) k K σ = StG (slaS σ d len (σ.ev x) (evO σ lo) (evO σ hi)) (DPS P l k K) := propext ⟨fun h => h, fun h => h⟩
theorem dps_st {m : Nat} {x y : LX} {l : List LOper} : DPS P (⟨none, .st m x y, none⟩ :: l) k K σ = StG (stS σ m (σ.ev x) (σ.ev y)) (DPS P l k K) := propext ⟨fun h => h, fun h => h⟩

theorem dps_guard {d : Option Nat} {op : LO} {s : Nat} {b : Bool} {l : List LOper} : DPS P (⟨d, op, some (s, b)⟩ :: l) k K σ =
    GuardR (σ.get s) b (DPS P (⟨d, op, none⟩ :: l) k K) (DPS P l k K) (σ.mark s (.d (.bool b))) (putO (σ.mark s (.d (.bool (!b)))) d (.tuple [])) (putO σ d (.tuple [])) := by
  apply propext
  have nb : ∀ {t : Bool}, t ≠ b ↔ t = !b := fun {t} => by cases t <;> cases b <;> simp
  by_cases hm : (⟨d, op, none⟩ : LOper).moves = true
  · have hm' : (⟨d, op, some (s, b)⟩ : LOper).moves = true := hm
    simp only [DPS, DOps, DStep, hm, hm', if_true, DEffG, GuardR]
    constructor
    · rintro ⟨e, ⟨t, h1, h2, h3⟩ | ⟨h1, h2⟩, h4⟩
      · refine .inl ⟨t, h1, fun ht => ?_, fun ht => ?_⟩
        · subst ht; rw [mark_same h1]; exact ⟨e, h2 rfl, h4⟩
        · have := h3 (nb.2 ht); subst this; rw [← ht, mark_same h1]; exact h4
      · subst h2; exact .inr ⟨h1, h4⟩
    · rintro (⟨t, h1, h2, h3⟩ | ⟨h1, h2⟩)
      · by_cases ht : t = b
        · subst ht
          have := h2 rfl
          rw [mark_same h1] at this
          obtain ⟨e, h4, h5⟩ := this
          exact ⟨e, .inl ⟨t, h1, fun _ => h4, fun hn => absurd rfl hn⟩, h5⟩
        · have h4 := h3 (nb.1 ht)
          rw [← nb.1 ht, mark_same h1] at h4
          exact ⟨⟨[], und⟩, .inl ⟨t, h1, fun e => absurd e ht, fun _ => rfl⟩, h4⟩
      · exact ⟨⟨[], und⟩, .inr ⟨h1, rfl⟩, h2⟩
  · have hm' : ¬ (⟨d, op, some (s, b)⟩ : LOper).moves = true := hm
    have hst : ∀ {K' : St → Prop} {σ : St}, LStep P ⟨d, op, some (s, b)⟩ K' σ ↔ LStep P ⟨d, op, none⟩ K' σ := fun {K' σ} => by unfold LStep; exact Iff.rfl
    simp only [DPS, DOps, DStep, if_neg hm, if_neg hm', LOps, GuardR]
    refine or_congr ?_ Iff.rfl
    constructor
    · rintro ⟨t, h1, h2, h3⟩
      refine ⟨t, h1, fun e => ?_, fun e => ?_⟩
      · subst e; rw [mark_same h1]; exact hst.1 (h2 rfl)
      · have e' : t ≠ b := by rw [e]; cases b <;> simp
        rw [← e, mark_same h1]; exact h3 e'
    · rintro ⟨t, h1, h2, h3⟩
      refine ⟨t, h1, fun e => ?_, fun e => ?_⟩
      · subst e; have := h2 rfl; rw [mark_same h1] at this; exact hst.2 this
      · have e' : t = !b := by cases t <;> cases b <;> simp_all
        have := h3 e'; rw [← e', mark_same h1] at this; exact this

end

def Lifts (P : Program) [Inv P] (f : FuncId) (n : Nat) (L : LCode) (R : List LRes) : Prop := ∃ fn c, P.funcs[f]? = some fn ∧ fn.body = some c ∧ liftC P fn.ntmps c = some L.strip ∧ liftRes P fn.results.toList = some R ∧ fn.ntmps = n

theorem Lifts.call {f : FuncId} {n : Nat} {L : LCode} {R : List LRes} (h : Lifts P f n L R) {args : List D} {Post : Res → Prop} (hn : Nat.ble args.length n = true) (hr : RUN P L [] (retK R Post) ⟨initρ 0 args, [], []⟩) : PCall P f args Post := by
  obtain ⟨fn, c, h1, h2, h3, h4, rfl⟩ := h
  exact PCall.run h1 h2 h3 h4 (Nat.le_of_ble_eq_true hn) hr

theorem weak_mk {ρ ρ' : List (Nat × AV)} {L L' : List (Nat × AObj)} {H : List (Nat × AObj)} (h1 : Sub ρ ρ') (h2 : Sub L L') : Weak ⟨ρ, L, []⟩ ⟨ρ', L', H⟩ := ⟨h1, h2, trivial⟩

end Go.Av
/- Calls that take objects, or closures: contracts over abstract states, and the rule of such a call. -/
set_option linter.unusedSectionVars false
namespace Go.Av

/-! ### Names of objects, turned from the callee's to the caller's -/
def renR (R : List Ref) : Ref → Ref
  | .x i => R.getD i (.x i)
  | .l s => .l s
def renQ (R : List Ref) : Lab → Lab
  | .c r off => .c (renR R r) off
  | .t s => .t s
def AV.ren1 (R : List Ref) : AV → AV
  | .ptr r off => .ptr (renR R r) off
  | .rs r n c => .rs (renR R r) n c
  | .mp r => .mp (renR R r)
  | x => x
def ren1L (R : List Ref) : List AV → List AV
  | [] => []
  | x :: l => x.ren1 R :: ren1L R l
def AV.ren (R : List Ref) : AV → AV
  | .d x => .d x
  | .own q e sz l => .own (renQ R q) e sz l
  | .ptr r off => .ptr (renR R r) off
  | .dptr cs => .dptr cs
  | .tuple vs => .tuple (ren1L R vs)
  | .fn f a b => .fn f (ren1L R a) (ren1L R b)
  | .junk => .junk
  | .ns => .ns
  | .nt e => .nt e
  | .rs r n c => .rs (renR R r) n c
  | .mp r => .mp (renR R r)
  | .sx vs => .sx (ren1L R vs)
def renL (R : List Ref) : List AV → List AV
  | [] => []
  | x :: l => x.ren R :: renL R l
def AObj.ren (R : List Ref) : AObj → AObj
  | .cells cs => .cells (renL R cs)
  | .siter s p => .siter s p
  | .miter l c => .miter l c
  | .mobj l c => .mobj l c

theorem ren1L_eq (R : List Ref) (l : List AV) : ren1L R l = l.map (AV.ren1 R) := by induction l with | nil => rfl | cons x l ih => simp [ren1L, ih]
theorem renL_eq (R : List Ref) (l : List AV) : renL R l = l.map (AV.ren R) := by induction l with | nil => rfl | cons x l ih => simp [renL, ih]

def wfR (n : Nat) : Ref → Bool
  | .x i => decide (i < n)
  | .l _ => false
def AV.wf1 (n : Nat) : AV → Bool
  | .ptr r _ => wfR n r
  | .rs r _ _ => wfR n r
  | .mp r => wfR n r
  | _ => true
def wf1L (n : Nat) : List AV → Bool
  | [] => true
  | x :: l => x.wf1 n && wf1L n l
def AV.wf (n : Nat) : AV → Bool
  | .own q _ _ _ => match q with
    | .c r _ => wfR n r
    | .t _ => false
  | .ptr r _ => wfR n r
  | .rs r _ _ => wfR n r
  | .mp r => wfR n r
  | .sx vs => wf1L n vs
  | .tuple vs => wf1L n vs
  | .fn _ a b => wf1L n a && wf1L n b
  | _ => true
def wfL (n : Nat) : List AV → Bool
  | [] => true
  | x :: l => x.wf n && wfL n l
def AObj.wf (n : Nat) : AObj → Bool
  | .cells cs => wfL n cs
  | .siter _ _ => true
  | .miter _ _ => true
  | .mobj _ _ => true
def wfO (n : Nat) : List AObj → Bool
  | [] => true
  | o :: l => o.wf n && wfO n l

theorem wf1L_iff {n : Nat} {l : List AV} : wf1L n l = true ↔ ∀ x ∈ l, x.wf1 n = true := by induction l with | nil => simp [wf1L] | cons x l ih => simp [wf1L, ih]
theorem wfL_iff {n : Nat} {l : List AV} : wfL n l = true ↔ ∀ x ∈ l, x.wf n = true := by induction l with | nil => simp [wfL] | cons x l ih => simp [wfL, ih]
theorem wfO_iff {n : Nat} {l : List AObj} : wfO n l = true ↔ ∀ x ∈ l, x.wf n = true := by induction l with | nil => simp [wfO] | cons x l ih => simp [wfO, ih]

def AV.noLoc1 : AV → Bool
  | .ptr r _ => !isLocal r
  | .rs r _ _ => !isLocal r
  | .mp r => !isLocal r
  | _ => true
def noLoc1L : List AV → Bool
  | [] => true
  | x :: l => x.noLoc1 && noLoc1L l
def AV.noLoc : AV → Bool
  | .ptr r _ => !isLocal r
  | .rs r _ _ => !isLocal r
  | .mp r => !isLocal r
  | .sx vs => noLoc1L vs
  | .tuple vs => noLoc1L vs
  | .fn _ a b => noLoc1L a && noLoc1L b
  | _ => true
def noLocL : List AV → Bool
  | [] => true
  | x :: l => x.noLoc && noLocL l
def AObj.noLoc : AObj → Bool
  | .cells cs => noLocL cs
  | .siter _ _ => true
  | .miter _ _ => true
  | .mobj _ _ => true

theorem noLoc1L_iff {l : List AV} : noLoc1L l = true ↔ ∀ x ∈ l, x.noLoc1 = true := by induction l with | nil => simp [noLoc1L] | cons x l ih => simp [noLoc1L, ih]
theorem AV.noLoc_has {x : AV} (h : x.noLoc = true) (s : Nat) : x.has (.l s) = false := by
  have one : ∀ {y : AV}, y.noLoc1 = true → y.isPtr (.l s) = false := fun {y} hy => by
    cases y <;> simp_all [AV.noLoc1, AV.isPtr]
    all_goals (rename Ref => r; cases r <;> simp_all [isLocal])
  cases x with
  | ptr r off => cases r <;> simp_all [AV.noLoc, AV.has, isLocal]
  | rs r n c => cases r <;> simp_all [AV.noLoc, AV.has, isLocal]
  | mp r => cases r <;> simp_all [AV.noLoc, AV.has, isLocal]
  | sx vs =>
    simp only [AV.noLoc, noLoc1L_iff] at h
    simp only [AV.has, List.any_eq_false]
    intro y hy; simp [one (h y hy)]
  | tuple vs =>
    simp only [AV.noLoc, noLoc1L_iff] at h
    simp only [AV.has, List.any_eq_false]
    intro y hy; simp [one (h y hy)]
  | fn f a b =>
    simp only [AV.noLoc, Bool.and_eq_true, noLoc1L_iff] at h
    simp only [AV.has, Bool.or_eq_false_iff, List.any_eq_false]
    exact ⟨fun y hy => by simp [one (h.1 y hy)], fun y hy => by simp [one (h.2 y hy)]⟩
  | _ => rfl

theorem AV.wf_noLoc {n : Nat} {x : AV} (h : x.wf n = true) : x.noLoc = true := by
  have one : ∀ {y : AV}, y.wf1 n = true → y.noLoc1 = true := fun {y} hy => by
    cases y <;> simp_all [AV.wf1, AV.noLoc1]
    all_goals (rename Ref => r; cases r <;> simp_all [wfR, isLocal])
  cases x with
  | ptr r off => cases r <;> simp_all [AV.wf, AV.noLoc, wfR, isLocal]
  | rs r n c => cases r <;> simp_all [AV.wf, AV.noLoc, wfR, isLocal]
  | mp r => cases r <;> simp_all [AV.wf, AV.noLoc, wfR, isLocal]
  | sx vs => simp only [AV.wf, wf1L_iff] at h; simp only [AV.noLoc, noLoc1L_iff]; exact fun y hy => one (h y hy)
  | tuple vs => simp only [AV.wf, wf1L_iff] at h; simp only [AV.noLoc, noLoc1L_iff]; exact fun y hy => one (h y hy)
  | fn f a b =>
    simp only [AV.wf, Bool.and_eq_true, wf1L_iff] at h
    simp only [AV.noLoc, Bool.and_eq_true, noLoc1L_iff]
    exact ⟨fun y hy => one (h.1 y hy), fun y hy => one (h.2 y hy)⟩
  | _ => rfl

/-! ### Contracts -/
def initA : Nat → List AV → List (Nat × AV)
  | _, [] => []
  | k, x :: r => (k, x) :: initA (k + 1) r
def numO : Nat → List AObj → List (Nat × AObj)
  | _, [] => []
  | k, o :: r => (k, o) :: numO (k + 1) r

theorem initA_get : ∀ (l : List AV) (k s : Nat), aget (initA k l) s = if k ≤ s then l[s - k]? else none
  | [], k, s => by simp [initA, aget]
  | x :: r, k, s => by
    simp only [initA, aget, initA_get r (k + 1) s]
    by_cases h : k = s
    · subst h; simp
    · rw [if_neg h]
      by_cases h2 : k ≤ s
      · rw [if_pos h2, if_pos (by omega)]
        have : s - k = (s - (k + 1)) + 1 := by omega
        rw [this]; simp
      · rw [if_neg h2, if_neg (by omega)]
theorem numO_get : ∀ (l : List AObj) (k s : Nat), aget (numO k l) s = if k ≤ s then l[s - k]? else none
  | [], k, s => by simp [numO, aget]
  | x :: r, k, s => by
    simp only [numO, aget, numO_get r (k + 1) s]
    by_cases h : k = s
    · subst h; simp
    · rw [if_neg h]
      by_cases h2 : k ≤ s
      · rw [if_pos h2, if_pos (by omega)]
        have : s - k = (s - (k + 1)) + 1 := by omega
        rw [this]; simp
      · rw [if_neg h2, if_neg (by omega)]

def inM (G : Ghost) (hs : List AObj) (b : Nat) : Prop :=
  (∃ i o, hs[i]? = some o ∧ G.b (.x i) = b) ∨ ∃ q v p, G.lam q = some (v, p) ∧ v.ownBlock = some b

def entryOf (G : Ghost) (hs : List AObj) (w : World) : Entry := { w0 := w, f0 := G.f, M := inM G hs, b0 := fun r => G.b (.x r) }

def MCall (P : Program) [Inv P] (fn : FuncId) (xs : List AV) (hs : List AObj) (Post : AV → List AObj → Prop) : Prop :=
  callOk P fn = true ∧ ∀ (G : Ghost) (w : World) (vs : Array Value), Inv.inv P G.f w → (∀ b, Inv.own P b → ¬ inM G hs b) →
    SR (entryOf G hs w) xs.length G ⟨initA 0 xs, [], numO 0 hs⟩ vs w →
    Calls P fn vs w fun e w' => ∃ r hs' G' v, Post r hs' ∧ e = .returned v ∧ hs'.length = hs.length ∧ SR (entryOf G hs w) 1 G' ⟨[(0, r)], [], numO 0 hs'⟩ #[v] w'

theorem MCall.mono {P : Program} [Inv P] {fn : FuncId} {xs : List AV} {hs : List AObj} {Post Post' : AV → List AObj → Prop} (h : MCall P fn xs hs Post) (hp : ∀ r hs', Post r hs' → Post' r hs') : MCall P fn xs hs Post' :=
  ⟨h.1, fun G w vs h0 h1 h2 => (h.2 G w vs h0 h1 h2).mono fun _ _ ⟨r, hs', G', v, a, b⟩ => ⟨r, hs', G', v, hp r hs' a, b⟩⟩

/-! ### The caller's side -/
def memR (r : Ref) : List Ref → Bool
  | [] => false
  | a :: l => if a = r then true else memR r l
theorem memR_iff {r : Ref} {l : List Ref} : memR r l = true ↔ r ∈ l := by
  induction l with
  | nil => simp [memR]
  | cons a l ih =>
    simp only [memR, List.mem_cons]
    by_cases h : a = r
    · simp [h]
    · rw [if_neg h, ih]; exact ⟨.inr, fun hh => hh.elim (fun e => absurd e.symm h) id⟩
def passA : AV → AV
  | .own _ _ _ l => .d (.list l)
  | x => x
def passI (Q : List (Nat × Lab)) (i : Nat) (y : AV) : AV :=
  match aget Q i with
  | some q => match y with
    | .own q' e sz l => if q' = q then .own (.t i) e sz l else .junk
    | _ => .junk
  | none => passA y
def passQ (Q : List (Nat × Lab)) : Nat → List AV → List AV
  | _, [] => []
  | i, x :: l => passI Q i x :: passQ Q (i + 1) l

def notR (R : List Ref) : Lab → Bool
  | .c r _ => !memR r R
  | .t _ => true
def memQ (q : Lab) : List (Nat × Lab) → Bool
  | [] => false
  | (_, a) :: l => if a = q then true else memQ q l
def okQ (R : List Ref) : List (Nat × Lab) → Bool
  | [] => true
  | (_, q) :: l => (!memQ q l && notR R q) && okQ R l
def labsQ : List (Nat × Lab) → List Lab
  | [] => []
  | (_, q) :: l => q :: labsQ l

theorem memQ_iff {q : Lab} {Q : List (Nat × Lab)} : memQ q Q = true ↔ q ∈ labsQ Q := by
  induction Q with
  | nil => simp [memQ, labsQ]
  | cons a l ih =>
    obtain ⟨i, a⟩ := a
    simp only [memQ, labsQ, List.mem_cons]
    by_cases h : a = q
    · simp [h]
    · rw [if_neg h, ih]; exact ⟨.inr, fun hh => hh.elim (fun e => absurd e.symm h) id⟩
theorem okQ_iff {R : List Ref} {Q : List (Nat × Lab)} (h : okQ R Q = true) : (labsQ Q).Nodup ∧ ∀ q ∈ labsQ Q, ∀ r off, q = .c r off → r ∉ R := by
  induction Q with
  | nil => simp [labsQ]
  | cons a l ih =>
    obtain ⟨i, a⟩ := a
    simp only [okQ, Bool.and_eq_true, Bool.not_eq_true'] at h
    obtain ⟨⟨h1, h2⟩, h3⟩ := h
    obtain ⟨h4, h5⟩ := ih h3
    simp only [labsQ, List.nodup_cons, List.mem_cons]
    refine ⟨⟨fun hm => (by rw [memQ_iff.2 hm] at h1; cases h1), h4⟩, fun q hq r off e => ?_⟩
    rcases hq with rfl | hq
    · subst e
      simp only [notR, Bool.not_eq_true'] at h2
      exact fun hm => by rw [memR_iff.2 hm] at h2; cases h2
    · exact h5 q hq r off e
theorem agetQ_mem {Q : List (Nat × Lab)} {i : Nat} {q : Lab} (h : aget Q i = some q) : q ∈ labsQ Q := by
  induction Q with
  | nil => simp [aget] at h
  | cons a l ih =>
    obtain ⟨k, a⟩ := a
    simp only [aget] at h
    simp only [labsQ, List.mem_cons]
    split at h
    · cases h; exact .inl rfl
    · exact .inr (ih h)
theorem agetQ_inj {Q : List (Nat × Lab)} (hn : (labsQ Q).Nodup) {i j : Nat} {q : Lab} (hi : aget Q i = some q) (hj : aget Q j = some q) : i = j := by
  induction Q with
  | nil => simp [aget] at hi
  | cons a l ih =>
    obtain ⟨k, a⟩ := a
    simp only [labsQ, List.nodup_cons] at hn
    simp only [aget] at hi hj
    split at hi
    · rename_i e1
      cases hi
      split at hj
      · rename_i e2; rw [← e1, ← e2]
      · exact absurd (agetQ_mem hj) hn.1
    · split at hj
      · cases hj; exact absurd (agetQ_mem hi) hn.1
      · exact ih hn.2 hi hj

def objsAt (σ : St) (R : List Ref) : List Ref → List AObj → Prop
  | [], [] => True
  | r :: rs, o :: os => σ.obj r = some (o.ren R) ∧ objsAt σ R rs os
  | _, _ => False

def AV.unown (R : List Ref) : AV → AV
  | .own q e sz l => match q with
    | .c r off => if memR r R = true then .d (.list l) else .own (.c r off) e sz l
    | .t s => .own (.t s) e sz l
  | x => x

def setObjs (R : List Ref) : St → List Ref → List AObj → St
  | σ, [], _ => σ
  | σ, _, [] => σ
  | σ, r :: rs, o :: os => setObjs R (σ.setObj r (o.ren R)) rs os
def backS (σ : St) (R : List Ref) (os : List AObj) : St := setObjs R { σ with ρ := amap (AV.unown R) σ.ρ } R os

def retO (σ : St) (d : Option Nat) (R : List Ref) (r : AV) : St :=
  match r with
  | .own _ e sz l => match d with
    | some k => (σ.erase (.t k)).put k (.own (.t k) e sz l)
    | none => σ
  | r => putO σ d (r.ren R)
theorem objsAt_get {σ : St} {R : List Ref} : ∀ {rs : List Ref} {os : List AObj}, objsAt σ R rs os → rs.length = os.length ∧ ∀ (i : Nat) (r : Ref) (o : AObj), rs[i]? = some r → os[i]? = some o → σ.obj r = some (o.ren R)
  | [], [], _ => ⟨rfl, fun i r o h => by simp at h⟩
  | [], _ :: _, h => h.elim
  | _ :: _, [], h => h.elim
  | r :: rs, o :: os, ⟨h1, h2⟩ => by
    obtain ⟨h3, h4⟩ := objsAt_get h2
    refine ⟨by simp [h3], fun i r' o' hr ho => ?_⟩
    cases i with
    | zero => simp at hr ho; subst hr; subst ho; exact h1
    | succ i => simp at hr ho; exact h4 i r' o' hr ho

end Go.Av
/- Calls that take objects: what the callee finds. -/
set_option linter.unusedSectionVars false
namespace Go.Av

variable {E : Entry} {n : Nat} {G : Ghost} {σ : St} {ts : Array Value} {w : World}

def Gc (G : Ghost) (R : List Ref) (Q : List (Nat × Lab)) : Ghost :=
  { f := G.f, b := fun r => G.b (renR R r), lam := fun q => match q with
    | .c (.x i) off => if i < R.length then G.lam (.c (renR R (.x i)) off) else none
    | .t i => (aget Q i).bind G.lam
    | _ => none }

theorem renR_get {R : List Ref} {i : Nat} (h : i < R.length) : R[i]? = some (renR R (.x i)) := by
  simp [renR, List.getD_eq_getElem?_getD, List.getElem?_eq_getElem h]

theorem wfR_inv {n : Nat} {r : Ref} (h : wfR n r = true) : ∃ i, r = .x i ∧ i < n := by
  cases r with
  | l s => simp [wfR] at h
  | x i => exact ⟨i, rfl, by simpa [wfR] using h⟩

theorem AV.ren1_simple {R : List Ref} {x : AV} : (x.ren1 R).simple = x.simple := by cases x <;> rfl

theorem AVR.unren1 {R : List Ref} {Q : List (Nat × Lab)} {x : AV} {v : Value} (hs : x.simple = true) (h : AVR G w (x.ren1 R) v) : AVR (Gc G R Q) w x v := by
  cases x with
  | d x => simp only [AV.ren1] at h; cases h with | d _ _ h => exact .d _ _ h
  | own q e sz l => simp [AV.simple] at hs
  | ptr r off =>
    simp only [AV.ren1] at h
    cases h
    exact .ptr (G := Gc G R Q) r off
  | dptr cs => simp only [AV.ren1] at h; cases h with | dptr _ b o vs h1 h2 h3 => exact .dptr cs b o vs h1 h2 h3
  | tuple vs => simp [AV.simple] at hs
  | fn f a b => simp [AV.simple] at hs
  | junk => exact .junk v
  | ns => (first | (simp only [AV.ren1] at h) | (simp only [AV.ren] at h)); cases h; exact .ns
  | nt e => (first | (simp only [AV.ren1] at h) | (simp only [AV.ren] at h)); cases h; exact .nt e
  | rs r n c =>
    simp only [AV.ren1] at h
    cases h
    exact .rs (G := Gc G R Q) r n c
  | mp r =>
    simp only [AV.ren1] at h
    cases h
    exact .mp (G := Gc G R Q) r
  | sx vs => simp [AV.simple] at hs

theorem AVR.unren {R : List Ref} {Q : List (Nat × Lab)} {x : AV} {v : Value} (hw : x.wf R.length = true) (h : AVR G w (x.ren R) v) : AVR (Gc G R Q) w x v := by
  cases x with
  | d x => simp only [AV.ren] at h; cases h with | d _ _ h => exact .d _ _ h
  | own q e sz l =>
    cases q with
    | t s => simp [AV.wf] at hw
    | c r off =>
      simp only [AV.wf] at hw
      obtain ⟨i, rfl, hi⟩ := wfR_inv hw
      simp only [AV.ren, renQ] at h
      cases h with
      | own _ _ _ _ _ hq hv hs => exact .own _ _ _ _ _ (by simp only [Gc, if_pos hi]; exact hq) hv hs
  | ptr r off =>
    simp only [AV.ren] at h
    cases h
    exact .ptr (G := Gc G R Q) r off
  | dptr cs => simp only [AV.ren] at h; cases h with | dptr _ b o vs h1 h2 h3 => exact .dptr cs b o vs h1 h2 h3
  | tuple vs =>
    simp only [AV.ren, ren1L_eq] at h
    cases h with
    | tuple _ us hl hs hh =>
      have hs' : ∀ x ∈ vs, x.simple = true := fun x hx => by
        have := hs (x.ren1 R) (List.mem_map_of_mem hx); rwa [AV.ren1_simple] at this
      refine .tuple vs us (by simpa using hl) hs' fun i x hi => ?_
      exact (hh i (x.ren1 R) (by rw [List.getElem?_map, hi]; rfl)).unren1 (hs' x (List.mem_of_getElem? hi))
  | fn f a b =>
    simp only [AV.ren, ren1L_eq] at h
    cases h with
    | fn _ _ _ us vs hl hs hh hl' hs' hh' =>
      have k : ∀ x ∈ a, x.simple = true := fun x hx => by
        have := hs (x.ren1 R) (List.mem_map_of_mem hx); rwa [AV.ren1_simple] at this
      have k' : ∀ x ∈ b, x.simple = true := fun x hx => by
        have := hs' (x.ren1 R) (List.mem_map_of_mem hx); rwa [AV.ren1_simple] at this
      exact .fn f a b us vs (by simpa using hl) k (fun i x hi => (hh i (x.ren1 R) (by rw [List.getElem?_map, hi]; rfl)).unren1 (k x (List.mem_of_getElem? hi)))
        (by simpa using hl') k' (fun i x hi => (hh' i (x.ren1 R) (by rw [List.getElem?_map, hi]; rfl)).unren1 (k' x (List.mem_of_getElem? hi)))
  | junk => exact .junk v
  | ns => (first | (simp only [AV.ren1] at h) | (simp only [AV.ren] at h)); cases h; exact .ns
  | nt e => (first | (simp only [AV.ren1] at h) | (simp only [AV.ren] at h)); cases h; exact .nt e
  | rs r n c =>
    simp only [AV.ren] at h
    cases h
    exact .rs (G := Gc G R Q) r n c
  | mp r =>
    simp only [AV.ren] at h
    cases h
    exact .mp (G := Gc G R Q) r
  | sx vs =>
    simp only [AV.ren, ren1L_eq] at h
    cases h with
    | sx _ us hl hs ho hh =>
      have hs' : ∀ x ∈ vs, x.simple = true := fun x hx => by
        have := hs (x.ren1 R) (List.mem_map_of_mem hx); rwa [AV.ren1_simple] at this
      refine .sx vs us (by simpa using hl) hs' (by simpa using ho) fun i x hi => ?_
      exact (hh i (x.ren1 R) (by rw [List.getElem?_map, hi]; rfl)).unren1 (hs' x (List.mem_of_getElem? hi))

theorem AV.wf_lab {n : Nat} {x : AV} (h : x.wf n = true) {q : Lab} (hq : x.lab? = some q) : ∃ i off, q = .c (.x i) off ∧ i < n := by
  cases x <;> simp [AV.lab?] at hq
  subst hq
  rename_i q e sz l
  cases q with
  | t s => simp [AV.wf] at h
  | c r off =>
    simp only [AV.wf] at h
    obtain ⟨i, rfl, hi⟩ := wfR_inv h
    exact ⟨i, off, rfl, hi⟩

theorem nodup_at {α : Type} {l : List α} (h : l.Nodup) {i j : Nat} {x : α} (hi : l[i]? = some x) (hj : l[j]? = some x) : i = j := by
  have hl : i < l.length := (List.getElem?_eq_some_iff.1 hi).1
  exact (List.getElem?_inj hl h).1 (hi.trans hj.symm)

theorem ObjR.unren {R : List Ref} {Q : List (Nat × Lab)} (hn : R.Nodup) {i : Nat} (hi : i < R.length) {o : AObj} (hw : o.wf R.length = true) (h : ObjR G w (renR R (.x i)) (o.ren R)) : ObjR (Gc G R Q) w (.x i) o := by
  cases o with
  | siter s p => exact h
  | miter l c => exact h
  | mobj l c => exact h
  | cells cs =>
    simp only [AObj.ren, renL_eq] at h
    obtain ⟨arr, el, h1, h2, h3⟩ := h
    simp only [AObj.wf, wfL_iff] at hw
    refine ⟨arr, el, h1, by simpa using h2, fun j x hj => ?_⟩
    have hxw := hw x (List.mem_of_getElem? hj)
    obtain ⟨k1, k2, k3⟩ := h3 j (x.ren R) (by rw [List.getElem?_map, hj]; rfl)
    refine ⟨k1.unren hxw, k2, fun q hq => ?_, fun e he => k3.2 e (by rw [he]; rfl)⟩
    obtain ⟨k, off, rfl, hk⟩ := AV.wf_lab hxw hq
    have : (x.ren R).lab? = some (renQ R (.c (.x k) off)) := by
      cases x <;> simp [AV.lab?] at hq
      subst hq; rfl
    have := k3.1 _ this
    simp only [renQ, Lab.c.injEq] at this
    obtain ⟨e1, e2⟩ := this
    have : k = i := nodup_at hn (renR_get hk) (by rw [e1]; exact renR_get hi)
    rw [this, e2]

theorem Gc_lam {R : List Ref} {Q : List (Nat × Lab)} {q : Lab} {p : Value × Nat × Nat} (h : (Gc G R Q).lam q = some p) :
    (∃ i off, q = .c (.x i) off ∧ i < R.length ∧ G.lam (.c (renR R (.x i)) off) = some p) ∨ ∃ i q0, q = .t i ∧ aget Q i = some q0 ∧ G.lam q0 = some p := by
  simp only [Gc] at h
  split at h
  · rename_i i off
    split at h
    · rename_i hi; exact .inl ⟨i, off, rfl, hi, h⟩
    · cases h
  · rename_i i
    cases hq : aget Q i with
    | none => simp [hq] at h
    | some q0 => simp [hq] at h; exact .inr ⟨i, q0, rfl, hq, h⟩
  · cases h

theorem Gc_up {R : List Ref} {Q : List (Nat × Lab)} {q : Lab} {p : Value × Nat × Nat} (h : (Gc G R Q).lam q = some p) : ∃ q0, G.lam q0 = some p ∧ ((∃ r off, q0 = .c r off ∧ r ∈ R) ∨ q0 ∈ labsQ Q) := by
  rcases Gc_lam h with ⟨i, off, _, hi, h1⟩ | ⟨i, q0, _, hq, h1⟩
  · exact ⟨_, h1, .inl ⟨_, _, rfl, List.mem_of_getElem? (renR_get hi)⟩⟩
  · exact ⟨_, h1, .inr (agetQ_mem hq)⟩

theorem Gc_inj {R : List Ref} {Q : List (Nat × Lab)} (hn : R.Nodup) (hq : (labsQ Q).Nodup) (hQR : ∀ q ∈ labsQ Q, ∀ r off, q = .c r off → r ∉ R) {q q' : Lab} {p p' : Value × Nat × Nat} (h : (Gc G R Q).lam q = some p) (h' : (Gc G R Q).lam q' = some p')
    (hinj : ∀ q0 q1, G.lam q0 = some p → G.lam q1 = some p' → q0 = q1) : q = q' := by
  rcases Gc_lam h with ⟨i, off, rfl, hi, h1⟩ | ⟨i, q0, rfl, hq0, h1⟩ <;> rcases Gc_lam h' with ⟨j, off', rfl, hj, h2⟩ | ⟨j, q1, rfl, hq1, h2⟩
  · have := hinj _ _ h1 h2
    simp only [Lab.c.injEq] at this
    obtain ⟨e1, e2⟩ := this
    rw [nodup_at hn (renR_get hi) (by rw [e1]; exact renR_get hj), e2]
  · have := hinj _ _ h1 h2
    exact absurd (List.mem_of_getElem? (renR_get hi)) (hQR _ (agetQ_mem hq1) _ _ this.symm)
  · have := hinj _ _ h1 h2
    exact absurd (List.mem_of_getElem? (renR_get hj)) (hQR _ (agetQ_mem hq0) _ _ this)
  · have := hinj _ _ h1 h2
    subst this
    rw [agetQ_inj hq hq0 hq1]

theorem SR.enter (h : SR E n G σ ts w) {R : List Ref} {Q : List (Nat × Lab)} {xs : List AV} {hs : List AObj} {vs : Array Value} (hvs : vs.size = xs.length) (hargs : ∀ i x, xs[i]? = some x → AVR (Gc G R Q) w x (vs.getD i undef))
    (ho : objsAt σ R R hs) (hwo : wfO R.length hs = true) (hn : R.Nodup) (hq : okQ R Q = true) : SR (entryOf (Gc G R Q) hs w) xs.length (Gc G R Q) ⟨initA 0 xs, [], numO 0 hs⟩ vs w := by
  obtain ⟨hlen, hget⟩ := objsAt_get ho
  obtain ⟨hq1, hq2⟩ := okQ_iff hq
  have hobj : ∀ r o, St.obj ⟨initA 0 xs, [], numO 0 hs⟩ r = some o → ∃ i, r = .x i ∧ i < R.length ∧ hs[i]? = some o ∧ σ.obj (renR R (.x i)) = some (o.ren R) := by
    intro r o hr
    cases r with
    | l s => simp [St.obj, aget] at hr
    | x i =>
      simp only [St.obj, numO_get, Nat.zero_le, if_true, Nat.sub_zero] at hr
      have hi : i < R.length := by rw [hlen]; exact (List.getElem?_eq_some_iff.1 hr).1
      exact ⟨i, rfl, hi, hr, hget i _ o (renR_get hi) hr⟩
  refine { size := hvs, slot := fun s x hx => ?_, obj := fun r o hr => ?_, objf := fun r o hr => ?_, inj := fun r r' o o' hr hr' hb => ?_, lam := fun q v e sz hq => ?_, lamObj := fun q v e sz b hq hb r o hr => ?_,
           lamInj := fun q q' v v' p p' b hq hq' hb hb' => ?_, newObj := fun r o hr => ?_, newLam := fun q v e sz b hq hb => ?_, ext := Ext.refl _ _, fr := fun _ _ _ => ⟨rfl, rfl⟩, top := h.top, ext0 := fun _ => rfl, own0 := fun r cs x s hr hx => ?_, os := rfl, tape := rfl, output := rfl }
  · simp only [initA_get, Nat.zero_le, if_true, Nat.sub_zero] at hx
    exact hargs s x hx
  · obtain ⟨i, rfl, hi, h1, h2⟩ := hobj r o hr
    exact (h.obj _ _ h2).unren hn hi (wfO_iff.1 hwo o (List.mem_of_getElem? h1))
  · obtain ⟨i, rfl, hi, h1, h2⟩ := hobj r o hr
    exact h.objf _ _ h2
  · obtain ⟨i, rfl, hi, h1, h2⟩ := hobj r o hr
    obtain ⟨j, rfl, hj, h3, h4⟩ := hobj r' o' hr'
    have := h.inj _ _ _ _ h2 h4 hb
    rw [nodup_at hn (renR_get hi) (by rw [this]; exact renR_get hj)]
  · obtain ⟨q0, h1, _⟩ := Gc_up hq
    exact h.lam _ v e sz h1
  · obtain ⟨q0, h1, _⟩ := Gc_up hq
    obtain ⟨j, rfl, hj, h3, h4⟩ := hobj r o hr
    exact h.lamObj _ v e sz b h1 hb _ _ h4
  · exact Gc_inj hn hq1 hq2 hq hq' fun q0 q1 h1 h2 => h.lamInj _ _ v v' p p' b h1 h2 hb hb'
  · obtain ⟨i, rfl, hi, h1, h2⟩ := hobj r o hr
    exact .inr (.inl ⟨i, o, h1, rfl⟩)
  · exact .inr (.inr ⟨q, v, _, hq, hb⟩)
  · obtain ⟨i, hr', hi, h1, h2⟩ := hobj _ _ hr
    have hw := wfO_iff.1 hwo _ (List.mem_of_getElem? h1)
    simp only [AObj.wf, wfL_iff] at hw
    exact AV.noLoc_has (AV.wf_noLoc (hw x hx)) s

end Go.Av
/- Calls that take objects: what the caller has back. -/
set_option linter.unusedSectionVars false
namespace Go.Av

variable {E : Entry} {n : Nat} {G : Ghost} {σ : St} {ts : Array Value} {w : World}

theorem SR.eraseL : ∀ (qs : List Lab) {G : Ghost} {σ : St}, SR E n G σ ts w → ∃ lam', SR E n { G with lam := lam' } (Go.Av.eraseL σ qs) ts w ∧ (∀ q p, lam' q = some p → G.lam q = some p ∧ q ∉ qs)
  | [], G, σ, h => ⟨G.lam, h, fun q p hq => ⟨hq, by simp⟩⟩
  | q0 :: qs, G, σ, h => by
    obtain ⟨lam', h1, h2⟩ := SR.eraseL qs (h.erase q0)
    refine ⟨lam', h1, fun q p hq => ?_⟩
    obtain ⟨h3, h4⟩ := h2 q p hq
    simp only [updf] at h3
    split at h3
    · cases h3
    · rename_i hne
      exact ⟨h3, by simp only [List.mem_cons, not_or]; exact ⟨hne, h4⟩⟩

end Go.Av
/- Calls that take objects: the rule of a call, and of a function. -/
set_option linter.unusedSectionVars false
namespace Go.Av

variable {E : Entry} {n : Nat} {G : Ghost} {σ : St} {ts : Array Value} {w : World} {P : Program} [Inv P]

theorem callOk_run {f : FuncId} (hok : callOk P f = true) (as : Array Value) (w : World) : (callFunc f as).run P w = .ok (.enter f as) w := by
  unfold callOk at hok
  cases hf : P.funcs[f]? with
  | none => simp [hf] at hok
  | some fn =>
    rw [hf] at hok
    simp only [Bool.and_eq_true, Bool.not_eq_true'] at hok
    have hb : fn.body.isNone = false := by cases hb : fn.body <;> simp_all
    simp only [callFunc, Sem.run_bind, run_program, Result.andThen_ok, hf, hok.1, hb, Bool.false_eq_true, if_false, Sem.run_pure]

theorem primOf_call {o : Oper} {os : List Operand} (h : primOf P o = some (.call, os)) : ∃ (f : Operand) (as : Array Operand) (ts : Array TypeId), o.op = .call { callee := .value f, args := as, argTypes := ts } ∧ os = f :: as.toList := by
  unfold primOf at h
  split at h
  · rename_i f as ts ho
    split at h
    · split at h
      · cases h
      · cases h; exact ⟨_, as, ts, ho, rfl⟩
    · cases h; exact ⟨_, as, ts, ho, rfl⟩
  · split at h
    · split at h <;> cases h
    · split at h
      · cases h
      · cases h
  all_goals first | (cases h; done) | (split at h <;> cases h)

/-! ### Functions -/
def okRes (n : Nat) (x : AV) : Option AV := if x.simple && x.wf n then some x else none

def resA (σ : St) (n : Nat) : LRes → Option AV
  | .tmp t => okRes n (passA (σ.get t))
  | .cell a agg m => (resV σ (.cell a agg m)).map .d

def resAL (σ : St) (n : Nat) : List LRes → Option (List AV)
  | [] => some []
  | x :: r => match resA σ n x, resAL σ n r with
    | some y, some l => some (y :: l)
    | _, _ => none

def mkA : List AV → AV
  | [x] => x
  | l => .tuple l

def objsOf (σ : St) : Nat → Nat → Option (List AObj)
  | _, 0 => some []
  | k, n + 1 => match aget σ.H k, objsOf σ (k + 1) n with
    | some o, some l => some (o :: l)
    | _, _ => none

def resOwn : AV → Option AV
  | .own q e sz l => match q with
    | .t _ => some (.own (.t 0) e sz l)
    | .c _ _ => none
  | _ => none
def resR (σ : St) (n : Nat) : List LRes → Option AV
  | [.tmp t] => match resOwn (σ.get t) with
    | some x => some x
    | none => (resAL σ n [.tmp t]).map mkA
  | l => (resAL σ n l).map mkA

def retM (l : List LRes) (n : Nat) (Post : AV → List AObj → Prop) : Exit → St → Prop
  | .normal, σ => ∃ x hs, resR σ n l = some x ∧ objsOf σ 0 n = some hs ∧ Post x hs
  | .ret, σ => ∃ x hs, resR σ n l = some x ∧ objsOf σ 0 n = some hs ∧ Post x hs
  | _, _ => False

end Go.Av
/- Calls that take objects: equations to rewrite with. -/
namespace Go.Av

variable {P : Program} [Inv P]

def PrimG (P : Program) [Inv P] (d : Option Nat) (p : Prim) (xs : List LX) (N : St → Prop) (σ : St) : Prop := PStep P d p xs (ChkK [] N) σ

section
variable {k : List Item} {K : Exit → St → Prop} {σ : St}
theorem ops_prim {d : Option Nat} {p : Prim} {xs : List LX} {l : List LOper} : OPS P (⟨d, .prim p xs [], none⟩ :: l) k K σ = PrimG P d p xs (OPS P l k K) σ := rfl
theorem dps_prim {d : Option Nat} {p : Prim} {xs : List LX} {l : List LOper} : DPS P (⟨d, .prim p xs [], none⟩ :: l) k K σ = PrimG P d p xs (DPS P l k K) σ := propext ⟨fun h => h, fun h => h⟩
theorem dps_primC {d : Option Nat} {p : Prim} {xs : List LX} {c : Nat × LV} {cs : List (Nat × LV)} {l : List LOper} : DPS P (⟨d, .prim p xs (c :: cs), none⟩ :: l) k K σ = PrimG P d p xs (ChkK (c :: cs) (DPS P l k K)) σ := by
  apply propext
  constructor
  · intro h
    have h : PStep P d p xs (ChkK (c :: cs) (DPS P l k K)) σ := h
    exact PStep.mono (fun σ h => ⟨trivial, h⟩) h
  · intro h
    have h1 : PStep P d p xs (ChkK (c :: cs) (DPS P l k K)) σ := PStep.mono (fun σ h => h.2) h
    exact h1
theorem dps_stC {m : Nat} {x y : LX} {c : List (Nat × LV)} {l : List LOper} : DPS P (⟨none, .stC m x y c, none⟩ :: l) k K σ = StG (stS σ m (σ.ev x) (σ.ev y)) (ChkK c (DPS P l k K)) := propext ⟨fun h => h, fun h => h⟩
theorem chkK_cons {s : Nat} {v : LV} {r : List (Nat × LV)} {N : St → Prop} : ChkK ((s, v) :: r) N σ = ((∃ z, aget σ.ρ s = some z ∧ pev σ v = some z) ∧ ChkK r N σ) := by
  apply propext
  unfold ChkK
  exact ⟨fun h => ⟨h.1.1, h.1.2, h.2⟩, fun h => ⟨⟨h.1, h.2.1⟩, h.2.2⟩⟩
theorem chkK_nil {N : St → Prop} : ChkK [] N σ = N σ := propext ⟨fun h => h.2, fun h => ⟨trivial, h⟩⟩
end

def RetM (x : Option AV) (hs : Option (List AObj)) (Post : AV → List AObj → Prop) : Prop := ∃ y h, x = some y ∧ hs = some h ∧ Post y h
theorem RetM_some {x : AV} {hs : List AObj} {Post : AV → List AObj → Prop} : RetM (some x) (some hs) Post = Post x hs :=
  propext ⟨fun ⟨_, _, e, e', h⟩ => by cases e; cases e'; exact h, fun h => ⟨_, _, rfl, rfl, h⟩⟩
theorem retM_normal {l : List LRes} {n : Nat} {Post : AV → List AObj → Prop} {σ : St} : retM l n Post .normal σ = RetM (resR σ n l) (objsOf σ 0 n) Post := rfl
theorem retM_ret {l : List LRes} {n : Nat} {Post : AV → List AObj → Prop} {σ : St} : retM l n Post .ret σ = RetM (resR σ n l) (objsOf σ 0 n) Post := rfl

end Go.Av
