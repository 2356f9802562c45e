import Derived.WalkKit
namespace Go.V

/-- What is known of the slots: the first pair of a slot counts. -/
abbrev Slots := List (Nat × Value)

def lk (t : Nat) : Slots → Option Value
  | [] => none
  | (u, v) :: l => if t = u then some v else lk t l

def ev (l : Slots) : Operand → Option Value
  | .tmp t => lk t l
  | .const v => some v
  | .global g => some (.pointer (some ⟨g, 0, none⟩))
  | .func f => some (.func (.func f) #[] #[])

def evs (l : Slots) : List Operand → Option (List Value)
  | [] => some []
  | x :: xs => match ev l x with
    | some v => match evs l xs with
      | some vs => some (v :: vs)
      | none => none
    | none => none

structure Env (n : Nat) (l : Slots) (a : Act) : Prop where
  size : a.tmps.size = n
  defers : a.defers = []
  get : ∀ t v, lk t l = some v → a.tmps.getD t undef = v

theorem Env.ev {n : Nat} {l : Slots} {a : Act} (h : Env n l a) {x : Operand} {v : Value} (hx : ev l x = some v) : a.eval x = v := by
  cases x with
  | tmp t => exact h.get t v hx
  | const u => exact Option.some.inj hx
  | global g => exact Option.some.inj hx
  | func f => exact Option.some.inj hx

theorem Env.evs {n : Nat} {l : Slots} {a : Act} (h : Env n l a) : ∀ (xs : List Operand) (vs : List Value), evs l xs = some vs → xs.map a.eval = vs
  | [], vs, he => by simp [V.evs] at he; simp [← he]
  | x :: xs, vs, he => by
    simp only [V.evs] at he
    cases hx : V.ev l x with
    | none => rw [hx] at he; cases he
    | some v =>
      cases hxs : V.evs l xs with
      | none => rw [hx, hxs] at he; cases he
      | some us =>
        rw [hx, hxs] at he
        simp only [Option.some.injEq] at he
        subst he
        simp [h.ev hx, h.evs xs us hxs]

theorem Env.put {n : Nat} {l : Slots} {a : Act} (h : Env n l a) {d : Nat} (hd : d < n) (v : Value) : Env n ((d, v) :: l) (a.put (some d) v) := by
  refine ⟨by simp [Act.put, h.size], by simp [Act.put, h.defers], fun t u ht => ?_⟩
  simp only [lk] at ht
  by_cases e : t = d
  · subst e
    rw [if_pos rfl] at ht
    simp only [Option.some.injEq] at ht
    subst ht
    simp only [Act.put]
    rw [Array.getD_eq_getD_getElem?, Array.getElem?_setIfInBounds_self_of_lt (by rw [h.size]; exact hd)]
    rfl
  · rw [if_neg e] at ht
    simp only [Act.put]
    rw [Array.getD_eq_getD_getElem?, Array.getElem?_setIfInBounds_ne (by omega), ← Array.getD_eq_getD_getElem?]
    exact h.get t u ht

theorem Env.put0 {n : Nat} {l : Slots} {a : Act} (h : Env n l a) (v : Value) : Env n l (a.put none v) := h

/-- Only what is told anew stays known. -/
theorem Env.to {n : Nat} {l l' : Slots} {a : Act} (h : Env n l a) (hl : ∀ p ∈ l', lk p.1 l = some p.2) (hn : ∀ t v, lk t l' = some v → (t, v) ∈ l') : Env n l' a :=
  ⟨h.size, h.defers, fun t v ht => h.get t v (hl (t, v) (hn t v ht))⟩

theorem lk_mem (t : Nat) (v : Value) : ∀ l : Slots, lk t l = some v → (t, v) ∈ l
  | [], h => by simp [lk] at h
  | (u, x) :: l, h => by
    simp only [lk] at h
    by_cases e : t = u
    · rw [if_pos e] at h
      simp only [Option.some.injEq] at h
      subst e; subst h
      exact List.mem_cons_self
    · rw [if_neg e] at h
      exact List.mem_cons_of_mem _ (lk_mem t v l h)

theorem Env.only {n : Nat} {l : Slots} {a : Act} (h : Env n l a) (l' : Slots) (hl : ∀ p ∈ l', lk p.1 l = some p.2) : Env n l' a := h.to hl fun t v ht => lk_mem t v l' ht

theorem Env.nil {n : Nat} {l : Slots} {a : Act} (h : Env n l a) : Env n [] a := h.only [] (by simp)
theorem Env.add {n : Nat} {l l' : Slots} {a : Act} (h : Env n l a) (h' : Env n l' a) {t : Nat} {v : Value} (hx : lk t l = some v) : Env n ((t, v) :: l') a :=
  ⟨h.size, h.defers, fun u x hu => by
    simp only [lk] at hu
    by_cases e : u = t
    · rw [if_pos e] at hu; simp only [Option.some.injEq] at hu; subst hu; subst e; exact h.get _ _ hx
    · rw [if_neg e] at hu; exact h'.get _ _ hu⟩

/-- A slot whose value is known by an equation. -/
theorem Env.set {n : Nat} {l : Slots} {a : Act} (h : Env n l a) {t : Nat} {v u : Value} (hx : lk t l = some v) (e : v = u) : Env n ((t, u) :: l) a := e ▸ h.add h hx

/-! ## The posts of code -/

def QQ (N : Act → World → Prop) (X : List (Nat × (Act → World → Prop))) (R : Act → World → Prop) : Exit → Act → World → Prop
  | .normal, a, w => N a w
  | .exit id, a, w => match X.lookup id with
    | some K => K a w
    | none => False
  | .ret, a, w => R a w
  | _, _, _ => False

section code
variable {P : Program} {N R : Act → World → Prop} {X : List (Nat × (Act → World → Prop))} {a : Act} {w : World}

theorem c_seq {x y : Code} (h : x.wp P (QQ (fun a w => y.wp P (QQ N X R) a w) X R) a w) : (Code.seq x y).wp P (QQ N X R) a w :=
  wp_seq (wp_mono h fun e a w q => by cases e <;> exact q)

theorem c_block {id : Nat} {c : Code} (h : c.wp P (QQ N ((id, N) :: X) R) a w) : (Code.block id c).wp P (QQ N X R) a w :=
  wp_block (wp_mono h fun e a w q => by
    cases e with
    | exit i =>
      simp only [Exit.inBlock]
      simp only [QQ, List.lookup] at q ⊢
      by_cases hi : i = id
      · subst hi; simpa using q
      · have : (i == id) = false := by simpa using hi
        rw [this] at q
        rw [if_neg hi]
        exact q
    | _ => exact q)

theorem c_skip (h : N a w) : Code.skip.wp P (QQ N X R) a w := wp_skip h
theorem c_exit {id : Nat} {K : Act → World → Prop} (hk : X.lookup id = some K) (h : K a w) : (Code.exit id).wp P (QQ N X R) a w := wp_exit (by simp only [QQ, hk]; exact h)
theorem c_ret (h : R a w) : Code.ret.wp P (QQ N X R) a w := wp_ret h

theorem c_cond {n : Nat} {l : Slots} (he : Env n l a) {c : Operand} {x y : Code} {t : Bool} (hc : ev l c = some (.bool t)) (ht : t = true → x.wp P (QQ N X R) a w) (hf : t = false → y.wp P (QQ N X R) a w) :
    (Code.cond c x y).wp P (QQ N X R) a w := wp_cond_split (he.ev hc) ht hf

theorem c_cond_if {n : Nat} {l : Slots} (he : Env n l a) {c : Operand} {x y : Code} {p : Prop} [Decidable p] (hc : ev l c = some (.bool (decide p))) (ht : p → x.wp P (QQ N X R) a w) (hf : ¬ p → y.wp P (QQ N X R) a w) :
    (Code.cond c x y).wp P (QQ N X R) a w := wp_cond_split (he.ev hc) (fun h => ht (of_decide_eq_true h)) (fun h => hf (of_decide_eq_false h))

theorem c_cond_ifn {n : Nat} {l : Slots} (he : Env n l a) {c : Operand} {x y : Code} {p : Prop} [Decidable p] (hc : ev l c = some (.bool (decide p))) (hf : ¬ p → y.wp P (QQ N X R) a w) (ht : p → x.wp P (QQ N X R) a w) :
    (Code.cond c x y).wp P (QQ N X R) a w := c_cond_if he hc ht hf

theorem c_condn {n : Nat} {l : Slots} (he : Env n l a) {c : Operand} {x y : Code} {t : Bool} (hc : ev l c = some (.bool t)) (hf : t = false → y.wp P (QQ N X R) a w) (ht : t = true → x.wp P (QQ N X R) a w) :
    (Code.cond c x y).wp P (QQ N X R) a w := wp_cond_split (he.ev hc) ht hf

/-- Ways that meet again. -/
theorem c_cut {x y : Code} (M : Act → World → Prop) (h : x.wp P (QQ M X R) a w) (h2 : ∀ a w, M a w → y.wp P (QQ N X R) a w) : (Code.seq x y).wp P (QQ N X R) a w :=
  c_seq (wp_mono h fun e a w q => by
    cases e with
    | normal => exact h2 a w q
    | _ => exact q)

/-- A loop: 'I k' holds where a round begins, with a number k that each round lowers. -/
theorem c_loop {c : Code} (I : Nat → Act → World → Prop) (k : Nat) (h0 : I k a w)
    (round : ∀ k a w, I k a w → c.wp P (QQ (fun a' w' => ∃ m, m < k ∧ I m a' w') X R) a w) : (Code.loop c).wp P (QQ N X R) a w := by
  let J : Act → World → Prop := fun a w => ∃ k, I k a w
  have least : ∀ a w, J a w → ∃ k, I k a w ∧ ∀ m, m < k → ¬ I m a w := by
    intro a w ⟨k, hk⟩
    induction k using Nat.strongRecOn with
    | _ k ih =>
      by_cases h : ∃ m, m < k ∧ I m a w
      · obtain ⟨m, hm, hI⟩ := h; exact ih m hm hI
      · exact ⟨k, hk, fun m hm hI => h ⟨m, hm, hI⟩⟩
  classical
  let μ : Act → World → Nat := fun a w => if h : J a w then (least a w h).choose else 0
  refine wp_loop J μ ⟨k, h0⟩ fun a w hJ => ?_
  have hs := (least a w hJ).choose_spec
  have hμ : μ a w = (least a w hJ).choose := dif_pos hJ
  refine wp_mono (round _ a w hs.1) fun e a' w' q => ?_
  cases e with
  | normal =>
    obtain ⟨m, hm, hI⟩ := q
    refine ⟨⟨m, hI⟩, ?_⟩
    have hJ' : J a' w' := ⟨m, hI⟩
    have hμ' : μ a' w' = (least a' w' hJ').choose := dif_pos hJ'
    rw [hμ, hμ']
    have hl := (least a' w' hJ').choose_spec.2
    refine Nat.lt_of_le_of_lt ?_ hm
    exact Nat.le_of_not_lt fun hlt => hl m hlt hI
  | _ => exact q

/-- A region in the order of its text, and what comes behind it. -/
theorem c_region {id : Nat} {l : List Oper} (h : wpList P l.toArray (QQ N X R) l a w) : (Code.region id l.toArray false).wp P (QQ N X R) a w := wp_region_lit h
theorem r_nil {ops : Array Oper} (h : N a w) : wpList P ops (QQ N X R) [] a w := h

end code

/-! ## Calls that return -/

/-- Whoever calls gets a value back, and R holds of it. -/
def Ret (P : Program) (f : FuncId) (args : List Value) (w : World) (R : Value → World → Prop) : Prop :=
  Calls P f args.toArray w fun e w' => ∃ v, e = .returned v ∧ R v w'

theorem Ret.mono {P : Program} {f : FuncId} {args : List Value} {w : World} {R R' : Value → World → Prop} (h : Ret P f args w R) (hr : ∀ v w', R v w' → R' v w') : Ret P f args w R' :=
  Calls.mono h fun _ _ ⟨v, e, r⟩ => ⟨v, e, hr _ _ r⟩

def initSlots : Nat → List Value → Slots
  | _, [] => []
  | i, v :: vs => (i, v) :: initSlots (i + 1) vs

theorem lk_init : ∀ (vs : List Value) (i t : Nat) (v : Value), lk t (initSlots i vs) = some v → i ≤ t ∧ vs[t - i]? = some v
  | [], i, t, v, h => by simp [initSlots, lk] at h
  | u :: vs, i, t, v, h => by
    simp only [initSlots, lk] at h
    by_cases e : t = i
    · rw [if_pos e] at h
      subst e
      simpa using h
    · rw [if_neg e] at h
      have := lk_init vs (i + 1) t v h
      refine ⟨by omega, ?_⟩
      have e2 : t - i = (t - (i + 1)) + 1 := by omega
      rw [e2, List.getElem?_cons_succ]
      exact this.2

theorem Env.init (args : List Value) (n : Nat) (h : args.length ≤ n) : Env n (initSlots 0 args) { tmps := args.toArray ++ Array.replicate (n - args.toArray.size) undef, defers := [] } := by
  refine ⟨by simp; omega, rfl, fun t v ht => ?_⟩
  have := (lk_init args 0 t v ht).2
  simp only [Nat.sub_zero] at this
  have hlt : t < args.length := (List.getElem?_eq_some_iff.1 this).1
  rw [Array.getD_eq_getD_getElem?, Array.getElem?_append_left (by simpa using hlt)]
  simp [this]

def noMore (P : Program) (fn : Func) (R : Value → World → Prop) (a : Act) (w : World) : Prop :=
  a.defers = [] ∧ ∃ v, (results fn a.tmps).run P w = .ok v w ∧ R v w

theorem enter {P : Program} {f : FuncId} {fn : Func} {c : Code} {args : List Value} {w : World} {R : Value → World → Prop} (hf : P.funcs[f]? = some fn) (hb : fn.body = some c)
    (hn : Nat.ble args.length fn.ntmps = true)
    (h : ∀ a, Env fn.ntmps (initSlots 0 args) a → c.wp P (QQ (noMore P fn R) [] (noMore P fn R)) a w) : Ret P f args w R := by
  refine calls_of_wp hf hb (wp_mono (h _ (Env.init args fn.ntmps (Nat.le_of_ble_eq_true hn))) fun e a w q => ?_)
  cases e with
  | normal => obtain ⟨hd, v, hr, hR⟩ := q; exact ⟨hd, v, hr, v, rfl, hR⟩
  | ret => obtain ⟨hd, v, hr, hR⟩ := q; exact ⟨hd, v, hr, v, rfl, hR⟩
  | exit id => simp [QQ, List.lookup] at q
  | goto l => exact q.elim
  | panic chain => exact q.elim
  | outgrown => exact q.elim

theorem done1 {P : Program} {fn : Func} {R : Value → World → Prop} {n : Nat} {l : Slots} {a : Act} {w : World} (he : Env n l a) {t : Nat} (hf : fn.results = #[.tmp t]) {v : Value} (hv : lk t l = some v) (h : R v w) : noMore P fn R a w :=
  ⟨he.defers, v, by rw [results_tmp hf, he.get t v hv], h⟩
theorem done2 {P : Program} {fn : Func} {R : Value → World → Prop} {n : Nat} {l : Slots} {a : Act} {w : World} (he : Env n l a) {t u : Nat} (hf : fn.results = #[.tmp t, .tmp u]) {v x : Value} (hv : lk t l = some v) (hx : lk u l = some x) (h : R (.tuple #[v, x]) w) : noMore P fn R a w :=
  ⟨he.defers, _, by rw [results_tmp2 hf, he.get t v hv, he.get u x hx], h⟩
theorem done0 {P : Program} {fn : Func} {R : Value → World → Prop} {n : Nat} {l : Slots} {a : Act} {w : World} (he : Env n l a) (hf : fn.results = #[]) (h : R (.tuple #[]) w) : noMore P fn R a w :=
  ⟨he.defers, _, by rw [results_none hf], h⟩

end Go.V
