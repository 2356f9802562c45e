import Derived.Test.YtiimggpjnjhkcaaV2
import Derived.Maps.AppendAt
import Derived.OrdersHeld
namespace Go.V
universe u
variable {α : Type u}

/-- A slice that holds the elements xs, each in k cells: it may be read. -/
def Vec (k : Nat) (enc : α → List Value) (w : World) (v : Value) (xs : List α) : Prop :=
  ∃ a cap, v = .slice a xs.length cap ∧ xs.length ≤ cap ∧ (a = none → cap = 0) ∧
    (∀ p, a = some p → p.spot = none) ∧
    ∀ p, a = some p → ∀ i x, xs[i]? = some x → ∀ j, j < k → w.cell? ⟨p.block, p.off + i * k + j, none⟩ = (enc x)[j]?

/-- A slice of the call's own: its row has been made since block B, nobody else writes it. -/
def Own (B : Nat) (E : TypeId) (k : Nat) (enc : α → List Value) (w : World) (v : Value) (xs : List α) : Prop :=
  w.ownsRow B E k v xs.length (xs.flatMap enc)

theorem flat_length {enc : α → List Value} {k : Nat} (hk : ∀ x, (enc x).length = k) : ∀ xs : List α, (xs.flatMap enc).length = xs.length * k
  | [] => by simp
  | x :: xs => by simp only [List.flatMap_cons, List.length_append, hk, flat_length hk xs, List.length_cons, Nat.add_mul, Nat.one_mul]; omega

theorem flat_get {enc : α → List Value} {k : Nat} (hk : ∀ x, (enc x).length = k) : ∀ (xs : List α) (i : Nat) (x : α) (j : Nat), xs[i]? = some x → j < k → (xs.flatMap enc)[i * k + j]? = (enc x)[j]?
  | [], i, x, j, h, _ => by simp at h
  | y :: xs, 0, x, j, h, hj => by
    simp only [List.getElem?_cons_zero, Option.some.injEq] at h
    subst h
    simp only [Nat.zero_mul, Nat.zero_add, List.flatMap_cons]
    rw [List.getElem?_append_left (by rw [hk]; exact hj)]
  | y :: xs, i + 1, x, j, h, hj => by
    simp only [List.getElem?_cons_succ] at h
    simp only [List.flatMap_cons]
    have e : (i + 1) * k + j = k + (i * k + j) := by rw [Nat.add_mul, Nat.one_mul]; omega
    rw [List.getElem?_append_right (by rw [hk]; omega), hk]
    have e2 : (i + 1) * k + j - k = i * k + j := by omega
    rw [e2]
    exact flat_get hk xs i x j h hj

theorem flat_at {enc : α → List Value} {k : Nat} (hk : ∀ x, (enc x).length = k) (h0 : 0 < k) (xs : List α) (m : Nat) (u : Value) (h : (xs.flatMap enc)[m]? = some u) : ∃ x, xs[m / k]? = some x ∧ (enc x)[m % k]? = some u := by
  have hlt : m < xs.length * k := by rw [← flat_length hk xs]; exact (List.getElem?_eq_some_iff.1 h).1
  have hi : m / k < xs.length := Nat.div_lt_of_lt_mul (by rw [Nat.mul_comm]; exact hlt)
  refine ⟨xs[m / k], List.getElem?_eq_getElem hi, ?_⟩
  have := flat_get hk xs (m / k) xs[m / k] (m % k) (List.getElem?_eq_getElem hi) (Nat.mod_lt _ h0)
  rw [← this, Nat.mul_comm, Nat.div_add_mod]; exact h

theorem Own.vec {B : Nat} {E : TypeId} {k : Nat} {enc : α → List Value} {w : World} {v : Value} {xs : List α} (hk : ∀ x, (enc x).length = k) (h : Own B E k enc w v xs) : Vec k enc w v xs := by
  rcases h.2 with ⟨rfl, hn⟩ | ⟨g, cap, cur, rfl, hb, hg, hnc, hcm, hcs, htake⟩
  · have : xs = [] := List.eq_nil_of_length_eq_zero hn
    subst this
    exact ⟨none, 0, rfl, Nat.le_refl _, fun _ => rfl, (fun p hp => by cases hp), fun p hp => by cases hp⟩
  · refine ⟨_, cap, rfl, hnc, (fun h => by cases h), (fun p hp => by cases hp; rfl), fun p hp i x hx j hj => ?_⟩
    cases hp
    have hc := World.ownsRow.cells h (g := g) rfl (i * k + j)
    rw [Nat.zero_add]
    rw [add_flat] at hc
    have hg2 := flat_get hk xs i x j hx hj
    cases hu : (enc x)[j]? with
    | none => rw [List.getElem?_eq_none_iff, hk] at hu; omega
    | some u =>
      rw [hu] at hg2
      have := hc u hg2
      rw [Nat.zero_add] at this
      exact this

/-- The block in which a slice lies. -/
def inBlock (v : Value) (b : Nat) : Prop := v.ownBlock = some b

theorem Vec.keep {k : Nat} {enc : α → List Value} (hk : ∀ x, (enc x).length = k) {w w' : World} {v : Value} {xs : List α} (h : Vec k enc w v xs) {S : List Nat} (ho : Only S w w') (hn : ∀ b, v.ownBlock = some b → b ∉ S) : Vec k enc w' v xs := by
  obtain ⟨a, cap, rfl, h1, h2, h3, h4⟩ := h
  refine ⟨a, cap, rfl, h1, h2, h3, fun p hp i x hx j hj => ?_⟩
  have hc := h4 p hp i x hx j hj
  cases hu : (enc x)[j]? with
  | none => rw [List.getElem?_eq_none_iff, hk] at hu; omega
  | some u =>
    rw [hu] at hc
    exact ho.cell hc (hn _ (by rw [hp]; rfl))

theorem Vec.keep0 {k : Nat} {enc : α → List Value} (hk : ∀ x, (enc x).length = k) {w w' : World} {v : Value} {xs : List α} (h : Vec k enc w v xs) (ho : Only [] w w') : Vec k enc w' v xs := h.keep hk ho (by simp)

/-- A slice with elements lies in a block that is there. -/
theorem Vec.lt {k : Nat} {enc : α → List Value} (hk : ∀ x, (enc x).length = k) (h0 : 0 < k) {w : World} {v : Value} {xs : List α} (h : Vec k enc w v xs) (hne : xs ≠ []) : ∃ b, v.ownBlock = some b ∧ b < w.heap.size := by
  obtain ⟨a, cap, rfl, h1, h2, h3, h4⟩ := h
  cases xs with
  | nil => exact absurd rfl hne
  | cons x xs =>
    cases a with
    | none => have := h2 rfl; simp at h1; omega
    | some p =>
      refine ⟨p.block, rfl, ?_⟩
      have hc := h4 p rfl 0 x rfl 0 h0
      have hlt : 0 < (enc x).length := by rw [hk]; exact h0
      rw [List.getElem?_eq_getElem hlt] at hc
      exact World.block_lt_of_cell? w ⟨p.block, p.off + 0 * k + 0, none⟩ hc

/-- What is read from a world lies below its heap's size: so whatever writes newer blocks alone leaves it. -/
theorem Vec.stay {k : Nat} {enc : α → List Value} (hk : ∀ x, (enc x).length = k) {w w1 w2 : World} {v : Value} {xs : List α} (h : Vec k enc w v xs) (h1 : Only [] w w1) {S : List Nat} (h2 : Only S w1 w2) (hS : ∀ b ∈ S, w.heap.size ≤ b) : Vec k enc w2 v xs :=
  h.keep0 hk ((h1.mono (by simp)).and h2 fun x hx => Or.inr (hS x hx))

theorem Vec.len {k : Nat} {enc : α → List Value} {w : World} {v : Value} {xs : List α} (h : Vec k enc w v xs) : ∃ a cap, v = .slice a xs.length cap := by
  obtain ⟨a, cap, rfl, _⟩ := h; exact ⟨a, cap, rfl⟩

theorem Vec.nil {k : Nat} {enc : α → List Value} (w : World) : Vec k enc w (.slice none 0 0) ([] : List α) := ⟨none, 0, rfl, Nat.le_refl _, fun _ => rfl, (fun p hp => by cases hp), fun p hp => by cases hp⟩

/-- An element's place, and its cells. -/
theorem Vec.at {k : Nat} {enc : α → List Value} {w : World} {v : Value} {xs : List α} (h : Vec k enc w v xs) {i : Nat} {x : α} (hx : xs[i]? = some x) : ∃ b o cap, v = .slice (some ⟨b, o, none⟩) xs.length cap ∧ ∀ j, j < k → w.cell? ⟨b, o + i * k + j, none⟩ = (enc x)[j]? := by
  obtain ⟨a, cap, rfl, h1, h2, h3, h4⟩ := h
  have hi : i < xs.length := (List.getElem?_eq_some_iff.1 hx).1
  cases a with
  | none => have := h2 rfl; omega
  | some p =>
    obtain ⟨b, o, s⟩ := p
    have := h3 _ rfl
    simp only at this
    subst this
    exact ⟨b, o, cap, rfl, h4 _ rfl i x hx⟩

section does
variable {P : Program} {l : Slots} {w : World} {d : Option Nat} {T : TypeId} {pos : String} {af : Array Edge} {g : Option (Nat × Bool)}

theorem d_vlen {k : Nat} {enc : α → List Value} {x : Operand} {t E : TypeId} {v : Value} {xs : List α} (ht : P.underlying t = some (.slice E)) (hx : ev l x = some v) (h : Vec k enc w v xs) :
    Does P l ⟨d, .call { callee := .builtin .len, args := #[x], argTypes := #[t] }, T, pos, af, g⟩ w (.int .i64 xs.length) w := by
  obtain ⟨a, cap, rfl, _⟩ := h
  exact d_len ht hx

/-- Slicing a slice that may be read. -/
theorem d_slice {k : Nat} {enc : α → List Value} {t E : TypeId} {ag : Bool} {v : Value} {xs : List α} (ht : P.underlying t = some (.slice E)) (hE : TI P E ag k) (h : Vec k enc w v xs) (lo hi : Nat) (h1 : lo ≤ hi) (h2 : hi ≤ xs.length) :
    ∃ v', Vec k enc w v' ((xs.take hi).drop lo) ∧ (∀ b, v'.ownBlock = some b → v.ownBlock = some b) ∧
      ∀ (l : Slots) (d : Option Nat) (T : TypeId) (pos : String) (af : Array Edge) (g : Option (Nat × Bool)) (x : Operand) (lo' hi' : Option Operand),
        ev l x = some v → (match lo' with | some y => ∃ q, ev l y = some (.int q lo) | none => lo = 0) → (match hi' with | some y => ∃ q, ev l y = some (.int q hi) | none => hi = xs.length) →
        Does P l ⟨d, .slice t x lo' hi' none, T, pos, af, g⟩ w v' w := by
  obtain ⟨a, cap, rfl, hc, hnil, hsp, hcell⟩ := h
  refine ⟨.slice (if cap = lo then a else a.map (·.add (lo * k))) (hi - lo) (cap - lo), ?_, ?_, ?_⟩
  · have hl : ((xs.take hi).drop lo).length = hi - lo := by simp; omega
    refine ⟨if cap = lo then a else a.map (·.add (lo * k)), cap - lo, by rw [hl], by rw [hl]; omega, ?_, ?_, ?_⟩
    · intro e
      split at e
      · omega
      · cases a with
        | none => have := hnil rfl; omega
        | some p => simp at e
    · intro p hp
      split at hp
      · exact hsp p hp
      · cases a with
        | none => simp at hp
        | some q =>
          have := hsp q rfl
          simp only [Option.map_some, Option.some.injEq] at hp
          subst hp
          unfold Addr.add
          split <;> simp_all
    · intro p hp i x hx j hj
      have hi' : lo + i < hi := by
        have := (List.getElem?_eq_some_iff.1 hx).1
        rw [hl] at this; omega
      have hx' : xs[lo + i]? = some x := by
        rw [List.getElem?_drop, List.getElem?_take, if_pos hi'] at hx; exact hx
      cases a with
      | none => have := hnil rfl; omega
      | some q =>
        have hcq := hcell q rfl (lo + i) x hx' j hj
        have hs := hsp q rfl
        have hne : cap ≠ lo := by omega
        rw [if_neg hne] at hp
        simp only [Option.map_some, Option.some.injEq] at hp
        subst hp
        obtain ⟨qb, qo, qs⟩ := q
        simp only at hs hcq
        subst hs
        rw [add_flat]
        rw [← hcq]
        have e : qo + lo * k + i * k + j = qo + (lo + i) * k + j := by rw [Nat.add_mul]; omega
        dsimp only
        rw [e]
  · intro b hb
    cases a with
    | none => simp [Value.ownBlock] at hb
    | some q =>
      simp only [Value.ownBlock] at hb ⊢
      split at hb
      · rename_i heq
        split at heq
        · simp at heq; simp_all
        · simp at heq
          obtain ⟨rfl, _, _⟩ := heq
          simp only [Option.some.injEq] at hb
          subst hb
          unfold Addr.add; split <;> rfl
      · cases hb
  · intro l d T pos af g x lo' hi' hx hlo hhi ρ hρ
    cases lo' <;> cases hi' <;> simp only [] at hlo hhi
    · subst hlo; subst hhi
      simp [execOp, hρ _ _ hx, Instr.sliceAt, Instr.slice, run_underlying ht, Instr.sliceBounds, hE.size]
    · subst hlo
      obtain ⟨q, hq⟩ := hhi
      have : hi ≤ cap := by omega
      simp [execOp, hρ _ _ hx, hρ _ _ hq, Instr.sliceAt, Instr.slice, run_underlying ht, Instr.sliceBounds, Instr.sliceBound, asIntOf, hE.size, this]
    · subst hhi
      obtain ⟨q, hq⟩ := hlo
      simp [execOp, hρ _ _ hx, hρ _ _ hq, Instr.sliceAt, Instr.slice, run_underlying ht, Instr.sliceBounds, Instr.sliceBound, asIntOf, hE.size, h1]
    · obtain ⟨q, hq⟩ := hlo
      obtain ⟨q', hq'⟩ := hhi
      have : hi ≤ cap := by omega
      simp [execOp, hρ _ _ hx, hρ _ _ hq, hρ _ _ hq', Instr.sliceAt, Instr.slice, run_underlying ht, Instr.sliceBounds, Instr.sliceBound, asIntOf, hE.size, h1, this]
end does
end Go.V
