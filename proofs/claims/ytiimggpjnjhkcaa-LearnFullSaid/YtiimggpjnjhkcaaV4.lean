import Derived.Test.YtiimggpjnjhkcaaV3
namespace Go.V
universe u
variable {α : Type u}

/-- The element type's row of the table. -/
structure EI (P : Program) (E : TypeId) (k bytes : Nat) : Prop where
  row : ∃ i z, P.info? E = some i ∧ i.zero = some z ∧ i.size = k ∧ i.bytes = bytes ∧ z.cells.size = k

theorem EI.of {P : Program} {E : TypeId} {k bytes : Nat} {z : Value} (h : (P.info? E).map (fun i => (i.zero, i.size, i.bytes)) = some (some z, k, bytes)) (hz : z.cells.size = k) : EI P E k bytes := by
  obtain ⟨i, hi, h1, h2, h3⟩ := info_parts h
  exact ⟨i, z, hi, h1, h2, h3, hz⟩

theorem Own.nil (B : Nat) (E : TypeId) (k : Nat) (enc : α → List Value) (w : World) : Own B E k enc w (.slice none 0 0) ([] : List α) := World.ownsRow_nil w B E k

theorem Own.keep {B : Nat} {E : TypeId} {k : Nat} {enc : α → List Value} {w w' : World} {v : Value} {xs : List α} (h : Own B E k enc w v xs) {S : List Nat} (ho : Only S w w') (hn : ∀ b, v.ownBlock = some b → b ∉ S) : Own B E k enc w' v xs := by
  refine ⟨h.1, ?_⟩
  rcases h.2 with h0 | ⟨g, cap, cur, rfl, hb, hg, r⟩
  · exact .inl h0
  · exact .inr ⟨g, cap, cur, rfl, hb, ho.keep hg (hn g rfl), r⟩
theorem Own.keep0 {B : Nat} {E : TypeId} {k : Nat} {enc : α → List Value} {w w' : World} {v : Value} {xs : List α} (h : Own B E k enc w v xs) (ho : Only [] w w') : Own B E k enc w' v xs := h.keep ho (by simp)
theorem Own.lt {B : Nat} {E : TypeId} {k : Nat} {enc : α → List Value} {w : World} {v : Value} {xs : List α} (h : Own B E k enc w v xs) : ∀ b, v.ownBlock = some b → B ≤ b ∧ b < w.heap.size := World.ownsRow.lt h

theorem Only.of_grown {w w' : World} {v : Value} (h : w.grownBy w' v.ownBlock) (hd : w.drawn ≤ w'.drawn) : Only v.ownBlock.toList w w' :=
  ⟨h.os, h.tape, h.output, h.size, fun k hk hn => h.block k hk fun e => hn (by rw [← e]; simp), hd⟩

theorem vec_news {k : Nat} {enc : α → List Value} (hk : ∀ x, (enc x).length = k) (h0 : 0 < k) {w : World} {p : Addr} {m c : Nat} {xs : List α} (h : Vec k enc w (.slice (some p) m c) xs) :
    ∀ j u, (xs.flatMap enc)[j]? = some u → w.cell? (p.add j) = some u := by
  intro j u hu
  obtain ⟨a, cap, e, h1, h2, h3, h4⟩ := h
  simp only [Value.slice.injEq] at e
  obtain ⟨rfl, rfl, rfl⟩ := e
  have hs := h3 p rfl
  obtain ⟨b, o, s⟩ := p
  simp only at hs
  subst hs
  obtain ⟨x, hx, hxu⟩ := flat_at hk h0 xs j u hu
  have := h4 _ rfl (j / k) x hx (j % k) (Nat.mod_lt _ h0)
  rw [add_flat, ← hxu, ← this]
  have e : o + j / k * k + j % k = o + j := by
    have := Nat.div_add_mod j k
    rw [Nat.mul_comm] at this; omega
  rw [e]

/-- append(own, xs...): whatever xs is. -/
theorem run_append {P : Program} {B : Nat} {E t ty : TypeId} {k bytes : Nat} {enc : α → List Value} {w : World} {v x : Value} {xs ys : List α} (hk : ∀ x, (enc x).length = k) (h0 : 0 < k) (h1 : ∀ x, ∀ u ∈ enc x, u.oneCell' = true)
    (ht : P.underlying t = some (.slice E)) (hE : EI P E k bytes) (h : Own B E k enc w v xs) (hx : Vec k enc w x ys) (hb : (xs.length + ys.length) * bytes ≤ 140737488355328) (hm : xs.length + ys.length ≤ maxLen) (hB : B ≤ w.heap.size) :
    ∃ v' w', (Builtin.append_ #[t, t] ty #[v, x]).run P w = .ok v' w' ∧ Own B E k enc w' v' (xs ++ ys) ∧ Only v.ownBlock.toList w w' ∧ (v'.ownBlock = v.ownBlock ∨ v'.ownBlock = some w.heap.size) := by
  obtain ⟨i, z, hi, hz, hs, hby, hzs⟩ := hE.row
  obtain ⟨a, cap, hxe, hx1, hx2, hx3, hx4⟩ := id hx
  cases a with
  | none =>
    have hc := hx2 rfl
    subst hc
    have : ys = [] := List.eq_nil_of_length_eq_zero (by omega)
    subst this
    subst hxe
    refine ⟨v, w, ?_, by rw [List.append_nil]; exact h, Only.refl _ _, .inl rfl⟩
    rcases h.2 with ⟨rfl, _⟩ | ⟨g, cap, cur, rfl, _, _, hnc, _⟩
    · simp [Builtin.append_, run_underlying ht, sizeOf, typeInfo, hi, Builtin.lenOf, Builtin.firstCells]
    · simp [Builtin.append_, run_underlying ht, sizeOf, typeInfo, hi, Builtin.lenOf, Builtin.firstCells, loadCells, hnc, storeCells]
  | some p =>
    subst hxe
    have h1' : ∀ u ∈ ys.flatMap enc, u.oneCell' = true := by
      intro u hu
      obtain ⟨y, _, hu⟩ := List.mem_flatMap.1 hu
      exact h1 y u hu
    obtain ⟨v', w', hr, h2, h3, _, h5⟩ := run_append_own_at (P := P) w B t ty E i z k bytes ht hi hz hs hby hzs h0 v xs.length (xs.flatMap enc) h p ys.length cap (ys.flatMap enc) (flat_length hk ys) (vec_news hk h0 hx) h1' hm hb hB
    refine ⟨v', w', hr, ?_, Only.of_grown h3 (run_drawn _ _ _ _ hr), h5⟩
    unfold Own
    rw [List.length_append, List.flatMap_append]
    exact h2

section steps
variable {P : Program} {ops : Array Oper} {Q : Exit → Act → World → Prop} {rest : List Oper} {n : Nat} {l : Slots} {a : Act} {w : World} {d : Nat} {T : TypeId} {pos : String} {af : Array Edge}

theorem st_append (he : Env n l a) {B : Nat} {E t : TypeId} {k bytes : Nat} {enc : α → List Value} {s x : Operand} {v u : Value} {xs ys : List α} (hs : ev l s = some v) (hx' : ev l x = some u) (hk : ∀ x, (enc x).length = k) (h0 : 0 < k) (h1 : ∀ x, ∀ u ∈ enc x, u.oneCell' = true)
    (ht : P.underlying t = some (.slice E)) (hE : EI P E k bytes) (h : Own B E k enc w v xs) (hx : Vec k enc w u ys) (hb : (xs.length + ys.length) * bytes ≤ 140737488355328 ∧ xs.length + ys.length ≤ 9000000000000000) (hB : B ≤ w.heap.size) (hlt : Nat.blt d n = true)
    (K : ∀ v' w', Own B E k enc w' v' (xs ++ ys) → Only v.ownBlock.toList w w' → (v'.ownBlock = v.ownBlock ∨ v'.ownBlock = some w.heap.size) → ∀ a, Env n ((d, v') :: l) a → wpList P ops Q rest a w') :
    wpList P ops Q (⟨some d, .call { callee := .builtin .append, args := #[s, x], argTypes := #[t, t] }, T, pos, af, none⟩ :: rest) a w := by
  obtain ⟨v', w', hr, h2, h3, h4⟩ := run_append (P := P) (ty := T) hk h0 h1 ht hE h hx hb.1 (by unfold maxLen; omega) hB
  exact st he (v := v') (w' := w') (fun ρ hρ => by simp [execOp, resolve, invoke, builtin, hρ _ _ hs, hρ _ _ hx', hr]) rfl rfl hlt fun a ha => K v' w' h2 h3 h4 a ha

/-- A slice literal. -/
theorem st_buildSlice (he : Env n l a) {t E : TypeId} {m : Nat} {ps : List (Nat × Operand)} {is : List Nat} {vs : List Value} {cs : Array Value} (hps : ps.map (·.1) = is) (hx : evs l (ps.map (·.2)) = some vs)
    (hb : ∀ w, (Instr.buildSlice t m (is.zip vs).toArray).run P w = .ok (.slice (some ⟨w.heap.size, 0, none⟩) m m) { w with heap := w.heap.push (.cells cs E) }) (hlt : Nat.blt d n = true)
    (k : ∀ b w', w.heap.size ≤ b → Only [] w w' → Row w' b cs E → ∀ a, Env n ((d, .slice (some ⟨b, 0, none⟩) m m) :: l) a → wpList P ops Q rest a w') : wpList P ops Q (⟨some d, .buildSlice t m ps.toArray, T, pos, af, none⟩ :: rest) a w := by
  refine st he (w' := { w with heap := w.heap.push (.cells cs E) }) (v := .slice (some ⟨w.heap.size, 0, none⟩) m m) (fun ρ hρ => ?_) rfl rfl hlt fun a ha => k _ _ (Nat.le_refl _) (alloc_only _ _ _) (alloc_row _ _ _) a ha
  have hz : ∀ (ps : List (Nat × Operand)) (vs : List Value), evs l (ps.map (·.2)) = some vs → ps.map (fun x => (x.1, ρ x.2)) = (ps.map (·.1)).zip vs := by
    intro ps
    induction ps with
    | nil => intro vs _; simp
    | cons p ps ih =>
      intro vs hx
      simp only [List.map_cons, evs] at hx
      cases h1 : ev l p.2 with
      | none => rw [h1] at hx; cases hx
      | some u =>
        cases h2 : evs l (ps.map (·.2)) with
        | none => rw [h1, h2] at hx; cases hx
        | some us =>
          rw [h1, h2] at hx
          simp only [Option.some.injEq] at hx
          subst hx
          simp [hρ _ _ h1, ih us h2]
  have e := hz ps vs hx
  rw [hps] at e
  simp only [execOp, List.map_toArray]
  have e2 : List.map (fun (x : Nat × Operand) => match x with | (i, x) => (i, ρ x)) ps = is.zip vs := e
  rw [e2]
  simp [hb]

/-- make([]T, 0, c). -/
theorem st_make0 (he : Env n l a) {B : Nat} {E t : TypeId} {k bytes : Nat} {enc : α → List Value} {s x : Operand} {q q' : IntKind} {c : Nat} (hs : ev l s = some (.int q 0)) (hx : ev l x = some (.int q' (c : Int)))
    (ht : P.underlying t = some (.slice E)) (hE : EI P E k bytes) (hb : bytes * c ≤ 281474976710656 ∧ c ≤ 9000000000000000) (hB : B ≤ w.heap.size) (hlt : Nat.blt d n = true)
    (K : ∀ b v w', w.heap.size ≤ b → v.ownBlock = some b → Own B E k enc w' v ([] : List α) → Only [] w w' → ∀ a, Env n ((d, v) :: l) a → wpList P ops Q rest a w') :
    wpList P ops Q (⟨some d, .makeSlice t s x, T, pos, af, none⟩ :: rest) a w := by
  obtain ⟨i, z, hi, hz, hsz, hby, hzs⟩ := hE.row
  obtain ⟨w', hr, ho, hg⟩ := run_make_own (P := P) w B t E i z k ht hi hz hsz q q' c (by rw [hby]; exact hb.1) (by unfold maxLen; omega) hB
  exact st he (v := .slice (some ⟨w.heap.size, 0, none⟩) 0 c) (w' := w') (fun ρ hρ => by simp [execOp, hρ _ _ hs, hρ _ _ hx, hr]) rfl rfl hlt fun a ha =>
    K _ _ w' (Nat.le_refl _) rfl ho ⟨hg.os, hg.tape, hg.output, hg.size, fun k hk _ => hg.block k hk (by simp), run_drawn _ _ _ _ hr⟩ a ha
end steps

/-- A row of its own that has just been made is a slice's. -/
theorem Row.vec {w : World} {b : Nat} {arr : Array Value} {T : TypeId} (h : Row w b arr T) {k : Nat} {enc : α → List Value} (hk : ∀ x, (enc x).length = k) (xs : List α) (n m : Nat) (hn : n = xs.length) (hm : xs.length ≤ m) (e : arr.toList = xs.flatMap enc) : Vec k enc w (.slice (some ⟨b, 0, none⟩) n m) xs := by
  subst hn
  refine ⟨_, m, rfl, hm, (fun h => by cases h), (fun p hp => by cases hp; rfl), fun p hp i x hx j hj => ?_⟩
  cases hp
  rw [Nat.zero_add, h.cell, ← Array.getElem?_toList, e]
  exact flat_get hk xs i x j hx hj

theorem Row.own {w : World} {b : Nat} {arr : Array Value} {T : TypeId} (h : Row w b arr T) {k : Nat} {enc : α → List Value} (hk : ∀ x, (enc x).length = k) {B : Nat} (hB : B ≤ b) (xs : List α) (n : Nat) (hn : n = xs.length) (hm : n ≤ 9000000000000000) (e : arr.toList = xs.flatMap enc) : Own B T k enc w (.slice (some ⟨b, 0, none⟩) n n) xs := by
  subst hn
  refine ⟨flat_length hk xs, .inr ⟨b, xs.length, arr, rfl, hB, h, Nat.le_refl _, by unfold maxLen; omega, ?_, ?_⟩⟩
  · rw [← flat_length hk xs, ← e]; simp
  · rw [e, ← flat_length hk xs, List.take_length]

/-! ## Regions that draw their order -/
section draws
variable {P : Program} {ops : Array Oper} {N R : Act → World → Prop} {X : List (Nat × (Act → World → Prop))} {a : Act} {w : World} {S : World → Prop} {n : Nat} {l : Slots}

theorem drew_only (w : World) : Only [] w { w with drawn := w.drawn + 1 } := ⟨rfl, rfl, rfl, Nat.le_refl _, fun _ _ _ => rfl, Nat.le_succ _⟩

theorem dr_start {id : Nat} {m : Nat} (hm : P.follows .mixedOrders = true) (S : World → Prop) (hs : ops.size = m)
    (h : ∀ w', Only [] w w' → (∀ k : Nat, w'.heap[k]? = w.heap[k]?) → w'.heap.size = w.heap.size → wpAnyH P .any ops (QQ N X R) S m (Array.replicate m false) a w') : (Code.region id ops true).wp P (QQ N X R) a w := by
  subst hs
  exact wp_region_held hm (h _ (drew_only w) (fun _ => rfl) rfl)

theorem dr_take (he : Env n l a) {i d m : Nat} {o : Oper} {v : Value} {ls : Array Bool} (hi : ops[i]? = some o) (hns : Region.noSelect ops = true) (hf : Region.free .any ops ls i = true) (hr : (Region.ready .any ops ls).contains i = true)
    (hg : o.guard = none) (hd : o.dst = some d) (hlt : Nat.blt d n = true) (hS : S w) (hy : ∀ w, S w → Does P l o w v w)
    (k : ∀ a, Env n ((d, v) :: l) a → wpAnyH P .any ops (QQ N X R) S m (ls.setIfInBounds i true) a w) : wpAnyH P .any ops (QQ N X R) S (m + 1) ls a w := by
  refine wpAnyH_take hi hns hf hr (fun c a w h => h.elim) (v := v) (.inl ⟨by simp [Region.wanted, hg], fun w hw => hy w hw _ fun x u hx => he.ev hx⟩) hS ?_
  rw [hd]
  exact k _ (he.put (Nat.le_of_ble_eq_true hlt) v)

theorem dr_gd (he : Env n l a) {i d m j dj : Nat} {o oj : Oper} {v : Value} {b c : Bool} {ls : Array Bool} (hi : ops[i]? = some o) (hns : Region.noSelect ops = true) (hf : Region.free .any ops ls i = true) (hr : (Region.ready .any ops ls).contains i = true)
    (hg : o.guard = some (j, b)) (hj : ops[j]? = some oj) (hdj : oj.dst = some dj) (hb : lk dj l = some (.bool c)) (hd : o.dst = some d) (hlt : Nat.blt d n = true) (hS : S w) (hy : c = b → ∀ w, S w → Does P l o w v w)
    (k : ∀ a, Env n ((d, gv (c == b) v) :: l) a → wpAnyH P .any ops (QQ N X R) S m (ls.setIfInBounds i true) a w) : wpAnyH P .any ops (QQ N X R) S (m + 1) ls a w := by
  by_cases e : c = b
  · subst e
    refine wpAnyH_take hi hns hf hr (fun c a w h => h.elim) (v := v) (.inl ⟨by simp [Region.wanted, hg, yields he hj hdj hb], fun w hw => hy rfl w hw _ fun x u hx => he.ev hx⟩) hS ?_
    rw [hd]
    refine k _ ?_
    have : gv (c == c) v = v := by simp [gv]
    rw [this]; exact he.put (Nat.le_of_ble_eq_true hlt) v
  · have e' : (c == b) = false := by simpa using e
    refine wpAnyH_take hi hns hf hr (fun c a w h => h.elim) (v := undef) (.inr ⟨by simp [Region.wanted, hg, yields he hj hdj hb]; simpa using e', rfl⟩) hS ?_
    rw [hd]
    refine k _ ?_
    rw [e']; exact he.put (Nat.le_of_ble_eq_true hlt) _

theorem dr_op {i m : Nat} {o : Oper} {ls : Array Bool} (hi : ops[i]? = some o)
    (h : ∀ K : Act → World → Prop, (∀ a w, S w → wpAnyH P .any ops (QQ N X R) S m (ls.setIfInBounds i true) a w → K a w) → wpList P ops (fun e a w => match e with | .normal => K a w | _ => QQ N X R e a w) [o] a w) :
    wpOp P ops (QQ N X R) i (fun a' w' => S w' ∧ wpAnyH P .any ops (QQ N X R) S m (ls.setIfInBounds i true) a' w') a w := by
  have := h (fun a w => S w ∧ wpAnyH P .any ops (QQ N X R) S m (ls.setIfInBounds i true) a w) (fun a w h1 h2 => ⟨h1, h2⟩)
  unfold wpOp
  simp only [hi]
  unfold wpList at this
  split
  · rename_i hw
    rw [if_pos hw] at this
    rcases this with h | h
    · left
      unfold Oper.wp at h ⊢
      generalize (execOp a.eval o).run P w = r at h ⊢
      cases r with
      | ok x w' => cases x <;> simp only [Oper.upon, wpList] at h ⊢ <;> first
        | exact h
        | exact Calls.mono h (fun e w'' he => by cases e <;> first | exact he | (obtain ⟨_, _, q⟩ := he; exact ⟨a, w'', q⟩))
        | exact Rows.mono h (fun _ _ he => he)
      | halt x w' => cases x <;> simp only [Oper.upon] at h ⊢ <;> exact h
    · right; exact h
  · rename_i hw
    rw [if_neg hw] at this
    exact this

/-- The one operation that may come up now. 'h' is what it does where the operations stand in a row. -/
theorem dr_one {i m : Nat} {o : Oper} {ls : Array Bool} (hi : ops[i]? = some o) (hr : Region.ready .any ops ls = [i])
    (h : ∀ K : Act → World → Prop, (∀ a w, S w → wpAnyH P .any ops (QQ N X R) S m (ls.setIfInBounds i true) a w → K a w) → wpList P ops (fun e a w => match e with | .normal => K a w | _ => QQ N X R e a w) [o] a w) : wpAnyH P .any ops (QQ N X R) S (m + 1) ls a w := by
  refine wpAnyH_all hr (by simp) fun j hj => ?_
  simp only [List.mem_singleton] at hj
  subst hj
  exact dr_op hi h

/-- One of two operations comes up now. -/
theorem dr_two {i j m : Nat} {o o' : Oper} {ls : Array Bool} (hi : ops[i]? = some o) (hj : ops[j]? = some o') (hr : Region.ready .any ops ls = [i, j])
    (h : ∀ K : Act → World → Prop, (∀ a w, S w → wpAnyH P .any ops (QQ N X R) S m (ls.setIfInBounds i true) a w → K a w) → wpList P ops (fun e a w => match e with | .normal => K a w | _ => QQ N X R e a w) [o] a w)
    (h' : ∀ K : Act → World → Prop, (∀ a w, S w → wpAnyH P .any ops (QQ N X R) S m (ls.setIfInBounds j true) a w → K a w) → wpList P ops (fun e a w => match e with | .normal => K a w | _ => QQ N X R e a w) [o'] a w) : wpAnyH P .any ops (QQ N X R) S (m + 1) ls a w := by
  refine wpAnyH_all hr (by simp) fun k hk => ?_
  simp only [List.mem_cons, List.not_mem_nil, or_false] at hk
  rcases hk with rfl | rfl
  · exact dr_op hi h
  · exact dr_op hj h'

theorem dr_done {m : Nat} {ls : Array Bool} (hr : Region.ready .any ops ls = []) (h : N a w) : wpAnyH P .any ops (QQ N X R) S m ls a w := wpAnyH_done hr h m
end draws
end Go.V
