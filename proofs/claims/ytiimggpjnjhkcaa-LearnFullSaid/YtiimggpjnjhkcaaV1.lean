import Derived.Test.YtiimggpjnjhkcaaV0
namespace Go.V

/-- The operation comes to v and leaves w' behind, whatever else the slots hold. -/
def Does (P : Program) (l : Slots) (o : Oper) (w : World) (v : Value) (w' : World) : Prop :=
  ∀ ρ : Operand → Value, (∀ x u, ev l x = some u → ρ x = u) → (execOp ρ o).run P w = .ok (.value v) w'

/-- The operation has no value. -/
def Acts (P : Program) (l : Slots) (o : Oper) (w w' : World) : Prop :=
  ∀ ρ : Operand → Value, (∀ x u, ev l x = some u → ρ x = u) → (execOp ρ o).run P w = .ok .skip w'

section steps
variable {P : Program} {ops : Array Oper} {Q : Exit → Act → World → Prop} {rest : List Oper} {n : Nat} {l : Slots} {a : Act} {w w' : World} {o : Oper} {d : Nat} {v : Value}

theorem st (he : Env n l a) (h : Does P l o w v w') (hg : o.guard = none) (hd : o.dst = some d) (hlt : Nat.blt d n = true)
    (k : ∀ a, Env n ((d, v) :: l) a → wpList P ops Q rest a w') : wpList P ops Q (o :: rest) a w :=
  wpList_plain hg fun K hK => by
    unfold Oper.wp
    rw [h _ fun x u hx => he.ev hx, Oper.upon_value, hd]
    exact hK _ _ (k _ (he.put (Nat.le_of_ble_eq_true hlt) v))

theorem st0 (he : Env n l a) (h : Acts P l o w w') (hg : o.guard = none) (hd : o.dst = none)
    (k : ∀ a, Env n l a → wpList P ops Q rest a w') : wpList P ops Q (o :: rest) a w :=
  wpList_plain hg fun K hK => by
    unfold Oper.wp
    rw [h _ fun x u hx => he.ev hx, Oper.upon_skip, hd]
    exact hK _ _ (k _ (he.put0 _))

theorem yields {n : Nat} {l : Slots} {a : Act} (he : Env n l a) {j dj : Nat} {b : Bool} {oj : Oper} (hj : ops[j]? = some oj) (hd : oj.dst = some dj) (hb : lk dj l = some (.bool b)) : yielded ops a.tmps j = some b := by
  have hs : a.tmps.getD dj undef = .bool b := he.get _ _ hb
  have hlt : dj < a.tmps.size := by
    refine Nat.lt_of_not_le fun hle => ?_
    rw [Array.getD_eq_getD_getElem?, Array.getElem?_eq_none hle] at hs
    cases hs
  have hs2 : a.tmps[dj]? = some (.bool b) := by
    rw [Array.getD_eq_getD_getElem?] at hs
    rw [Array.getElem?_eq_getElem hlt] at hs ⊢
    exact congrArg some hs
  simp [yielded, hj, hd, hs2]

/-- A guarded operation whose guard says yes. -/
theorem st_yes (he : Env n l a) {j dj : Nat} {b : Bool} {oj : Oper} (hg : o.guard = some (j, b)) (hj : ops[j]? = some oj) (hdj : oj.dst = some dj) (hb : lk dj l = some (.bool b))
    (h : Does P l o w v w') (hd : o.dst = some d) (hlt : Nat.blt d n = true)
    (k : ∀ a, Env n ((d, v) :: l) a → wpList P ops Q rest a w') : wpList P ops Q (o :: rest) a w :=
  wpList_step fun K hK => by
    rw [if_pos (by simp [Region.wanted, hg, yields he hj hdj hb])]
    unfold Oper.wp
    rw [h _ fun x u hx => he.ev hx, Oper.upon_value, hd]
    exact hK _ _ (k _ (he.put (Nat.le_of_ble_eq_true hlt) v))

/-- A guarded operation whose guard says no. -/
theorem st_no (he : Env n l a) {j dj : Nat} {b c : Bool} {oj : Oper} (hg : o.guard = some (j, b)) (hj : ops[j]? = some oj) (hdj : oj.dst = some dj) (hb : lk dj l = some (.bool c)) (hne : (c == b) = false)
    (hd : o.dst = some d) (hlt : Nat.blt d n = true)
    (k : ∀ a, Env n ((d, undef) :: l) a → wpList P ops Q rest a w) : wpList P ops Q (o :: rest) a w :=
  wpList_step fun K hK => by
    rw [if_neg (by simp [Region.wanted, hg, yields he hj hdj hb]; simpa using hne), hd]
    exact hK _ _ (k _ (he.put (Nat.le_of_ble_eq_true hlt) _))

/-- What a guarded operation leaves: its value, or nothing. -/
def gv (c : Bool) (v : Value) : Value := if c = true then v else undef

/-- A guarded operation that leaves the world alone: the guard need not be known. -/
theorem st_gd (he : Env n l a) {j dj : Nat} {b c : Bool} {oj : Oper} (hg : o.guard = some (j, b)) (hj : ops[j]? = some oj) (hdj : oj.dst = some dj) (hb : lk dj l = some (.bool c))
    (h : c = b → Does P l o w v w) (hd : o.dst = some d) (hlt : Nat.blt d n = true)
    (k : ∀ a, Env n ((d, gv (c == b) v) :: l) a → wpList P ops Q rest a w) : wpList P ops Q (o :: rest) a w := by
  by_cases e : c = b
  · subst e
    refine st_yes he hg hj hdj hb (h rfl) hd hlt fun a ha => k a ?_
    have : gv (c == c) v = v := by simp [gv]
    rw [this]; exact ha
  · have e' : (c == b) = false := by simpa using e
    refine st_no he hg hj hdj hb e' hd hlt fun a ha => k a ?_
    rw [e']; exact ha

/-- A bool that a slot holds, told apart. -/
theorem split (he : Env n l a) (t : Nat) {b : Bool} (hx : lk t l = some (.bool b)) {G : Prop} (ht : b = true → Env n ((t, .bool true) :: l) a → G) (hf : b = false → Env n ((t, .bool false) :: l) a → G) : G := by
  cases b
  · exact hf rfl (he.add he hx)
  · exact ht rfl (he.add he hx)

/-- A call of a function of the program, by what is known of it. -/
theorem st_call (he : Env n l a) {f : Nat} {args : List Operand} {vs : List Value} {R : Value → World → Prop} {ts : Array TypeId}
    (ho : o.op = .call { callee := .value (.func f), args := args.toArray, argTypes := ts }) (hg : o.guard = none) (hd : o.dst = some d) (hlt : Nat.blt d n = true)
    (ha : evs l args = some vs) (hent : ∀ args w, (callFunc f args).run P w = .ok (.enter f args) w) (hc : Ret P f vs w R)
    (k : ∀ v w', R v w' → ∀ a, Env n ((d, v) :: l) a → wpList P ops Q rest a w') : wpList P ops Q (o :: rest) a w :=
  wpList_plain hg fun K hK => by
    have hargs : args.map a.eval = vs := he.evs args vs ha
    unfold Oper.wp execOp
    have hf : a.eval (.func f) = .func (.func f) #[] #[] := rfl
    simp only [ho, resolve, hf, Deferred.ofValue, invoke, Sem.run_bind, Sem.run_pure, Result.andThen_ok, Array.append_empty, List.map_toArray, hargs, Array.empty_append, hent, Oper.upon_enter]
    refine Calls.mono hc fun e w' hR => ?_
    obtain ⟨v, rfl, hR⟩ := hR
    rw [hd]
    exact hK _ _ (k v w' hR _ (he.put (Nat.le_of_ble_eq_true hlt) v))

/-- A call without a result's slot. -/
theorem st_call0 (he : Env n l a) {f : Nat} {args : List Operand} {vs : List Value} {R : Value → World → Prop} {ts : Array TypeId}
    (ho : o.op = .call { callee := .value (.func f), args := args.toArray, argTypes := ts }) (hg : o.guard = none) (hd : o.dst = none)
    (ha : evs l args = some vs) (hent : ∀ args w, (callFunc f args).run P w = .ok (.enter f args) w) (hc : Ret P f vs w R)
    (k : ∀ v w', R v w' → ∀ a, Env n l a → wpList P ops Q rest a w') : wpList P ops Q (o :: rest) a w :=
  wpList_plain hg fun K hK => by
    have hargs : args.map a.eval = vs := he.evs args vs ha
    unfold Oper.wp execOp
    have hf : a.eval (.func f) = .func (.func f) #[] #[] := rfl
    simp only [ho, resolve, hf, Deferred.ofValue, invoke, Sem.run_bind, Sem.run_pure, Result.andThen_ok, Array.append_empty, List.map_toArray, hargs, Array.empty_append, hent, Oper.upon_enter]
    refine Calls.mono hc fun e w' hR => ?_
    obtain ⟨v, rfl, hR⟩ := hR
    rw [hd]
    exact hK _ _ (k v w' hR _ (he.put0 v))
end steps

/-! ## What single operations do -/
section does
variable {P : Program} {l : Slots} {w : World} {d : Option Nat} {T : TypeId} {pos : String} {af : Array Edge} {g : Option (Nat × Bool)}

theorem d_move {x : Operand} {v : Value} (h : ev l x = some v) : Does P l ⟨d, .move x, T, pos, af, g⟩ w v w := fun ρ hρ => by simp [execOp, hρ _ _ h]
theorem d_assign {x : Operand} {v : Value} (h : ev l x = some v) : Does P l ⟨d, .assign x, T, pos, af, g⟩ w v w := fun ρ hρ => by simp [execOp, hρ _ _ h]
theorem d_extract {x : Operand} {vs : Array Value} {i : Nat} {v : Value} (h : ev l x = some (.tuple vs)) (hv : vs[i]? = some v) : Does P l ⟨d, .extract x i, T, pos, af, g⟩ w v w := fun ρ hρ => by simp [execOp, hρ _ _ h, Instr.extract, hv]
theorem d_nilCheck {x : Operand} {p : Addr} (h : ev l x = some (.pointer (some p))) : Does P l ⟨d, .nilCheck x, T, pos, af, g⟩ w (.pointer (some p)) w := fun ρ hρ => by simp [execOp, hρ _ _ h]

/-! comparisons of integers -/
section
variable {x y : Operand} {k : IntKind} {m n : Int} {xT yT : TypeId} (hx : ev l x = some (.int k m)) (hy : ev l y = some (.int k n))
include hx hy
theorem d_eql : Does P l ⟨d, .binOp .eql xT x y yT, T, pos, af, g⟩ w (.bool (decide (m = n))) w := fun ρ hρ => by
  have : (m == n) = decide (m = n) := rfl
  simp [execOp, hρ _ _ hx, hρ _ _ hy, eqGuard, binOp, Op.intCmp, this]
theorem d_neq : Does P l ⟨d, .binOp .neq xT x y yT, T, pos, af, g⟩ w (.bool (decide (m ≠ n))) w := fun ρ hρ => by
  simp [execOp, hρ _ _ hx, hρ _ _ hy, eqGuard, binOp, Op.intCmp]; rfl
theorem d_lss : Does P l ⟨d, .binOp .lss xT x y yT, T, pos, af, g⟩ w (.bool (decide (m < n))) w := fun ρ hρ => by
  simp [execOp, hρ _ _ hx, hρ _ _ hy, eqGuard, binOp, Op.intCmp]
theorem d_leq : Does P l ⟨d, .binOp .leq xT x y yT, T, pos, af, g⟩ w (.bool (decide (m ≤ n))) w := fun ρ hρ => by
  simp [execOp, hρ _ _ hx, hρ _ _ hy, eqGuard, binOp, Op.intCmp]
theorem d_gtr : Does P l ⟨d, .binOp .gtr xT x y yT, T, pos, af, g⟩ w (.bool (decide (n < m))) w := fun ρ hρ => by
  simp [execOp, hρ _ _ hx, hρ _ _ hy, eqGuard, binOp, Op.intCmp]
theorem d_geq : Does P l ⟨d, .binOp .geq xT x y yT, T, pos, af, g⟩ w (.bool (decide (n ≤ m))) w := fun ρ hρ => by
  simp [execOp, hρ _ _ hx, hρ _ _ hy, eqGuard, binOp, Op.intCmp]
theorem d_addw : Does P l ⟨d, .binOp .add xT x y yT, T, pos, af, g⟩ w (.int k (k.wrap (m + n))) w := fun ρ hρ => by
  simp [execOp, hρ _ _ hx, hρ _ _ hy, eqGuard, binOp, Op.intArith]
theorem d_subw : Does P l ⟨d, .binOp .sub xT x y yT, T, pos, af, g⟩ w (.int k (k.wrap (m - n))) w := fun ρ hρ => by
  simp [execOp, hρ _ _ hx, hρ _ _ hy, eqGuard, binOp, Op.intArith]
theorem d_mulw : Does P l ⟨d, .binOp .mul xT x y yT, T, pos, af, g⟩ w (.int k (k.wrap (m * n))) w := fun ρ hρ => by
  simp [execOp, hρ _ _ hx, hρ _ _ hy, eqGuard, binOp, Op.intArith]
theorem d_remw (h0 : n ≠ 0) : Does P l ⟨d, .binOp .rem xT x y yT, T, pos, af, g⟩ w (.int k (m.tmod n)) w := fun ρ hρ => by
  simp [execOp, hρ _ _ hx, hρ _ _ hy, eqGuard, binOp, Op.intDiv, h0]
theorem d_quow (h0 : n ≠ 0) : Does P l ⟨d, .binOp .quo xT x y yT, T, pos, af, g⟩ w (.int k (k.wrap (m.tdiv n))) w := fun ρ hρ => by
  simp [execOp, hρ _ _ hx, hρ _ _ hy, eqGuard, binOp, Op.intDiv, h0]
end

theorem wrap_i64 {x : Int} (h : -9223372036854775808 ≤ x ∧ x ≤ 9223372036854775807) : IntKind.i64.wrap x = x := by
  simp [IntKind.wrap, IntKind.bits, IntKind.signed]; omega

/-! arithmetic of int where nothing wraps -/
section
variable {x y : Operand} {m n : Int} {xT yT : TypeId} (hx : ev l x = some (.int .i64 m)) (hy : ev l y = some (.int .i64 n))
include hx hy
theorem d_add (h : -9223372036854775808 ≤ m + n ∧ m + n ≤ 9223372036854775807) : Does P l ⟨d, .binOp .add xT x y yT, T, pos, af, g⟩ w (.int .i64 (m + n)) w := by
  have := d_addw (P := P) (d := d) (T := T) (pos := pos) (af := af) (g := g) (w := w) (xT := xT) (yT := yT) hx hy
  rwa [wrap_i64 h] at this
theorem d_sub (h : -9223372036854775808 ≤ m - n ∧ m - n ≤ 9223372036854775807) : Does P l ⟨d, .binOp .sub xT x y yT, T, pos, af, g⟩ w (.int .i64 (m - n)) w := by
  have := d_subw (P := P) (d := d) (T := T) (pos := pos) (af := af) (g := g) (w := w) (xT := xT) (yT := yT) hx hy
  rwa [wrap_i64 h] at this
theorem d_mul (h : -9223372036854775808 ≤ m * n ∧ m * n ≤ 9223372036854775807) : Does P l ⟨d, .binOp .mul xT x y yT, T, pos, af, g⟩ w (.int .i64 (m * n)) w := by
  have := d_mulw (P := P) (d := d) (T := T) (pos := pos) (af := af) (g := g) (w := w) (xT := xT) (yT := yT) hx hy
  rwa [wrap_i64 h] at this
end

theorem d_not {x : Operand} {b : Bool} {xT : TypeId} (hx : ev l x = some (.bool b)) : Does P l ⟨d, .unOp .not xT x, T, pos, af, g⟩ w (.bool !b) w := fun ρ hρ => by simp [execOp, hρ _ _ hx, Op.unary]
theorem d_neg {x : Operand} {m : Int} {xT : TypeId} (hx : ev l x = some (.int .i64 m)) (h : -9223372036854775807 ≤ m ∧ m ≤ 9223372036854775807) : Does P l ⟨d, .unOp .neg xT x, T, pos, af, g⟩ w (.int .i64 (-m)) w := fun ρ hρ => by
  have : IntKind.i64.wrap (-m) = -m := wrap_i64 (by omega)
  simp [execOp, hρ _ _ hx, Op.unary, Op.intArith, this]
theorem d_conv {x : Operand} {k j : IntKind} {m : Int} {sT dT : TypeId} (hd : P.underlying dT = some (.int k)) (hs : ∃ td, P.underlying sT = some td) (hx : ev l x = some (.int j m)) : Does P l ⟨d, .convert sT dT x, T, pos, af, g⟩ w (.int k (k.wrap m)) w := fun ρ hρ => by
  obtain ⟨td, hs⟩ := hs
  simp [execOp, hρ _ _ hx, convert, run_underlying hd, run_underlying hs, Conv.intToInt]

/-! pick -/
theorem d_pick_t {c x y : Operand} {v : Value} (hc : ev l c = some (.bool true)) (hx : ev l x = some v) : Does P l ⟨d, .pick c x y, T, pos, af, g⟩ w v w := fun ρ hρ => by simp [execOp, hρ _ _ hc, hρ _ _ hx, asBool]
theorem d_pick_f {c x y : Operand} {v : Value} (hc : ev l c = some (.bool false)) (hy : ev l y = some v) : Does P l ⟨d, .pick c x y, T, pos, af, g⟩ w v w := fun ρ hρ => by simp [execOp, hρ _ _ hc, hρ _ _ hy, asBool]
/-- a && b -/
theorem d_and {c x : Operand} {b b' : Bool} (hc : ev l c = some (.bool b)) (hx : ev l x = some (gv (b == true) (.bool b'))) : Does P l ⟨d, .pick c x (.const (.bool false)), T, pos, af, g⟩ w (.bool (b && b')) w := fun ρ hρ => by
  have h3 := hρ (.const (.bool false)) _ rfl
  have h2 := hρ _ _ hx
  cases b <;> simp [execOp, hρ _ _ hc, h2, h3, asBool, gv]
/-- a || b -/
theorem d_or {c x : Operand} {b b' : Bool} (hc : ev l c = some (.bool b)) (hx : ev l x = some (gv (b == false) (.bool b'))) : Does P l ⟨d, .pick c (.const (.bool true)) x, T, pos, af, g⟩ w (.bool (b || b')) w := fun ρ hρ => by
  have h3 := hρ (.const (.bool true)) _ rfl
  have h2 := hρ _ _ hx
  cases b <;> simp [execOp, hρ _ _ hc, h2, h3, asBool, gv]
end does
end Go.V
