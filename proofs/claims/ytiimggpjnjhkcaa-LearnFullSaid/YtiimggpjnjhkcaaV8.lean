import Derived.Test.YtiimggpjnjhkcaaV7
namespace Go.V
section
variable {P : Program} {A E : TypeId} {k : IntKind}

theorem run_part_one (hE : TI P E false 1) {cs : Array Value} {i : Nat} {v : Value} (h : cs[i]? = some v) (w : World) : (part E cs i).run P w = .ok v w := by
  simp [part, hE.agg, h]
theorem run_part_agg {T : TypeId} {n : Nat} (hT : TI P T true n) {cs : Array Value} {i : Nat} {v : Array Value} (h : cs.extract i (i + n) = v) (w : World) : (part T cs i).run P w = .ok (.agg v) w := by
  simp [part, hT.agg, hT.size, h]

/-- '==' of arrays of three integers. -/
theorem eq_arr3 (hA : P.underlying A = some (.array 3 E)) (hE : TI P E false 1) (hk : P.underlying E = some (.int k)) (d : Nat) (a0 a1 a2 b0 b1 b2 : Int) (w : World) :
    (Op.equalIn (d + 2) A (.agg #[.int k a0, .int k a1, .int k a2]) (.agg #[.int k b0, .int k b1, .int k b2])).run P w = .ok (decide ((a0, a1, a2) = (b0, b1, b2))) w := by
  have e3 : ∀ D, D = d + 1 → ∀ (a b : Int) (w : World), (Op.equalIn D E (.int k a) (.int k b)).run P w = .ok (a == b) w := fun D hD a b w => hD ▸ run_equalIn_int (P := P) w d E k k a b hk
  obtain ⟨D, hD⟩ : ∃ D, D = d + 1 := ⟨_, rfl⟩
  have e3 := e3 D hD
  rw [show d + 2 = D + 1 from by omega]
  have hr : List.range' 0 3 1 = [0, 1, 2] := rfl
  have q0 := fun w => run_part_one hE (cs := #[.int k a0, .int k a1, .int k a2]) (i := 0) (v := .int k a0) rfl w
  have q1 := fun w => run_part_one hE (cs := #[.int k a0, .int k a1, .int k a2]) (i := 1) (v := .int k a1) rfl w
  have q2 := fun w => run_part_one hE (cs := #[.int k a0, .int k a1, .int k a2]) (i := 2) (v := .int k a2) rfl w
  have r0 := fun w => run_part_one hE (cs := #[.int k b0, .int k b1, .int k b2]) (i := 0) (v := .int k b0) rfl w
  have r1 := fun w => run_part_one hE (cs := #[.int k b0, .int k b1, .int k b2]) (i := 1) (v := .int k b1) rfl w
  have r2 := fun w => run_part_one hE (cs := #[.int k b0, .int k b1, .int k b2]) (i := 2) (v := .int k b2) rfl w
  simp only [Op.equalIn, Sem.run_bind, run_underlying hA, Result.andThen_ok, hE.size, Std.Legacy.Range.forIn_eq_forIn_range', Std.Legacy.Range.size, Nat.sub_zero, Nat.add_sub_cancel, Nat.div_one, hr, List.forIn_cons, List.forIn_nil, Nat.mul_one, Nat.zero_mul, Nat.one_mul, q0, r0, e3, Prod.mk.injEq]
  by_cases h0 : a0 = b0
  · subst h0
    by_cases h1 : a1 = b1
    · subst h1
      by_cases h2 : a2 = b2
      · subst h2
        simp [q1, q2, e3]
      · simp [q1, q2, r1, r2, e3, h2]
    · simp [q1, r1, e3, h1]
  · simp [h0]

/-- '==' of structs of two fields: three integers, and one more. -/
theorem eq_row {T : TypeId} {f0 f1 : Field} (hT : P.underlying T = some (.struct (P.fieldsOf T))) (hp : P.stoodInHeld T = false) (hf : (P.fieldsOf T).toList = [f0, f1]) (n0 : f0.name ≠ "_") (n1 : f1.name ≠ "_")
    (t0 : f0.type = A) (t1 : f1.type = E) (o0 : f0.offset = 0) (o1 : f1.offset = 3) (hA : P.underlying A = some (.array 3 E)) (hAT : TI P A true 3) (hE : TI P E false 1) (hk : P.underlying E = some (.int k)) (d : Nat) (a0 a1 a2 a3 b0 b1 b2 b3 : Int) (w : World) :
    (Op.equalIn (d + 3) T (.agg #[.int k a0, .int k a1, .int k a2, .int k a3]) (.agg #[.int k b0, .int k b1, .int k b2, .int k b3])).run P w = .ok (decide ((a0, a1, a2, a3) = (b0, b1, b2, b3))) w := by
  have e := fun w => eq_arr3 hA hE hk d a0 a1 a2 b0 b1 b2 w
  have e3 := fun (w : World) => run_equalIn_int (P := P) w (d + 1) E k k a3 b3 hk
  rw [run_equalIn_struct w (d + 2) T _ _ hT hp, hf]
  have pa := fun w => run_part_agg hAT (cs := #[.int k a0, .int k a1, .int k a2, .int k a3]) (i := 0) (v := #[.int k a0, .int k a1, .int k a2]) rfl w
  have pb := fun w => run_part_agg hAT (cs := #[.int k b0, .int k b1, .int k b2, .int k b3]) (i := 0) (v := #[.int k b0, .int k b1, .int k b2]) rfl w
  have pc := fun w => run_part_one hE (cs := #[.int k a0, .int k a1, .int k a2, .int k a3]) (i := 3) (v := .int k a3) rfl w
  have pd := fun w => run_part_one hE (cs := #[.int k b0, .int k b1, .int k b2, .int k b3]) (i := 3) (v := .int k b3) rfl w
  simp only [Op.eqFields, n0, n1, ne_eq, not_false_eq_true, if_true, t0, t1, o0, o1, Sem.run_bind, pa, pb, Result.andThen_ok, e]
  by_cases h0 : (a0, a1, a2) = (b0, b1, b2)
  · simp only [Prod.mk.injEq] at h0
    obtain ⟨rfl, rfl, rfl⟩ := h0
    by_cases h3 : a3 = b3
    · subst h3
      simp [pc, e3]
    · simp [pc, pd, e3, h3]
  · have h1 : ¬ ((a0, a1, a2, a3) = (b0, b1, b2, b3)) := by
      intro h; simp only [Prod.mk.injEq] at h h0; exact h0 ⟨h.1, h.2.1, h.2.2.1⟩
    simp [h0, h1]
end
end Go.V
