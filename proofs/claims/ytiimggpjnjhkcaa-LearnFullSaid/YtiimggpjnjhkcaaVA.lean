import Derived.Test.YtiimggpjnjhkcaaV9
namespace Go.V
section steps
variable {P : Program} {ops : Array Oper} {Q : Exit → Act → World → Prop} {rest : List Oper} {n : Nat} {l : Slots} {a : Act} {w w' : World} {o : Oper} {d : Nat} {v : Value}

/-- A method called on an interface value whose type is known. -/
theorem st_invoke (he : Env n l a) {x : Operand} {name : String} {args : List Operand} {ts : Array TypeId} {t : TypeId} {u r : Value} {f : Nat} {vs : List Value} {R : Value → World → Prop}
    (ho : o.op = .call { callee := .invoke x name, args := args.toArray, argTypes := ts }) (hg : o.guard = none) (hd : o.dst = some d) (hlt : Nat.blt d n = true)
    (hx : ev l x = some (.iface t u)) (hm : ∀ w, (method (P.types.size + Made.depth) t u name).run P w = .ok (f, r) w) (ha : evs l args = some vs) (hent : ∀ args w, (callFunc f args).run P w = .ok (.enter f args) w) (hc : Ret P f (r :: vs) w R)
    (k : ∀ v w', R v w' → ∀ a, Env n ((d, v) :: l) a → wpList P ops Q rest a w') : wpList P ops Q (o :: rest) a w :=
  wpList_plain hg fun K hK => by
    have hargs : args.map a.eval = vs := he.evs args vs ha
    unfold Oper.wp execOp
    simp only [ho, resolve, invoke, he.ev hx, callMethod, Sem.run_bind, Sem.run_pure, Result.andThen_ok, List.map_toArray, hargs]
    have e : (#[Value.iface t u] ++ vs.toArray)[0]? = some (.iface t u) := by simp
    have e2 : (#[Value.iface t u] ++ vs.toArray).extract 1 (#[Value.iface t u] ++ vs.toArray).size = vs.toArray := by simp
    simp only [e, e2, Sem.run_bind, run_program, Result.andThen_ok, hm, hent, Oper.upon_enter]
    have e3 : #[r] ++ vs.toArray = (r :: vs).toArray := by simp
    rw [e3]
    refine Calls.mono hc fun e w' hR => ?_
    obtain ⟨v, rfl, hR⟩ := hR
    rw [hd]
    exact hK _ _ (k v w' hR _ (he.put (Nat.le_of_ble_eq_true hlt) v))
end steps

section does
variable {P : Program} {l : Slots} {w : World} {d : Option Nat} {T : TypeId} {pos : String} {af : Array Edge} {g : Option (Nat × Bool)}
theorem d_iface {x : Operand} {t : TypeId} {u v : Value} (hx : ev l x = some u) (h : ∀ w, (Instr.makeInterface t u).run P w = .ok v w) : Does P l ⟨d, .makeInterface t x, T, pos, af, g⟩ w v w := fun ρ hρ => by
  simp [execOp, hρ _ _ hx, h]
end does

/-- A result that lies in memory. -/
theorem done_cell {P : Program} {fn : Func} {R : Value → World → Prop} {n : Nat} {l : Slots} {a : Act} {w : World} (he : Env n l a) {t T : Nat} (hf : fn.results = #[.cell t T]) {p : Addr} {v : Value} (hv : lk t l = some (.pointer (some p))) (hl : (loadVar T p).run P w = .ok v w) (h : R v w) : noMore P fn R a w :=
  ⟨he.defers, v, by
    have e : a.tmps[t]?.getD undef = .pointer (some p) := by rw [← Array.getD_eq_getD_getElem?]; exact he.get t _ hv
    simp [results, hf, e, asAddr, hl], h⟩

theorem done_cct {P : Program} {fn : Func} {R : Value → World → Prop} {n : Nat} {l : Slots} {a : Act} {w : World} (he : Env n l a) {t u s T U : Nat} (hf : fn.results = #[.cell t T, .cell u U, .tmp s]) {p q : Addr} {v x y : Value} (hv : lk t l = some (.pointer (some p))) (hx : lk u l = some (.pointer (some q))) (hy : lk s l = some y) (hl : (loadVar T p).run P w = .ok v w) (hl' : (loadVar U q).run P w = .ok x w) (h : R (.tuple #[v, x, y]) w) : noMore P fn R a w :=
  ⟨he.defers, .tuple #[v, x, y], by
    have e : a.tmps[t]?.getD undef = .pointer (some p) := by rw [← Array.getD_eq_getD_getElem?]; exact he.get t _ hv
    have e2 : a.tmps[u]?.getD undef = .pointer (some q) := by rw [← Array.getD_eq_getD_getElem?]; exact he.get u _ hx
    have e3 : a.tmps[s]?.getD undef = y := by rw [← Array.getD_eq_getD_getElem?]; exact he.get s _ hy
    simp [results, hf, e, e2, e3, asAddr, hl, hl'], h⟩

theorem load_row {P : Program} {w : World} {b o : Nat} {arr : Array Value} {T TB : TypeId} {k : Nat} (ht : TI P T true k) (h : Row w b arr TB) (vs : List Value) (hk : vs.length = k) (hv : (arr.toList.drop o).take k = vs) : (loadVar T ⟨b, o, none⟩).run P w = .ok (.agg vs.toArray) w :=
  run_loadVar_agg ht vs hk fun j hj => by
    rw [h.cell, ← hv, List.getElem?_take, if_pos hj, List.getElem?_drop]
    simp
end Go.V
