import Derived.Test.YtiimggpjnjhkcaaV8
import Derived.Sort.Grow
import Derived.Deep.Draws
namespace Go.V
section steps
variable {P : Program} {ops : Array Oper} {Q : Exit → Act → World → Prop} {rest : List Oper} {n : Nat} {l : Slots} {a : Act} {w w' : World} {o : Oper} {d : Nat} {v : Value}

theorem dr_end {K : Act → World → Prop} {R : Exit → Act → World → Prop} (h : K a w) : wpList P ops (fun e a w => match e with | .normal => K a w | _ => R e a w) [] a w := h

/-- A guarded call whose guard says yes. -/
theorem st_call_yes (he : Env n l a) {j dj : Nat} {b : Bool} {oj : Oper} {f : Nat} {args : List Operand} {vs : List Value} {R : Value → World → Prop} {ts : Array TypeId}
    (ho : o.op = .call { callee := .value (.func f), args := args.toArray, argTypes := ts }) (hg : o.guard = some (j, b)) (hj : ops[j]? = some oj) (hdj : oj.dst = some dj) (hb : lk dj l = some (.bool b)) (hd : o.dst = some d) (hlt : Nat.blt d n = true)
    (ha : evs l args = some vs) (hent : ∀ args w, (callFunc f args).run P w = .ok (.enter f args) w) (hc : Ret P f vs w R)
    (k : ∀ v w', R v w' → ∀ a, Env n ((d, v) :: l) a → wpList P ops Q rest a w') : wpList P ops Q (o :: rest) a w :=
  wpList_step fun K hK => by
    rw [if_pos (by simp [Region.wanted, hg, yields he hj hdj hb])]
    have hargs : args.map a.eval = vs := he.evs args vs ha
    unfold Oper.wp execOp
    have hf : a.eval (.func f) = .func (.func f) #[] #[] := rfl
    simp only [ho, resolve, hf, Deferred.ofValue, invoke, Sem.run_bind, Sem.run_pure, Result.andThen_ok, Array.append_empty, List.map_toArray, hargs, Array.empty_append, hent, Oper.upon_enter]
    refine Calls.mono hc fun e w' hR => ?_
    obtain ⟨v, rfl, hR⟩ := hR
    rw [hd]
    exact hK _ _ (k v w' hR _ (he.put (Nat.le_of_ble_eq_true hlt) v))
end steps

theorem d_shr {P : Program} {l : Slots} {w : World} {d : Option Nat} {T : TypeId} {pos : String} {af : Array Edge} {g : Option (Nat × Bool)} {x y : Operand} {k yk : IntKind} {m c : Int} {n : Nat} {xT yT : TypeId} (hx : ev l x = some (.int k m)) (hy : ev l y = some (.int yk c)) (h0 : ¬ c < 0) (hn : min c.toNat k.bits = n) :
    Does P l ⟨d, .binOp .shr xT x y yT, T, pos, af, g⟩ w (.int k (m.fdiv (2 ^ n))) w := fun ρ hρ => by
  subst hn
  simp [execOp, hρ _ _ hx, hρ _ _ hy, eqGuard, binOp, Op.shift, h0]

theorem wrap_u8 (n : Int) : IntKind.u8.wrap n = n % 256 := by
  simp [IntKind.wrap, IntKind.bits, IntKind.signed]

theorem d_slice_arr {P : Program} {l : Slots} {w : World} {d : Option Nat} {T : TypeId} {pos : String} {af : Array Edge} {g : Option (Nat × Bool)} {x : Operand} {t E : TypeId} {k len b o : Nat} {ag : Bool} (ht : P.underlying t = some (.array len E)) (hE : TI P E ag k) (hx : ev l x = some (.pointer (some ⟨b, o, none⟩))) :
    Does P l ⟨d, .slice t x none none none, T, pos, af, g⟩ w (.slice (some ⟨b, o, none⟩) len len) w := fun ρ hρ => by
  simp [execOp, hρ _ _ hx, Instr.sliceAt, Instr.sureAddr, run_underlying ht, Instr.sliceBounds, hE.size, Addr.add]

theorem Vec.of_row {α : Type} {w : World} {b o : Nat} {arr : Array Value} {T : TypeId} (h : Row w b arr T) {k : Nat} {enc : α → List Value} (xs : List α) (n m : Nat) (hn : n = xs.length) (hm : xs.length ≤ m) (e : ∀ (i : Nat) x, xs[i]? = some x → ∀ j, j < k → arr[o + i * k + j]? = (enc x)[j]?) : Vec k enc w (.slice (some ⟨b, o, none⟩) n m) xs := by
  subst hn
  refine ⟨_, m, rfl, hm, (fun h => by cases h), (fun p hp => by cases hp; rfl), fun p hp i x hx j hj => ?_⟩
  cases hp
  rw [h.cell]
  exact e i x hx j hj

/-- A world in which only something new has come. -/
theorem Only.grow {w w' : World} (h : Only [] w w') : ∃ q os, w' = Sort.grow (w.drewN q) os := by
  refine ⟨w'.drawn - w.drawn, w'.heap.extract w.heap.size w'.heap.size, ?_⟩
  obtain ⟨heap, tape, drawn, os, output⟩ := w
  obtain ⟨heap', tape', drawn', os', output'⟩ := w'
  obtain ⟨h1, h2, h3, h4, h5, h6⟩ := h
  simp only at h1 h2 h3 h4 h5 h6
  subst h1; subst h2; subst h3
  simp only [Sort.grow, World.drewN, World.mk.injEq, true_and, and_true]
  refine ⟨?_, by omega⟩
  apply Array.ext_getElem?
  intro i
  by_cases hi : i < heap.size
  · rw [Array.getElem?_append_left hi]
    exact h5 i hi (by simp)
  · rw [Array.getElem?_append_right (by omega), Array.getElem?_extract]
    by_cases h7 : i < heap'.size
    · rw [if_pos (by omega)]
      congr 1; omega
    · rw [if_neg (by omega), Array.getElem?_eq_none (by omega)]
end Go.V
