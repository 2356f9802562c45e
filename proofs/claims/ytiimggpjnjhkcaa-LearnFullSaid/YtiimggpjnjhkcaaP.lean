import Derived.Test.YtiimggpjnjhkcaaVR
import Derived.Test.YtiimggpjnjhkcaaFacts
import Derived.Test.YtiimggpjnjhkcaaB
namespace Go.Proofs.Learn
open Go.V Go.ChangeShapes Go.WideShapes

theorem laid : laidOutB Try.prog = true := by kernel_rfl
theorem un24s : Try.prog.underlying 24 = some (.struct (Try.prog.fieldsOf 24)) := by kernel_rfl
theorem four_of : ∀ {cs : List Value}, cs.length = 4 → ∃ a b c d, cs = [a, b, c, d]
  | [a, b, c, d], _ => ⟨a, b, c, d, rfl⟩

section
variable {H : Type} {enc : TypeId × Value → H} {w : World} {base : Nat} {spare : Nat → Bool} {held : Bool} {fuel : Nat}

theorem read_int1 {cs : List Value} {T : TypeId} {k : IntKind} {m : Nat} {y : Option (DataW H × List MemPlace)} (hu : Try.prog.underlying T = some (.int k)) (hy : y.isSome = true) (h : DataW.trod enc Try.prog w base spare held m T cs = y) : ∃ n, cs = [.int k n] ∧ (Lit.int k n).wf = true := by
  obtain ⟨y, rfl⟩ := Option.isSome_iff_exists.1 hy
  obtain ⟨n, h1, _, h2⟩ := DataW.trod_int hu h
  exact ⟨n, h1, h2⟩

theorem read_row {cs : List Value} {x : DataW H × List MemPlace} (h : DataW.trod enc Try.prog w base spare held fuel 24 cs = some x) : ∃ r : R4, cs = encRow r := by
  obtain ⟨xs, n, _, _, hlen, hxs, hf⟩ := DataW.trod_struct un24s h
  replace hlen : cs.length = 4 := hlen.trans (by kernel_rfl)
  replace hxs : xs.length = 2 := hxs.trans (by kernel_rfl)
  have h1 := hf 1 (Try.prog.fieldsOf 24)[1]! (by kernel_rfl)
  rw [show (Try.prog.fieldsOf 24)[1]!.type = 3 by kernel_rfl, show (Try.prog.fieldsOf 24)[1]!.offset = 3 by kernel_rfl, show Try.prog.cellsOf 3 = 1 by kernel_rfl] at h1
  have h0 := hf 0 (Try.prog.fieldsOf 24)[0]! (by kernel_rfl)
  rw [show (Try.prog.fieldsOf 24)[0]!.type = 22 by kernel_rfl, show (Try.prog.fieldsOf 24)[0]!.offset = 0 by kernel_rfl, show Try.prog.cellsOf 22 = 3 by kernel_rfl, List.getElem?_eq_getElem (by omega)] at h0
  obtain ⟨l, e3, _⟩ := read_int1 un3 (by simp [hxs]) h1
  obtain ⟨ys, m, _, _, _, hys, ha⟩ := DataW.trod_array un22 h0
  rw [show Try.prog.cellsOf 3 = 1 by kernel_rfl] at ha
  obtain ⟨a, e0, _⟩ := read_int1 un3 (by simp [hys]) (ha 0 (by omega))
  obtain ⟨b, e1, _⟩ := read_int1 un3 (by simp [hys]) (ha 1 (by omega))
  obtain ⟨c, e2, _⟩ := read_int1 un3 (by simp [hys]) (ha 2 (by omega))
  obtain ⟨c0, c1, c2, c3, rfl⟩ := four_of hlen
  simp only [List.drop_zero, List.drop_succ_cons, List.take_succ_cons, List.take_zero, Nat.zero_mul, Nat.one_mul, Nat.reduceMul, List.cons.injEq, and_true] at e0 e1 e2 e3
  subst e0 e1 e2 e3
  exact ⟨(a, b, c, l), rfl⟩

theorem open_row24 {v : Value} {d : DataW H} {ps : List MemPlace} (hv : ∃ cs : Array Value, v = .agg cs ∧ cs.size = Try.prog.cellsOf 24) (h : DataW.Trod enc Try.prog w base spare held 24 v d ps) : ∃ r : R4, v = rowV r := by
  obtain ⟨cs, rfl, _⟩ := hv
  obtain ⟨fuel, hf⟩ := h
  obtain ⟨r, e⟩ := read_row hf
  refine ⟨r, ?_⟩
  have : cs.toList = encRow r := by simpa [Value.cells] using e
  have : cs = (encRow r).toArray := by rw [← this]
  rw [this]; rfl
end
end Go.Proofs.Learn
