import Derived.Test.YtiimggpjnjhkcaaV4
namespace Go.V
section does
variable {P : Program} {l : Slots} {w : World} {d : Option Nat} {T : TypeId} {pos : String} {af : Array Edge} {g : Option (Nat × Bool)}
/-- '==' or '!=' that the kernel reckons. -/
theorem d_eqv {op : BinOp} {x y : Operand} {xT yT : TypeId} {u v : Value} {b : Bool} (hx : ev l x = some u) (hy : ev l y = some v) (h : ∀ w, (do eqGuard op xT x y u v; binOp op xT u v).run P w = .ok (.bool b) w) : Does P l ⟨d, .binOp op xT x y yT, T, pos, af, g⟩ w (.bool b) w := fun ρ hρ => by
  have := h w
  simp only [execOp, hρ _ _ hx, hρ _ _ hy, Sem.run_bind] at this ⊢
  rw [this]; rfl
end does
theorem results_tmp3 {fn : Func} {t u s : Tmp} (h : fn.results = #[.tmp t, .tmp u, .tmp s]) (tmps : Array Value) (P : Program) (w : World) :
    (results fn tmps).run P w = .ok (.tuple #[tmps.getD t undef, tmps.getD u undef, tmps.getD s undef]) w := by
  simp [results, h]
theorem done3 {P : Program} {fn : Func} {R : Value → World → Prop} {n : Nat} {l : Slots} {a : Act} {w : World} (he : Env n l a) {t u s : Nat} (hf : fn.results = #[.tmp t, .tmp u, .tmp s]) {v x y : Value} (hv : lk t l = some v) (hx : lk u l = some x) (hy : lk s l = some y) (h : R (.tuple #[v, x, y]) w) : noMore P fn R a w :=
  ⟨he.defers, _, by rw [results_tmp3 hf, he.get t v hv, he.get u x hx, he.get s y hy], h⟩
end Go.V
