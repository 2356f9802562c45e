import Derived.Test.YtiimggpjnjhkcaaJ
namespace Go.Proofs.Learn
open Go.V

/-- the sums of rows -/
def sumsL (by_ of_ : Nat) (xs : List CR) : S5 := xs.foldl (addS by_ of_) (0, 0, 0, 0, 0)

structure SInv (s : S5) (N : Nat) : Prop where
  n : s.1 = N
  x : -1000 * (N : Int) ≤ s.2.1 ∧ s.2.1 ≤ 1000 * (N : Int)
  y : -1000 * (N : Int) ≤ s.2.2.1 ∧ s.2.2.1 ≤ 1000 * (N : Int)
  xx : 0 ≤ s.2.2.2.1 ∧ s.2.2.2.1 ≤ 1000000 * (N : Int)
  xy : -1000000 * (N : Int) ≤ s.2.2.2.2 ∧ s.2.2.2.2 ≤ 1000000 * (N : Int)
  d : 0 ≤ s.1 * s.2.2.2.1 - s.2.1 * s.2.1
  q : ∀ t : Int, 0 ≤ s.1 * (t * t) - 2 * (t * s.2.1) + s.2.2.2.1

theorem mul_bd {a b A B : Int} (ha : -A ≤ a ∧ a ≤ A) (hb : -B ≤ b ∧ b ≤ B) : -(A * B) ≤ a * b ∧ a * b ≤ A * B := by
  have a1 := Int.mul_nonneg (show 0 ≤ a + A by omega) (show 0 ≤ b + B by omega)
  have a2 := Int.mul_nonneg (show 0 ≤ A - a by omega) (show 0 ≤ B - b by omega)
  have a3 := Int.mul_nonneg (show 0 ≤ a + A by omega) (show 0 ≤ B - b by omega)
  have a4 := Int.mul_nonneg (show 0 ≤ A - a by omega) (show 0 ≤ b + B by omega)
  have e1 : (a + A) * (b + B) = a * b + a * B + A * b + A * B := by rw [Int.add_mul, Int.mul_add, Int.mul_add]; omega
  have e2 : (A - a) * (B - b) = A * B - A * b - a * B + a * b := by rw [Int.sub_mul, Int.mul_sub, Int.mul_sub]; omega
  have e3 : (a + A) * (B - b) = a * B - a * b + A * B - A * b := by rw [Int.add_mul, Int.mul_sub, Int.mul_sub]; omega
  have e4 : (A - a) * (b + B) = A * b + A * B - a * b - a * B := by rw [Int.sub_mul, Int.mul_add, Int.mul_add]; omega
  omega

theorem SInv.zero : SInv (0, 0, 0, 0, 0) 0 := ⟨rfl, by simp, by simp, by simp, by simp, by simp, fun t => by simp⟩

theorem SInv.step {by_ of_ : Nat} {s : S5} {N : Nat} (h : SInv s N) (c : CR) (hx : -1000 ≤ pick3 (ptOf c.1) by_ ∧ pick3 (ptOf c.1) by_ ≤ 1000) (hy : -1000 ≤ pick3 (ptOf c.1) of_ ∧ pick3 (ptOf c.1) of_ ≤ 1000) : SInv (addS by_ of_ s c) (N + c.2) := by
  obtain ⟨n, sx, sy, sxx, sxy⟩ := s
  obtain ⟨h1, h2, h3, h4, h5, h6, h7⟩ := h
  unfold addS
  generalize pick3 (ptOf c.1) by_ = x at *
  generalize pick3 (ptOf c.1) of_ = y at *
  obtain ⟨r, k⟩ := c
  simp only at *
  have hk : (0 : Int) ≤ k := by omega
  have kx := mul_bd (a := (k : Int)) (b := x) (A := k) (B := 1000) ⟨by omega, by omega⟩ ⟨by omega, by omega⟩
  have ky := mul_bd (a := (k : Int)) (b := y) (A := k) (B := 1000) ⟨by omega, by omega⟩ ⟨by omega, by omega⟩
  have xx0 : 0 ≤ x * x := by
    rcases Int.le_total 0 x with h | h
    · exact Int.mul_nonneg h h
    · have := Int.mul_nonneg (show 0 ≤ -x by omega) (show 0 ≤ -x by omega); rwa [Int.neg_mul_neg] at this
  have xx := mul_bd (a := x) (b := x) (A := 1000) (B := 1000) ⟨by omega, by omega⟩ ⟨by omega, by omega⟩
  have xy := mul_bd (a := x) (b := y) (A := 1000) (B := 1000) ⟨by omega, by omega⟩ ⟨by omega, by omega⟩
  have kxx := mul_bd (a := (k : Int)) (b := x * x) (A := k) (B := 1000000) ⟨by omega, by omega⟩ ⟨by omega, by omega⟩
  have kxx0 := Int.mul_nonneg hk xx0
  have kxy := mul_bd (a := (k : Int)) (b := x * y) (A := k) (B := 1000000) ⟨by omega, by omega⟩ ⟨by omega, by omega⟩
  have hq := h7 x
  have kq := Int.mul_nonneg hk hq
  have e1 : (k : Int) * x * x = k * (x * x) := Int.mul_assoc _ _ _
  have e2 : (k : Int) * x * y = k * (x * y) := Int.mul_assoc _ _ _
  subst h1
  refine ⟨by push_cast; omega, ⟨by push_cast; omega, by push_cast; omega⟩, ⟨by push_cast; omega, by push_cast; omega⟩, ⟨by rw [e1]; push_cast; omega, by rw [e1]; push_cast; omega⟩, ⟨by rw [e2]; push_cast; omega, by rw [e2]; push_cast; omega⟩, ?_, fun t => ?_⟩
  · have e : ((N : Int) + k) * (sxx + k * x * x) - (sx + k * x) * (sx + k * x) = (N * sxx - sx * sx) + k * (N * (x * x) - 2 * (x * sx) + sxx) := by
      grind
    simp only [e]; omega
  · have hq := h7 t
    have sq : 0 ≤ (k : Int) * ((t - x) * (t - x)) := by
      refine Int.mul_nonneg hk ?_
      rcases Int.le_total 0 (t - x) with h | h
      · exact Int.mul_nonneg h h
      · have := Int.mul_nonneg (show 0 ≤ -(t - x) by omega) (show 0 ≤ -(t - x) by omega); rwa [Int.neg_mul_neg] at this
    have e : ((N : Int) + k) * (t * t) - 2 * (t * (sx + k * x)) + (sxx + k * x * x) = (N * (t * t) - 2 * (t * sx) + sxx) + k * ((t - x) * (t - x)) := by
      grind
    simp only [e]; omega

theorem SInv.take {by_ of_ : Nat} (hby : by_ < 3) (hof : of_ < 3) {xs : List CR} (hok : ∀ c ∈ xs, okRow c.1 = true) : SInv (sumsL by_ of_ xs) (xs.map (·.2)).sum := by
  have hp : ∀ c ∈ xs, ∀ i < 3, -1000 ≤ pick3 (ptOf c.1) i ∧ pick3 (ptOf c.1) i ≤ 1000 := by
    intro c hc i hi
    have h1 := hok c hc
    simp only [okRow, Bool.and_eq_true] at h1
    have := okPt_bd h1.1 (pick3 (ptOf c.1) i)
    refine this ?_
    unfold pick3
    match i, hi with
    | 0, _ => simp [ptL]
    | 1, _ => simp [ptL]
    | 2, _ => simp [ptL]
  have aux : ∀ (xs : List CR) (s : S5) (N : Nat), (∀ c ∈ xs, ∀ i < 3, -1000 ≤ pick3 (ptOf c.1) i ∧ pick3 (ptOf c.1) i ≤ 1000) → SInv s N → SInv (xs.foldl (addS by_ of_) s) (N + (xs.map (·.2)).sum) := by
    intro xs
    induction xs with
    | nil => intro s N _ h; simpa using h
    | cons c xs ih =>
      intro s N hp h
      have := ih (addS by_ of_ s c) (N + c.2) (fun c hc => hp c (List.mem_cons_of_mem _ hc)) (h.step c (hp c List.mem_cons_self by_ hby) (hp c List.mem_cons_self of_ hof))
      simpa [Nat.add_assoc] using this
  have := aux xs (0, 0, 0, 0, 0) 0 hp SInv.zero
  unfold sumsL
  simpa using this

theorem sumsL_perm {by_ of_ : Nat} {xs ys : List CR} (h : xs.Perm ys) : sumsL by_ of_ xs = sumsL by_ of_ ys := by
  refine h.foldl_eq' (fun a _ b _ s => ?_) _
  simp only [addS, Prod.mk.injEq]
  omega

def lineS (s : S5) : Fr × Fr × Int :=
  if s.1 * s.2.2.2.1 - s.2.1 * s.2.1 = 0 then ((0, 0), (0, 0), 3)
  else (lowF (s.1 * s.2.2.2.2 - s.2.1 * s.2.2.1) (s.1 * s.2.2.2.1 - s.2.1 * s.2.1), lowF (s.2.2.1 * s.2.2.2.1 - s.2.1 * s.2.2.2.2) (s.1 * s.2.2.2.1 - s.2.1 * s.2.1), 0)
/-- Line, of a model's rows -/
def lineM (m : List CR) (by_ of_ : Int) : Fr × Fr × Int :=
  if by_ < 0 ∨ 3 ≤ by_ ∨ of_ < 0 ∨ 3 ≤ of_ then ((0, 0), (0, 0), 1) else lineS (sumsL by_.toNat of_.toNat m)
def lineV (x : Fr × Fr × Int) : Value := .tuple #[frV x.1, frV x.2.1, iV x.2.2]

theorem sum_take_le (l : List Nat) (i : Nat) : (l.take i).sum ≤ l.sum := by
  have := congrArg List.sum (List.take_append_drop i l)
  rw [List.sum_append] at this
  omega

end Go.Proofs.Learn
