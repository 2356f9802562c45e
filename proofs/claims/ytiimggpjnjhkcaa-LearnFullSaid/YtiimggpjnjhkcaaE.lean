import Derived.Test.YtiimggpjnjhkcaaD
namespace Go.Proofs.Learn
open Go.V

abbrev iV (n : Int) : Value := .int .i64 n
def encI (n : Int) : List Value := [iV n]
theorem hkI (x : Int) : (encI x).length = 1 := rfl
theorem h1I (x : Int) : ∀ u ∈ encI x, u.oneCell' = true := by simp [encI, Value.oneCell']

/-- cmp.isNaN -/
theorem f54_c (x : Int) (w : World) : Ret Try.prog 54 [iV x] w fun v w' => v = .bool false ∧ w = w' := by
  refine enter Try.func54 rfl rfl fun a he => ?_
  replace he : Env 6 [(0, iV x)] a := he
  refine c_seq ?_; refine c_region ?_
  refine st he (d_assign rfl) rfl rfl rfl ?_; clear he; clear a; intro a he
  refine r_nil ?_
  refine c_seq ?_; refine c_region ?_
  refine st he (d_move rfl) rfl rfl rfl ?_; clear he; clear a; intro a he
  refine st he (d_move rfl) rfl rfl rfl ?_; clear he; clear a; intro a he
  refine st he (d_neq rfl rfl) rfl rfl rfl ?_; clear he; clear a; intro a he
  refine st he (d_assign rfl) rfl rfl rfl ?_; clear he; clear a; intro a he
  refine r_nil ?_
  refine c_ret ?_
  exact done1 he rfl rfl ⟨by simp, rfl⟩

def cmpI (x y : Int) : Int := if x < y then -1 else if y < x then 1 else 0

/-- cmp.Compare -/
theorem f33_c (x y : Int) (w : World) : Ret Try.prog 33 [iV x, iV y] w fun v w' => v = iV (cmpI x y) ∧ w = w' := by
  refine enter Try.func33 rfl rfl fun a he => ?_
  replace he : Env 20 [(0, iV x), (1, iV y)] a := he
  refine c_seq ?_; refine c_region ?_
  refine st he (d_assign rfl) rfl rfl rfl ?_; clear he; clear a; intro a he
  refine r_nil ?_
  refine c_seq ?_; refine c_region ?_
  refine st he (d_move rfl) rfl rfl rfl ?_; clear he; clear a; intro a he
  refine st_call he rfl rfl rfl rfl rfl ent54 (f54_c _ _) ?_; clear he; clear a; intro v1 w1 ⟨hv1, hw1⟩ a he
  subst hv1 hw1
  refine st he (d_assign rfl) rfl rfl rfl ?_; clear he; clear a; intro a he
  refine r_nil ?_
  refine c_seq ?_; refine c_region ?_
  refine st he (d_move rfl) rfl rfl rfl ?_; clear he; clear a; intro a he
  refine st_call he rfl rfl rfl rfl rfl ent54 (f54_c _ _) ?_; clear he; clear a; intro v1 w1 ⟨hv1, hw1⟩ a he
  subst hv1 hw1
  refine st he (d_assign rfl) rfl rfl rfl ?_; clear he; clear a; intro a he
  refine r_nil ?_
  refine c_seq ?_
  refine c_seq ?_; refine c_region ?_
  refine st he (d_move rfl) rfl rfl rfl ?_; clear he; clear a; intro a he
  refine r_nil ?_
  refine c_cond he rfl (fun hc1 => ?_) (fun hc1 => ?_)
  · cases hc1
  refine c_skip ?_
  refine c_seq ?_
  refine c_seq ?_; refine c_region ?_
  refine st he (d_move rfl) rfl rfl rfl ?_; clear he; clear a; intro a he
  refine r_nil ?_
  refine c_cond he rfl (fun hc3 => ?_) (fun hc3 => ?_)
  · cases hc3
  refine c_skip ?_
  refine c_seq ?_
  refine c_seq ?_; refine c_region ?_
  refine st he (d_move rfl) rfl rfl rfl ?_; clear he; clear a; intro a he
  refine st he (d_move rfl) rfl rfl rfl ?_; clear he; clear a; intro a he
  refine st he (d_lss rfl rfl) rfl rfl rfl ?_; clear he; clear a; intro a he
  refine r_nil ?_
  refine c_cond_if he rfl (fun hc4 => ?_) (fun hc4 => ?_)
  · refine c_seq ?_; refine c_region ?_
    refine st he (d_assign rfl) rfl rfl rfl ?_; clear he; clear a; intro a he
    refine r_nil ?_
    refine c_ret ?_
    exact done1 he rfl rfl ⟨by rw [cmpI, if_pos hc4], rfl⟩
  refine c_skip ?_
  refine c_seq ?_
  refine c_seq ?_; refine c_region ?_
  refine st he (d_move rfl) rfl rfl rfl ?_; clear he; clear a; intro a he
  refine st he (d_move rfl) rfl rfl rfl ?_; clear he; clear a; intro a he
  refine st he (d_gtr rfl rfl) rfl rfl rfl ?_; clear he; clear a; intro a he
  refine r_nil ?_
  refine c_cond_if he rfl (fun hc5 => ?_) (fun hc5 => ?_)
  · refine c_seq ?_; refine c_region ?_
    refine st he (d_assign rfl) rfl rfl rfl ?_; clear he; clear a; intro a he
    refine r_nil ?_
    refine c_ret ?_
    exact done1 he rfl rfl ⟨by rw [cmpI, if_neg hc4, if_pos hc5], rfl⟩
  refine c_skip ?_
  refine c_seq ?_; refine c_region ?_
  refine st he (d_assign rfl) rfl rfl rfl ?_; clear he; clear a; intro a he
  refine r_nil ?_
  refine c_ret ?_
  exact done1 he rfl rfl ⟨by rw [cmpI, if_neg hc4, if_neg hc5], rfl⟩

/-- the first that is not 0 -/
def orL : List Int → Int
  | [] => 0
  | x :: xs => if x ≠ 0 then x else orL xs

theorem getElem?_drop_cons {α : Type} {l : List α} {i : Nat} {x : α} (h : l[i]? = some x) : l.drop i = x :: l.drop (i + 1) := by
  obtain ⟨hi, e⟩ := List.getElem?_eq_some_iff.1 h
  rw [← e]; exact List.drop_eq_getElem_cons hi

/-- An element that is there. -/
theorem get_of_lt {α : Type} {l : List α} {i : Nat} (h : i < l.length) : ∃ x, l[i]? = some x := ⟨_, List.getElem?_eq_getElem h⟩

/-- cmp.Or -/
theorem f63_c (xs : List Int) (w : World) (v0 : Value) (hV : Vec 1 encI w v0 xs) (hn : xs.length ≤ 4611686018427387904) : Ret Try.prog 63 [v0] w fun v w' => v = iV (orL xs) ∧ w = w' := by
  refine enter Try.func63 rfl rfl fun a he => ?_
  replace he : Env 18 [(0, v0)] a := he
  refine c_seq ?_; refine c_region ?_
  refine st he (d_assign rfl) rfl rfl rfl ?_; clear he; clear a; intro a he
  refine r_nil ?_
  refine c_seq ?_; refine c_region ?_
  refine st he (d_assign rfl) rfl rfl rfl ?_; clear he; clear a; intro a he
  refine r_nil ?_
  refine c_seq ?_
  refine c_seq ?_; refine c_region ?_
  refine st he (d_move rfl) rfl rfl rfl ?_; clear he; clear a; intro a he
  refine st he (d_vlen un46 rfl hV) rfl rfl rfl ?_; clear he; clear a; intro a he
  refine st he (d_move rfl) rfl rfl rfl ?_; clear he; clear a; intro a he
  refine r_nil ?_
  refine c_block ?_
  refine c_loop (fun k a w' => ∃ i : Nat, k = xs.length - i ∧ i ≤ xs.length ∧ w' = w ∧ orL (xs.drop i) = orL xs ∧ Env 18 [(3, iV 0), (6, v0), (7, iV xs.length), (8, iV i)] a) xs.length ⟨0, rfl, by omega, rfl, rfl, he.only _ (by simp [lk])⟩ ?_
  clear he; clear a; intro k a w' ⟨i, hk, hi, hw, hor, he⟩
  subst hw
  refine c_seq ?_; refine c_region ?_
  refine st he (d_lss rfl rfl) rfl rfl rfl ?_; clear he; clear a; intro a he
  refine r_nil ?_
  refine c_seq ?_
  refine c_cond_ifn he rfl (fun hc1 => ?_) (fun hc1 => ?_)
  · refine c_exit rfl ?_
    refine c_seq ?_; refine c_region ?_
    refine st he (d_move rfl) rfl rfl rfl ?_; clear he; clear a; intro a he
    refine st he (d_assign rfl) rfl rfl rfl ?_; clear he; clear a; intro a he
    refine r_nil ?_
    refine c_ret ?_
    have e : i = xs.length := by omega
    rw [e, List.drop_length] at hor
    exact done1 he rfl rfl ⟨by rw [← hor]; rfl, rfl⟩
  refine c_skip ?_
  obtain ⟨x, hx⟩ := get_of_lt (l := xs) (i := i) (by omega)
  obtain ⟨b, o, cap, rfl, hcell⟩ := hV.at hx
  rw [getElem?_drop_cons hx] at hor
  refine c_seq ?_
  refine c_block ?_
  refine c_seq ?_; refine c_region ?_
  refine st he (d_indexs un46 ti3 rfl rfl (by omega)) rfl rfl rfl ?_; clear he; clear a; intro a he
  refine st he (d_load ti3 rfl (hcell 0 (by omega))) rfl rfl rfl ?_; clear he; clear a; intro a he
  refine st he (d_assign rfl) rfl rfl rfl ?_; clear he; clear a; intro a he
  refine r_nil ?_
  refine c_seq ?_; refine c_region ?_
  refine st he (d_move rfl) rfl rfl rfl ?_; clear he; clear a; intro a he
  refine st he (d_move rfl) rfl rfl rfl ?_; clear he; clear a; intro a he
  refine st he (d_neq rfl rfl) rfl rfl rfl ?_; clear he; clear a; intro a he
  refine r_nil ?_
  refine c_cond_if he rfl (fun hc2 => ?_) (fun hc2 => ?_)
  · refine c_seq ?_; refine c_region ?_
    refine st he (d_move rfl) rfl rfl rfl ?_; clear he; clear a; intro a he
    refine st he (d_assign rfl) rfl rfl rfl ?_; clear he; clear a; intro a he
    refine r_nil ?_
    refine c_ret ?_
    exact done1 he rfl rfl ⟨by rw [← hor, orL, if_pos hc2], rfl⟩
  refine c_skip ?_
  refine c_region ?_
  refine st he (d_add rfl rfl (by omega)) rfl rfl rfl ?_; clear he; clear a; intro a he
  refine st he (d_move rfl) rfl rfl rfl ?_; clear he; clear a; intro a he
  refine r_nil ?_
  exact ⟨k - 1, by omega, i + 1, by omega, by omega, rfl, by rw [← hor, orL, if_neg hc2], he.only _ (by simp [lk])⟩

def cmpL : List Int → List Int → Int
  | [], [] => 0
  | [], _ :: _ => -1
  | _ :: _, [] => 1
  | x :: xs, y :: ys => if cmpI x y ≠ 0 then cmpI x y else cmpL xs ys

/-- slices.Compare -/
theorem f64_c (xs ys : List Int) (w : World) (v0 v1 : Value) (hV : Vec 1 encI w v0 xs) (hV' : Vec 1 encI w v1 ys) (hn : xs.length ≤ 4611686018427387904) : Ret Try.prog 64 [v0, v1] w fun v w' => v = iV (cmpL xs ys) ∧ w = w' := by
  refine enter Try.func64 rfl rfl fun a he => ?_
  replace he : Env 36 [(0, v0), (1, v1)] a := he
  refine c_seq ?_; refine c_region ?_
  refine st he (d_assign rfl) rfl rfl rfl ?_; clear he; clear a; intro a he
  refine r_nil ?_
  refine c_seq ?_
  refine c_seq ?_; refine c_region ?_
  refine st he (d_move rfl) rfl rfl rfl ?_; clear he; clear a; intro a he
  refine st he (d_vlen un46 rfl hV) rfl rfl rfl ?_; clear he; clear a; intro a he
  refine st he (d_move rfl) rfl rfl rfl ?_; clear he; clear a; intro a he
  refine r_nil ?_
  refine c_block ?_
  refine c_loop (fun k a w' => ∃ i : Nat, k = xs.length - i ∧ i ≤ xs.length ∧ i ≤ ys.length ∧ w' = w ∧ cmpL (xs.drop i) (ys.drop i) = cmpL xs ys ∧ Env 36 [(0, v0), (1, v1), (9, v0), (10, iV xs.length), (11, iV i)] a) xs.length ⟨0, rfl, by omega, by omega, rfl, rfl, he.only _ (by simp [lk])⟩ ?_
  clear he; clear a; intro k a w' ⟨i, hk, hi, hi', hw, hor, he⟩
  subst hw
  refine c_seq ?_; refine c_region ?_
  refine st he (d_lss rfl rfl) rfl rfl rfl ?_; clear he; clear a; intro a he
  refine r_nil ?_
  refine c_seq ?_
  refine c_cond_ifn he rfl (fun hc1 => ?_) (fun hc1 => ?_)
  · refine c_exit rfl ?_
    have e : i = xs.length := by omega
    rw [e, List.drop_length] at hor
    refine c_seq ?_
    refine c_seq ?_; refine c_region ?_
    refine st he (d_move rfl) rfl rfl rfl ?_; clear he; clear a; intro a he
    refine st he (d_vlen un46 rfl hV) rfl rfl rfl ?_; clear he; clear a; intro a he
    refine st he (d_move rfl) rfl rfl rfl ?_; clear he; clear a; intro a he
    refine st he (d_vlen un46 rfl hV') rfl rfl rfl ?_; clear he; clear a; intro a he
    refine st he (d_lss rfl rfl) rfl rfl rfl ?_; clear he; clear a; intro a he
    refine r_nil ?_
    refine c_cond_if he rfl (fun hc2 => ?_) (fun hc2 => ?_)
    · refine c_seq ?_; refine c_region ?_
      refine st he (d_assign rfl) rfl rfl rfl ?_; clear he; clear a; intro a he
      refine r_nil ?_
      refine c_ret ?_
      refine done1 he rfl rfl ⟨?_, rfl⟩
      rw [← hor]
      obtain ⟨y, hy⟩ := get_of_lt (l := ys) (i := xs.length) (by omega)
      rw [getElem?_drop_cons hy]; rfl
    refine c_skip ?_
    refine c_seq ?_; refine c_region ?_
    refine st he (d_assign rfl) rfl rfl rfl ?_; clear he; clear a; intro a he
    refine r_nil ?_
    refine c_ret ?_
    refine done1 he rfl rfl ⟨?_, rfl⟩
    rw [← hor, List.drop_eq_nil_of_le (by omega)]; rfl
  refine c_skip ?_
  obtain ⟨x, hx⟩ := get_of_lt (l := xs) (i := i) (by omega)
  obtain ⟨b, o, cap, rfl, hcell⟩ := hV.at hx
  rw [getElem?_drop_cons hx] at hor
  refine c_seq ?_
  refine c_block ?_
  refine c_seq ?_; refine c_region ?_
  refine st he (d_move rfl) rfl rfl rfl ?_; clear he; clear a; intro a he
  refine st he (d_indexs un46 ti3 rfl rfl (by omega)) rfl rfl rfl ?_; clear he; clear a; intro a he
  refine st he (d_load ti3 rfl (hcell 0 (by omega))) rfl rfl rfl ?_; clear he; clear a; intro a he
  refine st he (d_assign rfl) rfl rfl rfl ?_; clear he; clear a; intro a he
  refine st he (d_assign rfl) rfl rfl rfl ?_; clear he; clear a; intro a he
  refine r_nil ?_
  refine c_seq ?_
  refine c_seq ?_; refine c_region ?_
  refine st he (d_move rfl) rfl rfl rfl ?_; clear he; clear a; intro a he
  refine st he (d_move rfl) rfl rfl rfl ?_; clear he; clear a; intro a he
  refine st he (d_vlen un46 rfl hV') rfl rfl rfl ?_; clear he; clear a; intro a he
  refine st he (d_geq rfl rfl) rfl rfl rfl ?_; clear he; clear a; intro a he
  refine r_nil ?_
  refine c_cond_if he rfl (fun hc3 => ?_) (fun hc3 => ?_)
  · refine c_seq ?_; refine c_region ?_
    refine st he (d_assign rfl) rfl rfl rfl ?_; clear he; clear a; intro a he
    refine r_nil ?_
    refine c_ret ?_
    refine done1 he rfl rfl ⟨?_, rfl⟩
    rw [← hor, List.drop_eq_nil_of_le (by omega : ys.length ≤ i)]; rfl
  refine c_skip ?_
  obtain ⟨y, hy⟩ := get_of_lt (l := ys) (i := i) (by omega)
  obtain ⟨b', o', cap', rfl, hcell'⟩ := hV'.at hy
  rw [getElem?_drop_cons hy] at hor
  refine c_seq ?_; refine c_region ?_
  refine st he (d_move rfl) rfl rfl rfl ?_; clear he; clear a; intro a he
  refine st he (d_move rfl) rfl rfl rfl ?_; clear he; clear a; intro a he
  refine st he (d_indexs un46 ti3 rfl rfl (by omega)) rfl rfl rfl ?_; clear he; clear a; intro a he
  refine st he (d_load ti3 rfl (hcell' 0 (by omega))) rfl rfl rfl ?_; clear he; clear a; intro a he
  refine st he (d_assign rfl) rfl rfl rfl ?_; clear he; clear a; intro a he
  refine r_nil ?_
  refine c_seq ?_; refine c_region ?_
  refine st he (d_move rfl) rfl rfl rfl ?_; clear he; clear a; intro a he
  refine st he (d_move rfl) rfl rfl rfl ?_; clear he; clear a; intro a he
  refine st_call he rfl rfl rfl rfl rfl ent33 (f33_c _ _ _) ?_; clear he; clear a; intro v1 w1 ⟨hv1, hw1⟩ a he
  subst hv1 hw1
  refine st he (d_assign rfl) rfl rfl rfl ?_; clear he; clear a; intro a he
  refine r_nil ?_
  refine c_seq ?_; refine c_region ?_
  refine st he (d_move rfl) rfl rfl rfl ?_; clear he; clear a; intro a he
  refine st he (d_neq rfl rfl) rfl rfl rfl ?_; clear he; clear a; intro a he
  refine r_nil ?_
  refine c_cond_if he rfl (fun hc4 => ?_) (fun hc4 => ?_)
  · refine c_seq ?_; refine c_region ?_
    refine st he (d_move rfl) rfl rfl rfl ?_; clear he; clear a; intro a he
    refine st he (d_assign rfl) rfl rfl rfl ?_; clear he; clear a; intro a he
    refine r_nil ?_
    refine c_ret ?_
    exact done1 he rfl rfl ⟨by rw [← hor, cmpL, if_pos hc4], rfl⟩
  refine c_skip ?_
  refine c_region ?_
  refine st he (d_add rfl rfl (by omega)) rfl rfl rfl ?_; clear he; clear a; intro a he
  refine st he (d_move rfl) rfl rfl rfl ?_; clear he; clear a; intro a he
  refine r_nil ?_
  exact ⟨k - 1, by omega, i + 1, by omega, by omega, by omega, rfl, by rw [← hor, cmpL, if_neg hc4], he.only _ (by simp [lk])⟩

/-- A row, and how often it is there. -/
abbrev CR := R4 × Nat
def encC (c : CR) : List Value := [iV c.1.1, iV c.1.2.1, iV c.1.2.2.1, iV c.1.2.2.2, iV c.2]
theorem hkC (x : CR) : (encC x).length = 5 := rfl
theorem h1C (x : CR) : ∀ u ∈ encC x, u.oneCell' = true := by simp [encC, Value.oneCell']
def cV (c : CR) : Value := .agg #[iV c.1.1, iV c.1.2.1, iV c.1.2.2.1, iV c.1.2.2.2, iV c.2]

def cmpC (x y : CR) : Int := orL [cmpL (ptL (ptOf x.1)) (ptL (ptOf y.1)), cmpI x.1.2.2.2 y.1.2.2.2]

/-- byRow -/
theorem f52_c (x y : CR) (w : World) : Ret Try.prog 52 [cV x, cV y] w fun v w' => v = iV (cmpC x y) ∧ Only [] w w' := by
  refine enter Try.func52 rfl rfl fun a he => ?_
  replace he : Env 21 [(0, cV x), (1, cV y)] a := he
  refine c_seq ?_; refine c_region ?_
  refine st_box he rfl rfl ?_; clear he; clear a; intro b1 w1 hb1 ho1 hr1 a he
  refine st_box he rfl rfl ?_; clear he; clear a; intro b2 w2 hb2 ho2 hr2 a he
  have hr1' := hr1.keep0 ho2
  refine st he (d_assign rfl) rfl rfl rfl ?_; clear he; clear a; intro a he
  refine r_nil ?_
  refine c_seq ?_; refine dr_start mixed (fun w => Row w b1 (cV x).cells 79 ∧ Row w b2 (cV y).cells 79) rfl ?_; intro w3 ho3 hk3 hz3
  have hS : Row w3 b1 (cV x).cells 79 ∧ Row w3 b2 (cV y).cells 79 := ⟨hr1'.keep0 ho3, hr2.keep0 ho3⟩
  refine dr_take he (i := 0) rfl (by kernel_rfl) (by kernel_rfl) (by kernel_rfl) rfl rfl rfl hS (fun w hS => d_fieldr fa79_0 rfl) ?_; clear he; clear a; intro a he
  refine dr_take he (i := 1) rfl (by kernel_rfl) (by kernel_rfl) (by kernel_rfl) rfl rfl rfl hS (fun w hS => d_fieldr fa24_0 rfl) ?_; clear he; clear a; intro a he
  refine dr_take he (i := 2) rfl (by kernel_rfl) (by kernel_rfl) (by kernel_rfl) rfl rfl rfl hS (fun w hS => d_slice_arr un22 ti3 rfl) ?_; clear he; clear a; intro a he
  refine dr_take he (i := 3) rfl (by kernel_rfl) (by kernel_rfl) (by kernel_rfl) rfl rfl rfl hS (fun w hS => d_fieldr fa79_0 rfl) ?_; clear he; clear a; intro a he
  refine dr_take he (i := 4) rfl (by kernel_rfl) (by kernel_rfl) (by kernel_rfl) rfl rfl rfl hS (fun w hS => d_fieldr fa24_0 rfl) ?_; clear he; clear a; intro a he
  refine dr_take he (i := 5) rfl (by kernel_rfl) (by kernel_rfl) (by kernel_rfl) rfl rfl rfl hS (fun w hS => d_slice_arr un22 ti3 rfl) ?_; clear he; clear a; intro a he
  refine dr_take he (i := 7) rfl (by kernel_rfl) (by kernel_rfl) (by kernel_rfl) rfl rfl rfl hS (fun w hS => d_fieldr fa79_0 rfl) ?_; clear he; clear a; intro a he
  refine dr_take he (i := 8) rfl (by kernel_rfl) (by kernel_rfl) (by kernel_rfl) rfl rfl rfl hS (fun w hS => d_fieldr fa24_1 rfl) ?_; clear he; clear a; intro a he
  refine dr_take he (i := 9) rfl (by kernel_rfl) (by kernel_rfl) (by kernel_rfl) rfl rfl rfl hS (fun w hS => d_loadr ti3 rfl hS.1 rfl) ?_; clear he; clear a; intro a he
  refine dr_take he (i := 10) rfl (by kernel_rfl) (by kernel_rfl) (by kernel_rfl) rfl rfl rfl hS (fun w hS => d_fieldr fa79_0 rfl) ?_; clear he; clear a; intro a he
  refine dr_take he (i := 11) rfl (by kernel_rfl) (by kernel_rfl) (by kernel_rfl) rfl rfl rfl hS (fun w hS => d_fieldr fa24_1 rfl) ?_; clear he; clear a; intro a he
  refine dr_take he (i := 12) rfl (by kernel_rfl) (by kernel_rfl) (by kernel_rfl) rfl rfl rfl hS (fun w hS => d_loadr ti3 rfl hS.2 rfl) ?_; clear he; clear a; intro a he
  have hv (z : CR) (w : World) (b : Nat) (h : Row w b (cV z).cells 79) : Vec 1 encI w (.slice (some ⟨b, 0 + 0 + 0, none⟩) 3 3) (ptL (ptOf z.1)) :=
    Vec.of_row h _ _ _ rfl (Nat.le_refl 3) fun i n hi j hj => by
      match i, hi with
      | 0, hi => simp only [ptL, ptOf, List.getElem?_cons_zero, Option.some.injEq] at hi; subst hi; obtain rfl : j = 0 := by omega
                 rfl
      | 1, hi => simp only [ptL, ptOf, List.getElem?_cons_zero, List.getElem?_cons_succ, Option.some.injEq] at hi; subst hi; obtain rfl : j = 0 := by omega
                 rfl
      | 2, hi => simp only [ptL, ptOf, List.getElem?_cons_zero, List.getElem?_cons_succ, Option.some.injEq] at hi; subst hi; obtain rfl : j = 0 := by omega
                 rfl
  refine dr_one (i := 6) rfl (by kernel_rfl) ?_; intro K hK
  refine st_call he rfl rfl rfl rfl rfl ent64 (f64_c _ _ _ _ _ (hv x _ _ hS.1) (hv y _ _ hS.2) (by simp [ptL])) ?_; clear he; clear a; intro v4 w4 ⟨hv4, hw4⟩ a he
  subst hv4 hw4
  refine dr_end (hK _ _ (hS) ?_); clear hK; clear K
  refine dr_one (i := 13) rfl (by kernel_rfl) ?_; intro K hK
  refine st_call he rfl rfl rfl rfl rfl ent33 (f33_c _ _ _) ?_; clear he; clear a; intro v4 w4 ⟨hv4, hw4⟩ a he
  subst hv4 hw4
  refine dr_end (hK _ _ (hS) ?_); clear hK; clear K
  refine dr_one (i := 14) rfl (by kernel_rfl) ?_; intro K hK
  refine st_buildSlice he (cs := #[iV (cmpL (ptL (ptOf x.1)) (ptL (ptOf y.1))), iV (cmpI x.1.2.2.2 y.1.2.2.2)]) (E := 3) rfl rfl (fun _ => by kernel_rfl) rfl ?_; clear he; clear a; intro b6 w6 hb6 ho6 hr6 a he
  have hS := And.intro (hS.1.keep0 ho6) (hS.2.keep0 ho6)
  refine dr_end (hK _ _ (hS) ?_); clear hK; clear K
  refine dr_one (i := 15) rfl (by kernel_rfl) ?_; intro K hK
  refine st_call he rfl rfl rfl rfl rfl ent63 (f63_c [cmpL (ptL (ptOf x.1)) (ptL (ptOf y.1)), cmpI x.1.2.2.2 y.1.2.2.2] _ _ (hr6.vec hkI _ 2 2 rfl (Nat.le_refl 2) rfl) (by simp)) ?_; clear he; clear a; intro v7 w7 ⟨hv7, hw7⟩ a he
  subst hv7 hw7
  refine dr_end (hK _ _ (hS) ?_); clear hK; clear K
  refine dr_take he (i := 16) rfl (by kernel_rfl) (by kernel_rfl) (by kernel_rfl) rfl rfl rfl hS (fun w hS => d_assign rfl) ?_; clear he; clear a; intro a he
  refine dr_done (by kernel_rfl) ?_
  refine c_ret ?_
  exact done1 he rfl rfl ⟨rfl, ((ho1.and0 ho2).and0 ho3).and0 ho6⟩

end Go.Proofs.Learn
