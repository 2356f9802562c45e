import Derived.Test.YtiimggpjnjhkcaaV5
import Derived.Test.YtiimggpjnjhkcaaFacts
namespace Go.Proofs.Learn
open Go.V

abbrev P3 := Int × Int × Int
abbrev R4 := Int × Int × Int × Int
def encRow (r : R4) : List Value := [.int .i64 r.1, .int .i64 r.2.1, .int .i64 r.2.2.1, .int .i64 r.2.2.2]
def rowV (r : R4) : Value := .agg #[.int .i64 r.1, .int .i64 r.2.1, .int .i64 r.2.2.1, .int .i64 r.2.2.2]
def ptV (x : P3) : Value := .agg #[.int .i64 x.1, .int .i64 x.2.1, .int .i64 x.2.2]
def ptOf (r : R4) : P3 := (r.1, r.2.1, r.2.2.1)
def inX (n : Int) : Bool := decide (-1000 ≤ n) && decide (n ≤ 1000)
def okPt (x : P3) : Bool := inX x.1 && inX x.2.1 && inX x.2.2
def okRow (r : R4) : Bool := okPt (ptOf r) && (decide (0 ≤ r.2.2.2) && decide (r.2.2.2 < 8))

/-- within -/
theorem f60_c (n lo hi : Int) (w : World) : Ret Try.prog 60 [.int .i64 n, .int .i64 lo, .int .i64 hi] w fun v w' => v = .bool (decide (lo ≤ n) && decide (n ≤ hi)) ∧ w = w' := by
  refine enter Try.func60 rfl rfl fun a he => ?_
  replace he : Env 15 [(0, .int .i64 n), (1, .int .i64 lo), (2, .int .i64 hi)] a := he
  refine c_seq ?_; refine c_region ?_
  refine st he (d_assign rfl) rfl rfl rfl ?_; clear he; clear a; intro a he
  refine r_nil ?_
  refine c_seq ?_; refine c_region ?_
  refine st he (d_move rfl) rfl rfl rfl ?_; clear he; clear a; intro a he
  refine st he (d_move rfl) rfl rfl rfl ?_; clear he; clear a; intro a he
  refine st he (d_geq rfl rfl) rfl rfl rfl ?_; clear he; clear a; intro a he
  refine st he (d_move rfl) rfl rfl rfl ?_; clear he; clear a; intro a he
  refine st_gd he rfl rfl rfl rfl (fun hg => by rw [hg]; exact d_move rfl) rfl rfl ?_; clear he; clear a; intro a he
  refine st_gd he rfl rfl rfl rfl (fun hg => by rw [hg]; exact d_move rfl) rfl rfl ?_; clear he; clear a; intro a he
  refine st_gd he rfl rfl rfl rfl (fun hg => by rw [hg]; exact d_leq rfl rfl) rfl rfl ?_; clear he; clear a; intro a he
  refine st he (d_and rfl rfl) rfl rfl rfl ?_; clear he; clear a; intro a he
  refine st he (d_assign rfl) rfl rfl rfl ?_; clear he; clear a; intro a he
  refine r_nil ?_
  refine c_ret ?_
  exact done1 he rfl rfl ⟨rfl, rfl⟩

def ptL (x : P3) : List Int := [x.1, x.2.1, x.2.2]

theorem ptV_at (x : P3) (i : Nat) (h : i < 3) : ∃ n, (ptL x)[i]? = some n ∧ (#[Value.int .i64 x.1, .int .i64 x.2.1, .int .i64 x.2.2] : Array Value)[i]? = some (.int .i64 n) := by
  match i, h with
  | 0, _ => exact ⟨_, rfl, rfl⟩
  | 1, _ => exact ⟨_, rfl, rfl⟩
  | 2, _ => exact ⟨_, rfl, rfl⟩

theorem okPt_all (x : P3) : okPt x = (ptL x).all inX := by simp [okPt, ptL, Bool.and_assoc]

theorem all_of_takes {l : List Int} {p : Int → Bool} (h : ∀ (i : Nat) n, l[i]? = some n → p n = true) : l.all p = true := by
  rw [List.all_eq_true]
  intro n hn
  obtain ⟨i, hi, e⟩ := List.getElem_of_mem hn
  exact h i n (by rw [List.getElem?_eq_getElem hi, e])

/-- inside -/
theorem f30_c (x : P3) (w : World) : Ret Try.prog 30 [ptV x] w fun v w' => v = .bool (okPt x) ∧ Only [] w w' := by
  refine enter Try.func30 rfl rfl fun a he => ?_
  replace he : Env 16 [(0, ptV x)] a := he
  refine c_seq ?_; refine c_region ?_
  refine st_box he rfl rfl ?_; clear he; clear a; intro b1 w1 hb1 ho1 hr1 a he
  refine st he (d_assign rfl) rfl rfl rfl ?_; clear he; clear a; intro a he
  refine r_nil ?_
  refine c_seq ?_
  refine c_seq ?_; refine c_region ?_
  refine st he (d_loadkr [_, _, _] ti22 rfl hr1 rfl rfl) rfl rfl rfl ?_; clear he; clear a; intro a he
  refine st he (d_move rfl) rfl rfl rfl ?_; clear he; clear a; intro a he
  refine r_nil ?_
  refine c_block ?_
  refine c_loop (fun k a w' => ∃ i : Nat, k = 3 - i ∧ i ≤ 3 ∧ w' = w1 ∧ (∀ j n, j < i → (ptL x)[j]? = some n → inX n = true) ∧ Env 16 [(5, ptV x), (6, .int .i64 i)] a) 3 ⟨0, rfl, by omega, rfl, by omega, he.only _ (by simp [lk, ptV])⟩ ?_
  clear he; clear a; intro k a w' ⟨i, hk, hi, hw, hall, he⟩
  subst hw
  refine c_seq ?_; refine c_region ?_
  refine st he (d_lss rfl rfl) rfl rfl rfl ?_; clear he; clear a; intro a he
  refine r_nil ?_
  refine c_seq ?_
  refine c_cond_ifn he rfl (fun hc1 => ?_) (fun hc1 => ?_)
  · refine c_exit rfl ?_
    refine c_seq ?_; refine c_region ?_
    refine st he (d_assign rfl) rfl rfl rfl ?_; clear he; clear a; intro a he
    refine r_nil ?_
    refine c_ret ?_
    refine done1 he rfl rfl ⟨?_, ho1⟩
    rw [okPt_all]
    have e : (ptL x).all inX = true := all_of_takes fun j n hj => hall j n (by have := (List.getElem?_eq_some_iff.1 hj).1; simp [ptL] at this; omega) hj
    rw [e]
  refine c_skip ?_
  obtain ⟨n, hn, hv⟩ := ptV_at x i (by omega)
  refine c_seq ?_
  refine c_block ?_
  refine c_seq ?_; refine c_region ?_
  refine st he (d_index un22 ti3 rfl rfl (by omega) (Int.toNat_natCast i) hv) rfl rfl rfl ?_; clear he; clear a; intro a he
  refine st he (d_assign rfl) rfl rfl rfl ?_; clear he; clear a; intro a he
  refine r_nil ?_
  refine c_seq ?_; refine c_region ?_
  refine st he (d_move rfl) rfl rfl rfl ?_; clear he; clear a; intro a he
  refine st he (d_lss rfl rfl) rfl rfl rfl ?_; clear he; clear a; intro a he
  refine st he (d_move rfl) rfl rfl rfl ?_; clear he; clear a; intro a he
  refine st_gd he rfl rfl rfl rfl (fun hg => by rw [hg]; exact d_move rfl) rfl rfl ?_; clear he; clear a; intro a he
  refine st_gd he rfl rfl rfl rfl (fun hg => by rw [hg]; exact d_gtr rfl rfl) rfl rfl ?_; clear he; clear a; intro a he
  refine st he (d_or rfl rfl) rfl rfl rfl ?_; clear he; clear a; intro a he
  refine r_nil ?_
  refine c_cond he rfl (fun hc2 => ?_) (fun hc2 => ?_)
  · refine c_seq ?_; refine c_region ?_
    refine st he (d_assign rfl) rfl rfl rfl ?_; clear he; clear a; intro a he
    refine r_nil ?_
    refine c_ret ?_
    refine done1 he rfl rfl ⟨?_, ho1⟩
    rw [okPt_all]
    have e : (ptL x).all inX = false := by
      rw [List.all_eq_false]
      refine ⟨n, List.mem_of_getElem? hn, ?_⟩
      simp only [inX, Bool.and_eq_true, decide_eq_true_eq, Bool.or_eq_true] at hc2 ⊢
      omega
    rw [e]
  refine c_skip ?_
  refine c_region ?_
  refine st he (d_add rfl rfl (by omega)) rfl rfl rfl ?_; clear he; clear a; intro a he
  refine st he (d_move rfl) rfl rfl rfl ?_; clear he; clear a; intro a he
  refine r_nil ?_
  refine ⟨k - 1, by omega, i + 1, by omega, by omega, rfl, fun j m hj hm => ?_, he.only _ (by simp [lk])⟩
  by_cases e : j = i
  · subst e
    rw [hn] at hm
    simp only [Option.some.injEq] at hm
    subst hm
    simp only [inX, Bool.and_eq_true, decide_eq_true_eq, Bool.or_eq_false_iff, decide_eq_false_iff_not] at hc2 ⊢
    omega
  · exact hall j m (by omega) hm

end Go.Proofs.Learn
