import Derived.Test.YtiimggpjnjhkcaaVA
import Derived.Test.YtiimggpjnjhkcaaH
namespace Go.Proofs.Learn
open Go.V

/-- tell: a tally that lies in block tb is told of rows; 'cells i' is what it holds behind i of them. -/
theorem f40_c {w : World} {v : Value} {xs : List CR} {t tb f TT : Nat} {cells : Nat → Array Value} (hV : Vec 5 encC w v xs) (hr : Row w tb (cells 0) TT) (hne : v.ownBlock ≠ some tb) (hl : xs.length ≤ 500)
    (hm : ∀ w, (method (Try.prog.types.size + Made.depth) t (ptrV tb) "amnesty/learn.add").run Try.prog w = .ok (f, ptrV tb) w) (hent : ∀ args w, (callFunc f args).run Try.prog w = .ok (.enter f args) w)
    (hadd : ∀ (i : Nat) c, xs[i]? = some c → ∀ w, Row w tb (cells i) TT → Ret Try.prog f [ptrV tb, rowV c.1, natV c.2] w fun _ w' => Row w' tb (cells (i + 1)) TT ∧ Only [tb] w w') :
    Ret Try.prog 40 [.iface t (ptrV tb), v] w fun _ w' => Row w' tb (cells xs.length) TT ∧ Only [tb] w w' := by
  refine enter Try.func40 rfl rfl fun a he => ?_
  replace he : Env 19 [(0, .iface t (ptrV tb)), (1, v)] a := he
  refine c_seq ?_; refine c_region ?_
  refine st he (d_move rfl) rfl rfl rfl ?_; clear he; clear a; intro a he
  refine st he (d_vlen un75 rfl hV) rfl rfl rfl ?_; clear he; clear a; intro a he
  refine st he (d_move rfl) rfl rfl rfl ?_; clear he; clear a; intro a he
  refine r_nil ?_
  refine c_block ?_
  refine c_loop (fun k a w' => ∃ i : Nat, k = xs.length - i ∧ i ≤ xs.length ∧ Row w' tb (cells i) TT ∧ Only [tb] w w' ∧ Env 19 [(0, .iface t (ptrV tb)), (6, v), (7, iV xs.length), (8, iV i)] a) xs.length ⟨0, rfl, by omega, hr, Only.refl _ _, he.only _ (by simp [lk])⟩ ?_
  clear he; clear a; intro k a w1 ⟨i, hk, hi, hr1, ho1, he⟩
  refine c_seq ?_; refine c_region ?_
  refine st he (d_lss rfl rfl) rfl rfl rfl ?_; clear he; clear a; intro a he
  refine r_nil ?_
  refine c_seq ?_
  refine c_cond_ifn he rfl (fun hc1 => ?_) (fun hc1 => ?_)
  · refine c_exit rfl ?_
    have e : i = xs.length := by omega
    exact done0 he rfl ⟨e ▸ hr1, ho1⟩
  refine c_skip ?_
  obtain ⟨c, hc⟩ := get_of_lt (l := xs) (i := i) (by omega)
  obtain ⟨gb, go, gcap, hve, hcell⟩ := (hV.keep hkC ho1 (fun b hb => by simp; intro e; subst e; exact hne hb)).at hc
  subst hve
  refine c_seq ?_
  refine c_block ?_
  refine c_seq ?_; refine c_region ?_
  refine st he (d_indexs un75 ti79 rfl rfl (by omega)) rfl rfl rfl ?_; clear he; clear a; intro a he
  refine st he (d_loadk (encC c) ti79 rfl rfl (fun j hj => by rw [Int.toNat_natCast]; exact hcell j hj)) rfl rfl rfl ?_; clear he; clear a; intro a he
  refine st_alloc he (z := cV ((0, 0, 0, 0), 0)) (fun _ => by kernel_rfl) rfl ?_; clear he; clear a; intro b5 w5 hb5 ho5 hr5 a he   -- t5 = alloc T79 ; learn.go:111
  refine st_store he (encC c) ti79 rfl rfl hr5 rfl rfl (Nat.le_of_ble_eq_true rfl) rfl ?_; clear he; clear a; intro w6 ho6 hr6 hs6 a he
  refine r_nil ?_
  have hr6' : Row w6 b5 (encC c).toArray 79 := hr6
  have ho16 : Only [] w1 w6 := ho5.and ho6 (by simp; omega)
  refine c_region ?_
  refine st he (d_move rfl) rfl rfl rfl ?_; clear he; clear a; intro a he
  refine st he (d_fieldr fa79_0 rfl) rfl rfl rfl ?_; clear he; clear a; intro a he
  refine st he (d_loadkr [_, _, _, _] ti24 rfl hr6' rfl rfl) rfl rfl rfl ?_; clear he; clear a; intro a he
  refine st he (d_fieldr fa79_1 rfl) rfl rfl rfl ?_; clear he; clear a; intro a he
  refine st he (d_loadr ti3 rfl hr6' rfl) rfl rfl rfl ?_; clear he; clear a; intro a he
  refine st_invoke he rfl rfl rfl rfl rfl hm rfl hent (hadd i c hc w6 (hr1.keep0 ho16)) ?_; clear he; clear a; intro v7 w7 ⟨hr7, ho7⟩ a he   -- t17 = call invoke t12."amnesty/learn.add"(t14,t16) T24,3 ; learn.go:112
  refine r_nil ?_
  refine c_region ?_
  refine st he (d_add rfl rfl (by omega)) rfl rfl rfl ?_; clear he; clear a; intro a he
  refine st he (d_move rfl) rfl rfl rfl ?_; clear he; clear a; intro a he
  refine r_nil ?_
  exact ⟨xs.length - (i + 1), by omega, i + 1, rfl, by omega, hr7, (ho1.and0 ho16).trans ho7, he.only _ (by simp [lk])⟩

/-! ## sums -/
/-- n, x, y, xx, xy -/
abbrev S5 := Int × Int × Int × Int × Int
def pick3 (x : P3) (i : Nat) : Int := (ptL x).getD i 0
def addS (by_ of_ : Nat) (s : S5) (c : CR) : S5 :=
  (s.1 + c.2, s.2.1 + c.2 * pick3 (ptOf c.1) by_, s.2.2.1 + c.2 * pick3 (ptOf c.1) of_, s.2.2.2.1 + c.2 * pick3 (ptOf c.1) by_ * pick3 (ptOf c.1) by_, s.2.2.2.2 + c.2 * pick3 (ptOf c.1) by_ * pick3 (ptOf c.1) of_)
def sumsA (by_ of_ : Nat) (s : S5) : Array Value := #[iV by_, iV of_, iV s.1, iV s.2.1, iV s.2.2.1, iV s.2.2.2.1, iV s.2.2.2.2]

theorem row_x (r : R4) (i : Nat) (h : i < 3) : (rowV r).cells[0 + 0 + (i : Int).toNat * 1]? = some (iV (pick3 (ptOf r) i)) := by
  match i, h with
  | 0, _ => rfl
  | 1, _ => rfl
  | 2, _ => rfl

/-- sums.add -/
theorem f113_c (by_ of_ : Nat) (hby : by_ < 3) (hof : of_ < 3) (s : S5) (c : CR) (tb : Nat) (w : World) (hr : Row w tb (sumsA by_ of_ s) 103)
    (hx : -1000 ≤ pick3 (ptOf c.1) by_ ∧ pick3 (ptOf c.1) by_ ≤ 1000) (hy : -1000 ≤ pick3 (ptOf c.1) of_ ∧ pick3 (ptOf c.1) of_ ≤ 1000) (hn : c.2 ≤ 500)
    (h1 : -1000000000000 ≤ s.1 ∧ s.1 ≤ 1000000000000) (h2 : -1000000000000 ≤ s.2.1 ∧ s.2.1 ≤ 1000000000000) (h3 : -1000000000000 ≤ s.2.2.1 ∧ s.2.2.1 ≤ 1000000000000) (h4 : -1000000000000 ≤ s.2.2.2.1 ∧ s.2.2.2.1 ≤ 1000000000000) (h5 : -1000000000000 ≤ s.2.2.2.2 ∧ s.2.2.2.2 ≤ 1000000000000) :
    Ret Try.prog 113 [ptrV tb, rowV c.1, natV c.2] w fun _ w' => Row w' tb (sumsA by_ of_ (addS by_ of_ s c)) 103 ∧ Only [tb] w w' := by
  refine enter Try.func113 rfl rfl fun a he => ?_
  replace he : Env 76 [(0, ptrV tb), (1, rowV c.1), (2, natV c.2)] a := he
  have bx := row_x c.1 by_ hby
  have bo := row_x c.1 of_ hof
  generalize hxe : pick3 (ptOf c.1) by_ = x at *
  generalize hye : pick3 (ptOf c.1) of_ = y at *
  obtain ⟨sn, sx, sy, sxx, sxy⟩ := s
  simp only at h1 h2 h3 h4 h5
  have hnx : -500000 ≤ (c.2 : Int) * x ∧ (c.2 : Int) * x ≤ 500000 := by
    constructor
    · have := Int.mul_le_mul_of_nonneg_left hx.1 (show (0 : Int) ≤ c.2 by omega); omega
    · have := Int.mul_le_mul_of_nonneg_left hx.2 (show (0 : Int) ≤ c.2 by omega); omega
  have hny : -500000 ≤ (c.2 : Int) * y ∧ (c.2 : Int) * y ≤ 500000 := by
    constructor
    · have := Int.mul_le_mul_of_nonneg_left hy.1 (show (0 : Int) ≤ c.2 by omega); omega
    · have := Int.mul_le_mul_of_nonneg_left hy.2 (show (0 : Int) ≤ c.2 by omega); omega
  have big : ∀ (u v : Int), -500000 ≤ u ∧ u ≤ 500000 → -1000 ≤ v ∧ v ≤ 1000 → -500000000 ≤ u * v ∧ u * v ≤ 500000000 := by
    intro u v hu hv
    have a1 := Int.mul_nonneg (show 0 ≤ u + 500000 by omega) (show 0 ≤ v + 1000 by omega)
    have a2 := Int.mul_nonneg (show 0 ≤ 500000 - u by omega) (show 0 ≤ 1000 - v by omega)
    have a3 := Int.mul_nonneg (show 0 ≤ u + 500000 by omega) (show 0 ≤ 1000 - v by omega)
    have a4 := Int.mul_nonneg (show 0 ≤ 500000 - u by omega) (show 0 ≤ v + 1000 by omega)
    simp only [Int.add_mul, Int.mul_add, Int.sub_mul, Int.mul_sub] at a1 a2 a3 a4
    omega
  have hxx := big _ _ hnx hx
  have hxy := big _ _ hnx hy
  refine c_seq ?_; refine c_region ?_
  refine st_box he rfl rfl ?_; clear he; clear a; intro b1 w1 hb1 ho1 hr1 a he
  refine r_nil ?_
  have hne : tb ≠ b1 := fun e => by have := hr.lt; omega
  have hr1' := hr.keep0 ho1
  refine c_seq ?_; refine dr_start mixed (fun w => Row w b1 (rowV c.1).cells 24 ∧ Row w tb (sumsA by_ of_ (sn, sx, sy, sxx, sxy)) 103) rfl ?_; intro w2 ho2 hk2 hz2
  have hS : Row w2 b1 (rowV c.1).cells 24 ∧ Row w2 tb (sumsA by_ of_ (sn, sx, sy, sxx, sxy)) 103 := ⟨hr1.keep0 ho2, hr1'.keep0 ho2⟩
  refine dr_take he (i := 0) rfl (by kernel_rfl) (by kernel_rfl) (by kernel_rfl) rfl rfl rfl hS (fun w hS => d_move rfl) ?_; clear he; clear a; intro a he
  refine dr_take he (i := 1) rfl (by kernel_rfl) (by kernel_rfl) (by kernel_rfl) rfl rfl rfl hS (fun w hS => d_move rfl) ?_; clear he; clear a; intro a he
  refine dr_take he (i := 2) rfl (by kernel_rfl) (by kernel_rfl) (by kernel_rfl) rfl rfl rfl hS (fun w hS => d_nilCheck rfl) ?_; clear he; clear a; intro a he
  refine dr_take he (i := 3) rfl (by kernel_rfl) (by kernel_rfl) (by kernel_rfl) rfl rfl rfl hS (fun w hS => d_fieldr fa103_0 rfl) ?_; clear he; clear a; intro a he
  refine dr_take he (i := 4) rfl (by kernel_rfl) (by kernel_rfl) (by kernel_rfl) rfl rfl rfl hS (fun w hS => d_loadr ti3 rfl hS.2 rfl) ?_; clear he; clear a; intro a he
  refine dr_take he (i := 5) rfl (by kernel_rfl) (by kernel_rfl) (by kernel_rfl) rfl rfl rfl hS (fun w hS => d_fieldr fa24_0 rfl) ?_; clear he; clear a; intro a he
  refine dr_take he (i := 6) rfl (by kernel_rfl) (by kernel_rfl) (by kernel_rfl) rfl rfl rfl hS (fun w hS => d_indexa (j := (by_ : Int)) un22 ti3 rfl rfl (by omega)) ?_; clear he; clear a; intro a he
  refine dr_take he (i := 7) rfl (by kernel_rfl) (by kernel_rfl) (by kernel_rfl) rfl rfl rfl hS (fun w hS => d_loadr ti3 rfl hS.1 bx) ?_; clear he; clear a; intro a he
  refine dr_take he (i := 8) rfl (by kernel_rfl) (by kernel_rfl) (by kernel_rfl) rfl rfl rfl hS (fun w hS => d_move rfl) ?_; clear he; clear a; intro a he
  refine dr_take he (i := 9) rfl (by kernel_rfl) (by kernel_rfl) (by kernel_rfl) rfl rfl rfl hS (fun w hS => d_nilCheck rfl) ?_; clear he; clear a; intro a he
  refine dr_take he (i := 10) rfl (by kernel_rfl) (by kernel_rfl) (by kernel_rfl) rfl rfl rfl hS (fun w hS => d_fieldr fa103_1 rfl) ?_; clear he; clear a; intro a he
  refine dr_take he (i := 11) rfl (by kernel_rfl) (by kernel_rfl) (by kernel_rfl) rfl rfl rfl hS (fun w hS => d_loadr ti3 rfl hS.2 rfl) ?_; clear he; clear a; intro a he
  refine dr_take he (i := 12) rfl (by kernel_rfl) (by kernel_rfl) (by kernel_rfl) rfl rfl rfl hS (fun w hS => d_fieldr fa24_0 rfl) ?_; clear he; clear a; intro a he
  refine dr_take he (i := 13) rfl (by kernel_rfl) (by kernel_rfl) (by kernel_rfl) rfl rfl rfl hS (fun w hS => d_indexa (j := (of_ : Int)) un22 ti3 rfl rfl (by omega)) ?_; clear he; clear a; intro a he
  refine dr_take he (i := 14) rfl (by kernel_rfl) (by kernel_rfl) (by kernel_rfl) rfl rfl rfl hS (fun w hS => d_loadr ti3 rfl hS.1 bo) ?_; clear he; clear a; intro a he
  refine dr_take he (i := 15) rfl (by kernel_rfl) (by kernel_rfl) (by kernel_rfl) rfl rfl rfl hS (fun w hS => d_assign rfl) ?_; clear he; clear a; intro a he
  refine dr_take he (i := 16) rfl (by kernel_rfl) (by kernel_rfl) (by kernel_rfl) rfl rfl rfl hS (fun w hS => d_assign rfl) ?_; clear he; clear a; intro a he
  refine dr_take he (i := 17) rfl (by kernel_rfl) (by kernel_rfl) (by kernel_rfl) rfl rfl rfl hS (fun w hS => d_assign rfl) ?_; clear he; clear a; intro a he
  refine dr_done (by kernel_rfl) ?_
  have hs2 := hS.2
  clear hr hr1'
  refine c_seq ?_; refine c_region ?_
  refine st he (d_move rfl) rfl rfl rfl ?_; clear he; clear a; intro a he
  refine st he (d_nilCheck rfl) rfl rfl rfl ?_; clear he; clear a; intro a he
  refine st he (d_fieldr fa103_2 rfl) rfl rfl rfl ?_; clear he; clear a; intro a he
  refine st he (d_loadr ti2 rfl hs2 (v := iV sn) rfl) rfl rfl rfl ?_; clear he; clear a; intro a he
  refine st he (d_move rfl) rfl rfl rfl ?_; clear he; clear a; intro a he
  refine st he (d_add (n := (c.2 : Int)) rfl rfl (by omega)) rfl rfl rfl ?_; clear he; clear a; intro a he
  refine st he (d_nilCheck rfl) rfl rfl rfl ?_; clear he; clear a; intro a he
  refine st he (d_fieldr fa103_2 rfl) rfl rfl rfl ?_; clear he; clear a; intro a he
  refine st_store he [iV (sn + c.2)] ti2 rfl rfl hs2 rfl rfl (Nat.le_of_ble_eq_true rfl) rfl ?_; clear he; clear a; intro w3 ho3 hr3 hs3 a he
  refine r_nil ?_
  refine c_seq ?_; refine c_region ?_
  refine st he (d_move rfl) rfl rfl rfl ?_; clear he; clear a; intro a he
  refine st he (d_nilCheck rfl) rfl rfl rfl ?_; clear he; clear a; intro a he
  refine st he (d_fieldr fa103_3 rfl) rfl rfl rfl ?_; clear he; clear a; intro a he
  refine st he (d_loadr ti2 rfl hr3 (v := iV sx) rfl) rfl rfl rfl ?_; clear he; clear a; intro a he
  refine st he (d_move rfl) rfl rfl rfl ?_; clear he; clear a; intro a he
  refine st he (d_move rfl) rfl rfl rfl ?_; clear he; clear a; intro a he
  refine st he (d_mul (m := (c.2 : Int)) (n := x) rfl rfl (by omega)) rfl rfl rfl ?_; clear he; clear a; intro a he
  refine st he (d_add rfl rfl (by omega)) rfl rfl rfl ?_; clear he; clear a; intro a he
  refine st he (d_nilCheck rfl) rfl rfl rfl ?_; clear he; clear a; intro a he
  refine st he (d_fieldr fa103_3 rfl) rfl rfl rfl ?_; clear he; clear a; intro a he
  refine st_store he [iV (sx + c.2 * x)] ti2 rfl rfl hr3 rfl rfl (Nat.le_of_ble_eq_true rfl) rfl ?_; clear he; clear a; intro w4 ho4 hr4 hs4 a he
  refine r_nil ?_
  refine c_seq ?_; refine c_region ?_
  refine st he (d_move rfl) rfl rfl rfl ?_; clear he; clear a; intro a he
  refine st he (d_nilCheck rfl) rfl rfl rfl ?_; clear he; clear a; intro a he
  refine st he (d_fieldr fa103_4 rfl) rfl rfl rfl ?_; clear he; clear a; intro a he
  refine st he (d_loadr ti2 rfl hr4 (v := iV sy) rfl) rfl rfl rfl ?_; clear he; clear a; intro a he
  refine st he (d_move rfl) rfl rfl rfl ?_; clear he; clear a; intro a he
  refine st he (d_move rfl) rfl rfl rfl ?_; clear he; clear a; intro a he
  refine st he (d_mul (m := (c.2 : Int)) (n := y) rfl rfl (by omega)) rfl rfl rfl ?_; clear he; clear a; intro a he
  refine st he (d_add rfl rfl (by omega)) rfl rfl rfl ?_; clear he; clear a; intro a he
  refine st he (d_nilCheck rfl) rfl rfl rfl ?_; clear he; clear a; intro a he
  refine st he (d_fieldr fa103_4 rfl) rfl rfl rfl ?_; clear he; clear a; intro a he
  refine st_store he [iV (sy + c.2 * y)] ti2 rfl rfl hr4 rfl rfl (Nat.le_of_ble_eq_true rfl) rfl ?_; clear he; clear a; intro w5 ho5 hr5 hs5 a he
  refine r_nil ?_
  refine c_seq ?_; refine c_region ?_
  refine st he (d_move rfl) rfl rfl rfl ?_; clear he; clear a; intro a he
  refine st he (d_nilCheck rfl) rfl rfl rfl ?_; clear he; clear a; intro a he
  refine st he (d_fieldr fa103_5 rfl) rfl rfl rfl ?_; clear he; clear a; intro a he
  refine st he (d_loadr ti2 rfl hr5 (v := iV sxx) rfl) rfl rfl rfl ?_; clear he; clear a; intro a he
  refine st he (d_move rfl) rfl rfl rfl ?_; clear he; clear a; intro a he
  refine st he (d_move rfl) rfl rfl rfl ?_; clear he; clear a; intro a he
  refine st he (d_mul (m := (c.2 : Int)) (n := x) rfl rfl (by omega)) rfl rfl rfl ?_; clear he; clear a; intro a he
  refine st he (d_move rfl) rfl rfl rfl ?_; clear he; clear a; intro a he
  refine st he (d_mul (n := x) rfl rfl (by omega)) rfl rfl rfl ?_; clear he; clear a; intro a he
  refine st he (d_add rfl rfl (by omega)) rfl rfl rfl ?_; clear he; clear a; intro a he
  refine st he (d_nilCheck rfl) rfl rfl rfl ?_; clear he; clear a; intro a he
  refine st he (d_fieldr fa103_5 rfl) rfl rfl rfl ?_; clear he; clear a; intro a he
  refine st_store he [iV (sxx + c.2 * x * x)] ti2 rfl rfl hr5 rfl rfl (Nat.le_of_ble_eq_true rfl) rfl ?_; clear he; clear a; intro w6 ho6 hr6 hs6 a he
  refine r_nil ?_
  refine c_region ?_
  refine st he (d_move rfl) rfl rfl rfl ?_; clear he; clear a; intro a he
  refine st he (d_nilCheck rfl) rfl rfl rfl ?_; clear he; clear a; intro a he
  refine st he (d_fieldr fa103_6 rfl) rfl rfl rfl ?_; clear he; clear a; intro a he
  refine st he (d_loadr ti2 rfl hr6 (v := iV sxy) rfl) rfl rfl rfl ?_; clear he; clear a; intro a he
  refine st he (d_move rfl) rfl rfl rfl ?_; clear he; clear a; intro a he
  refine st he (d_move rfl) rfl rfl rfl ?_; clear he; clear a; intro a he
  refine st he (d_mul (m := (c.2 : Int)) (n := x) rfl rfl (by omega)) rfl rfl rfl ?_; clear he; clear a; intro a he
  refine st he (d_move rfl) rfl rfl rfl ?_; clear he; clear a; intro a he
  refine st he (d_mul (n := y) rfl rfl (by omega)) rfl rfl rfl ?_; clear he; clear a; intro a he
  refine st he (d_add rfl rfl (by omega)) rfl rfl rfl ?_; clear he; clear a; intro a he
  refine st he (d_nilCheck rfl) rfl rfl rfl ?_; clear he; clear a; intro a he
  refine st he (d_fieldr fa103_6 rfl) rfl rfl rfl ?_; clear he; clear a; intro a he
  refine st_store he [iV (sxy + c.2 * x * y)] ti2 rfl rfl hr6 rfl rfl (Nat.le_of_ble_eq_true rfl) rfl ?_; clear he; clear a; intro w7 ho7 hr7 hs7 a he
  refine r_nil ?_
  refine done0 he rfl ⟨hr7.eq ?_, (((((ho1.and0 ho2).mono (S' := [tb]) (by simp)).trans ho3).trans ho4).trans ho5 |>.trans ho6).trans ho7⟩
  simp only [addS, hxe, hye]; rfl

end Go.Proofs.Learn
