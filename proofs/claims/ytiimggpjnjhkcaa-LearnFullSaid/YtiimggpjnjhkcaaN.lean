import Derived.Test.YtiimggpjnjhkcaaM
namespace Go.Proofs.Learn
open Go.V

theorem lrn_bad {m : List (R4 × Nat)} {r : R4} (h : okRow r = false) : lrn m r = (m, 1) := by simp [lrn, h]
theorem lrn_full {m : List (R4 × Nat)} {r : R4} (h : okRow r = true) (hs : 500 ≤ (m.map (·.2)).sum) : lrn m r = (m, 5) := by simp [lrn, h, hs]
theorem lrn_ok {m : List (R4 × Nat)} {r : R4} (h : okRow r = true) (hs : (m.map (·.2)).sum < 500) : lrn m r = (mput r ((mget r m).getD 0 + 1) m, 0) := by
  have : ¬ 500 ≤ (m.map (·.2)).sum := by omega
  simp [lrn, h, this]
theorem lrn_sum {m : List (R4 × Nat)} {r : R4} (h : okRow r = true) (hs : (m.map (·.2)).sum < 500) : ((lrn m r).1.map (·.2)).sum = (m.map (·.2)).sum + 1 := by
  rw [lrn_ok h hs]
  have := sum_mput r ((mget r m).getD 0 + 1) m
  simp only; omega
theorem unl_ok {m : List (R4 × Nat)} {r : R4} {c : Nat} (h : okRow r = true) (hg : mget r m = some c) (hc : 2 ≤ c) : unl m r = (mput r (c - 1) m, 0) := by
  have : c ≠ 1 := by omega
  simp [unl, h, hg, this]

theorem sorted_eq {xs ys m : List CR} (hx : xs.Perm m) (hy : ys.Perm m) (sx : xs.Pairwise (fun a b => rl a.1 b.1)) (sy : ys.Pairwise (fun a b => rl a.1 b.1)) : xs = ys :=
  List.Perm.eq_of_pairwise (fun _ _ _ _ h1 h2 => absurd h2 (rl_asymm h1)) sx sy (hx.trans hy.symm)

set_option maxRecDepth 4000 in
/-- LearnFull -/
theorem f3_c (r o : R4) (g : Int) (hg0 : 0 ≤ g) (hg1 : g ≤ 255) (w : World) : Ret Try.prog 3 [rowV r, rowV o, .int .u8 g] w fun v w' => v = .bool true ∧ Only [] w w' := by
  refine enter Try.func3 rfl rfl fun a he => ?_
  replace he : Env 76 [(0, rowV r), (1, rowV o), (2, .int .u8 g)] a := he
  refine c_seq ?_; refine c_region ?_
  refine st_box he rfl rfl ?_; clear he; clear a; intro b1 w1 hb1 ho1 hr1 a he
  refine st_box he rfl rfl ?_; clear he; clear a; intro b2 w2 hb2 ho2 hr2 a he
  have hr1' := hr1.keep0 ho2
  refine st he (d_assign rfl) rfl rfl rfl ?_; clear he; clear a; intro a he
  refine r_nil ?_
  refine c_seq ?_; refine c_region ?_
  refine st_call he rfl rfl rfl rfl rfl ent9 (f9_c w2) ?_; clear he; clear a; intro v3 w3 ⟨b, mb, hv3, hb, hmb, hM, ho3⟩ a he
  subst hv3
  refine st he (d_assign rfl) rfl rfl rfl ?_; clear he; clear a; intro a he
  refine r_nil ?_
  have ho12 := ho1.and0 ho2
  have hwb : w.heap.size ≤ b := Nat.le_trans ho12.size hb
  have hwm : w.heap.size ≤ mb := Nat.le_trans ho12.size hmb
  have n1 : b1 ∉ [b, mb] := by have := hr1'.lt; simp; omega
  have n2 : b2 ∉ [b, mb] := by have := hr2.lt; simp; omega
  refine c_seq ?_
  refine c_seq ?_; refine c_region ?_
  refine st he (d_move rfl) rfl rfl rfl ?_; clear he; clear a; intro a he
  refine st he (d_eqv (b := false) rfl rfl (fun _ => by kernel_rfl)) rfl rfl rfl ?_; clear he; clear a; intro a he
  refine r_nil ?_
  refine c_cond he rfl (fun hc1 => ?_) (fun hc1 => ?_)
  · cases hc1
  refine c_skip ?_
  replace hr1 := hr1'.keep0 ho3
  replace hr2 := hr2.keep0 ho3
  clear hr1'
  replace ho12 := ho12.and0 ho3
  refine c_seq ?_
  refine c_seq ?_; refine c_region ?_
  refine st he (d_move rfl) rfl rfl rfl ?_; clear he; clear a; intro a he
  refine st he (d_loadkr [_, _, _, _] ti24 rfl hr1 rfl rfl) rfl rfl rfl ?_; clear he; clear a; intro a he
  refine st_call he rfl rfl rfl rfl rfl ent10 (f10_c hM r) ?_; clear he; clear a; intro v4 w4 ⟨hv4, hM4, ho4⟩ a he
  subst hv4
  replace hr1 := hr1.keep ho4 n1
  replace hr2 := hr2.keep ho4 n2
  by_cases h1 : okRow r = false
  · rw [lrn_bad h1] at hM4 he
    refine st he (d_neq rfl rfl) rfl rfl rfl ?_; clear he; clear a; intro a he
    refine st he (d_move rfl) rfl rfl rfl ?_; clear he; clear a; intro a he
    refine st_no he rfl rfl rfl rfl rfl rfl rfl ?_; clear he; clear a; intro a he
    refine st_no he rfl rfl rfl rfl rfl rfl rfl ?_; clear he; clear a; intro a he
    refine st_no he rfl rfl rfl rfl rfl rfl rfl ?_; clear he; clear a; intro a he
    refine st_no he rfl rfl rfl rfl rfl rfl rfl ?_; clear he; clear a; intro a he
    refine st he (d_pick_t rfl rfl) rfl rfl rfl ?_; clear he; clear a; intro a he
    refine r_nil ?_
    refine c_cond he rfl (fun hc2 => ?_) (fun hc2 => ?_)
    · refine c_seq ?_; refine c_region ?_
      refine st_call he rfl rfl rfl rfl rfl ent11 (f11_c w4) ?_; clear he; clear a; intro v5 w5 ⟨hv5, ho5⟩ a he
      subst hv5
      refine st he (d_assign rfl) rfl rfl rfl ?_; clear he; clear a; intro a he
      refine r_nil ?_
      refine c_ret ?_
      exact done1 he rfl rfl ⟨rfl, (ho12.and ho4 (by simp; omega)).and0 ho5⟩
    cases hc2
  replace h1 : okRow r = true := by simpa using h1
  rw [show lrn [] r = ([(r, 1)], 0) from by rw [lrn_ok h1 (by simp)]; rfl] at hM4 he
  refine st he (d_neq rfl rfl) rfl rfl rfl ?_; clear he; clear a; intro a he
  refine st he (d_move rfl) rfl rfl rfl ?_; clear he; clear a; intro a he
  refine st_yes he rfl rfl rfl rfl (d_move rfl) rfl rfl ?_; clear he; clear a; intro a he
  refine st_yes he rfl rfl rfl rfl (d_loadkr [_, _, _, _] ti24 rfl hr2 rfl rfl) rfl rfl ?_; clear he; clear a; intro a he
  refine st_call_yes he rfl rfl rfl rfl rfl rfl rfl rfl ent10 (f10_c hM4 o) ?_; clear he; clear a; intro v5 w5 ⟨hv5, hM5, ho5⟩ a he
  subst hv5
  replace hr1 := hr1.keep ho5 n1
  replace hr2 := hr2.keep ho5 n2
  have hwo5 : Only [] w w5 := (ho12.and ho4 (by simp; omega)).and ho5 (by simp; omega)
  by_cases h2 : okRow o = false
  · rw [lrn_bad h2] at hM5 he
    refine st_yes he rfl rfl rfl rfl (d_neq rfl rfl) rfl rfl ?_; clear he; clear a; intro a he
    refine st he (d_pick_f rfl rfl) rfl rfl rfl ?_; clear he; clear a; intro a he
    refine r_nil ?_
    refine c_cond he rfl (fun hc2 => ?_) (fun hc2 => ?_)
    · refine c_seq ?_; refine c_region ?_
      refine st_call he rfl rfl rfl rfl rfl ent11 (f11_c w5) ?_; clear he; clear a; intro v6 w6 ⟨hv6, ho6⟩ a he
      subst hv6
      refine st he (d_assign rfl) rfl rfl rfl ?_; clear he; clear a; intro a he
      refine r_nil ?_
      refine c_ret ?_
      exact done1 he rfl rfl ⟨rfl, hwo5.and0 ho6⟩
    cases hc2
  replace h2 : okRow o = true := by simpa using h2
  have hsum5 : (((lrn [(r, 1)] o).1).map (·.2)).sum = 2 := by rw [lrn_sum h2 (by simp)]; simp
  have hget5 : ∃ c, mget r (lrn [(r, 1)] o).1 = some c ∧ 1 ≤ c := by
    rw [lrn_ok h2 (by simp)]
    by_cases e : o = r
    · subst e; exact ⟨2, by simp [mput, mget], by omega⟩
    · exact ⟨1, by simp [mput, mget, e], by omega⟩
  rw [show (lrn [(r, 1)] o).2 = 0 from by rw [lrn_ok h2 (by simp)]] at he
  generalize (lrn [(r, 1)] o).1 = m5 at *
  refine st_yes he rfl rfl rfl rfl (d_neq rfl rfl) rfl rfl ?_; clear he; clear a; intro a he
  refine st he (d_pick_f rfl rfl) rfl rfl rfl ?_; clear he; clear a; intro a he
  refine r_nil ?_
  refine c_cond he rfl (fun hc2 => ?_) (fun hc2 => ?_)
  · cases hc2
  refine c_skip ?_
  refine c_seq ?_
  refine c_seq ?_; refine c_region ?_
  refine st he (d_move rfl) rfl rfl rfl ?_; clear he; clear a; intro a he
  refine r_nil ?_
  refine c_block ?_
  refine c_loop (fun k a w' => ∃ (i : Nat) (m : List (R4 × Nat)), k = 498 - i ∧ i ≤ 498 ∧ Model w' b mb m ∧ (m.map (·.2)).sum = 2 + i ∧ (∃ c, mget r m = some c ∧ 1 + i ≤ c) ∧ Only [] w w' ∧ Row w' b1 (rowV r).cells 24 ∧ Row w' b2 (rowV o).cells 24 ∧ Env 76 [(2, .int .u8 g), (3, ptrV b1), (4, ptrV b2), (7, ptrV b), (23, iV i)] a) 498 ⟨0, m5, rfl, by omega, hM5, hsum5, hget5, hwo5, hr1, hr2, he.only _ (by simp [lk])⟩ ?_
  clear he; clear a; clear hr1; clear hr2; intro k a w6 ⟨i, m, hk, hi, hM6, hsum6, hget6, hwo6, hr1, hr2, he⟩
  refine c_seq ?_; refine c_region ?_
  refine st he (d_lss rfl rfl) rfl rfl rfl ?_; clear he; clear a; intro a he
  refine r_nil ?_
  refine c_seq ?_
  refine c_cond_ifn he rfl (fun hc3 => ?_) (fun hc3 => ?_)
  · refine c_exit rfl ?_
    obtain rfl : i = 498 := by omega
    refine c_seq ?_; refine c_region ?_
    refine st he (d_move rfl) rfl rfl rfl ?_; clear he; clear a; intro a he
    refine st_call he rfl rfl rfl rfl rfl ent12 (f12_c hM6) ?_; clear he; clear a; intro v7 w7 ⟨xs, hpx, hsx, hown7, ho7⟩ a he
    refine st he (d_assign rfl) rfl rfl rfl ?_; clear he; clear a; intro a he
    refine r_nil ?_
    have hV7 : Vec 1 encB w7 v7 (imgB xs) := hown7.vec hkB
    have hne7 : ∀ q, v7.ownBlock = some q → q ∉ [b, mb] := by
      intro q hq
      have := (hown7.lt q hq).1
      have := hM6.row.lt
      have := hM6.map.lt
      simp; omega
    have hfull : lrn m o = (m, 5) := lrn_full h2 (by omega)
    refine c_seq ?_
    refine c_seq ?_; refine dr_start mixed (fun w => Model w b mb m ∧ Vec 1 encB w v7 (imgB xs) ∧ Row w b1 (rowV r).cells 24 ∧ Row w b2 (rowV o).cells 24) rfl ?_; intro w8 ho8 hk8 hz8
    have ho78 := ho7.and0 ho8
    have hS : Model w8 b mb m ∧ Vec 1 encB w8 v7 (imgB xs) ∧ Row w8 b1 (rowV r).cells 24 ∧ Row w8 b2 (rowV o).cells 24 := ⟨hM6.keep0 ho78, hV7.keep0 hkB ho8, hr1.keep0 ho78, hr2.keep0 ho78⟩
    refine dr_take he (i := 0) rfl (by kernel_rfl) (by kernel_rfl) (by kernel_rfl) rfl rfl rfl hS (fun w hS => d_move rfl) ?_; clear he; clear a; intro a he
    refine dr_one (i := 1) rfl (by kernel_rfl) ?_; intro K hK
    refine st_call he rfl rfl rfl rfl rfl ent13 (f13_c hS.1) ?_; clear he; clear a; intro v9 w9 ⟨hv9, hw9⟩ a he
    subst hv9 hw9
    rw [hsum6] at he
    refine dr_end (hK _ _ (hS) ?_); clear hK; clear K
    refine dr_take he (i := 2) rfl (by kernel_rfl) (by kernel_rfl) (by kernel_rfl) rfl rfl rfl hS (fun w hS => d_neq rfl rfl) ?_; clear he; clear a; intro a he
    refine dr_take he (i := 3) rfl (by kernel_rfl) (by kernel_rfl) (by kernel_rfl) rfl rfl rfl hS (fun w hS => d_move rfl) ?_; clear he; clear a; intro a he
    refine dr_gd he (i := 4) rfl (by kernel_rfl) (by kernel_rfl) (by kernel_rfl) rfl rfl rfl rfl rfl rfl hS (fun hg w hS => by rw [hg]; exact d_move rfl) ?_; clear he; clear a; intro a he
    refine dr_gd he (i := 5) rfl (by kernel_rfl) (by kernel_rfl) (by kernel_rfl) rfl rfl rfl rfl rfl rfl hS (fun hg w hS => by rw [hg]; exact d_loadkr [_, _, _, _] ti24 rfl hS.2.2.2 rfl rfl) ?_; clear he; clear a; intro a he
    refine dr_one (i := 6) rfl (by kernel_rfl) ?_; intro K hK
    refine st_call_yes he rfl rfl rfl rfl rfl rfl rfl rfl ent10 (f10_c hS.1 o) ?_; clear he; clear a; intro v10 w10 ⟨hv10, hM10, ho10⟩ a he
    subst hv10
    rw [hfull] at he hM10
    have hS10 := And.intro hM10 (And.intro (hS.2.1.keep hkB ho10 hne7) (And.intro (hS.2.2.1.keep ho10 n1) (hS.2.2.2.keep ho10 n2)))
    clear hS
    have hS := hS10
    clear hS10
    refine dr_end (hK _ _ (hS) ?_); clear hK; clear K
    refine dr_gd he (i := 7) rfl (by kernel_rfl) (by kernel_rfl) (by kernel_rfl) rfl rfl rfl rfl rfl rfl hS (fun hg w hS => by rw [hg]; exact d_neq rfl rfl) ?_; clear he; clear a; intro a he
    refine dr_take he (i := 8) rfl (by kernel_rfl) (by kernel_rfl) (by kernel_rfl) rfl rfl rfl hS (fun w hS => d_pick_f rfl rfl) ?_; clear he; clear a; intro a he
    refine dr_take he (i := 9) rfl (by kernel_rfl) (by kernel_rfl) (by kernel_rfl) rfl rfl rfl hS (fun w hS => d_move rfl) ?_; clear he; clear a; intro a he
    refine dr_gd he (i := 10) rfl (by kernel_rfl) (by kernel_rfl) (by kernel_rfl) rfl rfl rfl rfl rfl rfl hS (fun hg w hS => by rw [hg]; exact d_move rfl) ?_; clear he; clear a; intro a he
    refine dr_gd he (i := 13) rfl (by kernel_rfl) (by kernel_rfl) (by kernel_rfl) rfl rfl rfl rfl rfl rfl hS (fun hg w hS => by rw [hg]; exact d_move rfl) ?_; clear he; clear a; intro a he
    refine dr_gd he (i := 14) rfl (by kernel_rfl) (by kernel_rfl) (by kernel_rfl) rfl rfl rfl rfl rfl rfl hS (fun hg w hS => by rw [hg]; exact d_str un30 un5 un9 rfl hS.2.1) ?_; clear he; clear a; intro a he
    refine dr_one (i := 11) rfl (by kernel_rfl) ?_; intro K hK
    refine st_call_yes he rfl rfl rfl rfl rfl rfl rfl rfl ent12 (f12_c hS.1) ?_; clear he; clear a; intro v11 w11 ⟨ys, hpy, hsy, hown11, ho11⟩ a he
    obtain rfl := sorted_eq hpx hpy hsx hsy
    have hS11 := And.intro (hS.1.keep0 ho11) (And.intro (hS.2.1.keep0 hkB ho11) (And.intro (hS.2.2.1.keep0 ho11) (hS.2.2.2.keep0 ho11)))
    clear hS
    have hS : Model w11 b mb m ∧ Vec 1 encB w11 v7 (imgB xs) ∧ Row w11 b1 (rowV r).cells 24 ∧ Row w11 b2 (rowV o).cells 24 := hS11
    refine dr_end (hK _ _ (hS11) ?_); clear hK; clear K
    refine dr_one (i := 12) rfl (by kernel_rfl) ?_; intro K hK
    refine st_yes he rfl rfl rfl rfl (d_str un30 un5 un9 rfl (hown11.vec hkB)) rfl rfl ?_; clear he; clear a; intro a he
    refine dr_end (hK _ _ (hS11) ?_); clear hK; clear K
    refine dr_gd he (i := 15) rfl (by kernel_rfl) (by kernel_rfl) (by kernel_rfl) rfl rfl rfl rfl rfl rfl hS (fun hg w hS => by rw [hg]; exact d_neqs rfl rfl) ?_; clear he; clear a; intro a he
    refine dr_take he (i := 16) rfl (by kernel_rfl) (by kernel_rfl) (by kernel_rfl) rfl rfl rfl hS (fun w hS => d_pick_f rfl rfl) ?_; clear he; clear a; intro a he
    refine dr_done (by kernel_rfl) ?_
    refine c_cond he rfl (fun hc4 => ?_) (fun hc4 => ?_)
    · simp at hc4
    refine c_skip ?_
    have hM11 := hS11.1
    have hwo11 : Only [] w w11 := ((hwo6.and0 ho78).and ho10 (by simp; omega)).and0 ho11
    replace hr1 := hS11.2.2.1
    replace hr2 := hS11.2.2.2
    clear hS11
    obtain ⟨j, hj, hj9⟩ : ∃ j : Nat, g.tmod 10 = j ∧ j ≤ 9 := ⟨(g.tmod 10).toNat, by rw [Int.tmod_eq_emod_of_nonneg hg0]; omega, by rw [Int.tmod_eq_emod_of_nonneg hg0]; omega⟩
    refine c_seq ?_
    refine c_seq ?_; refine c_region ?_
    refine st he (d_move rfl) rfl rfl rfl ?_; clear he; clear a; intro a he
    refine st he (d_conv un3 ⟨_, un5⟩ rfl) rfl rfl rfl ?_; clear he; clear a; intro a he
    rw [wrap_i64 (by omega)] at he
    refine st he (d_remw rfl rfl (by decide)) rfl rfl rfl ?_; clear he; clear a; intro a he
    rw [hj] at he
    refine st he (d_add rfl rfl (by omega)) rfl rfl rfl ?_; clear he; clear a; intro a he
    refine st he (d_move rfl) rfl rfl rfl ?_; clear he; clear a; intro a he
    refine r_nil ?_
    refine c_block ?_
    refine c_loop (fun k a w' => ∃ (i : Nat) (m : List (R4 × Nat)), k = (1 + j) - i ∧ i ≤ 1 + j ∧ Model w' b mb m ∧ (m.map (·.2)).sum + i = 500 ∧ (∃ c, mget r m = some c ∧ 499 ≤ c + i) ∧ Only [] w w' ∧ Row w' b1 (rowV r).cells 24 ∧ Row w' b2 (rowV o).cells 24 ∧ Env 76 [(2, .int .u8 g), (3, ptrV b1), (4, ptrV b2), (7, ptrV b), (52, iV (1 + j)), (53, iV i)] a) (1 + j) ⟨0, m, rfl, by omega, hM11, by omega, by obtain ⟨c, hc⟩ := hget6; exact ⟨c, hc.1, by omega⟩, hwo11, hr1, hr2, he.only _ (by simp [lk])⟩ ?_
    clear he; clear a; clear hr1; clear hr2; clear hM11; clear hM10; clear hM6; clear hsum6; clear hget6; clear hfull; clear hk; clear hpx; clear hpy; clear k; intro k a w12 ⟨i, m, hk, hi, hM12, hsum12, ⟨c, hget12, hc12⟩, hwo12, hr1, hr2, he⟩
    refine c_seq ?_; refine c_region ?_
    refine st he (d_lss rfl rfl) rfl rfl rfl ?_; clear he; clear a; intro a he
    refine r_nil ?_
    refine c_seq ?_
    refine c_cond_ifn he rfl (fun hc5 => ?_) (fun hc5 => ?_)
    · refine c_exit rfl ?_
      obtain rfl : i = 1 + j := by omega
      have hlt : (m.map (·.2)).sum < 500 := by omega
      refine c_seq ?_; refine c_region ?_
      refine st he (d_move rfl) rfl rfl rfl ?_; clear he; clear a; intro a he
      refine st he (d_loadkr [_, _, _, _] ti24 rfl hr2 rfl rfl) rfl rfl rfl ?_; clear he; clear a; intro a he
      refine st_call he rfl rfl rfl rfl rfl ent10 (f10_c hM12 o) ?_; clear he; clear a; intro v13 w13 ⟨hv13, hM13, ho13⟩ a he
      subst hv13
      rw [show (lrn m o).2 = 0 from by rw [lrn_ok h2 hlt]] at he
      have hsum13 := lrn_sum h2 hlt
      generalize (lrn m o).1 = m' at *
      refine st he (d_eql rfl rfl) rfl rfl rfl ?_; clear he; clear a; intro a he
      refine st he (d_move rfl) rfl rfl rfl ?_; clear he; clear a; intro a he
      refine st_yes he rfl rfl rfl rfl (d_move rfl) rfl rfl ?_; clear he; clear a; intro a he
      refine st_call_yes he rfl rfl rfl rfl rfl rfl rfl rfl ent13 (f13_c hM13) ?_; clear he; clear a; intro v14 w14 ⟨hv14, hw14⟩ a he
      subst hv14 hw14
      refine st_yes he rfl rfl rfl rfl (d_move rfl) rfl rfl ?_; clear he; clear a; intro a he
      refine st_yes he rfl rfl rfl rfl (d_conv un3 ⟨_, un5⟩ rfl) rfl rfl ?_; clear he; clear a; intro a he
      rw [wrap_i64 (by omega)] at he
      refine st_yes he rfl rfl rfl rfl (d_remw rfl rfl (by decide)) rfl rfl ?_; clear he; clear a; intro a he
      rw [hj] at he
      refine st_yes he rfl rfl rfl rfl (d_sub rfl rfl (by omega)) rfl rfl ?_; clear he; clear a; intro a he
      refine st_yes he rfl rfl rfl rfl (d_eql rfl rfl) rfl rfl ?_; clear he; clear a; intro a he
      rw [decide_eq_true (show (((m'.map (·.2)).sum : Nat) : Int) = 500 - j by omega)] at he
      refine st he (d_pick_t rfl rfl) rfl rfl rfl ?_; clear he; clear a; intro a he
      refine st he (d_move rfl) rfl rfl rfl ?_; clear he; clear a; intro a he
      refine st_call_yes he rfl rfl rfl rfl rfl rfl rfl rfl ent11 (f11_c w13) ?_; clear he; clear a; intro v15 w15 ⟨hv15, ho15⟩ a he
      subst hv15
      refine st he (d_pick_t rfl rfl) rfl rfl rfl ?_; clear he; clear a; intro a he
      refine st he (d_assign rfl) rfl rfl rfl ?_; clear he; clear a; intro a he
      refine r_nil ?_
      refine c_ret ?_
      exact done1 he rfl rfl ⟨rfl, (hwo12.and ho13 (by simp; omega)).and0 ho15⟩
    refine c_skip ?_
    refine c_seq ?_
    refine c_block ?_
    refine c_seq ?_; refine c_region ?_
    refine st he (d_move rfl) rfl rfl rfl ?_; clear he; clear a; intro a he
    refine st he (d_loadkr [_, _, _, _] ti24 rfl hr1 rfl rfl) rfl rfl rfl ?_; clear he; clear a; intro a he
    refine st_call he rfl rfl rfl rfl rfl ent14 (f14_c hM12 r) ?_; clear he; clear a; intro v13 w13 ⟨hv13, hM13, ho13⟩ a he
    subst hv13
    rw [unl_ok h1 hget12 (by omega)] at he hM13
    have hsum13 := sum_mput r (c - 1) m
    rw [hget12, Option.getD_some] at hsum13
    refine st he (d_neq rfl rfl) rfl rfl rfl ?_; clear he; clear a; intro a he
    refine r_nil ?_
    refine c_cond he rfl (fun hc6 => ?_) (fun hc6 => ?_)
    · cases hc6
    refine c_skip ?_
    refine c_region ?_
    refine st he (d_add rfl rfl (by omega)) rfl rfl rfl ?_; clear he; clear a; intro a he
    refine st he (d_move rfl) rfl rfl rfl ?_; clear he; clear a; intro a he
    refine r_nil ?_
    exact ⟨(1 + j) - (i + 1), by omega, i + 1, mput r (c - 1) m, rfl, by omega, hM13, by omega, ⟨c - 1, mget_mput _ _ _, by omega⟩, hwo12.and ho13 (by simp; omega), hr1.keep ho13 n1, hr2.keep ho13 n2, he.only _ (by simp [lk])⟩
  refine c_skip ?_
  refine c_seq ?_
  refine c_block ?_
  refine c_seq ?_; refine c_region ?_
  refine st he (d_move rfl) rfl rfl rfl ?_; clear he; clear a; intro a he
  refine st he (d_loadkr [_, _, _, _] ti24 rfl hr1 rfl rfl) rfl rfl rfl ?_; clear he; clear a; intro a he
  refine st_call he rfl rfl rfl rfl rfl ent10 (f10_c hM6 r) ?_; clear he; clear a; intro v7 w7 ⟨hv7, hM7, ho7⟩ a he
  subst hv7
  have hlt : (m.map (·.2)).sum < 500 := by omega
  have hsum7 := lrn_sum h1 hlt
  obtain ⟨c, hget6, hc6⟩ := hget6
  have hget7 : ∃ c, mget r (lrn m r).1 = some c ∧ 1 + (i + 1) ≤ c := by
    rw [lrn_ok h1 hlt, hget6]
    exact ⟨c + 1, mget_mput _ _ _, by omega⟩
  rw [show (lrn m r).2 = 0 from by rw [lrn_ok h1 hlt]] at he
  refine st he (d_neq rfl rfl) rfl rfl rfl ?_; clear he; clear a; intro a he
  refine r_nil ?_
  refine c_cond he rfl (fun hc7 => ?_) (fun hc7 => ?_)
  · cases hc7
  refine c_skip ?_
  refine c_region ?_
  refine st he (d_add rfl rfl (by omega)) rfl rfl rfl ?_; clear he; clear a; intro a he
  refine st he (d_move rfl) rfl rfl rfl ?_; clear he; clear a; intro a he
  refine r_nil ?_
  exact ⟨498 - (i + 1), by omega, i + 1, _, rfl, by omega, hM7, by omega, hget7, hwo6.and ho7 (by simp; omega), hr1.keep ho7 n1, hr2.keep ho7 n2, he.only _ (by simp [lk])⟩

end Go.Proofs.Learn
