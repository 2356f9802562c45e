import Derived.Test.YtiimggpjnjhkcaaC
namespace Go.Proofs.Learn
open Go.V

theorem mem_mdel {r : R4} {p : R4 × Nat} {m : List (R4 × Nat)} (h : p ∈ mdel r m) : p ∈ m := (mdel_sub r m).subset h

/-- Unlearn -/
theorem f14_c {w : World} {b mb : Nat} {m : List (R4 × Nat)} (h : Model w b mb m) (r : R4) : Ret Try.prog 14 [ptrV b, rowV r] w fun v w' => v = .int .i64 (unl m r).2 ∧ Model w' b mb (unl m r).1 ∧ Only [b, mb] w w' := by
  refine enter Try.func14 rfl rfl fun a he => ?_
  replace he : Env 42 [(0, ptrV b), (1, rowV r)] a := he
  refine c_seq ?_; refine c_region ?_
  refine st_box he rfl rfl ?_; clear he; clear a; intro b1 w1 hb1 ho1 hr1 a he
  have h1 := h.keep0 ho1
  refine st he (d_assign rfl) rfl rfl rfl ?_; clear he; clear a; intro a he
  refine r_nil ?_
  refine c_seq ?_
  refine c_seq ?_; refine c_region ?_
  refine st he (d_move rfl) rfl rfl rfl ?_; clear he; clear a; intro a he
  refine st_call he rfl rfl rfl rfl rfl ent25 (f25_c h1) ?_; clear he; clear a; intro v2 w2 ⟨hv2, hw2⟩ a he
  subst hv2 hw2
  refine st he (d_move rfl) rfl rfl rfl ?_; clear he; clear a; intro a he
  refine st_yes he rfl rfl rfl rfl (d_loadkr [_, _, _, _] ti24 rfl hr1 rfl rfl) rfl rfl ?_; clear he; clear a; intro a he
  refine st_call_yes he rfl rfl rfl rfl rfl rfl rfl rfl ent26 (f26_c r w1) ?_; clear he; clear a; intro v3 w3 ⟨hv3, ho3⟩ a he
  subst hv3
  have h3 := h1.keep0 ho3
  have hr3 := hr1.keep0 ho3
  refine st_yes he rfl rfl rfl rfl (d_not rfl) rfl rfl ?_; clear he; clear a; intro a he
  refine st he (d_pick_f rfl rfl) rfl rfl rfl ?_; clear he; clear a; intro a he
  refine r_nil ?_
  refine c_cond he rfl (fun hc1 => ?_) (fun hc1 => ?_)
  · refine c_seq ?_; refine c_region ?_
    refine st he (d_assign rfl) rfl rfl rfl ?_; clear he; clear a; intro a he
    refine r_nil ?_
    refine c_ret ?_
    have e : okRow r = false := by simpa using hc1
    refine done1 he rfl rfl ?_
    rw [unl, if_pos e]
    exact ⟨rfl, h3, (ho1.and0 ho3).mono (by simp)⟩
  have hok : okRow r = true := by simpa using hc1
  refine c_skip ?_
  have hb1' : b ≠ b1 := fun e => by have := h.row.lt; omega
  have hmb1 : mb ≠ b1 := fun e => by have := h.map.lt; omega
  have hne := h.ne
  have hle := mget_le r m
  have hmost := h.most
  refine c_seq ?_; refine dr_start mixed (fun w => Row w b #[.bool true, .map (some mb), .int .i64 ((m.map (·.2)).sum : Nat)] 69 ∧ Row w b1 (rowV r).cells 24 ∧ MapAt rowV natV w mb m) rfl ?_; intro w4 ho4 hk4 hz4
  have hS : Row w4 b #[.bool true, .map (some mb), .int .i64 ((m.map (·.2)).sum : Nat)] 69 ∧ Row w4 b1 (rowV r).cells 24 ∧ MapAt rowV natV w4 mb m := ⟨h3.row.keep0 ho4, hr3.keep0 ho4, h3.map.keep0 ho4⟩
  refine dr_take he (i := 0) rfl (by kernel_rfl) (by kernel_rfl) (by kernel_rfl) rfl rfl rfl hS (fun w hS => d_move rfl) ?_; clear he; clear a; intro a he
  refine dr_take he (i := 1) rfl (by kernel_rfl) (by kernel_rfl) (by kernel_rfl) rfl rfl rfl hS (fun w hS => d_nilCheck rfl) ?_; clear he; clear a; intro a he
  refine dr_take he (i := 2) rfl (by kernel_rfl) (by kernel_rfl) (by kernel_rfl) rfl rfl rfl hS (fun w hS => d_fieldr fa69_1 rfl) ?_; clear he; clear a; intro a he
  refine dr_take he (i := 3) rfl (by kernel_rfl) (by kernel_rfl) (by kernel_rfl) rfl rfl rfl hS (fun w hS => d_loadr ti67 rfl hS.1 rfl) ?_; clear he; clear a; intro a he
  refine dr_take he (i := 4) rfl (by kernel_rfl) (by kernel_rfl) (by kernel_rfl) rfl rfl rfl hS (fun w hS => d_loadkr [_, _, _, _] ti24 rfl hS.2.1 rfl rfl) ?_; clear he; clear a; intro a he
  refine dr_take he (i := 5) rfl (by kernel_rfl) (by kernel_rfl) (by kernel_rfl) rfl rfl rfl hS (fun w hS => d_lookup un67 key24 zero3 (k := r) rfl rfl hS.2.2 false) ?_; clear he; clear a; intro a he
  simp only [Bool.false_eq_true, if_false, getD_natV] at he
  refine dr_take he (i := 6) rfl (by kernel_rfl) (by kernel_rfl) (by kernel_rfl) rfl rfl rfl hS (fun w hS => d_assign rfl) ?_; clear he; clear a; intro a he
  refine dr_done (by kernel_rfl) ?_
  have h4 := h3.keep0 ho4
  refine c_seq ?_
  refine c_seq ?_; refine c_region ?_
  refine st he (d_move rfl) rfl rfl rfl ?_; clear he; clear a; intro a he
  refine st he (d_eql rfl rfl) rfl rfl rfl ?_; clear he; clear a; intro a he
  refine r_nil ?_
  refine c_cond_if he rfl (fun hc2 => ?_) (fun hc2 => ?_)
  · refine c_seq ?_; refine c_region ?_
    refine st he (d_assign rfl) rfl rfl rfl ?_; clear he; clear a; intro a he
    refine r_nil ?_
    refine c_ret ?_
    refine done1 he rfl rfl ?_
    have e : mget r m = none := by
      cases hg : mget r m with
      | none => rfl
      | some c => rw [hg] at hc2; have := h.pos _ (mget_mem hg); simp at hc2 this; omega
    rw [unl, if_neg (by simp [hok]), e]
    exact ⟨rfl, h4, ((ho1.and0 ho3).and0 ho4).mono (by simp)⟩
  refine c_skip ?_
  obtain ⟨c, hg⟩ : ∃ c, mget r m = some c := by
    cases hg : mget r m with
    | none => rw [hg] at hc2; exact absurd rfl hc2
    | some c => exact ⟨c, rfl⟩
  have hul : unl m r = if c = 1 then (mdel r m, 0) else (mput r (c - 1) m, 0) := by rw [unl, if_neg (by simp [hok]), hg]
  rw [hg, Option.getD_some] at he hc2 hle
  have hod : Only [b, mb] w w4 := ((ho1.and0 ho3).and0 ho4).mono (by simp)
  refine c_seq ?_
  refine c_seq ?_; refine c_region ?_
  refine st he (d_move rfl) rfl rfl rfl ?_; clear he; clear a; intro a he
  refine st he (d_eql rfl rfl) rfl rfl rfl ?_; clear he; clear a; intro a he
  refine r_nil ?_
  refine c_cond_if he rfl (fun hc3 => ?_) (fun hc3 => ?_)
  · have hc1' : c = 1 := by omega
    subst hc1'
    have hsum := sum_mdel r m
    rw [hg, Option.getD_some] at hsum
    refine dr_start mixed (fun w => Row w b #[.bool true, .map (some mb), .int .i64 ((m.map (·.2)).sum : Nat)] 69 ∧ Row w b1 (rowV r).cells 24) rfl ?_; intro w5 ho5 hk5 hz5
    have hS5 : Row w5 b #[.bool true, .map (some mb), .int .i64 ((m.map (·.2)).sum : Nat)] 69 ∧ Row w5 b1 (rowV r).cells 24 := ⟨h4.row.keep0 ho5, hS.2.1.keep0 ho5⟩
    clear hS
    have hS := hS5
    refine dr_take he (i := 0) rfl (by kernel_rfl) (by kernel_rfl) (by kernel_rfl) rfl rfl rfl hS (fun w hS => d_move rfl) ?_; clear he; clear a; intro a he
    refine dr_take he (i := 1) rfl (by kernel_rfl) (by kernel_rfl) (by kernel_rfl) rfl rfl rfl hS (fun w hS => d_nilCheck rfl) ?_; clear he; clear a; intro a he
    refine dr_take he (i := 2) rfl (by kernel_rfl) (by kernel_rfl) (by kernel_rfl) rfl rfl rfl hS (fun w hS => d_fieldr fa69_1 rfl) ?_; clear he; clear a; intro a he
    refine dr_take he (i := 3) rfl (by kernel_rfl) (by kernel_rfl) (by kernel_rfl) rfl rfl rfl hS (fun w hS => d_loadr ti67 rfl hS.1 rfl) ?_; clear he; clear a; intro a he
    refine dr_take he (i := 4) rfl (by kernel_rfl) (by kernel_rfl) (by kernel_rfl) rfl rfl rfl hS (fun w hS => d_loadkr [_, _, _, _] ti24 rfl hS.2 rfl rfl) ?_; clear he; clear a; intro a he
    refine dr_one (i := 5) rfl (by kernel_rfl) ?_; intro K hK
    refine st_delete he un67 key24 (k := r) rfl rfl (h4.map.keep0 ho5) ?_; clear he; clear a; intro w6 hm6 ho6 hs6 a he
    have hS6 := And.intro (hS.1.keep ho6 (by simpa using hne)) (hS.2.keep ho6 (by simpa using hmb1.symm))
    refine dr_end (hK _ _ (hS6) ?_); clear hK; clear K
    refine dr_done (by kernel_rfl) ?_
    refine c_seq ?_; refine c_region ?_
    refine st he (d_move rfl) rfl rfl rfl ?_; clear he; clear a; intro a he
    refine st he (d_nilCheck rfl) rfl rfl rfl ?_; clear he; clear a; intro a he
    refine st he (d_fieldr fa69_2 rfl) rfl rfl rfl ?_; clear he; clear a; intro a he
    refine st he (d_loadr ti3 rfl hS6.1 rfl) rfl rfl rfl ?_; clear he; clear a; intro a he
    refine st he (d_sub rfl rfl (by omega)) rfl rfl rfl ?_; clear he; clear a; intro a he
    refine st he (d_nilCheck rfl) rfl rfl rfl ?_; clear he; clear a; intro a he
    refine st he (d_fieldr fa69_2 rfl) rfl rfl rfl ?_; clear he; clear a; intro a he
    refine st_store he [_] ti3 rfl rfl hS6.1 rfl rfl (Nat.le_of_ble_eq_true rfl) rfl ?_; clear he; clear a; intro w7 ho7 hr7 hs7 a he
    refine r_nil ?_
    refine c_seq ?_; refine c_region ?_
    refine st he (d_assign rfl) rfl rfl rfl ?_; clear he; clear a; intro a he
    refine r_nil ?_
    refine c_ret ?_
    refine done1 he rfl rfl ?_
    rw [hul, if_pos rfl]
    refine ⟨rfl, ⟨hr7.eq ?_, hm6.keep ho7 (by simpa using hne.symm), fun p hp => h.pos p (mem_mdel hp), fun p hp => h.ok p (mem_mdel hp), by simp only; omega⟩, ((hod.and0 ho5).and ho6 (by simp)).and ho7 (by simp)⟩
    have e : (((m.map (·.2)).sum : Nat) : Int) - 1 = (((mdel r m).map (·.2)).sum : Nat) := by omega
    rw [e]; rfl
  · have hc1' : c ≠ 1 := by omega
    have hsum := sum_mput r (c - 1) m
    rw [hg, Option.getD_some] at hsum
    refine dr_start mixed (fun w => Row w b #[.bool true, .map (some mb), .int .i64 ((m.map (·.2)).sum : Nat)] 69 ∧ Row w b1 (rowV r).cells 24) rfl ?_; intro w5 ho5 hk5 hz5
    have hS5 : Row w5 b #[.bool true, .map (some mb), .int .i64 ((m.map (·.2)).sum : Nat)] 69 ∧ Row w5 b1 (rowV r).cells 24 := ⟨h4.row.keep0 ho5, hS.2.1.keep0 ho5⟩
    clear hS
    have hS := hS5
    refine dr_take he (i := 0) rfl (by kernel_rfl) (by kernel_rfl) (by kernel_rfl) rfl rfl rfl hS (fun w hS => d_move rfl) ?_; clear he; clear a; intro a he
    refine dr_take he (i := 1) rfl (by kernel_rfl) (by kernel_rfl) (by kernel_rfl) rfl rfl rfl hS (fun w hS => d_nilCheck rfl) ?_; clear he; clear a; intro a he
    refine dr_take he (i := 2) rfl (by kernel_rfl) (by kernel_rfl) (by kernel_rfl) rfl rfl rfl hS (fun w hS => d_fieldr fa69_1 rfl) ?_; clear he; clear a; intro a he
    refine dr_take he (i := 3) rfl (by kernel_rfl) (by kernel_rfl) (by kernel_rfl) rfl rfl rfl hS (fun w hS => d_loadr ti67 rfl hS.1 rfl) ?_; clear he; clear a; intro a he
    refine dr_take he (i := 4) rfl (by kernel_rfl) (by kernel_rfl) (by kernel_rfl) rfl rfl rfl hS (fun w hS => d_loadkr [_, _, _, _] ti24 rfl hS.2 rfl rfl) ?_; clear he; clear a; intro a he
    refine dr_take he (i := 5) rfl (by kernel_rfl) (by kernel_rfl) (by kernel_rfl) rfl rfl rfl hS (fun w hS => d_move rfl) ?_; clear he; clear a; intro a he
    refine dr_take he (i := 6) rfl (by kernel_rfl) (by kernel_rfl) (by kernel_rfl) rfl rfl rfl hS (fun w hS => d_sub rfl rfl (by omega)) ?_; clear he; clear a; intro a he
    refine dr_one (i := 7) rfl (by kernel_rfl) ?_; intro K hK
    have e : ((c : Nat) : Int) - 1 = ((c - 1 : Nat) : Int) := by omega
    rw [e] at he
    refine st_mapUpdate he un67 key24 (k := r) (c - 1) rfl rfl rfl (h4.map.keep0 ho5) ?_; clear he; clear a; intro w6 hm6 ho6 hs6 a he
    have hS6 := And.intro (hS.1.keep ho6 (by simpa using hne)) (hS.2.keep ho6 (by simpa using hmb1.symm))
    refine dr_end (hK _ _ (hS6) ?_); clear hK; clear K
    refine dr_done (by kernel_rfl) ?_
    refine c_seq ?_; refine c_region ?_
    refine st he (d_move rfl) rfl rfl rfl ?_; clear he; clear a; intro a he
    refine st he (d_nilCheck rfl) rfl rfl rfl ?_; clear he; clear a; intro a he
    refine st he (d_fieldr fa69_2 rfl) rfl rfl rfl ?_; clear he; clear a; intro a he
    refine st he (d_loadr ti3 rfl hS6.1 rfl) rfl rfl rfl ?_; clear he; clear a; intro a he
    refine st he (d_sub rfl rfl (by omega)) rfl rfl rfl ?_; clear he; clear a; intro a he
    refine st he (d_nilCheck rfl) rfl rfl rfl ?_; clear he; clear a; intro a he
    refine st he (d_fieldr fa69_2 rfl) rfl rfl rfl ?_; clear he; clear a; intro a he
    refine st_store he [_] ti3 rfl rfl hS6.1 rfl rfl (Nat.le_of_ble_eq_true rfl) rfl ?_; clear he; clear a; intro w7 ho7 hr7 hs7 a he
    refine r_nil ?_
    refine c_seq ?_; refine c_region ?_
    refine st he (d_assign rfl) rfl rfl rfl ?_; clear he; clear a; intro a he
    refine r_nil ?_
    refine c_ret ?_
    refine done1 he rfl rfl ?_
    rw [hul, if_neg hc1']
    refine ⟨rfl, ⟨hr7.eq ?_, hm6.keep ho7 (by simpa using hne.symm), fun p hp => ?_, fun p hp => ?_, by simp only; omega⟩, ((hod.and0 ho5).and ho6 (by simp)).and ho7 (by simp)⟩
    · have e : (((m.map (·.2)).sum : Nat) : Int) - 1 = (((mput r (c - 1) m).map (·.2)).sum : Nat) := by omega
      rw [e]; rfl
    · rcases mem_mput hp with rfl | hp
      · simp only; have : c ≠ 0 := fun e => by subst e; exact hc2 rfl
        omega
      · exact h.pos p hp
    · rcases mem_mput hp with rfl | hp
      · exact hok
      · exact h.ok p hp

end Go.Proofs.Learn
