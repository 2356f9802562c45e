import Derived.Test.YtiimggpjnjhkcaaV9
import Derived.Test.YtiimggpjnjhkcaaB
namespace Go.Proofs.Learn
open Go.V

/-- What Learn does to the rows, and its error. -/
def lrn (m : List (R4 × Nat)) (r : R4) : List (R4 × Nat) × Int :=
  if okRow r = false then (m, 1) else if 500 ≤ (m.map (·.2)).sum then (m, 5) else (mput r ((mget r m).getD 0 + 1) m, 0)
/-- What Unlearn does to them. -/
def unl (m : List (R4 × Nat)) (r : R4) : List (R4 × Nat) × Int :=
  if okRow r = false then (m, 1) else match mget r m with
    | none => (m, 3)
    | some c => if c = 1 then (mdel r m, 0) else (mput r (c - 1) m, 0)

theorem sum_mput (r : R4) (v : Nat) : ∀ m : List (R4 × Nat), ((mput r v m).map (·.2)).sum + (mget r m).getD 0 = (m.map (·.2)).sum + v
  | [] => by simp [mput, mget]
  | p :: m => by
    simp only [mput, mget]
    by_cases e : r = p.1
    · simp [e]; omega
    · simp only [if_neg e, List.map_cons, List.sum_cons]
      have := sum_mput r v m
      omega
theorem sum_mdel (r : R4) : ∀ m : List (R4 × Nat), ((mdel r m).map (·.2)).sum + (mget r m).getD 0 = (m.map (·.2)).sum
  | [] => by simp [mdel, mget]
  | p :: m => by
    simp only [mdel, mget]
    by_cases e : r = p.1
    · simp [e]; omega
    · simp only [if_neg e, List.map_cons, List.sum_cons]
      have := sum_mdel r m
      omega
theorem mem_mput {r : R4} {v : Nat} {p : R4 × Nat} : ∀ {m : List (R4 × Nat)}, p ∈ mput r v m → p = (r, v) ∨ p ∈ m
  | [], h => by simp [mput] at h; exact .inl h
  | q :: m, h => by
    simp only [mput] at h
    by_cases e : r = q.1
    · rw [if_pos e] at h
      rcases List.mem_cons.1 h with h | h
      · exact .inl h
      · exact .inr (List.mem_cons_of_mem _ h)
    · rw [if_neg e] at h
      rcases List.mem_cons.1 h with h | h
      · exact .inr (by simp [h])
      · exact (mem_mput h).imp id (List.mem_cons_of_mem _)
theorem mget_mem {r : R4} {c : Nat} : ∀ {m : List (R4 × Nat)}, mget r m = some c → (r, c) ∈ m
  | [], h => by simp [mget] at h
  | q :: m, h => by
    simp only [mget] at h
    by_cases e : r = q.1
    · rw [if_pos e] at h
      simp only [Option.some.injEq] at h
      subst h; subst e; exact List.mem_cons_self
    · rw [if_neg e] at h
      exact List.mem_cons_of_mem _ (mget_mem h)
theorem mput_mput (r : R4) (u v : Nat) : ∀ m : List (R4 × Nat), mput r v (mput r u m) = mput r v m
  | [] => by simp [mput]
  | p :: m => by
    simp only [mput]
    by_cases e : r = p.1
    · simp [e, mput]
    · simp only [if_neg e, mput, mput_mput r u v m]
theorem mget_le (r : R4) : ∀ m : List (R4 × Nat), (mget r m).getD 0 ≤ (m.map (·.2)).sum
  | [] => by simp [mget]
  | p :: m => by
    simp only [mget]
    by_cases e : r = p.1
    · simp [e]
    · simp only [if_neg e, List.map_cons, List.sum_cons]
      have := mget_le r m
      omega
theorem mget_mput (r : R4) (v : Nat) : ∀ m : List (R4 × Nat), mget r (mput r v m) = some v
  | [] => by simp [mput, mget]
  | p :: m => by
    simp only [mput]
    by_cases e : r = p.1
    · simp [e, mget]
    · simp only [if_neg e, mget, mget_mput r v m]
theorem getD_natV (o : Option Nat) : (o.map natV).getD (natV 0) = natV (o.getD 0) := by cases o <;> rfl

/-- Learn -/
theorem f10_c {w : World} {b mb : Nat} {m : List (R4 × Nat)} (h : Model w b mb m) (r : R4) : Ret Try.prog 10 [ptrV b, rowV r] w fun v w' => v = .int .i64 (lrn m r).2 ∧ Model w' b mb (lrn m r).1 ∧ Only [b, mb] w w' := by
  refine enter Try.func10 rfl rfl fun a he => ?_
  replace he : Env 33 [(0, ptrV b), (1, rowV r)] a := he
  refine c_seq ?_; refine c_region ?_
  refine st_box he rfl rfl ?_; clear he; clear a; intro b1 w1 hb1 ho1 hr1 a he
  have h1 := h.keep0 ho1
  refine st he (d_assign rfl) rfl rfl rfl ?_; clear he; clear a; intro a he
  refine r_nil ?_
  refine c_seq ?_
  refine c_seq ?_; refine c_region ?_
  refine st he (d_move rfl) rfl rfl rfl ?_; clear he; clear a; intro a he
  refine st_call he rfl rfl rfl rfl rfl ent25 (f25_c h1) ?_; clear he; clear a; intro v2 w2 ⟨hv2, hw2⟩ a he
  subst hv2 hw2
  refine st he (d_move rfl) rfl rfl rfl ?_; clear he; clear a; intro a he
  refine st_yes he rfl rfl rfl rfl (d_loadkr [_, _, _, _] ti24 rfl hr1 rfl rfl) rfl rfl ?_; clear he; clear a; intro a he
  refine st_call_yes he rfl rfl rfl rfl rfl rfl rfl rfl ent26 (f26_c r w1) ?_; clear he; clear a; intro v3 w3 ⟨hv3, ho3⟩ a he
  subst hv3
  have h3 := h1.keep0 ho3
  have hr3 := hr1.keep0 ho3
  refine st_yes he rfl rfl rfl rfl (d_not rfl) rfl rfl ?_; clear he; clear a; intro a he
  refine st he (d_pick_f rfl rfl) rfl rfl rfl ?_; clear he; clear a; intro a he
  refine r_nil ?_
  refine c_cond he rfl (fun hc1 => ?_) (fun hc1 => ?_)
  · refine c_seq ?_; refine c_region ?_
    refine st he (d_assign rfl) rfl rfl rfl ?_; clear he; clear a; intro a he
    refine r_nil ?_
    refine c_ret ?_
    have e : okRow r = false := by simpa using hc1
    refine done1 he rfl rfl ?_
    rw [lrn, if_pos e]
    exact ⟨rfl, h3, (ho1.and0 ho3).mono (by simp)⟩
  have hok : okRow r = true := by simpa using hc1
  refine c_skip ?_
  refine c_seq ?_
  refine c_seq ?_; refine c_region ?_
  refine st he (d_move rfl) rfl rfl rfl ?_; clear he; clear a; intro a he
  refine st he (d_nilCheck rfl) rfl rfl rfl ?_; clear he; clear a; intro a he
  refine st he (d_fieldr fa69_2 rfl) rfl rfl rfl ?_; clear he; clear a; intro a he
  refine st he (d_loadr ti3 rfl h3.row rfl) rfl rfl rfl ?_; clear he; clear a; intro a he
  refine st he (d_geq rfl rfl) rfl rfl rfl ?_; clear he; clear a; intro a he
  refine r_nil ?_
  refine c_cond_if he rfl (fun hc2 => ?_) (fun hc2 => ?_)
  · refine c_seq ?_; refine c_region ?_
    refine st he (d_assign rfl) rfl rfl rfl ?_; clear he; clear a; intro a he
    refine r_nil ?_
    refine c_ret ?_
    refine done1 he rfl rfl ?_
    rw [lrn, if_neg (by simp [hok]), if_pos (by omega)]
    exact ⟨rfl, h3, (ho1.and0 ho3).mono (by simp)⟩
  refine c_skip ?_
  have hsum := sum_mput r ((mget r m).getD 0 + 1) m
  have hle := mget_le r m
  have hb1' : b ≠ b1 := fun e => by have := h.row.lt; omega
  have hmb1 : mb ≠ b1 := fun e => by have := h.map.lt; omega
  have hne := h.ne
  refine c_cut (fun a w' => ∃ m6, m6 = mput r ((mget r m).getD 0 + 1) m ∧ MapAt rowV natV w' mb m6 ∧ Row w' b #[.bool true, .map (some mb), .int .i64 ((m.map (·.2)).sum : Nat)] 69 ∧ Only [b, mb] w w' ∧ Env 33 [(0, ptrV b)] a) ?_ ?_
  · refine dr_start mixed (fun w => Row w b #[.bool true, .map (some mb), .int .i64 ((m.map (·.2)).sum : Nat)] 69 ∧ Row w b1 (rowV r).cells 24) rfl ?_; intro w4 ho4 hk4 hz4
    have hS : Row w4 b #[.bool true, .map (some mb), .int .i64 ((m.map (·.2)).sum : Nat)] 69 ∧ Row w4 b1 (rowV r).cells 24 := ⟨h3.row.keep0 ho4, hr3.keep0 ho4⟩
    have hm4 := h3.map.keep0 ho4
    refine dr_take he (i := 0) rfl (by kernel_rfl) (by kernel_rfl) (by kernel_rfl) rfl rfl rfl hS (fun w hS => d_move rfl) ?_; clear he; clear a; intro a he
    refine dr_take he (i := 1) rfl (by kernel_rfl) (by kernel_rfl) (by kernel_rfl) rfl rfl rfl hS (fun w hS => d_nilCheck rfl) ?_; clear he; clear a; intro a he
    refine dr_take he (i := 2) rfl (by kernel_rfl) (by kernel_rfl) (by kernel_rfl) rfl rfl rfl hS (fun w hS => d_fieldr fa69_1 rfl) ?_; clear he; clear a; intro a he
    refine dr_take he (i := 3) rfl (by kernel_rfl) (by kernel_rfl) (by kernel_rfl) rfl rfl rfl hS (fun w hS => d_loadr ti67 rfl hS.1 rfl) ?_; clear he; clear a; intro a he
    refine dr_take he (i := 4) rfl (by kernel_rfl) (by kernel_rfl) (by kernel_rfl) rfl rfl rfl hS (fun w hS => d_loadkr [_, _, _, _] ti24 rfl hS.2 rfl rfl) ?_; clear he; clear a; intro a he
    refine dr_two (i := 5) (j := 7) rfl rfl (by kernel_rfl) ?_ ?_
    · intro K hK
      refine st he (d_lookup un67 key24 zero3 (k := r) rfl rfl hm4 false) rfl rfl rfl ?_; clear he; clear a; intro a he
      refine dr_end (hK _ _ (hS) ?_); clear hK; clear K
      simp only [Bool.false_eq_true, if_false, getD_natV] at he
      refine dr_take he (i := 6) rfl (by kernel_rfl) (by kernel_rfl) (by kernel_rfl) rfl rfl rfl hS (fun w hS => d_add rfl rfl (by omega)) ?_; clear he; clear a; intro a he
      refine dr_one (i := 7) rfl (by kernel_rfl) ?_; intro K hK
      refine st_mapEntry he un67 key24 (k := r) zero3 rfl rfl hm4 rfl ?_; clear he; clear a; intro w5 s hst ho5 hs5 a he
      have hS5 := And.intro (hS.1.keep ho5 (by simpa using hne)) (hS.2.keep ho5 (by simpa using hmb1.symm))
      clear hS
      have hS := hS5
      refine dr_end (hK _ _ (hS) ?_); clear hK; clear K
      refine dr_take he (i := 8) rfl (by kernel_rfl) (by kernel_rfl) (by kernel_rfl) rfl rfl rfl hS (fun w hS => d_extract rfl rfl) ?_; clear he; clear a; intro a he
      refine dr_one (i := 9) rfl (by kernel_rfl) ?_; intro K hK
      refine st_entryStore he ((mget r m).getD 0 + 1) rfl rfl rfl hst ?_; clear he; clear a; intro w6 hm6 ho6 hs6 a he
      have hS6 := And.intro (hS.1.keep ho6 (by simpa using hne)) (hS.2.keep ho6 (by simpa using hmb1.symm))
      refine dr_end (hK _ _ (hS6) ?_); clear hK; clear K
      refine dr_done (by kernel_rfl) ?_
      rw [mput_mput] at hm6
      exact ⟨_, rfl, hm6, hS6.1, ((((ho1.and0 ho3).and0 ho4).mono (S' := [b, mb]) (by simp)).and ho5 (by simp)).and ho6 (by simp), he.only _ (by simp [lk])⟩
    · intro K hK
      refine st_mapEntry he un67 key24 (k := r) zero3 rfl rfl hm4 rfl ?_; clear he; clear a; intro w5 s hst ho5 hs5 a he
      have hS5 := And.intro (hS.1.keep ho5 (by simpa using hne)) (hS.2.keep ho5 (by simpa using hmb1.symm))
      clear hS
      have hS := hS5
      refine dr_end (hK _ _ (hS) ?_); clear hK; clear K
      refine dr_take he (i := 8) rfl (by kernel_rfl) (by kernel_rfl) (by kernel_rfl) rfl rfl rfl hS (fun w hS => d_extract rfl rfl) ?_; clear he; clear a; intro a he
      refine dr_one (i := 5) rfl (by kernel_rfl) ?_; intro K hK
      refine st he (d_lookup un67 key24 zero3 (k := r) rfl rfl hst.at false) rfl rfl rfl ?_; clear he; clear a; intro a he
      refine dr_end (hK _ _ (hS) ?_); clear hK; clear K
      rw [mget_mput] at he
      simp only [Bool.false_eq_true, if_false, getD_natV, Option.getD_some] at he
      refine dr_take he (i := 6) rfl (by kernel_rfl) (by kernel_rfl) (by kernel_rfl) rfl rfl rfl hS (fun w hS => d_add rfl rfl (by omega)) ?_; clear he; clear a; intro a he
      refine dr_one (i := 9) rfl (by kernel_rfl) ?_; intro K hK
      refine st_entryStore he ((mget r m).getD 0 + 1) rfl rfl rfl hst ?_; clear he; clear a; intro w6 hm6 ho6 hs6 a he
      have hS6 := And.intro (hS.1.keep ho6 (by simpa using hne)) (hS.2.keep ho6 (by simpa using hmb1.symm))
      refine dr_end (hK _ _ (hS6) ?_); clear hK; clear K
      refine dr_done (by kernel_rfl) ?_
      rw [mput_mput] at hm6
      exact ⟨_, rfl, hm6, hS6.1, ((((ho1.and0 ho3).and0 ho4).mono (S' := [b, mb]) (by simp)).and ho5 (by simp)).and ho6 (by simp), he.only _ (by simp [lk])⟩
  clear he; clear a; intro a w6 ⟨m6, hm6e, hm6, hrow6, ho6, he⟩
  subst hm6e
  refine c_seq ?_; refine c_region ?_
  refine st he (d_move rfl) rfl rfl rfl ?_; clear he; clear a; intro a he
  refine st he (d_nilCheck rfl) rfl rfl rfl ?_; clear he; clear a; intro a he
  refine st he (d_fieldr fa69_2 rfl) rfl rfl rfl ?_; clear he; clear a; intro a he
  refine st he (d_loadr ti3 rfl hrow6 rfl) rfl rfl rfl ?_; clear he; clear a; intro a he
  refine st he (d_add rfl rfl (by omega)) rfl rfl rfl ?_; clear he; clear a; intro a he
  refine st he (d_nilCheck rfl) rfl rfl rfl ?_; clear he; clear a; intro a he
  refine st he (d_fieldr fa69_2 rfl) rfl rfl rfl ?_; clear he; clear a; intro a he
  refine st_store he [_] ti3 rfl rfl hrow6 rfl rfl (Nat.le_of_ble_eq_true rfl) rfl ?_; clear he; clear a; intro w7 ho7 hr7 hs7 a he
  refine r_nil ?_
  refine c_seq ?_; refine c_region ?_
  refine st he (d_assign rfl) rfl rfl rfl ?_; clear he; clear a; intro a he
  refine r_nil ?_
  refine c_ret ?_
  refine done1 he rfl rfl ?_
  rw [lrn, if_neg (by simp [hok]), if_neg (by omega)]
  have hm7 := hm6.keep ho7 (by simpa using hne.symm)
  refine ⟨rfl, ⟨?_, hm7, fun p hp => ?_, fun p hp => ?_, ?_⟩, ?_⟩
  · refine hr7.eq ?_
    have : ((mput r ((mget r m).getD 0 + 1) m).map (·.2)).sum = (m.map (·.2)).sum + 1 := by omega
    rw [this]; rfl
  · rcases mem_mput hp with rfl | hp
    · simp
    · exact h.pos p hp
  · rcases mem_mput hp with rfl | hp
    · exact hok
    · exact h.ok p hp
  · have := h.most; simp only; omega
  · exact ho6.and ho7 (by simp)

end Go.Proofs.Learn
