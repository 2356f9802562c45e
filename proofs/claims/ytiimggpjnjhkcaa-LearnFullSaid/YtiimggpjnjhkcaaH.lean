import Derived.Test.YtiimggpjnjhkcaaG
namespace Go.Proofs.Learn
open Go.V

abbrev bV (n : Nat) : Value := .int .u8 n
def encB (n : Nat) : List Value := [bV n]
theorem hkB (x : Nat) : (encB x).length = 1 := rfl
theorem h1B (x : Nat) : ∀ u ∈ encB x, u.oneCell' = true := by simp [encB, Value.oneCell']
def bigL (x : Nat) : List Nat := [x / 256, x % 256]

/-- big -/
theorem f29_c {B : Nat} {w : World} {v : Value} {bs : List Nat} (h : Own B 5 1 encB w v bs) (x : Nat) (hx : x < 65536) (hB : B ≤ w.heap.size) (hl : bs.length ≤ 1000000) :
    Ret Try.prog 29 [v, iV x] w fun v' w' => Own B 5 1 encB w' v' (bs ++ bigL x) ∧ Only v.ownBlock.toList w w' ∧ (v'.ownBlock = v.ownBlock ∨ ∃ g, v'.ownBlock = some g ∧ w.heap.size ≤ g) := by
  refine enter Try.func29 rfl rfl fun a he => ?_
  replace he : Env 13 [(0, v), (1, iV x)] a := he
  refine c_seq ?_; refine c_region ?_
  refine st he (d_assign rfl) rfl rfl rfl ?_; clear he; clear a; intro a he
  refine r_nil ?_
  refine c_seq ?_; refine c_region ?_
  refine st he (d_move rfl) rfl rfl rfl ?_; clear he; clear a; intro a he
  refine st he (d_move rfl) rfl rfl rfl ?_; clear he; clear a; intro a he
  refine st he (d_shr rfl rfl (by decide) (n := 8) rfl) rfl rfl rfl ?_; clear he; clear a; intro a he
  refine st he (d_conv un5 ⟨_, un3⟩ rfl) rfl rfl rfl ?_; clear he; clear a; intro a he
  refine st he (d_move rfl) rfl rfl rfl ?_; clear he; clear a; intro a he
  refine st he (d_conv un5 ⟨_, un3⟩ rfl) rfl rfl rfl ?_; clear he; clear a; intro a he
  have e1 : IntKind.u8.wrap (Int.fdiv x (2 ^ 8)) = ((x / 256 : Nat) : Int) := by
    rw [wrap_u8, Int.fdiv_eq_ediv_of_nonneg _ (by decide)]
    have : (2 : Int) ^ 8 = 256 := rfl
    rw [this]; omega
  have e2 : IntKind.u8.wrap (x : Int) = ((x % 256 : Nat) : Int) := by rw [wrap_u8]; omega
  rw [e1, e2] at he
  refine st_buildSlice he (cs := #[bV (x / 256), bV (x % 256)]) (E := 5) rfl rfl (fun _ => by kernel_rfl) rfl ?_; clear he; clear a; intro b1 w1 hb1 ho1 hr1 a he
  have hown1 := h.keep0 ho1
  have hv1 : Vec 1 encB w1 (.slice (some ⟨b1, 0, none⟩) 2 2) (bigL x) := hr1.vec hkB _ 2 2 rfl (Nat.le_refl 2) rfl
  have hlen : (bigL x).length = 2 := rfl
  refine st_append he rfl rfl hkB (by decide) h1B un30 ei5 hown1 hv1 (by omega) (Nat.le_trans hB ho1.size) rfl ?_; clear he; clear a; intro v2 w2 hown2 ho2 hloc2 a he
  refine st he (d_assign rfl) rfl rfl rfl ?_; clear he; clear a; intro a he
  refine r_nil ?_
  refine c_ret ?_
  refine done1 he rfl rfl ⟨hown2, (ho1.mono (by simp)).and ho2 (fun k hk => .inl hk), ?_⟩
  rcases hloc2 with e | e
  · exact .inl e
  · exact .inr ⟨_, e, ho1.size⟩

/-- The bytes of a row. -/
def rowB (c : CR) : List Nat := bigL (c.1.1 + 1000).toNat ++ bigL (c.1.2.1 + 1000).toNat ++ bigL (c.1.2.2.1 + 1000).toNat ++ [c.1.2.2.2.toNat] ++ bigL c.2
/-- The bytes of rows. -/
def imgB (xs : List CR) : List Nat := bigL xs.length ++ xs.flatMap rowB

theorem rowB_length (c : CR) : (rowB c).length = 9 := rfl
theorem flat9 : ∀ xs : List CR, (xs.flatMap rowB).length = 9 * xs.length
  | [] => rfl
  | c :: xs => by simp only [List.flatMap_cons, List.length_append, rowB_length, flat9 xs, List.length_cons]; omega

theorem okPt_bd {x : P3} (h : okPt x = true) : ∀ n ∈ ptL x, -1000 ≤ n ∧ n ≤ 1000 := by
  rw [okPt_all, List.all_eq_true] at h
  intro n hn
  have := h n hn
  simpa [inX] using this

theorem take_snoc {α : Type} {l : List α} {i : Nat} {x : α} (h : l[i]? = some x) : l.take (i + 1) = l.take i ++ [x] := by
  obtain ⟨hi, e⟩ := List.getElem?_eq_some_iff.1 h
  rw [List.take_succ_eq_append_getElem hi, e]

theorem Model.length {w : World} {b mb : Nat} {m : List CR} (h : Model w b mb m) : m.length ≤ 500 := by
  have hp := h.pos
  have hs := h.most
  have key : ∀ l : List CR, (∀ p ∈ l, 0 < p.2) → l.length ≤ (l.map (·.2)).sum := by
    intro l
    induction l with
    | nil => simp
    | cons p l ih =>
      intro hp
      have := ih fun q hq => hp q (List.mem_cons_of_mem _ hq)
      have := hp p (by simp)
      simp only [List.length_cons, List.map_cons, List.sum_cons]; omega
  exact Nat.le_trans (key m hp) hs

theorem le_sum_of_mem {n : Nat} : ∀ {l : List Nat}, n ∈ l → n ≤ l.sum
  | x :: l, h => by
    rcases List.mem_cons.1 h with rfl | h
    · simp
    · have := le_sum_of_mem h; simp only [List.sum_cons]; omega

/-- Image -/
theorem f12_c {w : World} {b mb : Nat} {m : List CR} (h : Model w b mb m) : Ret Try.prog 12 [ptrV b] w fun v w' => ∃ xs : List CR, xs.Perm m ∧ xs.Pairwise (fun a b => rl a.1 b.1) ∧ Own w.heap.size 5 1 encB w' v (imgB xs) ∧ Only [] w w' := by
  refine enter Try.func12 rfl rfl fun a he => ?_
  replace he : Env 45 [(0, ptrV b)] a := he
  have hml := h.length
  refine c_seq ?_; refine c_region ?_
  refine st he (d_assign rfl) rfl rfl rfl ?_; clear he; clear a; intro a he
  refine r_nil ?_
  refine c_seq ?_
  refine c_seq ?_; refine c_region ?_
  refine st he (d_move rfl) rfl rfl rfl ?_; clear he; clear a; intro a he
  refine st_call he rfl rfl rfl rfl rfl ent25 (f25_c h) ?_; clear he; clear a; intro v1 w1 ⟨hv1, hw1⟩ a he
  subst hv1 hw1
  refine r_nil ?_
  refine c_cond he rfl (fun hc1 => ?_) (fun hc1 => ?_)
  · cases hc1
  refine c_skip ?_
  refine c_seq ?_; refine c_region ?_
  refine st he (d_move rfl) rfl rfl rfl ?_; clear he; clear a; intro a he
  refine st_call he rfl rfl rfl rfl rfl ent28 (f28_c h hml) ?_; clear he; clear a; intro v2 w2 ⟨xs, hperm, hsort, hown2, ho2⟩ a he
  refine st he (d_assign rfl) rfl rfl rfl ?_; clear he; clear a; intro a he
  refine r_nil ?_
  have hxl : xs.length ≤ 500 := by rw [hperm.length_eq]; exact hml
  have hV := hown2.vec hkC
  refine c_seq ?_; refine c_region ?_
  refine st he (d_move rfl) rfl rfl rfl ?_; clear he; clear a; intro a he
  refine st he (d_vlen un75 rfl hV) rfl rfl rfl ?_; clear he; clear a; intro a he
  refine st_call he rfl rfl rfl rfl rfl ent29 (f29_c (B := w2.heap.size) (Own.nil _ _ _ _ _) xs.length (by omega) (Nat.le_refl _) (by simp)) ?_; clear he; clear a; intro v3 w3 ⟨hown3, ho3, hloc3⟩ a he
  rw [List.nil_append] at hown3
  replace ho3 : Only [] w2 w3 := ho3
  refine st he (d_assign rfl) rfl rfl rfl ?_; clear he; clear a; intro a he
  refine r_nil ?_
  refine c_seq ?_
  refine c_seq ?_; refine c_region ?_
  refine st he (d_move rfl) rfl rfl rfl ?_; clear he; clear a; intro a he
  refine st he (d_vlen un75 rfl (hV.keep0 hkC ho3)) rfl rfl rfl ?_; clear he; clear a; intro a he
  refine st he (d_move rfl) rfl rfl rfl ?_; clear he; clear a; intro a he
  refine r_nil ?_
  refine c_block ?_
  refine c_loop (fun k a w' => ∃ (i : Nat) (v : Value), k = xs.length - i ∧ i ≤ xs.length ∧ Own w2.heap.size 5 1 encB w' v (bigL xs.length ++ (xs.take i).flatMap rowB) ∧ Only [] w2 w' ∧ Env 45 [(4, v), (16, v2), (17, iV xs.length), (18, iV i)] a) xs.length ⟨0, v3, rfl, by omega, by simpa using hown3, ho3, he.only _ (by simp [lk])⟩ ?_
  clear he; clear a; clear hown3; intro k a w4 ⟨i, v, hk, hi, hown, ho4, he⟩
  refine c_seq ?_; refine c_region ?_
  refine st he (d_lss rfl rfl) rfl rfl rfl ?_; clear he; clear a; intro a he
  refine r_nil ?_
  refine c_seq ?_
  refine c_cond_ifn he rfl (fun hc2 => ?_) (fun hc2 => ?_)
  · refine c_exit rfl ?_
    refine c_seq ?_; refine c_region ?_
    refine st he (d_move rfl) rfl rfl rfl ?_; clear he; clear a; intro a he
    refine st he (d_assign rfl) rfl rfl rfl ?_; clear he; clear a; intro a he
    refine r_nil ?_
    refine c_ret ?_
    have e : i = xs.length := by omega
    rw [e, List.take_length] at hown
    refine done1 he rfl rfl ⟨xs, hperm, hsort, ?_, ho2.and0 ho4⟩
    refine ⟨hown.1, ?_⟩
    rcases hown.2 with h0 | ⟨g, cap, cur, q1, q2, q3⟩
    · exact .inl h0
    · exact .inr ⟨g, cap, cur, q1, Nat.le_trans ho2.size q2, q3⟩
  refine c_skip ?_
  obtain ⟨c, hc⟩ := get_of_lt (l := xs) (i := i) (by omega)
  have hcm : c ∈ m := hperm.subset (List.mem_of_getElem? hc)
  have hok := h.ok c hcm
  simp only [okRow, Bool.and_eq_true, decide_eq_true_eq] at hok
  have hbd := okPt_bd hok.1
  have hlab := hok.2
  have hn : c.2 ≤ 500 := Nat.le_trans (le_sum_of_mem (List.mem_map.2 ⟨c, hcm, rfl⟩)) h.most
  have hlen0 : (bigL xs.length ++ (xs.take i).flatMap rowB).length = 2 + 9 * i := by
    rw [List.length_append, flat9, List.length_take]
    have : (bigL xs.length).length = 2 := rfl
    omega
  obtain ⟨gb, go, gcap, hve, hcell⟩ := (hV.keep0 hkC ho4).at hc
  subst hve
  refine c_seq ?_
  refine c_block ?_
  refine c_seq ?_; refine c_region ?_
  refine st he (d_indexs un75 ti79 rfl rfl (by omega)) rfl rfl rfl ?_; clear he; clear a; intro a he
  refine st he (d_loadk (encC c) ti79 rfl rfl (fun j hj => by rw [Int.toNat_natCast]; exact hcell j hj)) rfl rfl rfl ?_; clear he; clear a; intro a he
  refine st_alloc he (z := cV ((0, 0, 0, 0), 0)) (fun _ => by kernel_rfl) rfl ?_; clear he; clear a; intro b5 w5 hb5 ho5 hr5 a he   -- t6 = alloc T79 ; learn.go:370
  refine st_store he (encC c) ti79 rfl rfl hr5 rfl rfl (Nat.le_of_ble_eq_true rfl) rfl ?_; clear he; clear a; intro w6 ho6 hr6 hs6 a he
  refine r_nil ?_
  have hr6' : Row w6 b5 (encC c).toArray 79 := hr6
  clear hr6 hr5
  have ho46 : Only [] w4 w6 := ho5.and ho6 (by simp; omega)
  refine c_seq ?_
  refine c_seq ?_; refine c_region ?_
  refine st he (d_fieldr fa79_0 rfl) rfl rfl rfl ?_; clear he; clear a; intro a he
  refine st he (d_fieldr fa24_0 rfl) rfl rfl rfl ?_; clear he; clear a; intro a he
  refine st he (d_loadkr [_, _, _] ti22 rfl hr6' rfl rfl) rfl rfl rfl ?_; clear he; clear a; intro a he
  refine st he (d_move rfl) rfl rfl rfl ?_; clear he; clear a; intro a he
  refine r_nil ?_
  refine c_block ?_
  have hb5' : w2.heap.size ≤ b5 := Nat.le_trans ho4.size hb5
  refine c_loop (fun k a w' => ∃ (j : Nat) (v : Value), k = 3 - j ∧ j ≤ 3 ∧ Own w2.heap.size 5 1 encB w' v (bigL xs.length ++ (xs.take i).flatMap rowB ++ ((ptL (ptOf c.1)).take j).flatMap (fun n => bigL (n + 1000).toNat)) ∧ Row w' b5 (encC c).toArray 79 ∧ v.ownBlock ≠ some b5 ∧ Only [] w2 w' ∧ Env 45 [(4, v), (6, ptrV b5), (24, ptV (ptOf c.1)), (25, iV j), (16, .slice (some ⟨gb, go, none⟩) xs.length gcap), (17, iV xs.length), (18, iV i)] a) 3
    ⟨0, v, rfl, by omega, by simpa using hown.keep0 ho46, hr6', ?_, ho4.and0 ho46, he.only _ (by simp [lk]; rfl)⟩ ?_
  · intro e
    have := (hown.lt _ e).2
    omega
  clear he; clear a; clear hr6' hown v; intro k2 a w7 ⟨j, v, hk2, hj, hown, hr7, hne, ho7, he⟩
  have hlen7 : (bigL xs.length ++ (xs.take i).flatMap rowB ++ ((ptL (ptOf c.1)).take j).flatMap (fun n => bigL (n + 1000).toNat)).length = 2 + 9 * i + 2 * j := by
    rw [List.length_append, hlen0]
    congr 1
    match j, hj with
    | 0, _ => rfl
    | 1, _ => rfl
    | 2, _ => rfl
    | 3, _ => rfl
  refine c_seq ?_; refine c_region ?_
  refine st he (d_lss rfl rfl) rfl rfl rfl ?_; clear he; clear a; intro a he
  refine r_nil ?_
  refine c_seq ?_
  refine c_cond_ifn he rfl (fun hc3 => ?_) (fun hc3 => ?_)
  · refine c_exit rfl ?_
    obtain rfl : j = 3 := by omega
    refine dr_start mixed (fun w => Row w b5 (encC c).toArray 79) rfl ?_; intro w8 ho8 hk8 hz8
    have hS : Row w8 b5 (encC c).toArray 79 := hr7.keep0 ho8
    have hown8 := hown.keep0 ho8
    refine dr_take he (i := 0) rfl (by kernel_rfl) (by kernel_rfl) (by kernel_rfl) rfl rfl rfl hS (fun w hS => d_move rfl) ?_; clear he; clear a; intro a he
    refine dr_take he (i := 1) rfl (by kernel_rfl) (by kernel_rfl) (by kernel_rfl) rfl rfl rfl hS (fun w hS => d_fieldr fa79_0 rfl) ?_; clear he; clear a; intro a he
    refine dr_take he (i := 2) rfl (by kernel_rfl) (by kernel_rfl) (by kernel_rfl) rfl rfl rfl hS (fun w hS => d_fieldr fa24_1 rfl) ?_; clear he; clear a; intro a he
    refine dr_take he (i := 3) rfl (by kernel_rfl) (by kernel_rfl) (by kernel_rfl) rfl rfl rfl hS (fun w hS => d_loadr ti3 rfl hS rfl) ?_; clear he; clear a; intro a he
    refine dr_take he (i := 4) rfl (by kernel_rfl) (by kernel_rfl) (by kernel_rfl) rfl rfl rfl hS (fun w hS => d_conv un5 ⟨_, un3⟩ rfl) ?_; clear he; clear a; intro a he
    have e4 : IntKind.u8.wrap c.1.2.2.2 = ((c.1.2.2.2.toNat : Nat) : Int) := by rw [wrap_u8]; omega
    replace he := he.set (t := 37) (u := bV c.1.2.2.2.toNat) rfl (congrArg _ e4)
    refine dr_take he (i := 7) rfl (by kernel_rfl) (by kernel_rfl) (by kernel_rfl) rfl rfl rfl hS (fun w hS => d_fieldr fa79_1 rfl) ?_; clear he; clear a; intro a he
    refine dr_take he (i := 8) rfl (by kernel_rfl) (by kernel_rfl) (by kernel_rfl) rfl rfl rfl hS (fun w hS => d_loadr ti3 rfl hS rfl) ?_; clear he; clear a; intro a he
    refine dr_one (i := 5) rfl (by kernel_rfl) ?_; intro K hK
    refine st_buildSlice he (cs := #[bV c.1.2.2.2.toNat]) (E := 5) rfl rfl (fun _ => by kernel_rfl) rfl ?_; clear he; clear a; intro b9 w9 hb9 ho9 hr9 a he
    have hS := hS.keep0 ho9
    refine dr_end (hK _ _ (hS) ?_); clear hK; clear K
    refine dr_one (i := 6) rfl (by kernel_rfl) ?_; intro K hK
    have hown9 := hown8.keep0 ho9
    have hv9 : Vec 1 encB w9 (.slice (some ⟨b9, 0, none⟩) 1 1) [c.1.2.2.2.toNat] := hr9.vec hkB _ 1 1 rfl (Nat.le_refl 1) rfl
    have hs9 : w2.heap.size ≤ w9.heap.size := Nat.le_trans ho7.size (Nat.le_trans ho8.size ho9.size)
    have hl1 : [c.1.2.2.2.toNat].length = 1 := rfl
    refine st_append he rfl rfl hkB (by decide) h1B un30 ei5 hown9 hv9 (by omega) hs9 rfl ?_; clear he; clear a; intro v10 w10 hown10 ho10 hloc10 a he
    have hS := hS.keep ho10 (by cases hv : v.ownBlock <;> simp; intro e; subst e; exact hne hv)
    refine dr_end (hK _ _ (hS) ?_); clear hK; clear K
    refine dr_one (i := 9) rfl (by kernel_rfl) ?_; intro K hK
    refine st_call he rfl rfl rfl rfl rfl ent29 (f29_c hown10 c.2 (by omega) (Nat.le_trans hs9 ho10.size) (by rw [List.length_append]; omega)) ?_; clear he; clear a; intro v11 w11 ⟨hown11, ho11, hloc11⟩ a he
    have hb10 : ∀ x ∈ v10.ownBlock.toList, w2.heap.size ≤ x := by
      intro x hx
      have : v10.ownBlock = some x := by simpa using hx
      exact (hown10.lt _ this).1
    have hlt5 := hS.lt
    have hne10 : v10.ownBlock ≠ some b5 := by
      rcases hloc10 with e | e
      · rw [e]; exact hne
      · rw [e]; intro e'
        simp only [Option.some.injEq] at e'
        have := (hr7.lt)
        have := ho8.size; have := ho9.size; omega
    have hS := hS.keep ho11 (by cases hv : v10.ownBlock <;> simp; intro e; subst e; exact hne10 hv)
    refine dr_end (hK _ _ (hS) ?_); clear hK; clear K
    refine dr_take he (i := 10) rfl (by kernel_rfl) (by kernel_rfl) (by kernel_rfl) rfl rfl rfl hS (fun w hS => d_assign rfl) ?_; clear he; clear a; intro a he
    refine dr_done (by kernel_rfl) ?_
    refine c_region ?_
    refine st he (d_add rfl rfl (by omega)) rfl rfl rfl ?_; clear he; clear a; intro a he
    refine st he (d_move rfl) rfl rfl rfl ?_; clear he; clear a; intro a he
    refine r_nil ?_
    have ho711 : Only [] w2 w11 := by
      have a1 : Only [] w2 w9 := (ho7.and0 ho8).and0 ho9
      have a2 : Only [] w2 w10 := a1.and ho10 (fun x hx => .inr (by have : v.ownBlock = some x := by simpa using hx
                                                                    exact (hown9.lt _ this).1))
      exact a2.and ho11 (fun x hx => .inr (hb10 x hx))
    refine ⟨xs.length - (i + 1), by omega, i + 1, v11, rfl, by omega, ?_, ho711, he.only _ (by simp [lk])⟩
    rw [take_snoc hc, List.flatMap_append]
    have : bigL xs.length ++ (List.flatMap rowB (List.take i xs) ++ List.flatMap rowB [c]) = bigL xs.length ++ List.flatMap rowB (List.take i xs) ++ List.flatMap (fun n => bigL (n + 1000).toNat) (List.take 3 (ptL (ptOf c.1))) ++ [c.1.2.2.2.toNat] ++ bigL c.2 := by
      simp [rowB, ptL, ptOf]
    rw [this]; exact hown11
  refine c_skip ?_
  obtain ⟨n, hnn, hnv⟩ := ptV_at (ptOf c.1) j (by omega)
  have hnb := hbd n (List.mem_of_getElem? hnn)
  refine c_seq ?_
  refine c_block ?_
  refine c_seq ?_; refine c_region ?_
  refine st he (d_index un22 ti3 rfl rfl (by omega) (Int.toNat_natCast j) hnv) rfl rfl rfl ?_; clear he; clear a; intro a he
  refine st he (d_assign rfl) rfl rfl rfl ?_; clear he; clear a; intro a he
  refine r_nil ?_
  refine c_region ?_
  refine st he (d_move rfl) rfl rfl rfl ?_; clear he; clear a; intro a he
  refine st he (d_move rfl) rfl rfl rfl ?_; clear he; clear a; intro a he
  refine st he (d_add rfl rfl (by omega)) rfl rfl rfl ?_; clear he; clear a; intro a he
  have e5 : n + 1000 = (((n + 1000).toNat : Nat) : Int) := by omega
  replace he := he.set (t := 30) (u := iV (((n + 1000).toNat : Nat) : Int)) rfl (congrArg _ e5)
  refine st_call he rfl rfl rfl rfl rfl ent29 (f29_c hown (n + 1000).toNat (by omega) ho7.size (by omega)) ?_; clear he; clear a; intro v8 w8 ⟨hown8, ho8, hloc8⟩ a he
  refine st he (d_assign rfl) rfl rfl rfl ?_; clear he; clear a; intro a he
  refine r_nil ?_
  refine c_region ?_
  refine st he (d_add rfl rfl (by omega)) rfl rfl rfl ?_; clear he; clear a; intro a he
  refine st he (d_move rfl) rfl rfl rfl ?_; clear he; clear a; intro a he
  refine r_nil ?_
  refine ⟨3 - (j + 1), by omega, j + 1, v8, rfl, by omega, ?_, hr7.keep ho8 (by cases hv : v.ownBlock <;> simp; intro e; subst e; exact hne hv), ?_, ?_, he.only _ (by simp [lk])⟩
  · rw [take_snoc hnn, List.flatMap_append, ← List.append_assoc]
    simpa using hown8
  · rcases hloc8 with e | ⟨g, e, hg⟩
    · rw [e]; exact hne
    · rw [e]; intro e'
      simp only [Option.some.injEq] at e'
      have := hr7.lt; omega
  · exact ho7.and ho8 (fun x hx => .inr (by have : v.ownBlock = some x := by simpa using hx
                                            exact (hown.lt _ this).1))

end Go.Proofs.Learn
