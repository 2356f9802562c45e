import Derived.Test.YtiimggpjnjhkcaaK
namespace Go.Proofs.Learn
open Go.V

theorem f113_tell {p q : Nat} (hby : p < 3) (hof : q < 3) {xs : List CR} (hok : ∀ c ∈ xs, okRow c.1 = true) (hsum : (xs.map (·.2)).sum ≤ 500) {i : Nat} {c : CR} (hc : xs[i]? = some c) {w : World} {tb : Nat} (hr : Row w tb (sumsA p q (sumsL p q (xs.take i))) 103) :
    Ret Try.prog 113 [ptrV tb, rowV c.1, natV c.2] w fun _ w' => Row w' tb (sumsA p q (sumsL p q (xs.take (i + 1)))) 103 ∧ Only [tb] w w' := by
  have hI : SInv (sumsL p q (xs.take i)) ((xs.take i).map (·.2)).sum := SInv.take hby hof (fun c hc => hok c (List.mem_of_mem_take hc))
  have hs : ((xs.take i).map (·.2)).sum ≤ 500 := by rw [List.map_take]; exact Nat.le_trans (sum_take_le _ _) hsum
  have hmem := List.mem_of_getElem? hc
  have h1 := hok c hmem
  simp only [okRow, Bool.and_eq_true] at h1
  have hp : ∀ i < 3, -1000 ≤ pick3 (ptOf c.1) i ∧ pick3 (ptOf c.1) i ≤ 1000 := by
    intro i hi
    refine okPt_bd h1.1 (pick3 (ptOf c.1) i) ?_
    unfold pick3
    match i, hi with
    | 0, _ => simp [ptL]
    | 1, _ => simp [ptL]
    | 2, _ => simp [ptL]
  have hc2 : c.2 ≤ 500 := Nat.le_trans (le_sum_of_mem (List.mem_map_of_mem hmem)) hsum
  have e : sumsL p q (xs.take (i + 1)) = addS p q (sumsL p q (xs.take i)) c := by
    rw [take_snoc hc]; simp [sumsL]
  rw [e]
  obtain ⟨q1, q2, q3, q4, q5, q6, q7⟩ := hI
  exact f113_c p q hby hof _ c tb w hr (hp p hby) (hp q hof) hc2 (by omega) (by omega) (by omega) (by omega) (by omega)

set_option maxRecDepth 4000 in
/-- Line -/
theorem f27_c {w : World} {b mb : Nat} {m : List CR} (h : Model w b mb m) (by_ of_ : Int) : Ret Try.prog 27 [ptrV b, iV by_, iV of_] w fun v w' => v = lineV (lineM m by_ of_) ∧ Only [] w w' := by
  refine enter Try.func27 rfl rfl fun a he => ?_
  replace he : Env 101 [(0, ptrV b), (1, iV by_), (2, iV of_)] a := he
  refine c_seq ?_; refine c_region ?_
  refine st_alloc he (z := frV (0, 0)) (fun _ => by kernel_rfl) rfl ?_; clear he; clear a; intro b1 w1 hb1 ho1 hr1 a he
  refine st_alloc he (z := frV (0, 0)) (fun _ => by kernel_rfl) rfl ?_; clear he; clear a; intro b2 w2 hb2 ho2 hr2 a he
  refine st he (d_assign rfl) rfl rfl rfl ?_; clear he; clear a; intro a he
  refine r_nil ?_
  have hr1 : Row w1 b1 (frA (0, 0)) 72 := hr1
  have hr2 : Row w2 b2 (frA (0, 0)) 72 := hr2
  have hr1' := hr1.keep0 ho2
  have hne12 : b1 ≠ b2 := fun e => by have := hr1.lt; omega
  have ho12 := ho1.and0 ho2
  refine c_seq ?_
  refine c_seq ?_; refine c_region ?_
  refine st he (d_move rfl) rfl rfl rfl ?_; clear he; clear a; intro a he
  refine st he (d_lss rfl rfl) rfl rfl rfl ?_; clear he; clear a; intro a he
  refine st he (d_move rfl) rfl rfl rfl ?_; clear he; clear a; intro a he
  refine st_gd he rfl rfl rfl rfl (fun hg => by rw [hg]; exact d_move rfl) rfl rfl ?_; clear he; clear a; intro a he
  refine st_gd he rfl rfl rfl rfl (fun hg => by rw [hg]; exact d_geq rfl rfl) rfl rfl ?_; clear he; clear a; intro a he
  refine st he (d_or rfl rfl) rfl rfl rfl ?_; clear he; clear a; intro a he
  refine st he (d_move rfl) rfl rfl rfl ?_; clear he; clear a; intro a he
  refine st_gd he rfl rfl rfl rfl (fun hg => by rw [hg]; exact d_move rfl) rfl rfl ?_; clear he; clear a; intro a he
  refine st_gd he rfl rfl rfl rfl (fun hg => by rw [hg]; exact d_lss rfl rfl) rfl rfl ?_; clear he; clear a; intro a he
  refine st he (d_or rfl rfl) rfl rfl rfl ?_; clear he; clear a; intro a he
  refine st he (d_move rfl) rfl rfl rfl ?_; clear he; clear a; intro a he
  refine st_gd he rfl rfl rfl rfl (fun hg => by rw [hg]; exact d_move rfl) rfl rfl ?_; clear he; clear a; intro a he
  refine st_gd he rfl rfl rfl rfl (fun hg => by rw [hg]; exact d_geq rfl rfl) rfl rfl ?_; clear he; clear a; intro a he
  refine st he (d_or rfl rfl) rfl rfl rfl ?_; clear he; clear a; intro a he
  refine r_nil ?_
  refine c_cond he rfl (fun hc1 => ?_) (fun hc1 => ?_)
  · refine c_seq ?_; refine c_region ?_
    refine st he (d_build (v := frV (0, 0)) rfl rfl (fun _ => by kernel_rfl)) rfl rfl rfl ?_; clear he; clear a; intro a he
    refine st he (d_build (v := frV (0, 0)) rfl rfl (fun _ => by kernel_rfl)) rfl rfl rfl ?_; clear he; clear a; intro a he
    refine st_store he [iV 0, iV 0] ti72 rfl rfl hr1' rfl rfl (Nat.le_of_ble_eq_true rfl) rfl ?_; clear he; clear a; intro w3 ho3 hr3 hs3 a he
    refine st_store he [iV 0, iV 0] ti72 rfl rfl (hr2.keep ho3 (by simpa using hne12.symm)) rfl rfl (Nat.le_of_ble_eq_true rfl) rfl ?_; clear he; clear a; intro w4 ho4 hr4 hs4 a he
    refine st he (d_assign rfl) rfl rfl rfl ?_; clear he; clear a; intro a he
    refine r_nil ?_
    refine c_ret ?_
    refine done_cct he rfl rfl rfl rfl (load_row ti72 (hr3.keep ho4 (by simpa using hne12)) [iV 0, iV 0] rfl rfl) (load_row ti72 hr4 [iV 0, iV 0] rfl rfl) ⟨?_, (ho12.and ho3 (by simp; omega)).and ho4 (by simp; have := ho1.size; omega)⟩
    rw [show lineM m by_ of_ = ((0, 0), (0, 0), 1) from if_pos (by simpa [or_assoc] using hc1)]; rfl
  refine c_skip ?_
  have hin : ¬ (by_ < 0 ∨ 3 ≤ by_ ∨ of_ < 0 ∨ 3 ≤ of_) := by simpa [or_assoc, and_assoc] using hc1
  have eby : by_ = (by_.toNat : Int) := by omega
  have eof : of_ = (of_.toNat : Int) := by omega
  have hby : by_.toNat < 3 := by omega
  have hof : of_.toNat < 3 := by omega
  rw [show lineM m by_ of_ = lineS (sumsL by_.toNat of_.toNat m) from if_neg hin]
  generalize by_.toNat = p at *
  generalize of_.toNat = q at *
  subst eby eof
  refine c_seq ?_; refine c_region ?_
  refine st he (d_move rfl) rfl rfl rfl ?_; clear he; clear a; intro a he
  refine st he (d_move rfl) rfl rfl rfl ?_; clear he; clear a; intro a he
  refine st he (d_build (v := .agg (sumsA p q (0, 0, 0, 0, 0))) rfl rfl (fun _ => by kernel_rfl)) rfl rfl rfl ?_; clear he; clear a; intro a he
  refine st_box he rfl rfl ?_; clear he; clear a; intro b5 w5 hb5 ho5 hr5 a he
  refine st he (d_assign rfl) rfl rfl rfl ?_; clear he; clear a; intro a he
  refine r_nil ?_
  have hm5 := h.keep0 (ho12.and0 ho5)
  have hr5' : Row w5 b5 (sumsA p q (0, 0, 0, 0, 0)) 103 := hr5
  refine c_seq ?_; refine c_region ?_
  refine st he (d_move rfl) rfl rfl rfl ?_; clear he; clear a; intro a he
  refine st he (d_iface rfl (fun _ => by kernel_rfl) (v := .iface 101 (ptrV b5))) rfl rfl rfl ?_; clear he; clear a; intro a he
  refine st he (d_move rfl) rfl rfl rfl ?_; clear he; clear a; intro a he
  refine st_call he rfl rfl rfl rfl rfl ent28 (f28_c hm5 hm5.length) ?_; clear he; clear a; intro v6 w6 ⟨xs, hperm, hsort, hown6, ho6⟩ a he
  have hok : ∀ c ∈ xs, okRow c.1 = true := fun c hc => h.ok c (hperm.mem_iff.1 hc)
  have hsum : (xs.map (·.2)).sum ≤ 500 := by rw [(hperm.map _).sum_nat]; exact h.most
  have hxl : xs.length ≤ 500 := by rw [hperm.length_eq]; exact h.length
  have hV := hown6.vec hkC
  have hne : v6.ownBlock ≠ some b5 := fun e => by have := (hown6.lt _ e).1; have := hr5'.lt; omega
  refine st_call he rfl rfl rfl rfl rfl ent40 (f40_c (TT := 103) (f := 113) (cells := fun i => sumsA p q (sumsL p q (xs.take i))) hV (hr5'.keep0 ho6) hne hxl (fun w => by kernel_rfl) ent113 (fun i c hc w hr => f113_tell hby hof hok hsum hc hr)) ?_; clear he; clear a; intro v7 w7 ⟨hr7, ho7⟩ a he
  refine r_nil ?_
  rw [List.take_length, sumsL_perm hperm] at hr7
  have hI : SInv (sumsL p q m) (m.map (·.2)).sum := SInv.take hby hof h.ok
  have hN := h.most
  generalize (m.map (·.2)).sum = N at hI hN
  generalize sumsL p q m = s at *
  obtain ⟨sn, sx, sy, sxx, sxy⟩ := s
  obtain ⟨q1, q2, q3, q4, q5, q6, q7⟩ := hI
  simp only at q1 q2 q3 q4 q5 q6
  have m1 := mul_bd (a := sn) (b := sxx) (A := 500) (B := 500000000) ⟨by omega, by omega⟩ ⟨by omega, by omega⟩
  have m2 := mul_bd (a := sx) (b := sx) (A := 500000) (B := 500000) ⟨by omega, by omega⟩ ⟨by omega, by omega⟩
  have m3 := mul_bd (a := sn) (b := sxy) (A := 500) (B := 500000000) ⟨by omega, by omega⟩ ⟨by omega, by omega⟩
  have m4 := mul_bd (a := sx) (b := sy) (A := 500000) (B := 500000) ⟨by omega, by omega⟩ ⟨by omega, by omega⟩
  have m5 := mul_bd (a := sy) (b := sxx) (A := 500000) (B := 500000000) ⟨by omega, by omega⟩ ⟨by omega, by omega⟩
  have m6 := mul_bd (a := sx) (b := sxy) (A := 500000) (B := 500000000) ⟨by omega, by omega⟩ ⟨by omega, by omega⟩
  have h17 : Only [] w w7 := ((ho12.and0 ho5).and0 ho6).and ho7 (by simp; have := ho12.size; omega)
  have n1 : b1 ≠ b5 := fun e => by have := hr1'.lt; omega
  have n2 : b2 ≠ b5 := fun e => by have := hr2.lt; omega
  have hr17 := ((hr1'.keep0 ho5).keep0 ho6).keep ho7 (by simpa using n1)
  have hr27 := ((hr2.keep0 ho5).keep0 ho6).keep ho7 (by simpa using n2)
  clear hr1 hr1' hr2 hr5 hr5'
  refine c_seq ?_; refine dr_start mixed (fun w => Row w b5 (sumsA p q (sn, sx, sy, sxx, sxy)) 103) rfl ?_; intro w8 ho8 hk8 hz8
  have hS : Row w8 b5 (sumsA p q (sn, sx, sy, sxx, sxy)) 103 := Row.keep0 hr7 ho8
  refine dr_take he (i := 0) rfl (by kernel_rfl) (by kernel_rfl) (by kernel_rfl) rfl rfl rfl hS (fun w hS => d_move rfl) ?_; clear he; clear a; intro a he
  refine dr_take he (i := 1) rfl (by kernel_rfl) (by kernel_rfl) (by kernel_rfl) rfl rfl rfl hS (fun w hS => d_nilCheck rfl) ?_; clear he; clear a; intro a he
  refine dr_take he (i := 2) rfl (by kernel_rfl) (by kernel_rfl) (by kernel_rfl) rfl rfl rfl hS (fun w hS => d_fieldr fa103_2 rfl) ?_; clear he; clear a; intro a he
  refine dr_take he (i := 3) rfl (by kernel_rfl) (by kernel_rfl) (by kernel_rfl) rfl rfl rfl hS (fun w hS => d_loadr ti2 rfl hS (v := iV sn) rfl) ?_; clear he; clear a; intro a he
  refine dr_take he (i := 4) rfl (by kernel_rfl) (by kernel_rfl) (by kernel_rfl) rfl rfl rfl hS (fun w hS => d_move rfl) ?_; clear he; clear a; intro a he
  refine dr_take he (i := 5) rfl (by kernel_rfl) (by kernel_rfl) (by kernel_rfl) rfl rfl rfl hS (fun w hS => d_nilCheck rfl) ?_; clear he; clear a; intro a he
  refine dr_take he (i := 6) rfl (by kernel_rfl) (by kernel_rfl) (by kernel_rfl) rfl rfl rfl hS (fun w hS => d_fieldr fa103_5 rfl) ?_; clear he; clear a; intro a he
  refine dr_take he (i := 7) rfl (by kernel_rfl) (by kernel_rfl) (by kernel_rfl) rfl rfl rfl hS (fun w hS => d_loadr ti2 rfl hS (v := iV sxx) rfl) ?_; clear he; clear a; intro a he
  refine dr_take he (i := 8) rfl (by kernel_rfl) (by kernel_rfl) (by kernel_rfl) rfl rfl rfl hS (fun w hS => d_mul rfl rfl (by omega)) ?_; clear he; clear a; intro a he
  refine dr_take he (i := 9) rfl (by kernel_rfl) (by kernel_rfl) (by kernel_rfl) rfl rfl rfl hS (fun w hS => d_move rfl) ?_; clear he; clear a; intro a he
  refine dr_take he (i := 10) rfl (by kernel_rfl) (by kernel_rfl) (by kernel_rfl) rfl rfl rfl hS (fun w hS => d_nilCheck rfl) ?_; clear he; clear a; intro a he
  refine dr_take he (i := 11) rfl (by kernel_rfl) (by kernel_rfl) (by kernel_rfl) rfl rfl rfl hS (fun w hS => d_fieldr fa103_3 rfl) ?_; clear he; clear a; intro a he
  refine dr_take he (i := 12) rfl (by kernel_rfl) (by kernel_rfl) (by kernel_rfl) rfl rfl rfl hS (fun w hS => d_loadr ti2 rfl hS (v := iV sx) rfl) ?_; clear he; clear a; intro a he
  refine dr_take he (i := 13) rfl (by kernel_rfl) (by kernel_rfl) (by kernel_rfl) rfl rfl rfl hS (fun w hS => d_move rfl) ?_; clear he; clear a; intro a he
  refine dr_take he (i := 14) rfl (by kernel_rfl) (by kernel_rfl) (by kernel_rfl) rfl rfl rfl hS (fun w hS => d_nilCheck rfl) ?_; clear he; clear a; intro a he
  refine dr_take he (i := 15) rfl (by kernel_rfl) (by kernel_rfl) (by kernel_rfl) rfl rfl rfl hS (fun w hS => d_fieldr fa103_3 rfl) ?_; clear he; clear a; intro a he
  refine dr_take he (i := 16) rfl (by kernel_rfl) (by kernel_rfl) (by kernel_rfl) rfl rfl rfl hS (fun w hS => d_loadr ti2 rfl hS (v := iV sx) rfl) ?_; clear he; clear a; intro a he
  refine dr_take he (i := 17) rfl (by kernel_rfl) (by kernel_rfl) (by kernel_rfl) rfl rfl rfl hS (fun w hS => d_mul rfl rfl (by omega)) ?_; clear he; clear a; intro a he
  refine dr_take he (i := 18) rfl (by kernel_rfl) (by kernel_rfl) (by kernel_rfl) rfl rfl rfl hS (fun w hS => d_sub rfl rfl (by omega)) ?_; clear he; clear a; intro a he
  refine dr_take he (i := 19) rfl (by kernel_rfl) (by kernel_rfl) (by kernel_rfl) rfl rfl rfl hS (fun w hS => d_assign rfl) ?_; clear he; clear a; intro a he
  refine dr_done (by kernel_rfl) ?_
  have hr17 := hr17.keep0 ho8
  have hr27 := hr27.keep0 ho8
  refine c_seq ?_
  refine c_seq ?_; refine c_region ?_
  refine st he (d_move rfl) rfl rfl rfl ?_; clear he; clear a; intro a he
  refine st he (d_eql rfl rfl) rfl rfl rfl ?_; clear he; clear a; intro a he
  refine r_nil ?_
  refine c_cond_if he rfl (fun hc2 => ?_) (fun hc2 => ?_)
  · refine c_seq ?_; refine c_region ?_
    refine st he (d_build (v := frV (0, 0)) rfl rfl (fun _ => by kernel_rfl)) rfl rfl rfl ?_; clear he; clear a; intro a he
    refine st he (d_build (v := frV (0, 0)) rfl rfl (fun _ => by kernel_rfl)) rfl rfl rfl ?_; clear he; clear a; intro a he
    refine st_store he [iV 0, iV 0] ti72 rfl rfl hr17 rfl rfl (Nat.le_of_ble_eq_true rfl) rfl ?_; clear he; clear a; intro w9 ho9 hr9 hs9 a he
    refine st_store he [iV 0, iV 0] ti72 rfl rfl (hr27.keep ho9 (by simpa using hne12.symm)) rfl rfl (Nat.le_of_ble_eq_true rfl) rfl ?_; clear he; clear a; intro w10 ho10 hr10 hs10 a he
    refine st he (d_assign rfl) rfl rfl rfl ?_; clear he; clear a; intro a he
    refine r_nil ?_
    refine c_ret ?_
    refine done_cct he rfl rfl rfl rfl (load_row ti72 (hr9.keep ho10 (by simpa using hne12)) [iV 0, iV 0] rfl rfl) (load_row ti72 hr10 [iV 0, iV 0] rfl rfl) ⟨?_, ((h17.and0 ho8).and ho9 (by simp; omega)).and ho10 (by simp; have := ho1.size; omega)⟩
    rw [show lineS (sn, sx, sy, sxx, sxy) = ((0, 0), (0, 0), 3) from if_pos hc2]; rfl
  refine c_skip ?_
  rw [show lineS (sn, sx, sy, sxx, sxy) = (lowF (sn * sxy - sx * sy) (sn * sxx - sx * sx), lowF (sy * sxx - sx * sxy) (sn * sxx - sx * sx), 0) from if_neg hc2]
  refine c_seq ?_; refine dr_start mixed (fun w => Row w b5 (sumsA p q (sn, sx, sy, sxx, sxy)) 103) rfl ?_; intro w11 ho11 hk11 hz11
  have hr17 := hr17.keep0 ho11
  have hr27 := hr27.keep0 ho11
  have hS1 := hS.keep0 ho11
  clear hS
  have hS := hS1
  clear hS1
  refine dr_take he (i := 0) rfl (by kernel_rfl) (by kernel_rfl) (by kernel_rfl) rfl rfl rfl hS (fun w hS => d_move rfl) ?_; clear he; clear a; intro a he
  refine dr_take he (i := 1) rfl (by kernel_rfl) (by kernel_rfl) (by kernel_rfl) rfl rfl rfl hS (fun w hS => d_nilCheck rfl) ?_; clear he; clear a; intro a he
  refine dr_take he (i := 2) rfl (by kernel_rfl) (by kernel_rfl) (by kernel_rfl) rfl rfl rfl hS (fun w hS => d_fieldr fa103_2 rfl) ?_; clear he; clear a; intro a he
  refine dr_take he (i := 3) rfl (by kernel_rfl) (by kernel_rfl) (by kernel_rfl) rfl rfl rfl hS (fun w hS => d_loadr ti2 rfl hS (v := iV sn) rfl) ?_; clear he; clear a; intro a he
  refine dr_take he (i := 4) rfl (by kernel_rfl) (by kernel_rfl) (by kernel_rfl) rfl rfl rfl hS (fun w hS => d_move rfl) ?_; clear he; clear a; intro a he
  refine dr_take he (i := 5) rfl (by kernel_rfl) (by kernel_rfl) (by kernel_rfl) rfl rfl rfl hS (fun w hS => d_nilCheck rfl) ?_; clear he; clear a; intro a he
  refine dr_take he (i := 6) rfl (by kernel_rfl) (by kernel_rfl) (by kernel_rfl) rfl rfl rfl hS (fun w hS => d_fieldr fa103_6 rfl) ?_; clear he; clear a; intro a he
  refine dr_take he (i := 7) rfl (by kernel_rfl) (by kernel_rfl) (by kernel_rfl) rfl rfl rfl hS (fun w hS => d_loadr ti2 rfl hS (v := iV sxy) rfl) ?_; clear he; clear a; intro a he
  refine dr_take he (i := 8) rfl (by kernel_rfl) (by kernel_rfl) (by kernel_rfl) rfl rfl rfl hS (fun w hS => d_mul rfl rfl (by omega)) ?_; clear he; clear a; intro a he
  refine dr_take he (i := 9) rfl (by kernel_rfl) (by kernel_rfl) (by kernel_rfl) rfl rfl rfl hS (fun w hS => d_move rfl) ?_; clear he; clear a; intro a he
  refine dr_take he (i := 10) rfl (by kernel_rfl) (by kernel_rfl) (by kernel_rfl) rfl rfl rfl hS (fun w hS => d_nilCheck rfl) ?_; clear he; clear a; intro a he
  refine dr_take he (i := 11) rfl (by kernel_rfl) (by kernel_rfl) (by kernel_rfl) rfl rfl rfl hS (fun w hS => d_fieldr fa103_3 rfl) ?_; clear he; clear a; intro a he
  refine dr_take he (i := 12) rfl (by kernel_rfl) (by kernel_rfl) (by kernel_rfl) rfl rfl rfl hS (fun w hS => d_loadr ti2 rfl hS (v := iV sx) rfl) ?_; clear he; clear a; intro a he
  refine dr_take he (i := 13) rfl (by kernel_rfl) (by kernel_rfl) (by kernel_rfl) rfl rfl rfl hS (fun w hS => d_move rfl) ?_; clear he; clear a; intro a he
  refine dr_take he (i := 14) rfl (by kernel_rfl) (by kernel_rfl) (by kernel_rfl) rfl rfl rfl hS (fun w hS => d_nilCheck rfl) ?_; clear he; clear a; intro a he
  refine dr_take he (i := 15) rfl (by kernel_rfl) (by kernel_rfl) (by kernel_rfl) rfl rfl rfl hS (fun w hS => d_fieldr fa103_4 rfl) ?_; clear he; clear a; intro a he
  refine dr_take he (i := 16) rfl (by kernel_rfl) (by kernel_rfl) (by kernel_rfl) rfl rfl rfl hS (fun w hS => d_loadr ti2 rfl hS (v := iV sy) rfl) ?_; clear he; clear a; intro a he
  refine dr_take he (i := 17) rfl (by kernel_rfl) (by kernel_rfl) (by kernel_rfl) rfl rfl rfl hS (fun w hS => d_mul rfl rfl (by omega)) ?_; clear he; clear a; intro a he
  refine dr_take he (i := 18) rfl (by kernel_rfl) (by kernel_rfl) (by kernel_rfl) rfl rfl rfl hS (fun w hS => d_sub rfl rfl (by omega)) ?_; clear he; clear a; intro a he
  refine dr_take he (i := 19) rfl (by kernel_rfl) (by kernel_rfl) (by kernel_rfl) rfl rfl rfl hS (fun w hS => d_move rfl) ?_; clear he; clear a; intro a he
  refine dr_take he (i := 21) rfl (by kernel_rfl) (by kernel_rfl) (by kernel_rfl) rfl rfl rfl hS (fun w hS => d_move rfl) ?_; clear he; clear a; intro a he
  refine dr_take he (i := 22) rfl (by kernel_rfl) (by kernel_rfl) (by kernel_rfl) rfl rfl rfl hS (fun w hS => d_nilCheck rfl) ?_; clear he; clear a; intro a he
  refine dr_take he (i := 23) rfl (by kernel_rfl) (by kernel_rfl) (by kernel_rfl) rfl rfl rfl hS (fun w hS => d_fieldr fa103_4 rfl) ?_; clear he; clear a; intro a he
  refine dr_take he (i := 24) rfl (by kernel_rfl) (by kernel_rfl) (by kernel_rfl) rfl rfl rfl hS (fun w hS => d_loadr ti2 rfl hS (v := iV sy) rfl) ?_; clear he; clear a; intro a he
  refine dr_take he (i := 25) rfl (by kernel_rfl) (by kernel_rfl) (by kernel_rfl) rfl rfl rfl hS (fun w hS => d_move rfl) ?_; clear he; clear a; intro a he
  refine dr_take he (i := 26) rfl (by kernel_rfl) (by kernel_rfl) (by kernel_rfl) rfl rfl rfl hS (fun w hS => d_nilCheck rfl) ?_; clear he; clear a; intro a he
  refine dr_take he (i := 27) rfl (by kernel_rfl) (by kernel_rfl) (by kernel_rfl) rfl rfl rfl hS (fun w hS => d_fieldr fa103_5 rfl) ?_; clear he; clear a; intro a he
  refine dr_take he (i := 28) rfl (by kernel_rfl) (by kernel_rfl) (by kernel_rfl) rfl rfl rfl hS (fun w hS => d_loadr ti2 rfl hS (v := iV sxx) rfl) ?_; clear he; clear a; intro a he
  refine dr_take he (i := 29) rfl (by kernel_rfl) (by kernel_rfl) (by kernel_rfl) rfl rfl rfl hS (fun w hS => d_mul rfl rfl (by omega)) ?_; clear he; clear a; intro a he
  refine dr_take he (i := 30) rfl (by kernel_rfl) (by kernel_rfl) (by kernel_rfl) rfl rfl rfl hS (fun w hS => d_move rfl) ?_; clear he; clear a; intro a he
  refine dr_take he (i := 31) rfl (by kernel_rfl) (by kernel_rfl) (by kernel_rfl) rfl rfl rfl hS (fun w hS => d_nilCheck rfl) ?_; clear he; clear a; intro a he
  refine dr_take he (i := 32) rfl (by kernel_rfl) (by kernel_rfl) (by kernel_rfl) rfl rfl rfl hS (fun w hS => d_fieldr fa103_3 rfl) ?_; clear he; clear a; intro a he
  refine dr_take he (i := 33) rfl (by kernel_rfl) (by kernel_rfl) (by kernel_rfl) rfl rfl rfl hS (fun w hS => d_loadr ti2 rfl hS (v := iV sx) rfl) ?_; clear he; clear a; intro a he
  refine dr_take he (i := 34) rfl (by kernel_rfl) (by kernel_rfl) (by kernel_rfl) rfl rfl rfl hS (fun w hS => d_move rfl) ?_; clear he; clear a; intro a he
  refine dr_take he (i := 35) rfl (by kernel_rfl) (by kernel_rfl) (by kernel_rfl) rfl rfl rfl hS (fun w hS => d_nilCheck rfl) ?_; clear he; clear a; intro a he
  refine dr_take he (i := 36) rfl (by kernel_rfl) (by kernel_rfl) (by kernel_rfl) rfl rfl rfl hS (fun w hS => d_fieldr fa103_6 rfl) ?_; clear he; clear a; intro a he
  refine dr_take he (i := 37) rfl (by kernel_rfl) (by kernel_rfl) (by kernel_rfl) rfl rfl rfl hS (fun w hS => d_loadr ti2 rfl hS (v := iV sxy) rfl) ?_; clear he; clear a; intro a he
  refine dr_take he (i := 38) rfl (by kernel_rfl) (by kernel_rfl) (by kernel_rfl) rfl rfl rfl hS (fun w hS => d_mul rfl rfl (by omega)) ?_; clear he; clear a; intro a he
  refine dr_take he (i := 39) rfl (by kernel_rfl) (by kernel_rfl) (by kernel_rfl) rfl rfl rfl hS (fun w hS => d_sub rfl rfl (by omega)) ?_; clear he; clear a; intro a he
  refine dr_take he (i := 40) rfl (by kernel_rfl) (by kernel_rfl) (by kernel_rfl) rfl rfl rfl hS (fun w hS => d_move rfl) ?_; clear he; clear a; intro a he
  refine dr_one (i := 20) rfl (by kernel_rfl) ?_; intro K hK
  refine st_call he rfl rfl rfl rfl rfl ent50 (f50_c _ _ _ (by omega) (by omega)) ?_; clear he; clear a; intro v12 w12 ⟨hv12, ho12'⟩ a he
  subst hv12
  have hS12 := hS.keep0 ho12'
  have hr17 := hr17.keep0 ho12'
  have hr27 := hr27.keep0 ho12'
  clear hS
  have hS := hS12
  clear hS12
  refine dr_end (hK _ _ (hS) ?_); clear hK; clear K
  refine dr_one (i := 41) rfl (by kernel_rfl) ?_; intro K hK
  refine st_call he rfl rfl rfl rfl rfl ent50 (f50_c _ _ _ (by omega) (by omega)) ?_; clear he; clear a; intro v13 w13 ⟨hv13, ho13⟩ a he
  subst hv13
  have hS13 := hS.keep0 ho13
  have hr17 := hr17.keep0 ho13
  have hr27 := hr27.keep0 ho13
  refine dr_end (hK _ _ (hS13) ?_); clear hK; clear K
  refine dr_one (i := 42) rfl (by kernel_rfl) ?_; intro K hK
  refine st_store he [iV (lowF (sn * sxy - sx * sy) (sn * sxx - sx * sx)).1, iV (lowF (sn * sxy - sx * sy) (sn * sxx - sx * sx)).2] ti72 rfl rfl hr17 rfl rfl (Nat.le_of_ble_eq_true rfl) rfl ?_; clear he; clear a; intro w14 ho14 hr14 hs14 a he
  have hS14 := hS13.keep ho14 (by simpa using n1.symm)
  refine dr_end (hK _ _ (hS14) ?_); clear hK; clear K
  refine dr_one (i := 43) rfl (by kernel_rfl) ?_; intro K hK
  refine st_store he [iV (lowF (sy * sxx - sx * sxy) (sn * sxx - sx * sx)).1, iV (lowF (sy * sxx - sx * sxy) (sn * sxx - sx * sx)).2] ti72 rfl rfl (hr27.keep ho14 (by simpa using hne12.symm)) rfl rfl (Nat.le_of_ble_eq_true rfl) rfl ?_; clear he; clear a; intro w15 ho15 hr15 hs15 a he
  have hS := hS14.keep ho15 (by simpa using n2.symm)
  refine dr_end (hK _ _ (hS) ?_); clear hK; clear K
  refine dr_take he (i := 44) rfl (by kernel_rfl) (by kernel_rfl) (by kernel_rfl) rfl rfl rfl hS (fun w hS => d_assign rfl) ?_; clear he; clear a; intro a he
  refine dr_done (by kernel_rfl) ?_
  refine c_ret ?_
  exact done_cct he rfl rfl rfl rfl (load_row ti72 (hr14.keep ho15 (by simpa using hne12)) [_, _] rfl rfl) (load_row ti72 hr15 [_, _] rfl rfl) ⟨rfl, (((((h17.and0 ho8).and0 ho11).and0 ho12').and0 ho13).and ho14 (by simp; omega)).and ho15 (by simp; have := ho1.size; omega)⟩

end Go.Proofs.Learn
