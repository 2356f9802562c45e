import Derived.Test.YtiimggpjnjhkcaaVB
import Derived.Test.YtiimggpjnjhkcaaC
import Derived.Test.YtiimggpjnjhkcaaD
import Derived.Test.YtiimggpjnjhkcaaL
namespace Go.Proofs.Learn
open Go.V

/-- alive -/
theorem f11_c (w : World) : Ret Try.prog 11 [] w fun v w' => v = .bool true ∧ Only [] w w' := by
  refine enter Try.func11 rfl rfl fun a he => ?_
  replace he : Env 49 [] a := he
  refine c_seq ?_; refine c_region ?_
  refine st he (d_assign rfl) rfl rfl rfl ?_; clear he; clear a; intro a he
  refine r_nil ?_
  refine c_seq ?_; refine c_region ?_
  refine st_call he rfl rfl rfl rfl rfl ent9 (f9_c w) ?_; clear he; clear a; intro v1 w1 ⟨b, mb, hv1, hb, hmb, hM, ho1⟩ a he
  subst hv1
  refine st he (d_assign rfl) rfl rfl rfl ?_; clear he; clear a; intro a he
  refine r_nil ?_
  refine c_seq ?_
  refine c_seq ?_; refine c_region ?_
  refine st he (d_move rfl) rfl rfl rfl ?_; clear he; clear a; intro a he
  refine st he (d_eqv (b := false) rfl rfl (fun _ => by kernel_rfl)) rfl rfl rfl ?_; clear he; clear a; intro a he
  refine r_nil ?_
  refine c_cond he rfl (fun hc1 => ?_) (fun hc1 => ?_)
  · cases hc1
  refine c_skip ?_
  refine c_seq ?_; refine c_region ?_
  refine st he (d_move rfl) rfl rfl rfl ?_; clear he; clear a; intro a he
  refine st he (d_build (v := ptV (0, 1, 0)) rfl rfl (fun _ => by kernel_rfl)) rfl rfl rfl ?_; clear he; clear a; intro a he
  refine st he (d_build (v := rowV (0, 1, 0, 0)) rfl rfl (fun _ => by kernel_rfl)) rfl rfl rfl ?_; clear he; clear a; intro a he
  refine st_call he rfl rfl rfl rfl rfl ent10 (f10_c hM (0, 1, 0, 0)) ?_; clear he; clear a; intro v2 w2 ⟨hv2, hM2, ho2⟩ a he
  subst hv2
  rw [show lrn [] ((0, 1, 0, 0) : R4) = ([((0, 1, 0, 0), 1)], 0) from rfl] at hM2 he
  refine st he (d_assign rfl) rfl rfl rfl ?_; clear he; clear a; intro a he
  refine r_nil ?_
  refine c_seq ?_; refine c_region ?_
  refine st he (d_move rfl) rfl rfl rfl ?_; clear he; clear a; intro a he
  refine st he (d_build (v := ptV (1, 3, 0)) rfl rfl (fun _ => by kernel_rfl)) rfl rfl rfl ?_; clear he; clear a; intro a he
  refine st he (d_build (v := rowV (1, 3, 0, 1)) rfl rfl (fun _ => by kernel_rfl)) rfl rfl rfl ?_; clear he; clear a; intro a he
  refine st_call he rfl rfl rfl rfl rfl ent10 (f10_c hM2 (1, 3, 0, 1)) ?_; clear he; clear a; intro v3 w3 ⟨hv3, hM3, ho3⟩ a he
  subst hv3
  rw [show lrn [(((0, 1, 0, 0) : R4), 1)] ((1, 3, 0, 1) : R4) = ([((0, 1, 0, 0), 1), ((1, 3, 0, 1), 1)], 0) from rfl] at hM3 he
  refine st he (d_assign rfl) rfl rfl rfl ?_; clear he; clear a; intro a he
  refine r_nil ?_
  refine c_seq ?_; refine c_region ?_
  refine st he (d_move rfl) rfl rfl rfl ?_; clear he; clear a; intro a he
  refine st_call he rfl rfl rfl rfl rfl ent27 (f27_c hM3 0 1) ?_; clear he; clear a; intro v4 w4 ⟨hv4, ho4⟩ a he
  subst hv4
  rw [show lineM [(((0, 1, 0, 0) : R4), 1), ((1, 3, 0, 1), 1)] 0 1 = ((2, 1), (1, 1), 0) by decide +kernel] at he
  refine st he (d_move rfl) rfl rfl rfl ?_; clear he; clear a; intro a he
  refine st he (d_extract rfl rfl) rfl rfl rfl ?_; clear he; clear a; intro a he
  refine st he (d_extract rfl rfl) rfl rfl rfl ?_; clear he; clear a; intro a he
  refine st he (d_extract rfl rfl) rfl rfl rfl ?_; clear he; clear a; intro a he
  refine st_alloc he (z := frV (0, 0)) (fun _ => by kernel_rfl) rfl ?_; clear he; clear a; intro b5 w5 hb5 ho5 hr5 a he
  refine st_alloc he (z := frV (0, 0)) (fun _ => by kernel_rfl) rfl ?_; clear he; clear a; intro b6 w6 hb6 ho6 hr6 a he
  refine st_store he [iV 2, iV 1] ti72 rfl rfl (hr5.keep0 ho6) rfl rfl (Nat.le_of_ble_eq_true rfl) rfl ?_; clear he; clear a; intro w7 ho7 hr7 hs7 a he
  refine st_store he [iV 1, iV 1] ti72 rfl rfl (hr6.keep ho7 (by have := hr5.lt; simp; omega)) rfl rfl (Nat.le_of_ble_eq_true rfl) rfl ?_; clear he; clear a; intro w8 ho8 hr8 hs8 a he
  refine st he (d_assign rfl) rfl rfl rfl ?_; clear he; clear a; intro a he
  refine r_nil ?_
  have hs7 : Row w8 b5 (frA (2, 1)) 72 := hr7.keep ho8 (by have := hr5.lt; simp; omega)
  have hs8 : Row w8 b6 (frA (1, 1)) 72 := hr8
  have hoM : Only [] w3 w8 := (((ho4.and0 ho5).and0 ho6).and ho7 (by have := ho4.size; simp; omega)).and ho8 (by have := ho4.size; have := ho5.size; simp; omega)
  have hM8 := hM3.keep0 hoM
  have hw : Only [] w w8 := ((ho1.and ho2 (by simp [hb, hmb])).and ho3 (by simp [hb, hmb])).and0 hoM
  refine c_seq ?_; refine c_region ?_
  refine st he (d_move rfl) rfl rfl rfl ?_; clear he; clear a; intro a he
  refine st he (d_eql rfl rfl) rfl rfl rfl ?_; clear he; clear a; intro a he
  refine st he (d_move rfl) rfl rfl rfl ?_; clear he; clear a; intro a he
  refine st_yes he rfl rfl rfl rfl (d_move rfl) rfl rfl ?_; clear he; clear a; intro a he
  refine st_yes he rfl rfl rfl rfl (d_eql rfl rfl) rfl rfl ?_; clear he; clear a; intro a he
  refine st he (d_pick_t rfl rfl) rfl rfl rfl ?_; clear he; clear a; intro a he
  refine st he (d_move rfl) rfl rfl rfl ?_; clear he; clear a; intro a he
  refine st_yes he rfl rfl rfl rfl (d_move rfl) rfl rfl ?_; clear he; clear a; intro a he
  refine st_yes he rfl rfl rfl rfl (d_eql rfl rfl) rfl rfl ?_; clear he; clear a; intro a he
  refine st he (d_pick_t rfl rfl) rfl rfl rfl ?_; clear he; clear a; intro a he
  refine st he (d_move rfl) rfl rfl rfl ?_; clear he; clear a; intro a he
  refine st_yes he rfl rfl rfl rfl (d_loadkr [_, _] ti72 rfl hs7 rfl rfl) rfl rfl ?_; clear he; clear a; intro a he
  refine st_yes he rfl rfl rfl rfl (d_build (v := frV (2, 1)) rfl rfl (fun _ => by kernel_rfl)) rfl rfl ?_; clear he; clear a; intro a he
  refine st_yes he rfl rfl rfl rfl (d_eq72 (2, 1) (2, 1) rfl rfl) rfl rfl ?_; clear he; clear a; intro a he
  refine st he (d_pick_t rfl rfl) rfl rfl rfl ?_; clear he; clear a; intro a he
  refine st he (d_move rfl) rfl rfl rfl ?_; clear he; clear a; intro a he
  refine st_yes he rfl rfl rfl rfl (d_loadkr [_, _] ti72 rfl hs8 rfl rfl) rfl rfl ?_; clear he; clear a; intro a he
  refine st_yes he rfl rfl rfl rfl (d_build (v := frV (1, 1)) rfl rfl (fun _ => by kernel_rfl)) rfl rfl ?_; clear he; clear a; intro a he
  refine st_yes he rfl rfl rfl rfl (d_eq72 (1, 1) (1, 1) rfl rfl) rfl rfl ?_; clear he; clear a; intro a he
  refine st he (d_pick_t rfl rfl) rfl rfl rfl ?_; clear he; clear a; intro a he
  refine st he (d_move rfl) rfl rfl rfl ?_; clear he; clear a; intro a he
  refine st_yes he rfl rfl rfl rfl (d_move rfl) rfl rfl ?_; clear he; clear a; intro a he
  refine st_call_yes he rfl rfl rfl rfl rfl rfl rfl rfl ent13 (f13_c hM8) ?_; clear he; clear a; intro v9 w9 ⟨hv9, hw9⟩ a he
  subst hv9 hw9
  refine st_yes he rfl rfl rfl rfl (d_eql rfl rfl) rfl rfl ?_; clear he; clear a; intro a he
  refine st he (d_pick_t rfl rfl) rfl rfl rfl ?_; clear he; clear a; intro a he
  refine st he (d_assign rfl) rfl rfl rfl ?_; clear he; clear a; intro a he
  refine r_nil ?_
  refine c_ret ?_
  exact done1 he rfl rfl ⟨rfl, hw⟩

end Go.Proofs.Learn
