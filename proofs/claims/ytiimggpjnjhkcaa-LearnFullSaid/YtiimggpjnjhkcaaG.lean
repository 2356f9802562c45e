import Derived.Test.YtiimggpjnjhkcaaF
namespace Go.Proofs.Learn
open Go.V

theorem zero24 (w : World) : (zeroValue 24).run Try.prog w = .ok (rowV (0, 0, 0, 0)) w := by kernel_rfl

/-- sorted -/
theorem f28_c {w : World} {b mb : Nat} {m : List CR} (h : Model w b mb m) (hm : m.length ≤ 500) : Ret Try.prog 28 [ptrV b] w fun v w' => ∃ ys : List CR, ys.Perm m ∧ ys.Pairwise (fun a b => rl a.1 b.1) ∧ Own w.heap.size 79 5 encC w' v ys ∧ Only [] w w' := by
  have hrow := h.row
  refine enter Try.func28 rfl rfl fun a he => ?_
  replace he : Env 33 [(0, ptrV b)] a := he
  refine c_seq ?_; refine c_region ?_
  refine st he (d_assign rfl) rfl rfl rfl ?_; clear he; clear a; intro a he
  refine r_nil ?_
  refine c_seq ?_
  refine c_seq ?_; refine c_region ?_
  refine st he (d_move rfl) rfl rfl rfl ?_; clear he; clear a; intro a he
  refine st_call he rfl rfl rfl rfl rfl ent25 (f25_c h) ?_; clear he; clear a; intro v1 w1 ⟨hv1, hw1⟩ a he
  subst hv1 hw1
  refine r_nil ?_
  refine c_cond he rfl (fun hc1 => ?_) (fun hc1 => ?_)
  · cases hc1
  refine c_skip ?_
  refine c_seq ?_; refine c_region ?_
  refine st he (d_move rfl) rfl rfl rfl ?_; clear he; clear a; intro a he
  refine st he (d_nilCheck rfl) rfl rfl rfl ?_; clear he; clear a; intro a he
  refine st he (d_fieldr fa69_1 rfl) rfl rfl rfl ?_; clear he; clear a; intro a he
  refine st he (d_loadr ti67 rfl hrow rfl) rfl rfl rfl ?_; clear he; clear a; intro a he
  refine st he (d_maplen un67 rfl h.map) rfl rfl rfl ?_; clear he; clear a; intro a he
  refine st_make0 he (B := w.heap.size) (enc := encC) rfl rfl un75 ei79 (by omega) (Nat.le_refl _) rfl ?_; clear he; clear a; intro g2 v2 w2 hb2 hvb2 hown2 ho2 a he   -- t13 = makeSlice T75 0:i64 t12 ; learn.go:96
  refine st he (d_assign rfl) rfl rfl rfl ?_; clear he; clear a; intro a he
  refine r_nil ?_
  have hrow2 := hrow.keep0 ho2
  refine c_seq ?_
  refine c_seq ?_; refine c_region ?_
  refine st he (d_move rfl) rfl rfl rfl ?_; clear he; clear a; intro a he
  refine st he (d_nilCheck rfl) rfl rfl rfl ?_; clear he; clear a; intro a he
  refine st he (d_fieldr fa69_1 rfl) rfl rfl rfl ?_; clear he; clear a; intro a he
  refine st he (d_loadr ti67 rfl hrow2 rfl) rfl rfl rfl ?_; clear he; clear a; intro a he
  refine st_range he un67 rfl (h.map.keep0 ho2) rfl ?_; clear he; clear a; intro r w3 hr3 hlt3 hit3 ho3 a he   -- t18 = range T67 t17 ; learn.go:97
  refine r_nil ?_
  refine c_block ?_
  have hown3 := hown2.keep0 ho3
  have hmlt := h.map.lt
  have hrg : r ≠ g2 := by
    have := hown2.lt _ hvb2; omega
  refine c_loop (fun k a w' => ∃ left v xs cur g, k = left.length ∧ v.ownBlock = some g ∧ r ≠ g ∧ r < w'.heap.size ∧ Own w.heap.size 79 5 encC w' v xs ∧ IterM rowV natV w' r mb m left cur ∧ (xs ++ left).Perm m ∧ Only [] w w' ∧ Env 33 [(3, v), (18, ptrV r)] a) m.length ⟨m, v2, [], none, g2, rfl, hvb2, hrg, hlt3, hown3, hit3, List.Perm.refl _, ho2.and0 ho3, he.only _ (by simp [lk])⟩ ?_
  clear he; clear a; clear hown3 hit3 hrg hown2 hvb2 hlt3; intro k a w4 ⟨left, v, xs, cur, g, hk, hvb, hrg, hlt, hown, hit, hperm, ho4, he⟩
  have hlen := hperm.length_eq
  rw [List.length_append] at hlen
  refine c_seq ?_; refine c_region ?_
  refine st_next he rfl hit rfl ?_ ?_   -- t19 = next t18 isStr=false ; learn.go:97
  · clear he; clear a; intro hleft a he
    refine st he (d_extract rfl rfl) rfl rfl rfl ?_; clear he; clear a; intro a he
    refine r_nil ?_
    refine c_seq ?_
    refine c_condn he rfl (fun hc2 => ?_) (fun hc2 => ?_)
    · refine c_exit rfl ?_
      subst hleft
      rw [List.append_nil] at hperm
      have hnd : (xs.map (·.1)).Nodup := (hperm.map _).nodup_iff.2 h.map.nodup
      refine c_seq ?_; refine c_region ?_
      refine st he (d_move rfl) rfl rfl rfl ?_; clear he; clear a; intro a he
      refine st_call he rfl rfl rfl rfl rfl ent51 (f51_c hown hvb (by omega) hnd) ?_; clear he; clear a; intro v5 w5 ⟨hv5, ys, hp5, hs5, hown5, ho5⟩ a he
      refine r_nil ?_
      refine c_seq ?_; refine c_region ?_
      refine st he (d_move rfl) rfl rfl rfl ?_; clear he; clear a; intro a he
      refine st he (d_assign rfl) rfl rfl rfl ?_; clear he; clear a; intro a he
      refine r_nil ?_
      refine c_ret ?_
      exact done1 he rfl rfl ⟨ys, hp5.trans hperm, hs5, hown5, ho4.and ho5 (by simp; exact (hown.lt _ hvb).1)⟩
    cases hc2
  · clear he; clear a; intro p left' w5 u5 x5 hp5 hit5 ho5 hs5 a he
    refine st he (d_extract rfl rfl) rfl rfl rfl ?_; clear he; clear a; intro a he
    refine r_nil ?_
    refine c_seq ?_
    refine c_condn he rfl (fun hc2 => ?_) (fun hc2 => ?_)
    · cases hc2
    refine c_skip ?_
    have hg := hown.lt _ hvb
    have hown5 := hown.keep ho5 (by rw [hvb]; simp; omega)
    have ho45 : Only [] w w5 := ho4.and ho5 (by have := ho2.size; simp; omega)
    refine c_block ?_
    refine c_seq ?_; refine c_region ?_
    refine st he (d_entry rfl hit5) rfl rfl rfl ?_; clear he; clear a; intro a he
    refine st he (d_extract rfl rfl) rfl rfl rfl ?_; clear he; clear a; intro a he
    refine st he (d_extract rfl rfl) rfl rfl rfl ?_; clear he; clear a; intro a he
    refine st_alloc he zero24 rfl ?_; clear he; clear a; intro b6 w6 hb6 ho6 hr6 a he   -- t4 = alloc T24 ; learn.go:97
    refine st_store he [iV p.1.1, iV p.1.2.1, iV p.1.2.2.1, iV p.1.2.2.2] ti24 rfl rfl hr6 rfl rfl (Nat.le_of_ble_eq_true rfl) rfl ?_; clear he; clear a; intro w7 ho7 hr7 hs7 a he
    refine st he (d_assign rfl) rfl rfl rfl ?_; clear he; clear a; intro a he
    refine r_nil ?_
    refine c_region ?_
    refine st he (d_move rfl) rfl rfl rfl ?_; clear he; clear a; intro a he
    refine st he (d_loadkr [_, _, _, _] ti24 rfl hr7 rfl rfl) rfl rfl rfl ?_; clear he; clear a; intro a he
    refine st he (d_move rfl) rfl rfl rfl ?_; clear he; clear a; intro a he
    refine st he (d_build rfl rfl (v := cV p) (fun _ => by kernel_rfl)) rfl rfl rfl ?_; clear he; clear a; intro a he
    refine st_buildSlice he (cs := (encC p).toArray) (E := 79) rfl rfl (fun _ => by kernel_rfl) rfl ?_; clear he; clear a; intro b8 w8 hb8 ho8 hr8 a he
    have ho58 : Only [] w5 w8 := (ho6.and ho7 (by simp; omega)).and0 ho8
    have hown8 := hown5.keep0 ho58
    have hv8 : Vec 5 encC w8 (.slice (some ⟨b8, 0, none⟩) 1 1) [p] := hr8.vec hkC [p] 1 1 rfl (Nat.le_refl 1) (by simp)
    refine st_append he rfl rfl hkC (by decide) h1C un75 ei79 hown8 hv8 (by simp only [List.length_singleton]; have := hp5.length_eq; simp only [List.length_cons] at this; omega) (Nat.le_trans ho45.size ho58.size) rfl ?_; clear he; clear a; intro v9 w9 hown9 ho9 hloc9 a he   -- t29 = call builtin append(t24,t28) T75,75 ; learn.go:98
    refine st he (d_assign rfl) rfl rfl rfl ?_; clear he; clear a; intro a he
    refine r_nil ?_
    have hit9 : IterM rowV natV w9 r mb m left' (some p) := (hit5.keep ho58 (by simp) (by simp)).keep ho9 (by rw [hvb]; simpa using hrg) (by rw [hvb]; simp; omega)
    have hlt9 : r < w9.heap.size := by have := ho58.size; have := ho9.size; omega
    have hlen5 := hp5.length_eq
    simp only [List.length_cons] at hlen5
    refine ⟨left'.length, by omega, left', v9, xs ++ [p], some p, ?_⟩
    have hpp : (xs ++ [p] ++ left').Perm m := by
      refine List.Perm.trans ?_ hperm
      rw [List.append_assoc]
      exact List.Perm.append_left _ hp5.symm
    have ho9' : Only [] w w9 := (ho45.and0 ho58).and ho9 (by rw [hvb]; simp; omega)
    have hr8' : r < w8.heap.size := by have := ho58.size; omega
    rcases hloc9 with e | e
    · exact ⟨g, rfl, e.trans hvb, hrg, hlt9, hown9, hit9, hpp, ho9', he.only _ (by simp [lk])⟩
    · exact ⟨_, rfl, e, by omega, hlt9, hown9, hit9, hpp, ho9', he.only _ (by simp [lk])⟩

end Go.Proofs.Learn
