import Derived.Test.YtiimggpjnjhkcaaV8
import Derived.Test.YtiimggpjnjhkcaaA
namespace Go.Proofs.Learn
open Go.V

abbrev natV (n : Nat) : Value := .int .i64 n

theorem key24 : Keys Try.prog 24 rowV := by
  refine Keys.of_equal (td := .struct (Try.prog.fieldsOf 24)) (by kernel_rfl) (fun _ _ => rfl) (fun _ _ _ => by kernel_rfl) (fun x y w => ?_) (fun x => ?_)
  · exact eq_row (f0 := (Try.prog.fieldsOf 24)[0]!) (f1 := (Try.prog.fieldsOf 24)[1]!) (by kernel_rfl) (by kernel_rfl) (by kernel_rfl) (of_decide_eq_true (by kernel_rfl)) (of_decide_eq_true (by kernel_rfl)) (by kernel_rfl) (by kernel_rfl) (by kernel_rfl) (by kernel_rfl) un22 ti22 ti3 un3 9997 _ _ _ _ _ _ _ _ w
  · simp [rowV, Instr.sameBits]

theorem zero3 (w : World) : (zeroValue 3).run Try.prog w = .ok (natV 0) w := by kernel_rfl

/-- A model in memory: its struct in block b, its map in block mb. -/
structure Model (w : World) (b mb : Nat) (m : List (R4 × Nat)) : Prop where
  row : Row w b #[.bool true, .map (some mb), .int .i64 ((m.map (·.2)).sum : Nat)] 69
  map : MapAt rowV natV w mb m
  pos : ∀ p ∈ m, 0 < p.2
  ok : ∀ p ∈ m, okRow p.1 = true
  most : (m.map (·.2)).sum ≤ 500

theorem Model.ne {w : World} {b mb : Nat} {m : List (R4 × Nat)} (h : Model w b mb m) : b ≠ mb := by
  intro e; subst e
  obtain ⟨es, c, h1, _⟩ := h.map
  have := h.row
  unfold Row at this
  rw [h1] at this; cases this
theorem Model.keep {w w' : World} {b mb : Nat} {m : List (R4 × Nat)} (h : Model w b mb m) {S : List Nat} (ho : Only S w w') (h1 : b ∉ S) (h2 : mb ∉ S) : Model w' b mb m :=
  ⟨h.row.keep ho h1, h.map.keep ho h2, h.pos, h.ok, h.most⟩
theorem Model.keep0 {w w' : World} {b mb : Nat} {m : List (R4 × Nat)} (h : Model w b mb m) (ho : Only [] w w') : Model w' b mb m := h.keep ho (by simp) (by simp)

abbrev ptrV (b : Nat) : Value := .pointer (some ⟨b, 0, none⟩)

/-- none, of a model that a function has returned -/
theorem f25_c {w : World} {b mb : Nat} {m : List (R4 × Nat)} (h : Model w b mb m) : Ret Try.prog 25 [ptrV b] w fun v w' => v = .bool false ∧ w = w' := by
  have h0 := h.row
  refine enter Try.func25 rfl rfl fun a he => ?_
  replace he : Env 12 [(0, ptrV b)] a := he
  refine c_seq ?_; refine c_region ?_
  refine st he (d_assign rfl) rfl rfl rfl ?_; clear he; clear a; intro a he
  refine r_nil ?_
  refine c_seq ?_; refine c_region ?_
  refine st he (d_move rfl) rfl rfl rfl ?_; clear he; clear a; intro a he
  refine st he (d_eqv (b := false) rfl rfl (fun _ => by kernel_rfl)) rfl rfl rfl ?_; clear he; clear a; intro a he
  refine st he (d_move rfl) rfl rfl rfl ?_; clear he; clear a; intro a he
  refine st_yes he rfl rfl rfl rfl (d_move rfl) rfl rfl ?_; clear he; clear a; intro a he
  refine st_yes he rfl rfl rfl rfl (d_nilCheck rfl) rfl rfl ?_; clear he; clear a; intro a he
  refine st_yes he rfl rfl rfl rfl (d_fieldr fa69_0 rfl) rfl rfl ?_; clear he; clear a; intro a he
  refine st_yes he rfl rfl rfl rfl (d_loadr ti4 rfl h0 rfl) rfl rfl ?_; clear he; clear a; intro a he
  refine st_yes he rfl rfl rfl rfl (d_not rfl) rfl rfl ?_; clear he; clear a; intro a he
  refine st he (d_pick_f rfl rfl) rfl rfl rfl ?_; clear he; clear a; intro a he
  refine st he (d_assign rfl) rfl rfl rfl ?_; clear he; clear a; intro a he
  refine r_nil ?_
  refine c_ret ?_
  exact done1 he rfl rfl ⟨rfl, rfl⟩

/-- New -/
theorem f9_c (w : World) : Ret Try.prog 9 [] w fun v w' => ∃ b mb, v = ptrV b ∧ w.heap.size ≤ b ∧ w.heap.size ≤ mb ∧ Model w' b mb [] ∧ Only [] w w' := by
  refine enter Try.func9 rfl rfl fun a he => ?_
  replace he : Env 4 [] a := he
  refine c_seq ?_; refine c_region ?_
  refine st he (d_assign rfl) rfl rfl rfl ?_; clear he; clear a; intro a he
  refine r_nil ?_
  refine c_seq ?_; refine c_region ?_
  refine st_makeMap he rowV natV rfl ?_; clear he; clear a; intro mb w1 hb1 ho1 hm1 a he
  refine st he (d_build rfl rfl (v := .agg #[.bool true, .map (some mb), .int .i64 0]) (fun _ => by kernel_rfl)) rfl rfl rfl ?_; clear he; clear a; intro a he
  refine st_box he rfl rfl ?_; clear he; clear a; intro b2 w2 hb2 ho2 hr2 a he
  refine st he (d_assign rfl) rfl rfl rfl ?_; clear he; clear a; intro a he
  refine r_nil ?_
  refine c_ret ?_
  exact done1 he rfl rfl ⟨b2, mb, rfl, Nat.le_trans ho1.size hb2, hb1, ⟨hr2, hm1.keep0 ho2, by simp, by simp, by simp⟩, ho1.and0 ho2⟩

/-- Len -/
theorem f13_c {w : World} {b mb : Nat} {m : List (R4 × Nat)} (h : Model w b mb m) : Ret Try.prog 13 [ptrV b] w fun v w' => v = .int .i64 ((m.map (·.2)).sum : Nat) ∧ w = w' := by
  have h0 := h.row
  refine enter Try.func13 rfl rfl fun a he => ?_
  replace he : Env 9 [(0, ptrV b)] a := he
  refine c_seq ?_; refine c_region ?_
  refine st he (d_assign rfl) rfl rfl rfl ?_; clear he; clear a; intro a he
  refine r_nil ?_
  refine c_seq ?_
  refine c_seq ?_; refine c_region ?_
  refine st he (d_move rfl) rfl rfl rfl ?_; clear he; clear a; intro a he
  refine st_call he rfl rfl rfl rfl rfl ent25 (f25_c h) ?_; clear he; clear a; intro v1 w1 ⟨hv1, hw1⟩ a he
  subst hv1 hw1
  refine r_nil ?_
  refine c_cond he rfl (fun hc1 => ?_) (fun hc1 => ?_)
  · cases hc1
  refine c_skip ?_
  refine c_seq ?_; refine c_region ?_
  refine st he (d_move rfl) rfl rfl rfl ?_; clear he; clear a; intro a he
  refine st he (d_nilCheck rfl) rfl rfl rfl ?_; clear he; clear a; intro a he
  refine st he (d_fieldr fa69_2 rfl) rfl rfl rfl ?_; clear he; clear a; intro a he
  refine st he (d_loadr ti3 rfl h0 rfl) rfl rfl rfl ?_; clear he; clear a; intro a he
  refine st he (d_assign rfl) rfl rfl rfl ?_; clear he; clear a; intro a he
  refine r_nil ?_
  refine c_ret ?_
  exact done1 he rfl rfl ⟨rfl, rfl⟩

/-- allowed -/
theorem f26_c (r : R4) (w : World) : Ret Try.prog 26 [rowV r] w fun v w' => v = .bool (okRow r) ∧ Only [] w w' := by
  refine enter Try.func26 rfl rfl fun a he => ?_
  replace he : Env 16 [(0, rowV r)] a := he
  refine c_seq ?_; refine c_region ?_
  refine st_box he rfl rfl ?_; clear he; clear a; intro b1 w1 hb1 ho1 hr1 a he
  refine st he (d_assign rfl) rfl rfl rfl ?_; clear he; clear a; intro a he
  refine r_nil ?_
  refine c_seq ?_; refine c_region ?_
  refine st he (d_fieldr fa24_0 rfl) rfl rfl rfl ?_; clear he; clear a; intro a he
  refine st he (d_loadkr [_, _, _] ti22 rfl hr1 rfl rfl) rfl rfl rfl ?_; clear he; clear a; intro a he
  refine st_call he rfl rfl rfl rfl rfl ent30 (f30_c (ptOf r) w1) ?_; clear he; clear a; intro v2 w2 ⟨hv2, ho2⟩ a he
  subst hv2
  have hr2 := hr1.keep0 ho2
  refine st he (d_move rfl) rfl rfl rfl ?_; clear he; clear a; intro a he
  refine st_gd he rfl rfl rfl rfl (fun hg => by rw [hg]; exact d_fieldr fa24_1 rfl) rfl rfl ?_; clear he; clear a; intro a he
  refine st_gd he rfl rfl rfl rfl (fun hg => by rw [hg]; exact d_loadr ti3 rfl hr2 rfl) rfl rfl ?_; clear he; clear a; intro a he
  refine st_gd he rfl rfl rfl rfl (fun hg => by rw [hg]; exact d_geq rfl rfl) rfl rfl ?_; clear he; clear a; intro a he
  refine st he (d_and rfl rfl) rfl rfl rfl ?_; clear he; clear a; intro a he
  refine st he (d_move rfl) rfl rfl rfl ?_; clear he; clear a; intro a he
  refine st_gd he rfl rfl rfl rfl (fun hg => by rw [hg]; exact d_fieldr fa24_1 rfl) rfl rfl ?_; clear he; clear a; intro a he
  refine st_gd he rfl rfl rfl rfl (fun hg => by rw [hg]; exact d_loadr ti3 rfl hr2 rfl) rfl rfl ?_; clear he; clear a; intro a he
  refine st_gd he rfl rfl rfl rfl (fun hg => by rw [hg]; exact d_lss rfl rfl) rfl rfl ?_; clear he; clear a; intro a he
  refine st he (d_and rfl rfl) rfl rfl rfl ?_; clear he; clear a; intro a he
  refine st he (d_assign rfl) rfl rfl rfl ?_; clear he; clear a; intro a he
  refine r_nil ?_
  refine c_ret ?_
  refine done1 he rfl rfl ⟨?_, ho1.and0 ho2⟩
  simp [okRow, Bool.and_assoc]

end Go.Proofs.Learn
