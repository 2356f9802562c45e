import Derived.Test.YtiimggpjnjhkcaaV8
import Derived.Test.YtiimggpjnjhkcaaI
namespace Go.Proofs.Learn
open Go.V

section
variable {P : Program} {E : TypeId} {k : IntKind}
/-- '==' of structs of two integers. -/
theorem eq_pair {T : TypeId} {f0 f1 : Field} (hT : P.underlying T = some (.struct (P.fieldsOf T))) (hp : P.stoodInHeld T = false) (hf : (P.fieldsOf T).toList = [f0, f1]) (n0 : f0.name ≠ "_") (n1 : f1.name ≠ "_")
    (t0 : f0.type = E) (t1 : f1.type = E) (o0 : f0.offset = 0) (o1 : f1.offset = 1) (hE : TI P E false 1) (hk : P.underlying E = some (.int k)) (d : Nat) (a0 a1 b0 b1 : Int) (w : World) :
    (Op.equalIn (d + 2) T (.agg #[.int k a0, .int k a1]) (.agg #[.int k b0, .int k b1])).run P w = .ok (decide ((a0, a1) = (b0, b1))) w := by
  have e3 : ∀ (a b : Int) (w : World), (Op.equalIn (d + 1) E (.int k a) (.int k b)).run P w = .ok (a == b) w := fun a b w => run_equalIn_int (P := P) w d E k k a b hk
  rw [run_equalIn_struct w (d + 1) T _ _ hT hp, hf]
  have pa := fun w => run_part_one hE (cs := #[.int k a0, .int k a1]) (i := 0) (v := .int k a0) rfl w
  have pb := fun w => run_part_one hE (cs := #[.int k b0, .int k b1]) (i := 0) (v := .int k b0) rfl w
  have pc := fun w => run_part_one hE (cs := #[.int k a0, .int k a1]) (i := 1) (v := .int k a1) rfl w
  have pd := fun w => run_part_one hE (cs := #[.int k b0, .int k b1]) (i := 1) (v := .int k b1) rfl w
  simp only [Op.eqFields, n0, n1, ne_eq, not_false_eq_true, if_true, t0, t1, o0, o1, Sem.run_bind, pa, pb, Result.andThen_ok, e3]
  by_cases h0 : a0 = b0
  · subst h0
    by_cases h3 : a1 = b1
    · subst h3
      simp [pc, e3]
    · simp [pc, pd, e3, h3]
  · simp [h0]
end

abbrev Fr := Int × Int
def frV (f : Fr) : Value := .agg #[iV f.1, iV f.2]
def frA (f : Fr) : Array Value := #[iV f.1, iV f.2]

theorem eq72 (d : Nat) (f g : Fr) (w : World) : (Op.equalIn (d + 2) 72 (frV f) (frV g)).run Try.prog w = .ok (decide (f = g)) w := by
  obtain ⟨a, b⟩ := f; obtain ⟨c, e⟩ := g
  exact eq_pair (P := Try.prog) (f0 := (Try.prog.fieldsOf 72)[0]!) (f1 := (Try.prog.fieldsOf 72)[1]!) (by kernel_rfl) (by kernel_rfl) (by kernel_rfl) (by decide +kernel) (by decide +kernel) (E := 2) (by kernel_rfl) (by kernel_rfl) (by kernel_rfl) (by kernel_rfl) ti2 un2 d a b c e w

section does
variable {P : Program} {l : Slots} {w : World} {d : Option Nat} {T : TypeId} {pos : String} {af : Array Edge} {g : Option (Nat × Bool)}
/-- '==' of structs or arrays. -/
theorem d_eqagg {x y : Operand} {xT yT : TypeId} {us vs : Array Value} {b : Bool} (hx : ev l x = some (.agg us)) (hy : ev l y = some (.agg vs)) (hg : P.eqGuardType P.depth xT = false) (h : ∀ w, (Op.equalIn Op.maxDepth xT (.agg us) (.agg vs)).run P w = .ok b w) : Does P l ⟨d, .binOp .eql xT x y yT, T, pos, af, g⟩ w (.bool b) w := by
  refine d_eqv hx hy fun w => ?_
  simp [eqGuard, binOp, hg, Op.equal, h]
theorem d_neagg {x y : Operand} {xT yT : TypeId} {us vs : Array Value} {b : Bool} (hx : ev l x = some (.agg us)) (hy : ev l y = some (.agg vs)) (hg : P.eqGuardType P.depth xT = false) (h : ∀ w, (Op.equalIn Op.maxDepth xT (.agg us) (.agg vs)).run P w = .ok b w) : Does P l ⟨d, .binOp .neq xT x y yT, T, pos, af, g⟩ w (.bool !b) w := by
  refine d_eqv hx hy fun w => ?_
  simp [eqGuard, binOp, hg, Op.equal, h]
theorem d_quo {x y : Operand} {xT yT : TypeId} {m n : Int} (hx : ev l x = some (iV m)) (hy : ev l y = some (iV n)) (h0 : n ≠ 0) (h : -9223372036854775808 ≤ m.tdiv n ∧ m.tdiv n ≤ 9223372036854775807) : Does P l ⟨d, .binOp .quo xT x y yT, T, pos, af, g⟩ w (iV (m.tdiv n)) w := by
  have := d_quow (P := P) (d := d) (T := T) (pos := pos) (af := af) (g := g) (w := w) (xT := xT) (yT := yT) hx hy h0
  rwa [wrap_i64 h] at this
end does
theorem eg72 : Try.prog.eqGuardType Try.prog.depth 72 = false := by kernel_rfl
theorem d_eq72 {l : Slots} {w : World} {d : Option Nat} {T : TypeId} {pos : String} {af : Array Edge} {g : Option (Nat × Bool)} {x y : Operand} {yT : TypeId} (f h : Fr) (hx : ev l x = some (frV f)) (hy : ev l y = some (frV h)) : Does Try.prog l ⟨d, .binOp .eql 72 x y yT, T, pos, af, g⟩ w (.bool (decide (f = h))) w :=
  d_eqagg hx hy eg72 (fun w => eq72 (Op.maxDepth - 2) f h w)
theorem d_ne72 {l : Slots} {w : World} {d : Option Nat} {T : TypeId} {pos : String} {af : Array Edge} {g : Option (Nat × Bool)} {x y : Operand} {yT : TypeId} (f h : Fr) (hx : ev l x = some (frV f)) (hy : ev l y = some (frV h)) : Does Try.prog l ⟨d, .binOp .neq 72 x y yT, T, pos, af, g⟩ w (.bool !(decide (f = h))) w :=
  d_neagg hx hy eg72 (fun w => eq72 (Op.maxDepth - 2) f h w)

/-- a fraction in lowest terms, over a divisor that is not 0 -/
def lowF (n d : Int) : Fr := (n.tdiv (Int.gcd n d), d.tdiv (Int.gcd n d))

theorem gcd_tmod (a b : Int) : Int.gcd b (a.tmod b) = Int.gcd a b := by
  unfold Int.gcd
  rw [Int.natAbs_tmod, Nat.gcd_comm, ← Nat.gcd_rec, Nat.gcd_comm]

theorem tdiv_bd (m n : Int) (hm : -1000000000000000 ≤ m ∧ m ≤ 1000000000000000) : -9223372036854775808 ≤ m.tdiv n ∧ m.tdiv n ≤ 9223372036854775807 := by
  have h := Int.natAbs_tdiv_le_natAbs m n
  omega

theorem lowF_zero {n d : Int} (hd : 0 < d) (h : (lowF n d).1 = 0) : lowF n d = (0, 1) := by
  have hg : (0 : Int) < Int.gcd n d := by have := Int.gcd_pos_of_ne_zero_right n (show d ≠ 0 by omega); omega
  have hn : n = 0 := by
    have := Int.tdiv_mul_cancel (Int.gcd_dvd_left n d)
    unfold lowF at h
    simp only at h
    rw [h] at this; omega
  subst hn
  have e : (Int.gcd 0 d : Int) = d := by simp; omega
  unfold lowF
  rw [e]
  simp [Int.tdiv_self (show d ≠ 0 by omega)]

/-- lowest -/
theorem f50_c (n d : Int) (w : World) (hn : -1000000000000000 ≤ n ∧ n ≤ 1000000000000000) (hd : 0 < d ∧ d ≤ 1000000000000000) : Ret Try.prog 50 [iV n, iV d] w fun v w' => v = frV (lowF n d) ∧ Only [] w w' := by
  refine enter Try.func50 rfl rfl fun a he => ?_
  replace he : Env 34 [(0, iV n), (1, iV d)] a := he
  refine c_seq ?_; refine c_region ?_
  refine st_alloc he (z := frV (0, 0)) (fun _ => by kernel_rfl) rfl ?_; clear he; clear a; intro b1 w1 hb1 ho1 hr1 a he
  refine r_nil ?_
  refine c_seq ?_; refine c_region ?_
  refine st he (d_move rfl) rfl rfl rfl ?_; clear he; clear a; intro a he
  refine st he (d_move rfl) rfl rfl rfl ?_; clear he; clear a; intro a he
  refine st he (d_assign rfl) rfl rfl rfl ?_; clear he; clear a; intro a he
  refine st he (d_assign rfl) rfl rfl rfl ?_; clear he; clear a; intro a he
  refine r_nil ?_
  refine c_seq ?_
  refine c_block ?_
  refine c_loop (fun k a w' => ∃ p q : Int, k = q.natAbs ∧ Int.gcd p q = Int.gcd n d ∧ (-1000000000000000 ≤ p ∧ p ≤ 1000000000000000) ∧ (-1000000000000000 ≤ q ∧ q ≤ 1000000000000000) ∧ Only [] w1 w' ∧ Env 34 [(0, iV n), (1, iV d), (4, ptrV b1), (5, iV p), (6, iV q)] a) d.natAbs ⟨n, d, rfl, rfl, hn, by omega, Only.refl _ _, he.only _ (by simp [lk])⟩ ?_
  clear he; clear a; intro k a w2 ⟨p, q, hk, hg, hp, hq, ho2, he⟩
  refine c_seq ?_
  refine c_seq ?_; refine c_region ?_
  refine st he (d_move rfl) rfl rfl rfl ?_; clear he; clear a; intro a he
  refine st he (d_neq rfl rfl) rfl rfl rfl ?_; clear he; clear a; intro a he
  refine r_nil ?_
  refine c_cond_ifn he rfl (fun hc1 => ?_) (fun hc1 => ?_)
  · refine c_exit rfl ?_
    obtain rfl : q = 0 := by simpa using hc1
    have hg0 : 0 < Int.gcd n d := Int.gcd_pos_of_ne_zero_right n (by omega)
    have hpg : (p.natAbs : Int) = Int.gcd n d := by rw [← hg]; simp
    have qn := tdiv_bd n (Int.gcd n d) hn
    have qd := tdiv_bd d (Int.gcd n d) (by omega)
    refine c_cut (fun a w' => w' = w2 ∧ Env 34 [(0, iV n), (1, iV d), (4, ptrV b1), (5, iV (Int.gcd n d))] a) ?_ ?_
    · refine c_seq ?_; refine c_region ?_
      refine st he (d_move rfl) rfl rfl rfl ?_; clear he; clear a; intro a he
      refine st he (d_lss rfl rfl) rfl rfl rfl ?_; clear he; clear a; intro a he
      refine r_nil ?_
      refine c_cond_if he rfl (fun hc2 => ?_) (fun hc2 => ?_)
      · refine c_region ?_
        refine st he (d_move rfl) rfl rfl rfl ?_; clear he; clear a; intro a he
        refine st he (d_neg rfl (by omega)) rfl rfl rfl ?_; clear he; clear a; intro a he
        refine st he (d_assign rfl) rfl rfl rfl ?_; clear he; clear a; intro a he
        refine r_nil ?_
        obtain e : -p = Int.gcd n d := by omega
        rw [e] at he
        exact ⟨rfl, he.only _ (by simp [lk])⟩
      · refine c_skip ?_
        obtain e : p = Int.gcd n d := by omega
        rw [e] at he
        exact ⟨rfl, he.only _ (by simp [lk])⟩
    clear he; clear a; intro a w9 ⟨hw9, he⟩
    subst hw9
    refine c_seq ?_; refine dr_start mixed (fun w => Row w b1 (frA (0, 0)) 72) rfl ?_; intro w7 ho7 hk7 hz7
    have hS : Row w7 b1 (frA (0, 0)) 72 := Row.keep0 (arr := frA (0, 0)) (hr1.keep0 ho2) ho7
    refine dr_take he (i := 0) rfl (by kernel_rfl) (by kernel_rfl) (by kernel_rfl) rfl rfl rfl hS (fun w hS => d_move rfl) ?_; clear he; clear a; intro a he
    refine dr_take he (i := 1) rfl (by kernel_rfl) (by kernel_rfl) (by kernel_rfl) rfl rfl rfl hS (fun w hS => d_move rfl) ?_; clear he; clear a; intro a he
    refine dr_take he (i := 2) rfl (by kernel_rfl) (by kernel_rfl) (by kernel_rfl) rfl rfl rfl hS (fun w hS => d_quo rfl rfl (by omega) qn) ?_; clear he; clear a; intro a he
    refine dr_take he (i := 3) rfl (by kernel_rfl) (by kernel_rfl) (by kernel_rfl) rfl rfl rfl hS (fun w hS => d_move rfl) ?_; clear he; clear a; intro a he
    refine dr_take he (i := 4) rfl (by kernel_rfl) (by kernel_rfl) (by kernel_rfl) rfl rfl rfl hS (fun w hS => d_move rfl) ?_; clear he; clear a; intro a he
    refine dr_take he (i := 5) rfl (by kernel_rfl) (by kernel_rfl) (by kernel_rfl) rfl rfl rfl hS (fun w hS => d_quo rfl rfl (by omega) qd) ?_; clear he; clear a; intro a he
    refine dr_take he (i := 6) rfl (by kernel_rfl) (by kernel_rfl) (by kernel_rfl) rfl rfl rfl hS (fun w hS => d_build (v := frV (lowF n d)) rfl rfl (fun _ => by kernel_rfl)) ?_; clear he; clear a; intro a he
    refine dr_one (i := 7) rfl (by kernel_rfl) ?_; intro K hK
    refine st_alloc he (z := frV (0, 0)) (fun _ => by kernel_rfl) rfl ?_; clear he; clear a; intro b3 w3 hb3 ho3 hr3 a he
    have hS1 := hS.keep0 ho3
    clear hS
    have hS := hS1
    refine dr_end (hK _ _ (hS) ?_); clear hK; clear K
    refine dr_one (i := 8) rfl (by kernel_rfl) ?_; intro K hK
    have hne : b1 ≠ b3 := fun e => by have := hr1.lt; have := ho7.size; have := ho2.size; omega
    refine st_store he [iV (lowF n d).1, iV (lowF n d).2] ti72 rfl rfl hr3 rfl rfl (Nat.le_of_ble_eq_true rfl) rfl ?_; clear he; clear a; intro w4 ho4 hr4 hs4 a he
    have hS1 := hS.keep ho4 (by simpa using hne)
    refine dr_end (hK _ _ (hS1) ?_); clear hK; clear K
    refine dr_done (by kernel_rfl) ?_
    have hr4' : Row w4 b3 (frA (lowF n d)) 72 := hr4
    have ho : Only [] w w4 := (((ho1.and0 ho2).and0 ho7).and0 ho3).and ho4 (by simp; have := ho1.size; have := ho7.size; have := ho2.size; omega)
    refine c_seq ?_
    refine c_seq ?_; refine c_region ?_
    refine st he (d_loadkr [_, _] ti72 rfl hr4' rfl rfl) rfl rfl rfl ?_; clear he; clear a; intro a he
    refine st he (d_fieldr fa72_1 rfl) rfl rfl rfl ?_; clear he; clear a; intro a he
    refine st he (d_loadr ti2 rfl hr4' rfl) rfl rfl rfl ?_; clear he; clear a; intro a he
    refine st he (d_build (v := frV (0, (lowF n d).2)) rfl rfl (fun _ => by kernel_rfl)) rfl rfl rfl ?_; clear he; clear a; intro a he
    refine st he (d_eq72 (lowF n d) (0, (lowF n d).2) rfl rfl) rfl rfl rfl ?_; clear he; clear a; intro a he
    refine r_nil ?_
    refine c_cond_if he rfl (fun hc3 => ?_) (fun hc3 => ?_)
    · refine c_seq ?_; refine c_region ?_
      refine st he (d_build (v := frV (0, 1)) rfl rfl (fun _ => by kernel_rfl)) rfl rfl rfl ?_; clear he; clear a; intro a he
      refine st_store he [iV 0, iV 1] ti72 rfl rfl hS1 rfl rfl (Nat.le_of_ble_eq_true rfl) rfl ?_; clear he; clear a; intro w5 ho5 hr5 hs5 a he
      refine r_nil ?_
      refine c_ret ?_
      refine done_cell he rfl rfl (load_row ti72 hr5 [iV 0, iV 1] rfl rfl) ⟨?_, ho.and ho5 (by simp; omega)⟩
      rw [lowF_zero hd.1 (congrArg Prod.fst hc3)]; rfl
    refine c_skip ?_
    refine c_seq ?_; refine c_region ?_
    refine st he (d_loadkr [_, _] ti72 rfl hr4' rfl rfl) rfl rfl rfl ?_; clear he; clear a; intro a he
    refine st_store he [iV (lowF n d).1, iV (lowF n d).2] ti72 rfl rfl hS1 rfl rfl (Nat.le_of_ble_eq_true rfl) rfl ?_; clear he; clear a; intro w6 ho6 hr6 hs6 a he
    refine r_nil ?_
    refine c_ret ?_
    exact done_cell he rfl rfl (load_row ti72 hr6 [_, _] rfl rfl) ⟨rfl, ho.and ho6 (by simp; omega)⟩
  have hq0 : q ≠ 0 := by simpa using hc1
  refine c_skip ?_
  refine c_block ?_
  refine dr_start mixed (fun w => True) rfl ?_; intro w12 ho12 hk12 hz12
  have hS := trivial
  refine dr_take he (i := 0) rfl (by kernel_rfl) (by kernel_rfl) (by kernel_rfl) rfl rfl rfl hS (fun w hS => d_move rfl) ?_; clear he; clear a; intro a he
  refine dr_take he (i := 1) rfl (by kernel_rfl) (by kernel_rfl) (by kernel_rfl) rfl rfl rfl hS (fun w hS => d_move rfl) ?_; clear he; clear a; intro a he
  refine dr_take he (i := 2) rfl (by kernel_rfl) (by kernel_rfl) (by kernel_rfl) rfl rfl rfl hS (fun w hS => d_move rfl) ?_; clear he; clear a; intro a he
  refine dr_take he (i := 3) rfl (by kernel_rfl) (by kernel_rfl) (by kernel_rfl) rfl rfl rfl hS (fun w hS => d_remw rfl rfl hq0) ?_; clear he; clear a; intro a he
  refine dr_take he (i := 4) rfl (by kernel_rfl) (by kernel_rfl) (by kernel_rfl) rfl rfl rfl hS (fun w hS => d_assign rfl) ?_; clear he; clear a; intro a he
  refine dr_take he (i := 5) rfl (by kernel_rfl) (by kernel_rfl) (by kernel_rfl) rfl rfl rfl hS (fun w hS => d_assign rfl) ?_; clear he; clear a; intro a he
  refine dr_done (by kernel_rfl) ?_
  have hlt : (p.tmod q).natAbs < q.natAbs := by rw [Int.natAbs_tmod]; exact Nat.mod_lt _ (by omega)
  exact ⟨(p.tmod q).natAbs, by omega, q, p.tmod q, rfl, by rw [gcd_tmod, hg], hq, by omega, ho2.and0 ho12, he.only _ (by simp [lk])⟩

end Go.Proofs.Learn
