import Derived.Test.YtiimggpjnjhkcaaVS
import Derived.Test.YtiimggpjnjhkcaaSort
import Derived.Test.YtiimggpjnjhkcaaE
namespace Go.Proofs.Learn
open Go.V

/-- a row comes before another one: by its columns, then by its label -/
def rl (a b : R4) : Prop := a.1 < b.1 ∨ a.1 = b.1 ∧ (a.2.1 < b.2.1 ∨ a.2.1 = b.2.1 ∧ (a.2.2.1 < b.2.2.1 ∨ a.2.2.1 = b.2.2.1 ∧ a.2.2.2 < b.2.2.2))
instance rl_dec (a b : R4) : Decidable (rl a b) := by unfold rl; infer_instance

theorem rl_irrefl (a : R4) : ¬ rl a a := by unfold rl; omega
theorem rl_trans {a b c : R4} (h : rl a b) (h' : rl b c) : rl a c := by unfold rl at *; omega
theorem rl_total (a b : R4) (h : ¬ rl a b) (h' : ¬ rl b a) : a = b := by
  obtain ⟨a0, a1, a2, a3⟩ := a
  obtain ⟨b0, b1, b2, b3⟩ := b
  unfold rl at *
  simp only at *
  simp only [Prod.mk.injEq]
  omega
theorem rl_asymm {a b : R4} (h : rl a b) : ¬ rl b a := fun h' => rl_irrefl a (rl_trans h h')

theorem cmpC_lt (x y : CR) : cmpC x y < 0 ↔ rl x.1 y.1 := by
  obtain ⟨⟨a0, a1, a2, a3⟩, n⟩ := x
  obtain ⟨⟨b0, b1, b2, b3⟩, k⟩ := y
  simp only [cmpC, orL, ptL, ptOf, cmpL, cmpI, rl]
  by_cases h0 : a0 < b0
  · simp [h0]
  · by_cases h0' : b0 < a0
    · simp [h0, h0']; omega
    · by_cases h1 : a1 < b1
      · simp [h0, h0', h1]; omega
      · by_cases h1' : b1 < a1
        · simp [h0, h0', h1, h1']; omega
        · by_cases h2 : a2 < b2
          · simp [h0, h0', h1, h1', h2]; omega
          · by_cases h2' : b2 < a2
            · simp [h0, h0', h1, h1', h2, h2']; omega
            · by_cases h3 : a3 < b3
              · simp [h0, h0', h1, h1', h2, h2', h3]; try omega
              · by_cases h3' : b3 < a3
                · simp [h0, h0', h1, h1', h2, h2', h3, h3']
                · simp [h0, h0', h1, h1', h2, h2', h3, h3']

theorem swoC : Sort.SWO (Go.Proofs.ltOf cmpC) := by
  have e (x y : CR) : Go.Proofs.ltOf cmpC x y = decide (rl x.1 y.1) := by unfold Go.Proofs.ltOf; rw [decide_eq_decide]; exact cmpC_lt x y
  refine ⟨fun x => ?_, fun x y z h1 h2 => ?_, fun x y z h1 h2 => ?_⟩
  · rw [e]; simp [rl_irrefl]
  · rw [e] at *; simp only [decide_eq_true_eq] at *; exact rl_trans h1 h2
  · rw [e] at *
    simp only [decide_eq_false_iff_not] at *
    intro h
    by_cases h3 : rl y.1 x.1
    · exact h2 (rl_trans h3 h)
    · have := rl_total _ _ h1 h3
      rw [this] at h
      exact h2 h

theorem ltOfC (x y : CR) : Go.Proofs.ltOf cmpC x y = decide (rl x.1 y.1) := by unfold Go.Proofs.ltOf; rw [decide_eq_decide]; exact cmpC_lt x y

/-- slices.SortFunc by byRow -/
theorem f51_c {B : Nat} {w : World} {v : Value} {xs : List CR} {b : Nat} (h : Own B 79 5 encC w v xs) (hb : v.ownBlock = some b) (hsz : xs.length < 4611686018427387904) (hnd : (xs.map (·.1)).Nodup) :
    Ret Try.prog 51 [v, .func (.func 52) #[] #[]] w fun u w' => u = .tuple #[] ∧ ∃ ys : List CR, ys.Perm xs ∧ ys.Pairwise (fun a b => rl a.1 b.1) ∧ Own B 79 5 encC w' v ys ∧ Only [b] w w' := by
  have := sorted_own Try.sortC 5 (fun w => ti79.agg w) (fun w => ti79.size w) encC hkC (by decide) h1C cmpC swoC 52 ent52 (fun x y W => f52_c x y W) h hb hsz
  refine Ret.mono this fun u w' ⟨h1, ys, h2, h3, h4, h5⟩ => ⟨h1, ys, h2, ?_, h4, h5⟩
  have hnd' : (ys.map (·.1)).Nodup := (h2.map _).nodup_iff.2 hnd
  rw [List.Nodup, List.pairwise_map] at hnd'
  refine (List.Pairwise.and h3 hnd').imp fun {a b} ⟨k1, k2⟩ => ?_
  rw [ltOfC] at k1
  simp only [decide_eq_false_iff_not] at k1
  by_cases h : rl a.1 b.1
  · exact h
  · exact absurd (rl_total _ _ h k1) k2

end Go.Proofs.Learn
