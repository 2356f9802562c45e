import Derived.Test.YtiimggpjnjhkcaaP
import Derived.Test.YtiimggpjnjhkcaaN
import Derived.Test.YtiimggpjnjhkcaaRows
namespace Go.Proofs.Ytiimggpjnjhkcaa.learnFull
open Go.ChangeShapes Go.WideShapes Go.ChangeAt Go.RowKit Go.V Go.Proofs.Learn

theorem own : ownKnob Try.prog.godebug = none := by kernel_rfl

set_option maxRecDepth 100000 in
theorem lifted (os : Os) (started : os.Started) (H : Type) (enc : TypeId × Value → H) :
    ReturnsInHanded {} Try.checked os 3 .any (Rows.learnFullSpec.pre6 enc Try.prog Try.f3 Rows.learnFullRow.domain false) (Rows.learnFullSpec.post enc Try.prog Try.f3 false true false false) := by
  refine returnsInHanded_of_change (C := Try.checked) own started (by kernel_rfl) Try.func3
    (ChangeSpec.witness6 (enc := enc) (C := Try.checked) false ⟨#[], #[rowV (0, 0, 0, 0), rowV (0, 0, 0, 0), .int .u8 0], []⟩ 8 (by kernel_rfl) (by kernel_rfl) (by kernel_rfl) (by kernel_rfl)) ?_
  intro W base args ds gs before hval0 hW hcnd _
  have hval : ∀ (j : Nat) t v, Try.f3.params[j]? = some t → args[j]? = some v → Value.okWide Try.prog W .any base t v := hval0
  have hW' := hW
  obtain ⟨p, q, hA0, hV, rfl, hfz, hnd⟩ := hW
  have hA : DataW.TrodAll enc Try.prog W 0 (fun _ => true) true Try.f3.params.toList args.toList ds p := hA0
  rw [Try.params3] at hA hval
  obtain ⟨v0, vs0, d0, ds0, p0, q0, hargs, rfl, rfl, h0, r0⟩ := trodAll_cons hA
  obtain ⟨v1, vs1, d1, ds1, p1, q1, hargs1, rfl, rfl, h1, r1⟩ := trodAll_cons r0
  obtain ⟨v2, vs2, d2, ds2, p2, q2, hargs2, rfl, rfl, h2, r2⟩ := trodAll_cons r1
  obtain ⟨rfl, rfl, rfl⟩ := trodAll_nil r2
  obtain rfl : args = #[v0, v1, v2] := by cases args; simp_all
  obtain ⟨rfl, rfl⟩ := trodVars_none hV
  obtain ⟨a, rfl⟩ := open_row24 (okWide_struct un24s (hval 0 24 v0 rfl rfl)) h0
  obtain ⟨b, rfl⟩ := open_row24 (okWide_struct un24s (hval 1 24 v1 rfl rfl)) h1
  obtain ⟨g, rfl, rfl, rfl, wg⟩ := open_int un5 (hval 2 5 v2 rfl rfl) h2
  have hg := bounds_u8 wg
  refine Calls.mono (f3_c a b g hg.1 hg.2 W) fun e W' hR => ?_
  obtain ⟨v, rfl, rfl, ho⟩ := hR
  exact ⟨_, rfl, post_law (t := 4) laid (by kernel_rfl) rfl hW' ho rfl un4 rfl rfl rfl⟩

theorem over : Rows.learnFullRow.holds Try.pinned (OpenSpec.ofChange Rows.learnFullSpec) :=
  OpenClaim.holds_of_wide 3 Try.f3 rfl rfl rfl rfl rfl rfl rfl ⟨rfl, rfl, rfl, rfl, rfl⟩ rfl rfl rfl rfl rfl (by kernel_rfl) Try.func3 (by kernel_rfl)
    (of_decide_eq_true (by kernel_rfl)) (by unfold Func.isWrapper; first | (rw [if_pos (by decide +kernel)]; kernel_rfl) | (rw [if_neg (by decide +kernel)]; exact ⟨rfl, rfl⟩))
    (fun os started H enc _ => lifted os started H enc)

theorem proved : Rows.LearnFullSaid := over
end Go.Proofs.Ytiimggpjnjhkcaa.learnFull
