import Derived.Test.YtiimggpjnjhkcaaV9
import Derived.Shelf.SlSortCmp.WholeK
namespace Go.V
open Go.Proofs Go.Shelf Go.RowKit Go.Lib Go.Sort
variable {α : Type} [Inhabited α]

theorem flatK_toList {enc : α → List Value} {k : Nat} (hk : ∀ x, (enc x).length = k) (h0 : 0 < k) (xs : List α) : (flatK enc k xs.toArray).toList = xs.flatMap enc := by
  apply List.ext_getElem?
  intro t
  by_cases ht : t < xs.length * k
  · have hlt : t / k < xs.length := Nat.div_lt_of_lt_mul (by rw [Nat.mul_comm]; exact ht)
    have h1 := flat_get hk xs (t / k) xs[t / k] (t % k) (List.getElem?_eq_getElem hlt) (Nat.mod_lt _ h0)
    have e : t / k * k + t % k = t := by rw [Nat.mul_comm, Nat.div_add_mod]
    rw [e] at h1
    rw [h1]
    have h2 := get_flatK enc k xs.toArray t (by simpa using ht)
    have hs : t < (flatK enc k xs.toArray).toList.length := by simp; exact ht
    rw [List.getElem?_eq_getElem hs]
    have hs' : t < (flatK enc k xs.toArray).size := by simpa using hs
    rw [getElem!_pos _ t hs'] at h2
    rw [Array.getElem_toList, h2]
    have hx : xs.toArray[t / k]! = xs[t / k] := by rw [getElem!_pos _ _ (by simpa using hlt)]; simp
    rw [hx]
    have hm : t % k < (enc xs[t / k]).length := by rw [hk]; exact Nat.mod_lt _ h0
    rw [getElem!_pos (enc xs[t / k]) (t % k) hm, List.getElem?_eq_getElem hm]
  · rw [List.getElem?_eq_none (by simp; omega), List.getElem?_eq_none (by rw [flat_length hk]; omega)]

theorem sorted_own {P : Program} {ρ : Ren} (L : SlLaysF0.n6 P ρ) (k : Nat) (aE : ∀ w, (isAgg (ρ.t 24)).run P w = .ok true w) (zE : ∀ w, (Go.sizeOf (ρ.t 24)).run P w = .ok k w) (enc : α → List Value) (hk : ∀ x, (enc x).length = k) (h0 : 0 < k) (h1 : ∀ x, ∀ v ∈ enc x, v.oneCell' = true)
    (cf : α → α → Int) (hO : SWO (ltOf cf)) (g : Nat) (eg : ∀ args w, (callFunc g args).run P w = .ok (.enter g args) w)
    (hcmp : ∀ x y W, Ret P g [.agg (enc x).toArray, .agg (enc y).toArray] W fun v w' => v = .int .i64 (cf x y) ∧ Only [] W w')
    {B : Nat} {E : TypeId} {w : World} {v : Value} {xs : List α} {b : Nat} (h : Own B E k enc w v xs) (hb : v.ownBlock = some b) (hsz : xs.length < 4611686018427387904) :
    Ret P (ρ.f 6) [v, .func (.func g) #[] #[]] w fun u w' => u = .tuple #[] ∧ ∃ ys : List α, ys.Perm xs ∧ ys.Pairwise (fun a b => ltOf cf b a = false) ∧ Own B E k enc w' v ys ∧ Only [b] w w' := by
  have hlen := h.1
  rcases h.2 with ⟨rfl, _⟩ | ⟨g', cap, cur, rfl, hB, hg, hnc, hcm, hcs, htake⟩
  · cases hb
  simp only [Value.ownBlock, Option.some.injEq] at hb
  subst hb
  have hflat := flatK_toList hk h0 xs
  have hH : HoldsK enc k w g' 0 xs.toArray := by
    intro j hj
    rw [size_flatK] at hj
    simp only [List.size_toArray] at hj
    have hc := World.ownsRow.cells h (g := g') rfl j
    rw [add_flat] at hc
    refine ⟨?_, by simp [World.frozen?, hg]⟩
    have hjl : j < (flatK enc k xs.toArray).toList.length := by simp; exact hj
    have hj2 : j < (flatK enc k xs.toArray).size := by simpa using hjl
    refine hc _ ?_
    rw [← hflat, List.getElem?_eq_getElem hjl, Array.getElem_toList, id, getElem!_pos _ j hj2]
  have hlt : g' < w.heap.size := (Array.getElem?_eq_some_iff.1 hg).1
  have hcl : CmpLays P g #[] enc k cf g' 0 xs.toArray.size w := fun m os dk hdk x y => by
    rw [Array.append_empty]
    refine Calls.mono (hcmp x y _) fun e w' ⟨u, he, hu, ho⟩ => ⟨by rw [he, hu], ?_⟩
    obtain ⟨q, os', hw⟩ := ho.grow
    exact ⟨q, os', hw⟩
  have hS := AnyQ.slices_SortFunc L k aE zE enc hk h1 cf hO g #[] g' 0 cap xs.toArray w eg hcl hH hlt (by simpa using hsz)
  refine Calls.mono hS fun e w' ⟨he, d', n, os, ⟨hp1, hp2, hp3⟩, hso, hw⟩ => ⟨.tuple #[], he, rfl, d'.toList, ?_, ?_, ?_, ?_⟩
  · have e1 : d'.extract 0 xs.toArray.size = d' := by rw [← hp1]; simp
    have e2 : xs.toArray.extract 0 xs.toArray.size = xs.toArray := by simp
    rw [e1, e2] at hp3
    simpa using hp3
  · rw [List.pairwise_iff_getElem]
    intro i j hi hj hij
    have hj' : j < d'.size := by simpa using hj
    have := hso i j (Nat.zero_le _) hij (by rw [← hp1]; exact hj')
    rw [getElem!_pos d' j hj', getElem!_pos d' i (by omega)] at this
    simpa using this
  all_goals
    have hw2 : w'.heap = (w.heap.modify g' (onCells (putCells id 0 (flatK enc k d')))) ++ os := by rw [hw]; rfl
    have hsz' : d'.size = xs.length := by rw [hp1]; simp
  · have hgg : w'.heap[g']? = some (.cells (putCells id 0 (flatK enc k d') cur) E (0, 0)) := by
      rw [hw2, Array.getElem?_append_left (by simpa using hlt), Array.getElem?_modify, if_pos rfl, hg]; rfl
    have hl2 : d'.toList.length = xs.length := by simpa using hsz'
    refine ⟨flat_length hk _, .inr ⟨g', cap, _, by rw [hl2], hB, hgg, by omega, hcm, by simp [putCells, hcs], ?_⟩⟩
    have hd : d' = d'.toList.toArray := by simp
    rw [← flatK_toList hk h0, ← hd]
    apply List.ext_getElem?
    intro t
    rw [List.getElem?_take, Array.getElem?_toList, Array.getElem?_toList]
    by_cases ht : t < d'.toList.length * k
    · rw [if_pos ht]
      have htc : t < cur.size := by
        rw [hcs]
        exact Nat.lt_of_lt_of_le ht (Nat.mul_le_mul_right _ (by omega))
      simp only [putCells, Array.getElem?_mapIdx, Nat.zero_le, true_and, Nat.zero_add, Nat.sub_zero, size_flatK, id]
      rw [Array.getElem?_eq_getElem htc, Option.map_some, if_pos (by simpa using ht)]
      have : t < (flatK enc k d').size := by rw [size_flatK]; simpa using ht
      rw [getElem!_pos _ t this, Array.getElem?_eq_getElem this]
    · rw [if_neg ht, Array.getElem?_eq_none (by rw [size_flatK]; simpa using ht)]
  · refine ⟨by rw [hw]; rfl, by rw [hw]; rfl, by rw [hw]; rfl, by rw [hw2]; simp, fun i hi hn => ?_, by rw [hw]; exact Nat.le_add_right _ _⟩
    rw [hw2, Array.getElem?_append_left (by simpa using hi), Array.getElem?_modify, if_neg (by simp at hn; omega)]
end Go.V
