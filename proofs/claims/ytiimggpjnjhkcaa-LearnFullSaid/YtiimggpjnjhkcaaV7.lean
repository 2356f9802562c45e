import Derived.Test.YtiimggpjnjhkcaaV6
namespace Go.V
section
variable {κ β : Type} [DecidableEq κ]
variable {P : Program} {K E M : TypeId} {ek : κ → Value} {eb : β → Value}

/-- A map, one of whose entries has just been asked for its place. -/
def MapStamp (ek : κ → Value) (eb : β → Value) (w : World) (b : Nat) (m : List (κ × β)) (x : κ) (s : Nat) : Prop :=
  ∃ e1 e e2 m1 c m2 clock, w.heap[b]? = some (.map (e1 ++ e :: e2).toArray clock) ∧ e.born = s ∧ m = m1 ++ (x, c) :: m2 ∧ x ∉ m1.map (·.1) ∧ RelM ek eb e1 m1 ∧ (e.key = ek x ∧ e.val = eb c) ∧ RelM ek eb e2 m2 ∧ (m.map (·.1)).Nodup ∧ ((e1 ++ e :: e2).map (·.born)).Nodup ∧ ∀ e' ∈ e1 ++ e :: e2, e'.born < clock

omit [DecidableEq κ] in
theorem MapStamp.at {w : World} {b : Nat} {m : List (κ × β)} {x : κ} {s : Nat} (h : MapStamp ek eb w b m x s) : MapAt ek eb w b m := by
  obtain ⟨e1, e, e2, m1, c, m2, clock, h1, _, rfl, _, hr1, hkv, hr2, h3, h4, h5⟩ := h
  refine ⟨_, clock, h1, ?_, h3, h4, h5⟩
  unfold RelM at *
  simp only [List.map_append, List.map_cons, hr1, hr2, hkv.1, hkv.2]

theorem mput_mid {x : κ} (v c : β) : ∀ (m1 m2 : List (κ × β)), x ∉ m1.map (·.1) → mput x v (m1 ++ (x, c) :: m2) = m1 ++ (x, v) :: m2
  | [], m2, _ => by simp [mput]
  | p :: m1, m2, h => by
    simp only [List.map_cons, List.mem_cons, not_or] at h
    simp only [List.cons_append, mput, if_neg h.1, mput_mid v c m1 m2 h.2]

theorem fidx_some' {x : κ} : ∀ {m : List (κ × β)} {i : Nat} {q : Nat × β}, fidx x m i = some q → ∃ m1 m2, m = m1 ++ (x, q.2) :: m2 ∧ q.1 = i + m1.length ∧ x ∉ m1.map (·.1)
  | [], _, _, h => by simp [fidx] at h
  | p :: m, i, q, h => by
    simp only [fidx] at h
    by_cases e : x = p.1
    · rw [if_pos e] at h
      simp only [Option.some.injEq] at h
      subst h
      refine ⟨[], m, ?_, rfl, by simp⟩
      rw [e]; rfl
    · rw [if_neg e] at h
      obtain ⟨m1, m2, rfl, h2, h3⟩ := fidx_some' h
      refine ⟨p :: m1, m2, rfl, by simp only [List.length_cons]; omega, ?_⟩
      simp only [List.map_cons, List.mem_cons, not_or]
      exact ⟨e, h3⟩

/-- The entry of m[x] that an operation goes on with ('m[x]++'): made, if it is not there, with the zero value z. -/
theorem run_mapEntry (hM : P.underlying M = some (.map K E)) (hK : Keys P K ek) {z : β} (hz : ∀ w, (zeroValue E).run P w = .ok (eb z) w) {w : World} {b : Nat} {m : List (κ × β)} (h : MapAt ek eb w b m) (x : κ) :
    ∃ w' s, (Instr.mapEntry M (.map (some b)) (ek x)).run P w = .ok (.tuple #[((mget x m).map eb).getD (eb z), .int .i64 (s : Nat)]) w' ∧ MapStamp ek eb w' b (mput x ((mget x m).getD z) m) x s ∧ Only [b] w w' ∧ w'.heap.size = w.heap.size := by
  obtain ⟨es, c, h1, h2, h3, h4, h5⟩ := h
  have hgt := fidx_get x m 0
  cases hf : fidx x m 0 with
  | none =>
    rw [hf] at hgt
    simp only [Option.map_none] at hgt
    obtain ⟨w', hr, hh, ho, hs⟩ := run_setObj_map (P := P) (es' := es.push { key := ek x, val := eb z, born := c }) (c' := c + 1) h1
    refine ⟨w', c, ?_, ⟨es.toList, { key := ek x, val := eb z, born := c }, [], m, z, [], c + 1, ?_, rfl, ?_, (fidx_none hf).1, h2, ⟨rfl, rfl⟩, rfl, mput_nodup h3, ?_, ?_⟩, ho, hs⟩
    · simp only [Instr.mapEntry, Sem.run_bind, run_underlying hM, Result.andThen_ok, run_getObj_map h1, hK.chk, hK.find eb x _ m w h2, hf, Option.map_none, hz, hr, Sem.run_pure, goInt, ← hgt, Option.getD_none]
    · rw [hh]; congr 2
      apply Array.toList_inj.1; simp
    · rw [← hgt]; exact ((fidx_none hf).2 z).1
    · rw [List.map_append, List.nodup_append]
      refine ⟨h4, by simp, ?_⟩
      intro a ha d hd
      simp only [List.map_cons, List.map_nil, List.mem_singleton] at hd
      subst hd
      obtain ⟨e, he, rfl⟩ := List.mem_map.1 ha
      exact Nat.ne_of_lt (h5 e he)
    · intro e he
      rcases List.mem_append.1 he with he | he
      · exact Nat.lt_succ_of_lt (h5 e he)
      · simp only [List.mem_singleton] at he; subst he; exact Nat.lt_succ_self _
  | some q =>
    rw [hf] at hgt
    simp only [Option.map_some] at hgt
    obtain ⟨m1, m2, rfl, hq, hnm⟩ := fidx_some' hf
    obtain ⟨e1, e2', hes, hr1, hr2⟩ := RelM.append h2
    cases e2' with
    | nil => exact absurd hr2.nil_left (by simp)
    | cons e e2 =>
      obtain ⟨⟨hk, hv⟩, hr3⟩ := RelM.cons.1 hr2
      have hes2 : es = (e1 ++ e :: e2).toArray := by rw [← hes]
      have hlen : q.1 = e1.length := by rw [hr1.length]; omega
      have hget : es[q.1]? = some e := by rw [hes2, hlen]; simp
      obtain ⟨w', hr, hh, ho, hs⟩ := run_setObj_map (P := P) (es' := es.modify q.1 fun e => { e with key := ek x }) (c' := c) h1
      have hmod : (es.modify q.1 fun e => { e with key := ek x }).toList = e1 ++ { e with key := ek x } :: e2 := by
        rw [hes2, hlen]; exact modify_mid _
      refine ⟨w', e.born, ?_, ⟨e1, { e with key := ek x }, e2, m1, q.2, m2, c, ?_, rfl, ?_, hnm, hr1, ⟨rfl, hv⟩, hr3, mput_nodup h3, ?_, ?_⟩, ho, hs⟩
      · simp only [Instr.mapEntry, Sem.run_bind, run_underlying hM, Result.andThen_ok, run_getObj_map h1, hK.chk, hK.find eb x _ _ w h2, hf, Option.map_some, hget, Option.getD_some, Instr.keyThatStays, hk, hK.bits, if_true, Sem.run_pure, hr, goInt, ← hgt]
      · rw [hh, ← hmod]
      · rw [← hgt]; simp only [Option.getD_some]; exact mput_mid q.2 q.2 m1 m2 hnm
      · rw [hes] at h4
        simpa using h4
      · intro e' he'
        rw [hes] at h5
        rcases List.mem_append.1 he' with he' | he'
        · exact h5 e' (List.mem_append_left _ he')
        · rcases List.mem_cons.1 he' with rfl | he'
          · exact h5 e (by simp)
          · exact h5 e' (by simp [he'])

theorem run_entryStore {w : World} {b : Nat} {m : List (κ × β)} {x : κ} {s : Nat} (h : MapStamp ek eb w b m x s) (v : β) :
    ∃ w', (Instr.entryStore M (.map (some b)) (.int .i64 (s : Int)) (eb v)).run P w = .ok () w' ∧ MapAt ek eb w' b (mput x v m) ∧ Only [b] w w' ∧ w'.heap.size = w.heap.size := by
  obtain ⟨e1, e, e2, m1, c, m2, clock, h1, rfl, rfl, hnm, hr1, ⟨hk, hv⟩, hr2, h3, h4, h5⟩ := h
  obtain ⟨w', hr, hh, ho, hs⟩ := run_setObj_map (P := P) (es' := (e1 ++ e :: e2).toArray.modify e1.length fun e => { e with val := eb v }) (c' := clock) h1
  have hidx : (e1 ++ e :: e2).toArray.findIdx? (fun e' => (e'.born : Int) == (e.born : Int)) = some e1.length := by
    rw [List.findIdx?_toArray, List.findIdx?_append]
    have hn : e1.findIdx? (fun e' => (e'.born : Int) == (e.born : Int)) = none := by
      rw [List.findIdx?_eq_none_iff]
      intro y hy
      simp only [List.map_append, List.map_cons, List.nodup_append] at h4
      have := h4.2.2 y.born (List.mem_map.2 ⟨y, hy, rfl⟩) e.born (by simp)
      simp only [beq_eq_false_iff_ne, ne_eq]
      omega
    rw [hn]
    simp [List.findIdx?_cons]
  have hmod : ((e1 ++ e :: e2).toArray.modify e1.length fun e => { e with val := eb v }).toList = e1 ++ { e with val := eb v } :: e2 := modify_mid _
  refine ⟨w', ?_, ⟨_, _, hh, ?_, mput_nodup h3, ?_, ?_⟩, ho, hs⟩
  · simp only [Instr.entryStore, Sem.run_bind, run_getObj_map h1, Result.andThen_ok, asInt, asIntOf, Sem.run_pure, hidx]
    exact hr
  · rw [hmod, mput_mid v c m1 m2 hnm]
    unfold RelM at *
    simp only [List.map_append, List.map_cons, hr1, hr2, hk]
  · rw [hmod]; simpa using h4
  · intro e' he'
    rw [hmod] at he'
    rcases List.mem_append.1 he' with he' | he'
    · exact h5 e' (List.mem_append_left _ he')
    · rcases List.mem_cons.1 he' with rfl | he'
      · exact h5 e (by simp)
      · exact h5 e' (by simp [he'])

/-! ## Going through a map -/
/-- Block r goes through the map in block b, which holds m: what is left to come is 'left', the last one that came is cur. -/
def IterM (ek : κ → Value) (eb : β → Value) (w : World) (r b : Nat) (m left : List (κ × β)) (cur : Option (κ × β)) : Prop :=
  ∃ es clock seen, w.heap[b]? = some (.map es clock) ∧ w.heap[r]? = some (.mapIter (some b) clock seen clock) ∧ RelM ek eb es.toList m ∧ (es.toList.map (·.born)).Nodup ∧ (∀ e ∈ es.toList, e.born < clock) ∧
    (∃ ls, ls.Sublist es.toList ∧ (∀ e ∈ es.toList, (seen.contains e.born = false ↔ e ∈ ls)) ∧ ∃ lm, RelM ek eb ls lm ∧ lm.Perm left) ∧
    (∀ p, cur = some p → ∃ e ∈ es.toList, e.key = ek p.1 ∧ e.val = eb p.2 ∧ seen.back? = some e.born)

omit [DecidableEq κ] in
theorem IterM.keep {w w' : World} {r b : Nat} {m left : List (κ × β)} {cur : Option (κ × β)} (h : IterM ek eb w r b m left cur) {S : List Nat} (ho : Only S w w') (h1 : r ∉ S) (h2 : b ∉ S) : IterM ek eb w' r b m left cur := by
  obtain ⟨es, c, seen, a1, a2, rest⟩ := h
  exact ⟨es, c, seen, ho.keep a1 h2, ho.keep a2 h1, rest⟩

omit [DecidableEq κ] in
theorem run_range (hM : P.underlying M = some (.map K E)) {w : World} {b : Nat} {m : List (κ × β)} (h : MapAt ek eb w b m) :
    ∃ w', (Instr.range M (.map (some b))).run P w = .ok (.pointer (some ⟨w.heap.size, 0, none⟩)) w' ∧ IterM ek eb w' w.heap.size b m m none ∧ Only [] w w' ∧ w.heap.size < w'.heap.size := by
  obtain ⟨es, c, h1, h2, h3, h4, h5⟩ := h
  refine ⟨{ w with heap := w.heap.push (.mapIter (some b) c #[] c) }, ?_, ⟨es, c, #[], (alloc_only w (.mapIter (some b) c #[] c) []).keep h1 (by simp), by simp, h2, h4, h5, ⟨es.toList, List.Sublist.refl _, by simp, m, h2, List.Perm.refl _⟩, by simp⟩, alloc_only _ _ _, by simp⟩
  simp [Instr.range, run_underlying hM, run_getObj_map h1, newObj, Sem.run]

theorem sublist_filter_eq {α : Type} {p : α → Bool} {ls es : List α} (hs : ls.Sublist es) (hnd : es.Nodup) (h : ∀ e ∈ es, p e = true ↔ e ∈ ls) : es.filter p = ls := by
  induction hs with
  | slnil => rfl
  | cons a hs ih =>
    rename_i l1 l2
    simp only [List.nodup_cons] at hnd
    have : p a = false := by
      cases hp : p a with
      | false => rfl
      | true => exact absurd (hs.subset ((h a (by simp)).1 hp)) hnd.1
    rw [List.filter_cons, this]
    exact ih hnd.2 fun e he => h e (List.mem_cons_of_mem _ he)
  | cons_cons a hs ih =>
    rename_i l1 l2
    simp only [List.nodup_cons] at hnd
    have : p a = true := (h a (by simp)).2 (by simp)
    rw [List.filter_cons, this]
    simp only [if_true]
    congr 1
    refine ih hnd.2 fun e he => ?_
    rw [h e (List.mem_cons_of_mem _ he)]
    constructor
    · intro hm
      rcases List.mem_cons.1 hm with rfl | hm
      · exact absurd he hnd.1
      · exact hm
    · exact List.mem_cons_of_mem _

theorem inj_of_nodup_map {α γ : Type} {f : α → γ} : ∀ {l : List α}, (l.map f).Nodup → ∀ {x y : α}, x ∈ l → y ∈ l → f x = f y → x = y
  | [], _, _, _, hx, _, _ => by simp at hx
  | a :: l, h, x, y, hx, hy, e => by
    simp only [List.map_cons, List.nodup_cons] at h
    rcases List.mem_cons.1 hx with rfl | hx'
    · rcases List.mem_cons.1 hy with rfl | hy'
      · rfl
      · exact absurd (List.mem_map.2 ⟨y, hy', e.symm⟩) h.1
    · rcases List.mem_cons.1 hy with rfl | hy'
      · exact absurd (List.mem_map.2 ⟨x, hx', e⟩) h.1
      · exact inj_of_nodup_map h.2 hx' hy' e

theorem nodup_of_map {α γ : Type} {f : α → γ} : ∀ {l : List α}, (l.map f).Nodup → l.Nodup
  | [], _ => by simp
  | a :: l, h => by
    simp only [List.map_cons, List.nodup_cons] at h ⊢
    exact ⟨fun hm => h.1 (List.mem_map.2 ⟨a, hm, rfl⟩), nodup_of_map h.2⟩

omit [DecidableEq κ] in
theorem RelM.mem {es : List MapEntry} {m : List (κ × β)} (h : RelM ek eb es m) {e : MapEntry} (he : e ∈ es) : ∃ e1 e2 m1 p m2, es = e1 ++ e :: e2 ∧ m = m1 ++ p :: m2 ∧ RelM ek eb e1 m1 ∧ RelM ek eb e2 m2 ∧ e.key = ek p.1 ∧ e.val = eb p.2 := by
  induction es generalizing m with
  | nil => simp at he
  | cons y es ih =>
    cases m with
    | nil => exact absurd h.nil_right (by simp)
    | cons q m =>
      obtain ⟨hq, h3⟩ := RelM.cons.1 h
      rcases List.mem_cons.1 he with rfl | he
      · exact ⟨[], es, [], q, m, rfl, rfl, rfl, h3, hq⟩
      · obtain ⟨e1, e2, m1, p, m2, rfl, rfl, r1, r2, r3⟩ := ih h3 he
        exact ⟨y :: e1, e2, q :: m1, p, m2, rfl, rfl, RelM.cons.2 ⟨hq, r1⟩, r2, r3⟩

omit [DecidableEq κ] in
/-- One step: nothing is left, or one of those that are left comes. -/
theorem run_next {w : World} {r b : Nat} {m left : List (κ × β)} {cur : Option (κ × β)} (h : IterM ek eb w r b m left cur) (T : TypeId) :
    (left = [] ∧ (Instr.next (.pointer (some ⟨r, 0, none⟩)) false T).run P w = .ok (.tuple #[.bool false]) w) ∨
    ∃ p left' w' k v, left.Perm (p :: left') ∧ (Instr.next (.pointer (some ⟨r, 0, none⟩)) false T).run P w = .ok (.tuple #[.bool true, k, v]) w' ∧ IterM ek eb w' r b m left' (some p) ∧ Only [r] w w' ∧ w'.heap.size = w.heap.size := by
  obtain ⟨es, clock, seen, h1, h2, h3, h4, h5, ⟨ls, hs, hin, lm, hrel, hperm⟩, hcur⟩ := h
  have hnd : es.toList.Nodup := nodup_of_map h4
  have hg : (getObj r).run P w = .ok (.mapIter (some b) clock seen clock) w := by simp [getObj, Sem.run, h2]
  have hfil : es.filter (fun e => !seen.contains e.born) = ls.toArray := by
    apply Array.toList_inj.1
    rw [Array.toList_filter]
    exact sublist_filter_eq hs hnd fun e he => by rw [Bool.not_eq_true', hin e he]
  have hold : ls.toArray.filter (fun e => decide (e.born < clock)) = ls.toArray := by
    apply Array.toList_inj.1
    rw [Array.toList_filter, List.filter_eq_self]
    intro e he
    exact decide_eq_true (h5 e (hs.subset he))
  have hnew : ls.toArray.filter (fun e => decide (e.born ≥ clock)) = #[] := by
    apply Array.toList_inj.1
    rw [Array.toList_filter, List.filter_eq_nil_iff]
    intro e he
    have := h5 e (hs.subset he)
    simp only [decide_eq_true_eq]; omega
  have hguard : (!seen.isEmpty && !es.isEmpty && es.all (fun e => decide (e.born ≥ clock))) = false := by
    by_cases he : es.isEmpty
    · simp [he]
    · have : es.all (fun e => decide (e.born ≥ clock)) = false := by
        rw [Bool.eq_false_iff]
        intro hall
        rw [Array.all_eq_true_iff_forall_mem] at hall
        cases hl : es.toList with
        | nil => exact he (by simp [Array.isEmpty_iff, ← Array.toList_eq_nil_iff, hl])
        | cons e rest =>
          have hm : e ∈ es.toList := by rw [hl]; simp
          have := hall e (by simpa using hm)
          have := h5 e hm
          simp at *; omega
      rw [this]; simp
  cases ls with
  | nil =>
    left
    have : lm = [] := hrel.nil_left
    subst this
    refine ⟨List.nil_perm.1 hperm, ?_⟩
    simp only [Instr.next, Sem.run_bind, hg, Result.andThen_ok, run_getObj_map h1, hguard, Bool.false_eq_true, if_false, hfil, hold, hnew]
    simp [Question.forced]
  | cons e0 rest =>
    right
    have hsz : ((if (e0 :: rest).toArray.isEmpty then #[none] else #[]) ++ ((e0 :: rest).toArray ++ #[]).map some : Array (Option MapEntry)) = ((e0 :: rest).map some).toArray := by simp
    -- which one comes
    have key : ∀ (i : Nat), i < (e0 :: rest).length → ∀ w0 : World, w0.heap = w.heap → w0.os = w.os → w0.tape = w.tape → w0.output = w.output → w.drawn ≤ w0.drawn →
        ∃ p left' w' e, left.Perm (p :: left') ∧ ((e0 :: rest).map some).toArray[i]? = some (some e) ∧ (setObj r (.mapIter (some b) clock (seen.push e.born) clock)).run P w0 = .ok () w' ∧ IterM ek eb w' r b m left' (some p) ∧ Only [r] w w' ∧ w'.heap.size = w.heap.size := by
      intro i hi w0 hw0 hw1 hw2 hw3 hw4
      have hm : (e0 :: rest)[i] ∈ e0 :: rest := List.getElem_mem hi
      obtain ⟨e1, e2, m1, p, m2, hE, hMm, r1, r2, r3, r4⟩ := hrel.mem hm
      generalize hee : (e0 :: rest)[i] = e at *
      refine ⟨p, m1 ++ m2, { w0 with heap := w0.heap.setIfInBounds r (.mapIter (some b) clock (seen.push e.born) clock) }, e, ?_, ?_, ?_, ?_, ?_, ?_⟩
      · rw [hMm] at hperm
        exact hperm.symm.trans List.perm_middle
      · simp only [List.getElem?_toArray, List.getElem?_map]
        rw [List.getElem?_eq_getElem hi, hee]; rfl
      · simp only [setObj, Sem.run, hw0, h2]
      · have hrb : r ≠ b := by intro e; rw [e, h1] at h2; cases h2
        have hrlt : r < w.heap.size := (Array.getElem?_eq_some_iff.1 h2).1
        refine ⟨es, clock, seen.push e.born, ?_, ?_, h3, h4, h5, ⟨e1 ++ e2, ?_, ?_, m1 ++ m2, ?_, List.Perm.refl _⟩, ?_⟩
        · simp only [hw0]; rw [Array.getElem?_setIfInBounds_ne hrb]; exact h1
        · simp only [hw0]; simp [hrlt]
        · rw [hE] at hs
          exact (List.Sublist.append_left (List.sublist_cons_self _ _) _).trans hs
        · intro y hy
          have hy1 := hin y hy
          have hemem : e ∈ es.toList := hs.subset hm
          have hlnd : (e0 :: rest).Nodup := hnd.sublist hs
          rw [hE] at hlnd hy1
          simp only [List.nodup_append, List.nodup_cons] at hlnd
          have hbe : y.born = e.born → y = e := by
            intro hb
            exact inj_of_nodup_map h4 hy hemem hb
          rw [Array.contains_push]
          simp only [Bool.or_eq_false_iff, beq_eq_false_iff_ne, ne_eq]
          rw [hy1]
          constructor
          · rintro ⟨hmem, hne⟩
            rcases List.mem_append.1 hmem with hmem | hmem
            · exact List.mem_append_left _ hmem
            · rcases List.mem_cons.1 hmem with rfl | hmem
              · exact absurd rfl hne
              · exact List.mem_append_right _ hmem
          · intro hmem
            refine ⟨?_, fun hb => ?_⟩
            rotate_left
            · have := hbe hb
              subst this
              rcases List.mem_append.1 hmem with hmem | hmem
              · exact hlnd.2.2 y hmem y (by simp) rfl
              · exact hlnd.2.1.1 hmem
            · rcases List.mem_append.1 hmem with hmem | hmem
              · exact List.mem_append_left _ hmem
              · exact List.mem_append_right _ (List.mem_cons_of_mem _ hmem)
        · unfold RelM at *
          rw [List.map_append, List.map_append, r1, r2]
        · intro q hq
          simp only [Option.some.injEq] at hq
          subst hq
          exact ⟨e, hs.subset hm, r3, r4, by simp⟩
      · refine ⟨hw1, hw2, hw3, by simp [hw0], fun k hk hn => ?_, hw4⟩
        simp only [List.mem_singleton] at hn
        simp only [hw0]
        rw [Array.getElem?_setIfInBounds_ne (by omega)]
      · simp [hw0]
    by_cases hone : (e0 :: rest).length ≤ 1
    · obtain ⟨p, left', w', e, k1, k2, k3, k4, k5, k6⟩ := key 0 (by simp) w rfl rfl rfl rfl (Nat.le_refl _)
      refine ⟨p, left', w', e.key, e.val, k1, ?_, k4, k5, k6⟩
      have hq : (Question.mapNext ((e0 :: rest).map some).toArray.size).forced = true := by
        simp only [Question.forced, List.size_toArray, List.length_map, decide_eq_true_eq]; exact hone
      simp only [Instr.next, Sem.run_bind, hg, Result.andThen_ok, run_getObj_map h1, hguard, Bool.false_eq_true, if_false, hfil, hold, hnew, hsz, run_choose, hq, if_true, k2, k3, Sem.run_pure]
    · have hq : (Question.mapNext ((e0 :: rest).map some).toArray.size).forced = false := by
        simp only [Question.forced, List.size_toArray, List.length_map, decide_eq_false_iff_not]; exact hone
      obtain ⟨p, left', w', e, k1, k2, k3, k4, k5, k6⟩ := key ((Question.mapNext ((e0 :: rest).map some).toArray.size).cut (w.tape w.drawn (Question.mapNext ((e0 :: rest).map some).toArray.size)))
        (by simp only [Question.cut, List.size_toArray, List.length_map]; exact Nat.mod_lt _ (by simp)) { w with drawn := w.drawn + 1 } rfl rfl rfl rfl (Nat.le_succ _)
      refine ⟨p, left', w', e.key, e.val, k1, ?_, k4, k5, k6⟩
      simp only [Instr.next, Sem.run_bind, hg, Result.andThen_ok, run_getObj_map h1, hguard, Bool.false_eq_true, if_false, hfil, hold, hnew, hsz, run_choose, hq, k2, k3, Sem.run_pure]

omit [DecidableEq κ] in
theorem run_entry {w : World} {r b : Nat} {m left : List (κ × β)} {p : κ × β} (h : IterM ek eb w r b m left (some p)) :
    (Instr.entry (.pointer (some ⟨r, 0, none⟩))).run P w = .ok (.tuple #[ek p.1, eb p.2]) w := by
  obtain ⟨es, clock, seen, h1, h2, h3, h4, h5, _, hcur⟩ := h
  obtain ⟨e, he, hk, hv, hb⟩ := hcur p rfl
  have hg : (getObj r).run P w = .ok (.mapIter (some b) clock seen clock) w := by simp [getObj, Sem.run, h2]
  have hfind : es.find? (fun y => y.born == e.born) = some e := by
    rw [← Array.find?_toList]
    generalize es.toList = l at he h4
    induction l with
    | nil => simp at he
    | cons y l ih =>
      simp only [List.map_cons, List.nodup_cons] at h4
      rw [List.find?_cons]
      by_cases hy : y.born = e.born
      · rw [beq_iff_eq.2 hy]
        rcases List.mem_cons.1 he with rfl | he
        · rfl
        · exact absurd (List.mem_map.2 ⟨e, he, rfl⟩) (hy ▸ h4.1)
      · rw [beq_eq_false_iff_ne.2 hy]
        rcases List.mem_cons.1 he with rfl | he
        · exact absurd rfl hy
        · exact ih he h4.2
  simp [Instr.entry, hg, hb, run_getObj_map h1, hfind, hk, hv]
end

section steps
variable {κ β : Type} [DecidableEq κ]
variable {P : Program} {K E M : TypeId} {ek : κ → Value} {eb : β → Value}
variable {ops : Array Oper} {Q : Exit → Act → World → Prop} {rest : List Oper} {n : Nat} {l : Slots} {a : Act} {w : World} {d : Nat} {T : TypeId} {pos : String} {af : Array Edge} {g : Option (Nat × Bool)}

theorem d_lookup {d : Option Nat} (hM : P.underlying M = some (.map K E)) (hK : Keys P K ek) {z : Value} (hz : ∀ w, (zeroValue E).run P w = .ok z w) {b : Nat} {m : List (κ × β)} {x y : Operand} {k : κ} (hx : ev l x = some (.map (some b))) (hy : ev l y = some (ek k)) (h : MapAt ek eb w b m) (ok : Bool) :
    Does P l ⟨d, .lookup M x y ok, T, pos, af, g⟩ w (if ok then .tuple #[((mget k m).map eb).getD z, .bool (mget k m).isSome] else ((mget k m).map eb).getD z) w := fun ρ hρ => by
  simp [execOp, hρ _ _ hx, hρ _ _ hy, run_lookup hM hK hz h]
omit [DecidableEq κ] in
theorem d_maplen {d : Option Nat} (hM : P.underlying M = some (.map K E)) {b : Nat} {m : List (κ × β)} {x : Operand} (hx : ev l x = some (.map (some b))) (h : MapAt ek eb w b m) :
    Does P l ⟨d, .call { callee := .builtin .len, args := #[x], argTypes := #[M] }, T, pos, af, g⟩ w (.int .i64 m.length) w := fun ρ hρ => by
  simp [execOp, resolve, invoke, builtin, hρ _ _ hx, run_maplen hM h]
omit [DecidableEq κ] in
theorem d_entry {d : Option Nat} {r b : Nat} {m left : List (κ × β)} {p : κ × β} {x : Operand} (hx : ev l x = some (.pointer (some ⟨r, 0, none⟩))) (h : IterM ek eb w r b m left (some p)) : Does P l ⟨d, .entry x, T, pos, af, g⟩ w (.tuple #[ek p.1, eb p.2]) w := fun ρ hρ => by
  simp [execOp, hρ _ _ hx, run_entry h]

omit [DecidableEq κ] in
theorem st_makeMap (he : Env n l a) (ek : κ → Value) (eb : β → Value) (hlt : Nat.blt d n = true)
    (k : ∀ b w', w.heap.size ≤ b → Only [] w w' → MapAt ek eb w' b [] → ∀ a, Env n ((d, .map (some b)) :: l) a → wpList P ops Q rest a w') : wpList P ops Q (⟨some d, .makeMap M none, T, pos, af, none⟩ :: rest) a w :=
  st he (w' := { w with heap := w.heap.push (.map #[] 0) }) (v := .map (some w.heap.size)) (fun ρ hρ => by simp [execOp, Instr.makeMap, newObj, Sem.run]) rfl rfl hlt fun a ha =>
    k _ _ (Nat.le_refl _) (alloc_only _ _ _) ⟨#[], 0, by simp, rfl, by simp, by simp, by simp⟩ a ha

theorem st_mapUpdate (he : Env n l a) (hM : P.underlying M = some (.map K E)) (hK : Keys P K ek) {b : Nat} {m : List (κ × β)} {x y z : Operand} {k : κ} (v : β) (hx : ev l x = some (.map (some b))) (hy : ev l y = some (ek k)) (hz : ev l z = some (eb v)) (h : MapAt ek eb w b m)
    (H : ∀ w', MapAt ek eb w' b (mput k v m) → Only [b] w w' → w'.heap.size = w.heap.size → ∀ a, Env n l a → wpList P ops Q rest a w') : wpList P ops Q (⟨none, .mapUpdate M x y z, T, pos, af, none⟩ :: rest) a w := by
  obtain ⟨w', hr, h1, h2, h3⟩ := run_mapUpdate (P := P) hM hK h k v
  exact st0 he (w' := w') (fun ρ hρ => by simp [execOp, hρ _ _ hx, hρ _ _ hy, hρ _ _ hz, hr]) rfl rfl fun a ha => H w' h1 h2 h3 a ha

theorem st_mapEntry (he : Env n l a) (hM : P.underlying M = some (.map K E)) (hK : Keys P K ek) {z : β} (hz : ∀ w, (zeroValue E).run P w = .ok (eb z) w) {b : Nat} {m : List (κ × β)} {x y : Operand} {k : κ} (hx : ev l x = some (.map (some b))) (hy : ev l y = some (ek k)) (h : MapAt ek eb w b m) (hlt : Nat.blt d n = true)
    (H : ∀ w' (s : Nat), MapStamp ek eb w' b (mput k ((mget k m).getD z) m) k s → Only [b] w w' → w'.heap.size = w.heap.size → ∀ a, Env n ((d, .tuple #[((mget k m).map eb).getD (eb z), .int .i64 s]) :: l) a → wpList P ops Q rest a w') : wpList P ops Q (⟨some d, .mapEntry M x y, T, pos, af, none⟩ :: rest) a w := by
  obtain ⟨w', s, hr, h1, h2, h3⟩ := run_mapEntry (P := P) hM hK hz h k
  exact st he (w' := w') (v := .tuple #[((mget k m).map eb).getD (eb z), .int .i64 s]) (fun ρ hρ => by simp [execOp, hρ _ _ hx, hρ _ _ hy, hr]) rfl rfl hlt fun a ha => H w' s h1 h2 h3 a ha

theorem st_entryStore (he : Env n l a) {b s : Nat} {m : List (κ × β)} {x y z : Operand} {k : κ} (v : β) (hx : ev l x = some (.map (some b))) (hy : ev l y = some (.int .i64 (s : Int))) (hz : ev l z = some (eb v)) (h : MapStamp ek eb w b m k s)
    (H : ∀ w', MapAt ek eb w' b (mput k v m) → Only [b] w w' → w'.heap.size = w.heap.size → ∀ a, Env n l a → wpList P ops Q rest a w') : wpList P ops Q (⟨none, .entryStore M x y z, T, pos, af, none⟩ :: rest) a w := by
  obtain ⟨w', hr, h1, h2, h3⟩ := run_entryStore (P := P) (M := M) h v
  exact st0 he (w' := w') (fun ρ hρ => by simp [execOp, hρ _ _ hx, hρ _ _ hy, hρ _ _ hz, hr]) rfl rfl fun a ha => H w' h1 h2 h3 a ha

theorem st_value0 {o : Oper} {v : Value} {w' : World} (he : Env n l a) (h : Does P l o w v w') (hg : o.guard = none) (hd : o.dst = none) (k : ∀ a, Env n l a → wpList P ops Q rest a w') : wpList P ops Q (o :: rest) a w :=
  wpList_plain hg fun K hK => by
    unfold Oper.wp
    rw [h _ fun x u hx => he.ev hx, Oper.upon_value, hd]
    exact hK _ _ (k _ (he.put0 _))

theorem st_delete (he : Env n l a) (hM : P.underlying M = some (.map K E)) (hK : Keys P K ek) {b : Nat} {m : List (κ × β)} {x y : Operand} {k : κ} {T2 : TypeId} (hx : ev l x = some (.map (some b))) (hy : ev l y = some (ek k)) (h : MapAt ek eb w b m)
    (H : ∀ w', MapAt ek eb w' b (mdel k m) → Only [b] w w' → w'.heap.size = w.heap.size → ∀ a, Env n l a → wpList P ops Q rest a w') : wpList P ops Q (⟨none, .call { callee := .builtin .delete, args := #[x, y], argTypes := #[M, T2] }, T, pos, af, none⟩ :: rest) a w := by
  obtain ⟨w', hr, h1, h2, h3⟩ := run_delete (P := P) hM hK h k #[M, T2] rfl T
  exact st_value0 he (w' := w') (v := .tuple #[]) (fun ρ hρ => by simp [execOp, resolve, invoke, builtin, hρ _ _ hx, hρ _ _ hy, hr]) rfl rfl fun a ha => H w' h1 h2 h3 a ha

omit [DecidableEq κ] in
theorem st_range (he : Env n l a) (hM : P.underlying M = some (.map K E)) {b : Nat} {m : List (κ × β)} {x : Operand} (hx : ev l x = some (.map (some b))) (h : MapAt ek eb w b m) (hlt : Nat.blt d n = true)
    (H : ∀ r w', w.heap.size ≤ r → r < w'.heap.size → IterM ek eb w' r b m m none → Only [] w w' → ∀ a, Env n ((d, .pointer (some ⟨r, 0, none⟩)) :: l) a → wpList P ops Q rest a w') : wpList P ops Q (⟨some d, .range M x, T, pos, af, none⟩ :: rest) a w := by
  obtain ⟨w', hr, h1, h2, h3⟩ := run_range (P := P) hM h
  exact st he (w' := w') (v := .pointer (some ⟨w.heap.size, 0, none⟩)) (fun ρ hρ => by simp [execOp, hρ _ _ hx, hr]) rfl rfl hlt fun a ha => H _ w' (Nat.le_refl _) h3 h1 h2 a ha

omit [DecidableEq κ] in
theorem st_next (he : Env n l a) {r b : Nat} {m left : List (κ × β)} {cur : Option (κ × β)} {x : Operand} (hx : ev l x = some (.pointer (some ⟨r, 0, none⟩))) (h : IterM ek eb w r b m left cur) (hlt : Nat.blt d n = true)
    (H0 : left = [] → ∀ a, Env n ((d, .tuple #[.bool false]) :: l) a → wpList P ops Q rest a w)
    (H1 : ∀ p left' w' u v, left.Perm (p :: left') → IterM ek eb w' r b m left' (some p) → Only [r] w w' → w'.heap.size = w.heap.size → ∀ a, Env n ((d, .tuple #[.bool true, u, v]) :: l) a → wpList P ops Q rest a w') : wpList P ops Q (⟨some d, .next x false, T, pos, af, none⟩ :: rest) a w := by
  rcases run_next (P := P) h T with ⟨h0, hr⟩ | ⟨p, left', w', u, v, h1, hr, h2, h3, h4⟩
  · exact st he (w' := w) (v := .tuple #[.bool false]) (fun ρ hρ => by simp [execOp, hρ _ _ hx, hr]) rfl rfl hlt fun a ha => H0 h0 a ha
  · exact st he (w' := w') (v := .tuple #[.bool true, u, v]) (fun ρ hρ => by simp [execOp, hρ _ _ hx, hr]) rfl rfl hlt fun a ha => H1 p left' w' u v h1 h2 h3 h4 a ha
end steps
end Go.V
