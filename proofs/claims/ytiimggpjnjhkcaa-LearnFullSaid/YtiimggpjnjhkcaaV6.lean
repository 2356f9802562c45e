import Derived.Test.YtiimggpjnjhkcaaV5
namespace Go.V

/-! ## Maps -/
section maps
variable {κ β : Type}

def RelM (ek : κ → Value) (eb : β → Value) (es : List MapEntry) (m : List (κ × β)) : Prop := es.map (fun e => (e.key, e.val)) = m.map (fun p => (ek p.1, eb p.2))

theorem RelM.nil {ek : κ → Value} {eb : β → Value} : RelM ek eb [] ([] : List (κ × β)) := rfl
theorem RelM.cons {ek : κ → Value} {eb : β → Value} {e : MapEntry} {es : List MapEntry} {p : κ × β} {m : List (κ × β)} : RelM ek eb (e :: es) (p :: m) ↔ (e.key = ek p.1 ∧ e.val = eb p.2) ∧ RelM ek eb es m := by
  simp [RelM]
theorem RelM.nil_left {ek : κ → Value} {eb : β → Value} {m : List (κ × β)} (h : RelM ek eb [] m) : m = [] := by simpa [RelM] using h.symm
theorem RelM.nil_right {ek : κ → Value} {eb : β → Value} {es : List MapEntry} (h : RelM ek eb es ([] : List (κ × β))) : es = [] := by simpa [RelM] using h

theorem RelM.append {ek : κ → Value} {eb : β → Value} {es : List MapEntry} {m1 m2 : List (κ × β)} (h : RelM ek eb es (m1 ++ m2)) : ∃ e1 e2, es = e1 ++ e2 ∧ RelM ek eb e1 m1 ∧ RelM ek eb e2 m2 := by
  unfold RelM at h
  rw [List.map_append] at h
  obtain ⟨a, b, rfl, h1, h2⟩ := List.map_eq_append_iff.1 h
  exact ⟨a, b, rfl, h1, h2⟩
theorem RelM.length {ek : κ → Value} {eb : β → Value} {es : List MapEntry} {m : List (κ × β)} (h : RelM ek eb es m) : es.length = m.length := by
  have := congrArg List.length h
  simpa using this

/-- A map's block, and what it holds: each key once, in the order in which they came. -/
def MapAt (ek : κ → Value) (eb : β → Value) (w : World) (b : Nat) (m : List (κ × β)) : Prop :=
  ∃ es clock, w.heap[b]? = some (.map es clock) ∧ RelM ek eb es.toList m ∧ (m.map (·.1)).Nodup ∧ (es.toList.map (·.born)).Nodup ∧ ∀ e ∈ es.toList, e.born < clock

theorem MapAt.keep {ek : κ → Value} {eb : β → Value} {w w' : World} {b : Nat} {m : List (κ × β)} (h : MapAt ek eb w b m) {S : List Nat} (ho : Only S w w') (hn : b ∉ S) : MapAt ek eb w' b m := by
  obtain ⟨es, c, h1, h2⟩ := h
  exact ⟨es, c, ho.keep h1 hn, h2⟩
theorem MapAt.keep0 {ek : κ → Value} {eb : β → Value} {w w' : World} {b : Nat} {m : List (κ × β)} (h : MapAt ek eb w b m) (ho : Only [] w w') : MapAt ek eb w' b m := h.keep ho (by simp)
theorem MapAt.nodup {ek : κ → Value} {eb : β → Value} {w : World} {b : Nat} {m : List (κ × β)} (h : MapAt ek eb w b m) : (m.map (·.1)).Nodup := by obtain ⟨_, _, _, _, h, _⟩ := h; exact h
theorem MapAt.lt {ek : κ → Value} {eb : β → Value} {w : World} {b : Nat} {m : List (κ × β)} (h : MapAt ek eb w b m) : b < w.heap.size := by obtain ⟨_, _, h, _⟩ := h; exact (Array.getElem?_eq_some_iff.1 h).1

theorem list_modify_mid (f : MapEntry → MapEntry) (e : MapEntry) (b : List MapEntry) : ∀ a : List MapEntry, (a ++ e :: b).modify a.length f = a ++ f e :: b
  | [] => rfl
  | x :: a => by
    simp only [List.cons_append, List.length_cons, List.modify_succ_cons]
    rw [list_modify_mid f e b a]
theorem modify_mid {a b : List MapEntry} {e : MapEntry} (f : MapEntry → MapEntry) : ((a ++ e :: b).toArray.modify a.length f).toList = a ++ f e :: b := by
  rw [Array.toList_modify]
  exact list_modify_mid f e b a

theorem run_getObj_map {P : Program} {w : World} {b : Nat} {es : Array MapEntry} {c : Nat} (h : w.heap[b]? = some (.map es c)) : (getObj b).run P w = .ok (.map es c) w := by
  simp [getObj, Sem.run, h]

theorem run_setObj_map {P : Program} {w : World} {b : Nat} {es es' : Array MapEntry} {c c' : Nat} (h : w.heap[b]? = some (.map es c)) : ∃ w', (setObj b (.map es' c')).run P w = .ok () w' ∧ w'.heap[b]? = some (.map es' c') ∧ Only [b] w w' ∧ w'.heap.size = w.heap.size := by
  refine ⟨{ w with heap := w.heap.setIfInBounds b (.map es' c') }, ?_, ?_, ⟨rfl, rfl, rfl, by simp, fun k hk hn => ?_, Nat.le_refl _⟩, by simp⟩
  · simp only [setObj, Sem.run, h]
  · have := (Array.getElem?_eq_some_iff.1 h).1
    simp [this]
  · simp only [List.mem_singleton] at hn
    rw [Array.getElem?_setIfInBounds_ne (by omega)]

variable [DecidableEq κ]

def fidx (x : κ) : List (κ × β) → Nat → Option (Nat × β)
  | [], _ => none
  | p :: m, i => if x = p.1 then some (i, p.2) else fidx x m (i + 1)
def mget (x : κ) : List (κ × β) → Option β
  | [] => none
  | p :: m => if x = p.1 then some p.2 else mget x m
def mput (x : κ) (v : β) : List (κ × β) → List (κ × β)
  | [] => [(x, v)]
  | p :: m => if x = p.1 then (x, v) :: m else p :: mput x v m
def mdel (x : κ) : List (κ × β) → List (κ × β)
  | [] => []
  | p :: m => if x = p.1 then m else p :: mdel x m

/-- What is asked of a key's type. -/
structure Keys (P : Program) (K : TypeId) (ek : κ → Value) : Prop where
  chk : ∀ e x w, (Instr.checkKey e 10000 K (ek x)).run P w = .ok () w
  find : ∀ {β : Type} (eb : β → Value) (x : κ) (es : List MapEntry) (m : List (κ × β)) w, RelM ek eb es m → (Instr.findKey K (ek x) es).run P w = .ok ((fidx x m 0).map fun q => (q.1, eb q.2)) w
  bits : ∀ x, Instr.sameBits 10000 (ek x) (ek x) = true

/-- Where two keys are held together by the model's own equality. -/
theorem Keys.of_equal {P : Program} {K : TypeId} {ek : κ → Value} {td : TypeDesc} (ht : P.underlying K = some td) (hnow : ∀ x y, Instr.sameNow td (ek x) (ek y) = none) (chk : ∀ e x w, (Instr.checkKey e 10000 K (ek x)).run P w = .ok () w)
    (eq : ∀ x y w, (Op.equal K (ek x) (ek y)).run P w = .ok (decide (x = y)) w) (bits : ∀ x, Instr.sameBits 10000 (ek x) (ek x) = true) : Keys P K ek where
  chk := chk
  bits := bits
  find := by
    intro β eb x es m w h
    have ask : ∀ (es : List MapEntry) (m : List (κ × β)) (i : Nat), RelM ek eb es m → (Instr.findAsking K (ek x) es i).run P w = .ok ((fidx x m i).map fun q => (q.1, eb q.2)) w := by
      intro es
      induction es with
      | nil => intro m i h; rw [h.nil_left]; simp [Instr.findAsking, fidx]
      | cons e es ih =>
        intro m i h
        cases m with
        | nil => exact absurd h.nil_right (by simp)
        | cons p m =>
          obtain ⟨⟨h1, h2⟩, h3⟩ := RelM.cons.1 h
          simp only [Instr.findAsking, Sem.run_bind, h1, eq, Result.andThen_ok, fidx]
          by_cases e : x = p.1
          · simp [e, h2]
          · simp [e, ih m (i + 1) h3]
    cases es with
    | nil => rw [h.nil_left]; simp [Instr.findKey, run_underlying ht, Instr.findNow, fidx]
    | cons e es =>
      cases m with
      | nil => exact absurd h.nil_right (by simp)
      | cons p m =>
        obtain ⟨⟨h1, h2⟩, h3⟩ := RelM.cons.1 h
        have hn : Instr.findNow td (ek x) (e :: es) 0 = none := by simp [Instr.findNow, h1, hnow]
        simp only [Instr.findKey, Sem.run_bind, run_underlying ht, Result.andThen_ok, hn]
        exact ask _ _ 0 h

/-- Where the model compares at once. -/
theorem Keys.of_now {P : Program} {K : TypeId} {ek : κ → Value} {td : TypeDesc} (ht : P.underlying K = some td) (hnow : ∀ x y, Instr.sameNow td (ek x) (ek y) = some (decide (x = y))) (chk : ∀ e x w, (Instr.checkKey e 10000 K (ek x)).run P w = .ok () w)
    (bits : ∀ x, Instr.sameBits 10000 (ek x) (ek x) = true) : Keys P K ek where
  chk := chk
  bits := bits
  find := by
    intro β eb x es m w h
    have now : ∀ (es : List MapEntry) (m : List (κ × β)) (i : Nat), RelM ek eb es m → Instr.findNow td (ek x) es i = some ((fidx x m i).map fun q => (q.1, eb q.2)) := by
      intro es
      induction es with
      | nil => intro m i h; rw [h.nil_left]; simp [Instr.findNow, fidx]
      | cons e es ih =>
        intro m i h
        cases m with
        | nil => exact absurd h.nil_right (by simp)
        | cons p m =>
          obtain ⟨⟨h1, h2⟩, h3⟩ := RelM.cons.1 h
          simp only [Instr.findNow, h1, hnow, fidx]
          by_cases e : x = p.1
          · simp [e, h2]
          · simp [e, ih m (i + 1) h3]
    simp [Instr.findKey, run_underlying ht, now es m 0 h]

theorem fidx_get (x : κ) : ∀ (m : List (κ × β)) (i : Nat), (fidx x m i).map (·.2) = mget x m
  | [], _ => rfl
  | p :: m, i => by
    simp only [fidx, mget]
    by_cases e : x = p.1
    · simp [e]
    · simp [e, fidx_get x m (i + 1)]

theorem fidx_none {x : κ} : ∀ {m : List (κ × β)} {i : Nat}, fidx x m i = none → x ∉ m.map (·.1) ∧ ∀ v, mput x v m = m ++ [(x, v)] ∧ mdel x m = m
  | [], _, _ => by simp [mput, mdel]
  | p :: m, i, h => by
    simp only [fidx] at h
    by_cases e : x = p.1
    · simp [e] at h
    · rw [if_neg e] at h
      have := fidx_none h
      refine ⟨by simp only [List.map_cons, List.mem_cons, not_or]; exact ⟨e, this.1⟩, fun v => ?_⟩
      simp only [mput, mdel, if_neg e, this.2 v, List.cons_append]
      exact ⟨trivial, trivial⟩

theorem fidx_some {x : κ} : ∀ {m : List (κ × β)} {i : Nat} {q : Nat × β}, fidx x m i = some q → ∃ m1 m2, m = m1 ++ (x, q.2) :: m2 ∧ q.1 = i + m1.length ∧ (∀ v, mput x v m = m1 ++ (x, v) :: m2) ∧ mdel x m = m1 ++ m2
  | [], _, _, h => by simp [fidx] at h
  | p :: m, i, q, h => by
    simp only [fidx] at h
    by_cases e : x = p.1
    · rw [if_pos e] at h
      simp only [Option.some.injEq] at h
      subst h
      refine ⟨[], m, ?_, rfl, fun v => by simp [mput, e], by simp [mdel, e]⟩
      rw [e]; rfl
    · rw [if_neg e] at h
      obtain ⟨m1, m2, rfl, h2, h3, h4⟩ := fidx_some h
      exact ⟨p :: m1, m2, rfl, by simp only [List.length_cons]; omega, fun v => by simp [mput, e, h3], by simp [mdel, e, h4]⟩

theorem mput_keys (x : κ) (v : β) (m : List (κ × β)) : (mput x v m).map (·.1) = if x ∈ m.map (·.1) then m.map (·.1) else m.map (·.1) ++ [x] := by
  induction m with
  | nil => simp [mput]
  | cons p m ih =>
    simp only [mput]
    by_cases e : x = p.1
    · simp [e]
    · rw [if_neg e]
      simp only [List.map_cons, ih, List.mem_cons, e, false_or]
      split <;> simp

theorem mput_nodup {x : κ} {v : β} {m : List (κ × β)} (h : (m.map (·.1)).Nodup) : ((mput x v m).map (·.1)).Nodup := by
  rw [mput_keys]
  split
  · exact h
  · rename_i hn
    rw [List.nodup_append]
    refine ⟨h, by simp, ?_⟩
    intro a ha b hb
    simp only [List.mem_singleton] at hb
    subst hb
    intro e; subst e; exact hn ha

theorem mdel_sub (x : κ) : ∀ m : List (κ × β), List.Sublist (mdel x m) m
  | [] => by simp [mdel]
  | p :: m => by
    simp only [mdel]
    by_cases e : x = p.1
    · rw [if_pos e]; exact List.sublist_cons_self _ _
    · rw [if_neg e]; exact (mdel_sub x m).cons_cons _

variable {P : Program} {K E M : TypeId} {ek : κ → Value} {eb : β → Value}

/-- m[x], where the zero value is z. -/
theorem run_lookup (hM : P.underlying M = some (.map K E)) (hK : Keys P K ek) {z : Value} (hz : ∀ w, (zeroValue E).run P w = .ok z w) {w : World} {b : Nat} {m : List (κ × β)} (h : MapAt ek eb w b m) (x : κ) (ok : Bool) :
    (Instr.lookup M (.map (some b)) (ek x) ok).run P w = .ok (if ok then .tuple #[((mget x m).map eb).getD z, .bool (mget x m).isSome] else ((mget x m).map eb).getD z) w := by
  obtain ⟨es, c, h1, h2, _⟩ := h
  have hg := fidx_get x m 0
  simp only [Instr.lookup, Sem.run_bind, run_underlying hM, Result.andThen_ok, run_getObj_map h1, Sem.run_pure, hK.chk, hK.find eb x _ m w h2]
  cases hf : fidx x m 0 with
  | none =>
    rw [hf] at hg
    simp only [Option.map_none] at hg
    rw [← hg]
    cases ok <;> simp [hz]
  | some q =>
    rw [hf] at hg
    simp only [Option.map_some] at hg
    rw [← hg]
    cases ok <;> simp

theorem lookup_nil (hM : P.underlying M = some (.map K E)) (hK : Keys P K ek) {z : Value} (hz : ∀ w, (zeroValue E).run P w = .ok z w) {w : World} (x : κ) (ok : Bool) :
    (Instr.lookup M (.map none) (ek x) ok).run P w = .ok (if ok then .tuple #[z, .bool false] else z) w := by
  have hf := hK.find (β := Unit) (fun _ => z) x [] [] w rfl
  simp only [Instr.lookup, Sem.run_bind, run_underlying hM, Result.andThen_ok, Sem.run_pure, hK.chk, hf, fidx]
  cases ok <;> simp [hz]

/-- m[x] = v. -/
theorem run_mapUpdate (hM : P.underlying M = some (.map K E)) (hK : Keys P K ek) {w : World} {b : Nat} {m : List (κ × β)} (h : MapAt ek eb w b m) (x : κ) (v : β) :
    ∃ w', (Instr.mapUpdate M (.map (some b)) (ek x) (eb v)).run P w = .ok () w' ∧ MapAt ek eb w' b (mput x v m) ∧ Only [b] w w' ∧ w'.heap.size = w.heap.size := by
  obtain ⟨es, c, h1, h2, h3, h4, h5⟩ := h
  cases hf : fidx x m 0 with
  | none =>
    obtain ⟨w', hr, hh, ho, hs⟩ := run_setObj_map (P := P) (es' := es.push { key := ek x, val := eb v, born := c }) (c' := c + 1) h1
    refine ⟨w', ?_, ⟨_, _, hh, ?_, mput_nodup h3, ?_, ?_⟩, ho, hs⟩
    · simp only [Instr.mapUpdate, Sem.run_bind, run_underlying hM, Result.andThen_ok, run_getObj_map h1, hK.chk, hK.find eb x _ m w h2, hf, Option.map_none]
      exact hr
    · rw [((fidx_none hf).2 v).1, Array.toList_push]
      unfold RelM at *
      rw [List.map_append, List.map_append, h2]; rfl
    · rw [Array.toList_push, List.map_append, List.nodup_append]
      refine ⟨h4, by simp, ?_⟩
      intro a ha d hd
      simp only [List.map_cons, List.map_nil, List.mem_singleton] at hd
      subst hd
      obtain ⟨e, he, rfl⟩ := List.mem_map.1 ha
      exact Nat.ne_of_lt (h5 e he)
    · intro e he
      rw [Array.toList_push] at he
      rcases List.mem_append.1 he with he | he
      · exact Nat.lt_succ_of_lt (h5 e he)
      · simp only [List.mem_singleton] at he; subst he; exact Nat.lt_succ_self _
  | some q =>
    obtain ⟨m1, m2, rfl, hq, hput, _⟩ := fidx_some hf
    obtain ⟨e1, e2', hes, hr1, hr2⟩ := RelM.append h2
    cases e2' with
    | nil => exact absurd hr2.nil_left (by simp)
    | cons e e2 =>
      obtain ⟨⟨hk, hv⟩, hr3⟩ := RelM.cons.1 hr2
      have hes2 : es = (e1 ++ e :: e2).toArray := by rw [← hes]
      have hlen : q.1 = e1.length := by rw [hr1.length]; omega
      have hget : es[q.1]? = some e := by rw [hes2, hlen]; simp
      obtain ⟨w', hr, hh, ho, hs⟩ := run_setObj_map (P := P) (es' := es.modify q.1 fun e => { e with key := ek x, val := eb v }) (c' := c) h1
      have hmod : (es.modify q.1 fun e => { e with key := ek x, val := eb v }).toList = e1 ++ { e with key := ek x, val := eb v } :: e2 := by
        rw [hes2, hlen]; exact modify_mid _
      refine ⟨w', ?_, ⟨_, _, hh, ?_, mput_nodup h3, ?_, ?_⟩, ho, hs⟩
      · simp only [Instr.mapUpdate, Sem.run_bind, run_underlying hM, Result.andThen_ok, run_getObj_map h1, hK.chk, hK.find eb x _ _ w h2, hf, Option.map_some, hget, Option.getD_some, Instr.keyThatStays, hk, hK.bits, if_true, Sem.run_pure]
        exact hr
      · rw [hput v, hmod]
        unfold RelM at *
        simp only [List.map_append, List.map_cons, hr1, hr3]
      · rw [hmod]
        rw [hes] at h4
        simpa using h4
      · intro e' he'
        rw [hmod] at he'
        rw [hes] at h5
        rcases List.mem_append.1 he' with he' | he'
        · exact h5 e' (List.mem_append_left _ he')
        · rcases List.mem_cons.1 he' with rfl | he'
          · exact h5 e (by simp)
          · exact h5 e' (by simp [he'])

/-- delete(m, x). -/
theorem run_delete (hM : P.underlying M = some (.map K E)) (hK : Keys P K ek) {w : World} {b : Nat} {m : List (κ × β)} (h : MapAt ek eb w b m) (x : κ) (ts : Array TypeId) (hts : ts[0]? = some M) (T : TypeId) :
    ∃ w', (Builtin.delete_ ts T #[.map (some b), ek x]).run P w = .ok (.tuple #[]) w' ∧ MapAt ek eb w' b (mdel x m) ∧ Only [b] w w' ∧ w'.heap.size = w.heap.size := by
  obtain ⟨es, c, h1, h2, h3, h4, h5⟩ := h
  cases hf : fidx x m 0 with
  | none =>
    obtain ⟨w', hr, hh, ho, hs⟩ := run_setObj_map (P := P) (es' := es) (c' := c) h1
    refine ⟨w', ?_, ⟨_, _, hh, ?_, ?_, h4, h5⟩, ho, hs⟩
    · simp [Builtin.delete_, hts, run_underlying hM, run_getObj_map h1, hK.chk, hK.find eb x _ m w h2, hf, hr]
    · cases m with
      | nil => exact h2
      | cons p m => rw [((fidx_none hf).2 p.2).2]; exact h2
    · cases m with
      | nil => exact h3
      | cons p m => rw [((fidx_none hf).2 p.2).2]; exact h3
  | some q =>
    obtain ⟨m1, m2, rfl, hq, _, hdel⟩ := fidx_some hf
    obtain ⟨e1, e2', hes, hr1, hr2⟩ := RelM.append h2
    cases e2' with
    | nil => exact absurd hr2.nil_left (by simp)
    | cons e e2 =>
      obtain ⟨⟨hk, hv⟩, hr3⟩ := RelM.cons.1 hr2
      have hes2 : es = (e1 ++ e :: e2).toArray := by rw [← hes]
      have hlen : q.1 = e1.length := by rw [hr1.length]; omega
      obtain ⟨w', hr, hh, ho, hs⟩ := run_setObj_map (P := P) (es' := es.eraseIdxIfInBounds q.1) (c' := c) h1
      have hmod : (es.eraseIdxIfInBounds q.1).toList = e1 ++ e2 := by
        rw [hes2, hlen]; simp [Array.eraseIdxIfInBounds, List.eraseIdx_append_of_length_le]
      refine ⟨w', ?_, ⟨_, _, hh, ?_, ?_, ?_, ?_⟩, ho, hs⟩
      · simp [Builtin.delete_, hts, run_underlying hM, run_getObj_map h1, hK.chk, hK.find eb x _ _ w h2, hf, hr]
      · rw [hdel, hmod]
        unfold RelM at *
        simp only [List.map_append, hr1, hr3]
      · rw [hdel]
        exact h3.sublist ((List.Sublist.append_left (List.sublist_cons_self _ _) _).map _)
      · rw [hmod]
        rw [hes] at h4
        exact h4.sublist ((List.Sublist.append_left (List.sublist_cons_self _ _) _).map _)
      · intro e' he'
        rw [hmod] at he'
        rw [hes] at h5
        exact h5 e' ((List.Sublist.append_left (List.sublist_cons_self _ _) _).subset he')

omit [DecidableEq κ] in
theorem run_maplen (hM : P.underlying M = some (.map K E)) {w : World} {b : Nat} {m : List (κ × β)} (h : MapAt ek eb w b m) (ts : Array TypeId) (hts : ts[0]? = some M) (T : TypeId) :
    (Builtin.len_ ts T #[.map (some b)]).run P w = .ok (.int .i64 m.length) w := by
  obtain ⟨es, c, h1, h2, _⟩ := h
  have := h2.length
  simp only [Array.length_toList] at this
  simp [Builtin.len_, hts, run_underlying hM, run_getObj_map h1, goInt, this]
end maps
end Go.V
