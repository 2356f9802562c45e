import Derived.Test.YtiimggpjnjhkcaaV1
namespace Go.V

/-- Of the blocks that were there, those of S alone may have turned; new ones may have come. -/
structure Only (S : List Nat) (w w' : World) : Prop where
  os : w'.os = w.os
  tape : w'.tape = w.tape
  output : w'.output = w.output
  size : w.heap.size ≤ w'.heap.size
  block : ∀ k, k < w.heap.size → k ∉ S → w'.heap[k]? = w.heap[k]?
  drawn : w.drawn ≤ w'.drawn

theorem Only.refl (S : List Nat) (w : World) : Only S w w := ⟨rfl, rfl, rfl, Nat.le_refl _, fun _ _ _ => rfl, Nat.le_refl _⟩
theorem Only.trans {S : List Nat} {a b c : World} (h : Only S a b) (k : Only S b c) : Only S a c :=
  ⟨k.os.trans h.os, k.tape.trans h.tape, k.output.trans h.output, Nat.le_trans h.size k.size, fun i hi hs => (k.block i (Nat.lt_of_lt_of_le hi h.size) hs).trans (h.block i hi hs), Nat.le_trans h.drawn k.drawn⟩
theorem Only.mono {S S' : List Nat} {a b : World} (h : Only S a b) (hs : ∀ k ∈ S, k ∈ S' ∨ a.heap.size ≤ k) : Only S' a b :=
  ⟨h.os, h.tape, h.output, h.size, fun i hi hn => h.block i hi fun hm => (hs i hm).elim hn (by omega), h.drawn⟩
/-- Two steps: what the second one turns may be new. -/
theorem Only.and {S S' : List Nat} {a b c : World} (h : Only S a b) (k : Only S' b c) (hs : ∀ x ∈ S', x ∈ S ∨ a.heap.size ≤ x) : Only S a c :=
  ⟨k.os.trans h.os, k.tape.trans h.tape, k.output.trans h.output, Nat.le_trans h.size k.size, fun i hi hn => (k.block i (Nat.lt_of_lt_of_le hi h.size) fun hm => (hs i hm).elim hn (by omega)).trans (h.block i hi hn), Nat.le_trans h.drawn k.drawn⟩
theorem Only.and0 {S : List Nat} {a b c : World} (h : Only S a b) (k : Only [] b c) : Only S a c := h.and k (by simp)
theorem Only.drew {S : List Nat} {a b : World} (h : Only S a b) : Only S a b.drew := ⟨h.os, h.tape, h.output, h.size, h.block, Nat.le_succ_of_le h.drawn⟩
theorem Only.of_drew {S : List Nat} {a b : World} (h : Only S a.drew b) : Only S a b := ⟨h.os, h.tape, h.output, h.size, h.block, Nat.le_of_succ_le h.drawn⟩
theorem Only.below {S : List Nat} {a b : World} (h : Only S a b) {B : Nat} (hB : B ≤ a.heap.size) (hs : ∀ k ∈ S, B ≤ k) : RowKit.Below B a b :=
  ⟨h.os, h.tape, h.output, h.size, fun k hk => h.block k (by omega) fun hm => by have := hs k hm; omega⟩
theorem Only.keep {S : List Nat} {a b : World} (h : Only S a b) {k : Nat} {o : Obj} (hk : a.heap[k]? = some o) (hn : k ∉ S) : b.heap[k]? = some o :=
  (h.block k (Array.getElem?_eq_some_iff.1 hk).1 hn).trans hk
theorem Only.cell {S : List Nat} {a b : World} (h : Only S a b) {p : Addr} {v : Value} (hc : a.cell? p = some v) (hn : p.block ∉ S) : b.cell? p = some v := by
  have hlt : p.block < a.heap.size := World.block_lt_of_cell? a p hc
  rw [World.cell?_of_block (w := a) (h.block _ hlt hn)]; exact hc

theorem view_drawn {p : Program} {w : World} {at_ : Addr} {u : TypeId} {k : Addr} {v : Value} {m : Bool} {r : World × List Addr} (h : w.viewStore p at_ u k v m = .ok r) : r.1.drawn = w.drawn := by
  unfold World.viewStore at h
  simp only [bind, Except.bind, pure, Except.pure] at h
  repeat' split at h
  all_goals first
    | (cases h; done)
    | (simp only [Except.ok.injEq] at h; subst h; rfl)
    | skip

theorem far_drawn {p : Program} {w w1 : World} {a : Addr} {v : Value} {m : Bool} {l : List Addr} (h : w.farStore p a v m = .ok (w1, l)) : w.drawn ≤ w1.drawn := by
  unfold World.farStore at h
  split at h
  · split at h
    · rename_i r hr
      simp only [Except.ok.injEq] at h
      subst h
      exact Nat.le_of_eq (view_drawn hr).symm
    · cases h
  · cases h
theorem ask_drawn {α : Type} (x : Ask α) : ∀ w : World, w.drawn ≤ (w.ask x).2.drawn := by
  induction x with
  | done a => intro w; exact Nat.le_refl _
  | ask what range k ih =>
    intro w
    simp only [World.ask]
    split
    · exact ih _ w
    · exact Nat.le_trans (Nat.le_succ _) (ih _ { w with drawn := w.drawn + 1 })

theorem sys_drawn (w : World) (c : Sys) : w.drawn ≤ (w.sys c).2.drawn := by
  unfold World.sys
  have h := ask_drawn (Kernel.perform c w.os) w
  split
  · exact Nat.le_refl _
  · rename_i heq; rw [heq] at h; exact h

/-- Nothing takes a draw back. -/
theorem run_drawn {α : Type} {P : Program} (x : Sem α) : ∀ (w w' : World) (v : α), x.run P w = .ok v w' → w.drawn ≤ w'.drawn := by
  induction x with
  | pure a => intro w w' v h; simp only [Sem.run, Result.ok.injEq] at h; rw [h.2]; exact Nat.le_refl _
  | load m a k ih =>
    intro w w' v h
    simp only [Sem.run] at h
    split at h
    · exact ih _ _ _ _ h
    · split at h
      · exact ih _ _ _ _ h
      · cases h
  | store m a u k ih =>
    intro w w' v h
    cases u <;> simp only [Sem.run] at h <;> first
      | (cases h; done)
      | (split at h
         · split at h
           · cases h
           · have := ih _ _ _ h; exact this
         · split at h
           · rename_i w1 _ hf
             refine Nat.le_trans ?_ (ih _ _ _ h)
             exact far_drawn hf
           · cases h)
  | new o k ih => intro w w' v h; simp only [Sem.run] at h; have := ih _ _ _ _ h; exact this
  | shape r k ih => intro w w' v h; simp only [Sem.run] at h; exact ih _ _ _ _ h
  | freeze a n k ih =>
    intro w w' v h
    simp only [Sem.run] at h
    refine Nat.le_trans ?_ (ih _ _ _ h)
    unfold World.freeze; split <;> exact Nat.le_refl _
  | frozen a k ih => intro w w' v h; simp only [Sem.run] at h; exact ih _ _ _ _ h
  | getObj r k ih =>
    intro w w' v h
    simp only [Sem.run] at h
    split at h
    · cases h
    · exact ih _ _ _ _ h
    · cases h
  | setObj r o k ih =>
    intro w w' v h
    simp only [Sem.run] at h
    split at h
    · cases h
    · have := ih _ _ _ h; exact this
    · cases h
  | choose q k ih =>
    intro w w' v h
    simp only [Sem.run] at h
    split at h
    · exact ih _ _ _ _ h
    · exact Nat.le_trans (Nat.le_succ _) (ih _ _ _ _ h)
  | sys c k ih => intro w w' v h; simp only [Sem.run] at h; exact Nat.le_trans (sys_drawn w c) (ih _ _ _ _ h)
  | program k ih => intro w w' v h; simp only [Sem.run] at h; exact ih _ _ _ _ h
  | mark m k ih => intro w w' v h; simp only [Sem.run] at h; exact ih _ _ _ h
  | halt e => intro w w' v h; simp only [Sem.run] at h; cases h

/-- A block of cells that may be written. -/
def Row (w : World) (b : Nat) (arr : Array Value) (T : TypeId) : Prop := w.heap[b]? = some (.cells arr T (0, 0))

theorem Row.lt {w : World} {b : Nat} {arr : Array Value} {T : TypeId} (h : Row w b arr T) : b < w.heap.size := (Array.getElem?_eq_some_iff.1 h).1
theorem Row.keep {w w' : World} {b : Nat} {arr : Array Value} {T : TypeId} (h : Row w b arr T) {S : List Nat} (ho : Only S w w') (hn : b ∉ S) : Row w' b arr T := ho.keep h hn
theorem Row.keep0 {w w' : World} {b : Nat} {arr : Array Value} {T : TypeId} (h : Row w b arr T) (ho : Only [] w w') : Row w' b arr T := ho.keep h (by simp)
theorem Row.cell {w : World} {b : Nat} {arr : Array Value} {T : TypeId} (h : Row w b arr T) (o : Nat) : w.cell? ⟨b, o, none⟩ = arr[o]? := by
  unfold Row at h
  simp [World.cell?, h]
theorem Row.frozen {w : World} {b : Nat} {arr : Array Value} {T : TypeId} (h : Row w b arr T) (o : Nat) : w.frozen? ⟨b, o, none⟩ = false := by
  unfold Row at h
  simp [World.frozen?, h]
theorem Row.drew {w : World} {b : Nat} {arr : Array Value} {T : TypeId} (h : Row w b arr T) : Row w.drew b arr T := h
theorem Row.eq {w : World} {b : Nat} {arr arr' : Array Value} {T : TypeId} (h : Row w b arr T) (e : arr = arr') : Row w b arr' T := e ▸ h

/-- The type's row in the tables: whether it is an aggregate, and its cells. -/
structure TI (P : Program) (T : TypeId) (agg : Bool) (size : Nat) : Prop where
  agg : ∀ w, (isAgg T).run P w = .ok agg w
  size : ∀ w, (sizeOf T).run P w = .ok size w

theorem add_flat (b o i : Nat) : (⟨b, o, none⟩ : Addr).add i = ⟨b, o + i, none⟩ := by
  unfold Addr.add; split <;> simp_all

theorem run_loadFrom (P : Program) (w : World) (b o : Nat) : ∀ (vs : List Value) (i : Nat) (acc : Array Value), (∀ j, j < vs.length → w.cell? ⟨b, o + (i + j), none⟩ = vs[j]?) →
    (loadCellsFrom ⟨b, o, none⟩ i vs.length acc).run P w = .ok (acc ++ vs.toArray) w
  | [], i, acc, _ => by simp [loadCellsFrom]
  | v :: vs, i, acc, h => by
    have h0 := h 0 (by simp)
    simp only [Nat.add_zero, List.getElem?_cons_zero] at h0
    simp only [List.length_cons, loadCellsFrom, Sem.run_bind, run_load, add_flat, h0, Result.andThen_ok]
    rw [run_loadFrom P w b o vs (i + 1) (acc.push v) fun j hj => by
      have := h (j + 1) (by simp; omega)
      rw [List.getElem?_cons_succ] at this
      rw [← this]; congr 2; omega]
    simp

theorem run_loadVar_agg {P : Program} {w : World} {T : TypeId} {k : Nat} (ht : TI P T true k) {b o : Nat} (vs : List Value) (hk : vs.length = k) (h : ∀ j, j < k → w.cell? ⟨b, o + j, none⟩ = vs[j]?) :
    (loadVar T ⟨b, o, none⟩).run P w = .ok (.agg vs.toArray) w := by
  subst hk
  have := run_loadFrom P w b o vs 0 #[] fun j hj => by rw [Nat.zero_add]; exact h j hj
  simp only [Array.empty_append] at this
  simp [loadVar, ht.agg, ht.size, loadCells, this]

theorem run_loadVar_one {P : Program} {w : World} {T : TypeId} {k : Nat} (ht : TI P T false k) {p : Addr} {v : Value} (h : w.cell? p = some v) : (loadVar T p).run P w = .ok v w := by
  simp [loadVar, ht.agg, h]

theorem setCell_only (w : World) (b o : Nat) (v : Value) : Only [b] w (w.setCell ⟨b, o, none⟩ v) :=
  ⟨rfl, rfl, rfl, by simp [World.setCell], fun k hk hn => by
    simp only [World.setCell, Array.getElem?_modify]
    rw [if_neg (by simp at hn; omega)], Nat.le_refl _⟩

theorem setCell_row {w : World} {b : Nat} {arr : Array Value} {T : TypeId} (h : Row w b arr T) (o : Nat) (v : Value) : Row (w.setCell ⟨b, o, none⟩ v) b (arr.setIfInBounds o v) T := by
  unfold Row at *
  simp [World.setCell, Array.getElem?_modify, h]

/-- Cells written one behind another. -/
def setAll (arr : Array Value) (o : Nat) : List Value → Array Value
  | [] => arr
  | v :: vs => setAll (arr.setIfInBounds o v) (o + 1) vs

theorem size_setAll : ∀ (vs : List Value) (arr : Array Value) (o : Nat), (setAll arr o vs).size = arr.size
  | [], _, _ => rfl
  | v :: vs, arr, o => by simp only [setAll]; rw [size_setAll vs]; simp

theorem toList_setAll : ∀ (vs : List Value) (arr : Array Value) (o : Nat), o + vs.length ≤ arr.size → (setAll arr o vs).toList = arr.toList.take o ++ vs ++ arr.toList.drop (o + vs.length)
  | [], arr, o, _ => by simp [setAll]
  | v :: vs, arr, o, h => by
    simp only [List.length_cons] at h
    rw [setAll, toList_setAll vs _ (o + 1) (by simp; omega)]
    have ho : o < arr.toList.length := by simp; omega
    rw [Array.toList_setIfInBounds]
    have e1 : (arr.toList.set o v).take (o + 1) = arr.toList.take o ++ [v] := by
      rw [List.take_succ_eq_append_getElem (by simpa using ho), List.take_set_of_le (Nat.le_refl o)]; simp
    have e2 : (arr.toList.set o v).drop (o + 1 + vs.length) = arr.toList.drop (o + (v :: vs).length) := by
      rw [List.drop_set_of_lt (by omega)]; congr 1; simp; omega
    rw [e1, e2]; simp

theorem run_storeFrom (P : Program) (b o : Nat) (T : TypeId) : ∀ (vs : List Value) (i : Nat) (w : World) (arr : Array Value), Row w b arr T → o + i + vs.length ≤ arr.size → (∀ v ∈ vs, v.oneCell' = true) →
    ∃ w', (storeCells ⟨b, o, none⟩ vs i).run P w = .ok () w' ∧ Only [b] w w' ∧ Row w' b (setAll arr (o + i) vs) T ∧ w'.heap.size = w.heap.size
  | [], i, w, arr, h, _, _ => ⟨w, rfl, Only.refl _ _, h, rfl⟩
  | v :: vs, i, w, arr, h, hlen, h1 => by
    simp only [List.length_cons] at hlen
    have hc : w.cell? ⟨b, o + i, none⟩ = some (arr[o + i]'(by omega)) := by rw [h.cell]; exact Array.getElem?_eq_getElem (by omega)
    have hr := setCell_row h (o + i) v
    obtain ⟨w', hrun, ho, hrow, hs⟩ := run_storeFrom P b o T vs (i + 1) _ _ hr (by simp; omega) fun u hu => h1 u (List.mem_cons_of_mem _ hu)
    refine ⟨w', ?_, (setCell_only w b (o + i) v).trans ho, ?_, ?_⟩
    · simp only [storeCells, Sem.run_bind, add_flat, run_store P w _ v .plain (h1 v List.mem_cons_self), hc, h.frozen, Bool.false_eq_true, if_false, Result.andThen_ok]
      exact hrun
    · have : o + (i + 1) = o + i + 1 := by omega
      rw [this] at hrow
      exact hrow
    · rw [hs]; simp [World.setCell]

theorem run_storeVar {P : Program} {w : World} {T TB : TypeId} {g : Bool} {k : Nat} (ht : TI P T g k) {b o : Nat} {arr : Array Value} (h : Row w b arr TB) {v : Value} {vs : List Value} (hv : v.cells = vs.toArray) (hk : vs.length = k) (hlen : o + k ≤ arr.size) (h1 : vs.all Value.oneCell' = true) :
    ∃ w', (storeVar T ⟨b, o, none⟩ v).run P w = .ok () w' ∧ Only [b] w w' ∧ Row w' b (setAll arr o vs) TB ∧ w'.heap.size = w.heap.size := by
  obtain ⟨w', hr, ho, hrow, hs⟩ := run_storeFrom P b o TB vs 0 w arr h (by omega) (List.all_eq_true.1 h1)
  refine ⟨w', ?_, ho, hrow, hs⟩
  simp [storeVar, ht.size, hv, hk, hr]

theorem alloc_only (w : World) (o : Obj) (S : List Nat) : Only S w { w with heap := w.heap.push o } :=
  ⟨rfl, rfl, rfl, by simp, fun k hk _ => by simp [Array.getElem?_push, Nat.ne_of_lt hk], Nat.le_refl _⟩
theorem alloc_row (w : World) (arr : Array Value) (T : TypeId) : Row { w with heap := w.heap.push (.cells arr T) } w.heap.size arr T := by
  simp [Row]

section does
variable {P : Program} {l : Slots} {w : World} {d : Option Nat} {T : TypeId} {pos : String} {af : Array Edge} {g : Option (Nat × Bool)}

theorem d_load {x : Operand} {t : TypeId} {k : Nat} {p : Addr} {v : Value} (ht : TI P t false k) (hx : ev l x = some (.pointer (some p))) (h : w.cell? p = some v) : Does P l ⟨d, .load t x, T, pos, af, g⟩ w v w := fun ρ hρ => by
  simp [execOp, hρ _ _ hx, Instr.loadAt, Instr.sureAddr, run_loadVar_one ht h]
theorem d_loadk {x : Operand} {t : TypeId} {k : Nat} {b o : Nat} (vs : List Value) (ht : TI P t true k) (hx : ev l x = some (.pointer (some ⟨b, o, none⟩))) (hk : vs.length = k) (h : ∀ j, j < k → w.cell? ⟨b, o + j, none⟩ = vs[j]?) : Does P l ⟨d, .load t x, T, pos, af, g⟩ w (.agg vs.toArray) w := fun ρ hρ => by
  simp [execOp, hρ _ _ hx, Instr.loadAt, Instr.sureAddr, run_loadVar_agg ht vs hk h]
/-- A load out of a block of the call's own. -/
theorem d_loadr {x : Operand} {t TB : TypeId} {k : Nat} {b o : Nat} {arr : Array Value} {v : Value} (ht : TI P t false k) (hx : ev l x = some (.pointer (some ⟨b, o, none⟩))) (h : Row w b arr TB) (hv : arr[o]? = some v) : Does P l ⟨d, .load t x, T, pos, af, g⟩ w v w :=
  d_load ht hx (by rw [h.cell]; exact hv)
theorem d_loadkr {x : Operand} {t TB : TypeId} {k : Nat} {b o : Nat} {arr : Array Value} (vs : List Value) (ht : TI P t true k) (hx : ev l x = some (.pointer (some ⟨b, o, none⟩))) (h : Row w b arr TB) (hk : vs.length = k) (hv : (arr.toList.drop o).take k = vs) : Does P l ⟨d, .load t x, T, pos, af, g⟩ w (.agg vs.toArray) w :=
  d_loadk vs ht hx hk fun j hj => by
    rw [h.cell, ← hv, List.getElem?_take, if_pos hj, List.getElem?_drop]
    simp
theorem d_fieldAddr {x : Operand} {s : TypeId} {f off : Nat} {p : Addr} (hf : ∀ p w, (Instr.fieldAt s (.pointer (some p)) f).run P w = .ok (.pointer (some (p.add off))) w) (hx : ev l x = some (.pointer (some p))) : Does P l ⟨d, .fieldAddr s x f, T, pos, af, g⟩ w (.pointer (some (p.add off))) w := fun ρ hρ => by
  simp [execOp, hρ _ _ hx, hf]
theorem d_fieldr {x : Operand} {s : TypeId} {f off : Nat} {b o : Nat} (hf : ∀ p w, (Instr.fieldAt s (.pointer (some p)) f).run P w = .ok (.pointer (some (p.add off))) w) (hx : ev l x = some (.pointer (some ⟨b, o, none⟩))) : Does P l ⟨d, .fieldAddr s x f, T, pos, af, g⟩ w (.pointer (some ⟨b, o + off, none⟩)) w := by
  have := d_fieldAddr (P := P) (w := w) (d := d) (T := T) (pos := pos) (af := af) (g := g) hf hx
  rwa [add_flat] at this
theorem d_indexs {x i : Operand} {t E : TypeId} {k : Nat} {b o len cap : Nat} {q : IntKind} {j : Int} (ht : P.underlying t = some (.slice E)) {ag : Bool} (hE : TI P E ag k) (hx : ev l x = some (.slice (some ⟨b, o, none⟩) len cap)) (hi : ev l i = some (.int q j)) (h : 0 ≤ j ∧ j < len) : Does P l ⟨d, .indexAddr t x i, T, pos, af, g⟩ w (.pointer (some ⟨b, o + j.toNat * k, none⟩)) w := fun ρ hρ => by
  simp [execOp, hρ _ _ hx, hρ _ _ hi, Instr.indexAt, asIntOf, run_underlying ht, hE.size, h.1, h.2, add_flat]
theorem d_indexa {x i : Operand} {t E : TypeId} {k : Nat} {b o len : Nat} {q : IntKind} {j : Int} (ht : P.underlying t = some (.array len E)) {ag : Bool} (hE : TI P E ag k) (hx : ev l x = some (.pointer (some ⟨b, o, none⟩))) (hi : ev l i = some (.int q j)) (h : 0 ≤ j ∧ j < len) : Does P l ⟨d, .indexAddr t x i, T, pos, af, g⟩ w (.pointer (some ⟨b, o + j.toNat * k, none⟩)) w := fun ρ hρ => by
  simp [execOp, hρ _ _ hx, hρ _ _ hi, Instr.indexAt, asIntOf, run_underlying ht, hE.size, h.1, h.2, add_flat, Instr.sureAddr]
/-- An element of an array of one-cell elements by value. -/
theorem d_index {x i : Operand} {t E : TypeId} {k len : Nat} {q : IntKind} {j : Int} {cs : Array Value} {v : Value} (ht : P.underlying t = some (.array len E)) (hE : TI P E false 1) (hx : ev l x = some (.agg cs)) (hi : ev l i = some (.int q j)) (h : 0 ≤ j ∧ j < len) (hk : j.toNat = k) (hv : cs[k]? = some v) : Does P l ⟨d, .index t x i, T, pos, af, g⟩ w v w := fun ρ hρ => by
  subst hk
  simp [execOp, hρ _ _ hx, hρ _ _ hi, Instr.index, asIntOf, run_underlying ht, hE.size, h.1, h.2, part, hE.agg, hv]
theorem d_field1 {x : Operand} {t : TypeId} {f : Nat} {v u : Value} (hf : ∀ w, (Instr.field t v f).run P w = .ok u w) (hx : ev l x = some v) : Does P l ⟨d, .field t x f, T, pos, af, g⟩ w u w := fun ρ hρ => by
  simp [execOp, hρ _ _ hx, hf]
/-- A build out of known parts: reckoned by the kernel. -/
theorem d_build {t : TypeId} {ps : List (Nat × Operand)} {is : List Nat} {vs : List Value} {v : Value} (hps : ps.map (·.1) = is) (hx : evs l (ps.map (·.2)) = some vs) (h : ∀ w, (Instr.build t (is.zip vs).toArray).run P w = .ok v w) : Does P l ⟨d, .build t ps.toArray, T, pos, af, g⟩ w v w := fun ρ hρ => by
  have hz : ∀ (ps : List (Nat × Operand)) (vs : List Value), evs l (ps.map (·.2)) = some vs → ps.map (fun x => (x.1, ρ x.2)) = (ps.map (·.1)).zip vs := by
    intro ps
    induction ps with
    | nil => intro vs _; simp
    | cons p ps ih =>
      intro vs hx
      simp only [List.map_cons, evs] at hx
      cases h1 : ev l p.2 with
      | none => rw [h1] at hx; cases hx
      | some u =>
        cases h2 : evs l (ps.map (·.2)) with
        | none => rw [h1, h2] at hx; cases hx
        | some us =>
          rw [h1, h2] at hx
          simp only [Option.some.injEq] at hx
          subst hx
          simp [hρ _ _ h1, ih us h2]
  have e := hz ps vs hx
  rw [hps] at e
  simp only [execOp, List.map_toArray]
  have e2 : List.map (fun (x : Nat × Operand) => match x with | (i, x) => (i, ρ x)) ps = is.zip vs := e
  rw [e2]
  simp [h]

theorem d_len {x : Operand} {t E : TypeId} {a : Option Addr} {len cap : Nat} (ht : P.underlying t = some (.slice E)) (hx : ev l x = some (.slice a len cap)) :
    Does P l ⟨d, .call { callee := .builtin .len, args := #[x], argTypes := #[t] }, T, pos, af, g⟩ w (.int .i64 len) w := fun ρ hρ => by
  simp [execOp, resolve, invoke, builtin, hρ _ _ hx, Builtin.len_, run_underlying ht, goInt]
theorem d_len_str {x : Operand} {t : TypeId} {s : ByteArray} (ht : P.underlying t = some .string) (hx : ev l x = some (.string s)) :
    Does P l ⟨d, .call { callee := .builtin .len, args := #[x], argTypes := #[t] }, T, pos, af, g⟩ w (.int .i64 s.size) w := fun ρ hρ => by
  simp [execOp, resolve, invoke, builtin, hρ _ _ hx, Builtin.len_, run_underlying ht, goInt]
end does

section steps
variable {P : Program} {ops : Array Oper} {Q : Exit → Act → World → Prop} {rest : List Oper} {n : Nat} {l : Slots} {a : Act} {w : World} {d : Nat} {T : TypeId} {pos : String} {af : Array Edge}

/-- A new variable with a value. -/
theorem st_box (he : Env n l a) {E : TypeId} {x : Operand} {v : Value} (hx : ev l x = some v) (hlt : Nat.blt d n = true)
    (k : ∀ b w', w.heap.size ≤ b → Only [] w w' → Row w' b v.cells E → ∀ a, Env n ((d, .pointer (some ⟨b, 0, none⟩)) :: l) a → wpList P ops Q rest a w') : wpList P ops Q (⟨some d, .box E x, T, pos, af, none⟩ :: rest) a w :=
  st he (w' := { w with heap := w.heap.push (.cells v.cells E) }) (v := .pointer (some ⟨w.heap.size, 0, none⟩))
    (fun ρ hρ => by simp [execOp, hρ _ _ hx, Instr.box, newVar, newRow]) rfl rfl hlt fun a ha => k _ _ (Nat.le_refl _) (alloc_only _ _ _) (alloc_row _ _ _) a ha

/-- A new variable with its zero value. -/
theorem st_alloc (he : Env n l a) {E : TypeId} {z : Value} (hz : ∀ w, (zeroValue E).run P w = .ok z w) (hlt : Nat.blt d n = true)
    (k : ∀ b w', w.heap.size ≤ b → Only [] w w' → Row w' b z.cells E → ∀ a, Env n ((d, .pointer (some ⟨b, 0, none⟩)) :: l) a → wpList P ops Q rest a w') : wpList P ops Q (⟨some d, .alloc E, T, pos, af, none⟩ :: rest) a w :=
  st he (w' := { w with heap := w.heap.push (.cells z.cells E) }) (v := .pointer (some ⟨w.heap.size, 0, none⟩))
    (fun ρ hρ => by simp [execOp, Instr.alloc, hz, newVar, newRow]) rfl rfl hlt fun a ha => k _ _ (Nat.le_refl _) (alloc_only _ _ _) (alloc_row _ _ _) a ha

/-- A store into a block of the call's own. -/
theorem st_store (he : Env n l a) {t TB : TypeId} {g : Bool} {k : Nat} {x y : Operand} {b o : Nat} {arr : Array Value} {v : Value} (vs : List Value) (ht : TI P t g k) (hx : ev l x = some (.pointer (some ⟨b, o, none⟩))) (hy : ev l y = some v)
    (h : Row w b arr TB) (hv : v.cells = vs.toArray) (hk : vs.length = k) (hlen : o + k ≤ arr.size) (h1 : vs.all Value.oneCell' = true)
    (K : ∀ w', Only [b] w w' → Row w' b (setAll arr o vs) TB → w'.heap.size = w.heap.size → ∀ a, Env n l a → wpList P ops Q rest a w') : wpList P ops Q (⟨none, .store t x y, T, pos, af, none⟩ :: rest) a w := by
  obtain ⟨w', hr, ho, hrow, hs⟩ := run_storeVar (P := P) ht h hv hk hlen h1
  exact st0 he (w' := w') (fun ρ hρ => by simp [execOp, hρ _ _ hx, hρ _ _ hy, Instr.storeAt, Instr.sureAddr, hr]) rfl rfl fun a ha => K w' ho hrow hs a ha
end steps
end Go.V
