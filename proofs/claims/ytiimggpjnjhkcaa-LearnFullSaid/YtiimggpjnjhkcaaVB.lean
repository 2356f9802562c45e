import Derived.Test.YtiimggpjnjhkcaaVA
import Derived.Laws.BytesString
namespace Go.V

/-- The text of bytes. -/
def strOf (bs : List Nat) : ByteArray := (bs.map Int.ofNat).foldl (fun r n => r.push (UInt8.ofNat n.toNat)) ByteArray.empty

section does
variable {P : Program} {l : Slots} {w : World} {d : Option Nat} {T : TypeId} {pos : String} {af : Array Edge} {g : Option (Nat × Bool)}
theorem d_str {x : Operand} {v : Value} {src dst e : TypeId} {bs : List Nat} (hs : P.underlying src = some (.slice e)) (he : P.underlying e = some (.int .u8)) (hd : P.underlying dst = some .string) (hx : ev l x = some v) (hV : Vec 1 (fun n : Nat => [.int .u8 n]) w v bs) :
    Does P l ⟨d, .convert src dst x, T, pos, af, g⟩ w (.string (strOf bs)) w := fun ρ hρ => by
  obtain ⟨a, cap, rfl, hcap, hnone, hspot, hcell⟩ := hV
  simp only [execOp, hρ _ _ hx, Sem.run_bind]
  rw [run_convert_bytes_string w src dst e a bs.length cap hs he hd]
  cases a with
  | none =>
    have h0 : bs = [] := List.eq_nil_of_length_eq_zero (by have := hnone rfl; omega)
    subst h0
    simp [Conv.bytesToString, strOf]
  | some a =>
    have hsp := hspot a rfl
    obtain ⟨b, o, sp⟩ := a
    simp only at hsp
    subst hsp
    rw [run_bytesToString w ⟨b, o, none⟩ bs.length cap (bs.map Int.ofNat) ?_]
    · rfl
    have hl : (bs.map Int.ofNat |>.map (Value.int .u8)).length = bs.length := by simp
    rw [← hl]
    refine run_loadCells_list (a := (⟨b, o, none⟩ : Addr)) (h := fun j v hj => ?_) (cs := _) ..
    simp only [List.getElem?_map, Option.map_map, Option.map_eq_some_iff] at hj
    obtain ⟨n, hn, rfl⟩ := hj
    have := hcell _ rfl j n hn 0 (by omega)
    simp only [Nat.mul_one, Nat.add_zero] at this
    rw [add_flat]; exact this

theorem d_eqs {x y : Operand} {xT yT : TypeId} {u v : ByteArray} (hx : ev l x = some (.string u)) (hy : ev l y = some (.string v)) : Does P l ⟨d, .binOp .eql xT x y yT, T, pos, af, g⟩ w (.bool (u.toList == v.toList)) w := d_eqv hx hy fun w => by
  simp [eqGuard, binOp, Op.stringOp]
theorem d_neqs {x y : Operand} {xT yT : TypeId} {u v : ByteArray} (hx : ev l x = some (.string u)) (hy : ev l y = some (.string v)) : Does P l ⟨d, .binOp .neq xT x y yT, T, pos, af, g⟩ w (.bool !(u.toList == v.toList)) w := d_eqv hx hy fun w => by
  simp [eqGuard, binOp, Op.stringOp]
end does
end Go.V
