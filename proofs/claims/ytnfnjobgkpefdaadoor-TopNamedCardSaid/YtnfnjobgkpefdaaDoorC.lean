/- told: how a byte is told. -/
import Derived.Test.YtnfnjobgkpefdaaDoorB
import Derived.Test.YtnfnjobgkpefdaaDoorA
import Derived.Laws.IdiomStrings
namespace Go.Proofs.YtnfnjobgkpefdaaDoor
set_option linter.unusedSimpArgs false
set_option linter.unusedVariables false
open Go.RowKit

theorem bl_alloc (w : World) (o : Obj) : Below w.heap.size w (w.alloc o) := (Below.refl _ _).alloc (Nat.le_refl _) o

/-- The table of the bytes' letters stands. -/
def Sh (w : World) : Prop := ∀ i, i < 14 → w.cell? ⟨0, i, none⟩ = some (.int .u8 ((shortB i).toNat : Int))

theorem conv_lit (w : World) (l : List UInt8) (C : Array Value) (n : Nat) (hn : l.length = n) (hC : (l.map (fun b => Value.int .u8 (b.toNat : Int))).toArray = C) :
    (convert 40 9 (.slice (some ⟨w.heap.size, 0, none⟩) n n)).run Tryd.prog (w.alloc (.cells C 5)) = .ok (.string ⟨l.toArray⟩) (w.alloc (.cells C 5)) := by
  subst hn hC
  refine run_convert_bytes_back _ 40 9 5 _ _ l Tryd.underlying40 Tryd.underlying5 Tryd.underlying9 (fun j hj => ?_)
  have e : (⟨w.heap.size, 0, none⟩ : Addr).add j = ⟨w.heap.size, j, none⟩ := by unfold Addr.add; split <;> simp_all
  rw [e, World.cell?_alloc_mark]
  simp [hj]

theorem oct0 (c : UInt8) : (((48 : UInt8) + (c >>> 6)).toNat : Int) = 48 + (c.toNat : Int) / 64 := by
  have hc := c.toNat_lt
  simp [UInt8.toNat_add, UInt8.toNat_shiftRight, Nat.shiftRight_eq_div_pow]
  omega
theorem oct1 (c : UInt8) : (((48 : UInt8) + ((c >>> 3) &&& 7)).toNat : Int) = 48 + (c.toNat : Int) / 8 % 8 := by
  have hc := c.toNat_lt
  have e := Nat.and_two_pow_sub_one_eq_mod (c.toNat / 8) 3
  simp at e
  simp [UInt8.toNat_add, UInt8.toNat_shiftRight, Nat.shiftRight_eq_div_pow, e]
  omega
theorem oct2 (c : UInt8) : (((48 : UInt8) + (c &&& 7)).toNat : Int) = 48 + (c.toNat : Int) % 8 := by
  have hc := c.toNat_lt
  have e := Nat.and_two_pow_sub_one_eq_mod c.toNat 3
  simp at e
  simp [UInt8.toNat_add, e]
  omega
end Go.Proofs.YtnfnjobgkpefdaaDoor
