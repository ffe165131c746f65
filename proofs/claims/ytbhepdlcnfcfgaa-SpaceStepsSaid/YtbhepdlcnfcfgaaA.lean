/- The words of the space walks, and the small readers. -/
import Derived.Test.YtbhepdlcnfcfgaaRows
import Derived.WalkKit
import Derived.WalkSpells
import Derived.WalkLawsBesides
import Derived.BigQuiet
import Derived.Deep.QuietTactic
import Derived.Deep.RegionHeld3
import Derived.Deep.LoopGhost
import Derived.Lib.Hide
namespace Go.Proofs.Ytbhepdlcnfcfgaa
set_option linter.unusedSimpArgs false
set_option linter.unusedVariables false
open Go.RowKit

/-- An item: its kind and its text. -/
abbrev It := Int × ByteArray
/-- The cells of items. -/
def icells : List It → List Value
  | [] => []
  | (k, t) :: r => .int .u8 k :: .string t :: icells r
/-- How many bytes items have. -/
def tot : List It → Nat
  | [] => 0
  | (_, t) :: r => t.size + tot r

theorem icells_length (l : List It) : (icells l).length = l.length * 2 := by
  induction l with
  | nil => rfl
  | cons x r ih => obtain ⟨k, t⟩ := x; simp only [icells, List.length_cons, ih]; omega
theorem icells_append (a b : List It) : icells (a ++ b) = icells a ++ icells b := by
  induction a with
  | nil => rfl
  | cons x r ih => obtain ⟨k, t⟩ := x; simp [icells, ih]
theorem tot_append (a b : List It) : tot (a ++ b) = tot a + tot b := by
  induction a with
  | nil => simp [tot]
  | cons x r ih => obtain ⟨k, t⟩ := x; simp [tot, ih]; omega
theorem icells_get (l : List It) : ∀ (i : Nat) (hi : i < l.length), (icells l)[i * 2]? = some (.int .u8 l[i].1) ∧ (icells l)[i * 2 + 1]? = some (.string l[i].2) := by
  induction l with
  | nil => intro i hi; simp at hi
  | cons x r ih =>
    obtain ⟨k, t⟩ := x
    intro i hi
    cases i with
    | zero => exact ⟨rfl, rfl⟩
    | succ i =>
      have h := ih i (by simpa using hi)
      rw [show (i + 1) * 2 = i * 2 + 1 + 1 from by omega, show i * 2 + 1 + 1 + 1 = (i * 2 + 1) + 1 + 1 from rfl]
      simpa [icells] using h
theorem tot_take (l : List It) (i : Nat) (hi : i < l.length) : tot (l.take (i + 1)) = tot (l.take i) + l[i].2.size := by
  rw [List.take_succ_eq_append_getElem hi, tot_append]; obtain ⟨k, t⟩ := l[i]; simp [tot]
theorem tot_take_le (l : List It) (i : Nat) : tot (l.take i) ≤ tot l := by
  have h := tot_append (l.take i) (l.drop i); rw [List.take_append_drop] at h; omega

theorem ret_int {k : IntKind} {a b : Int} (h : a = b) : Ending.returned (.int k a) = .returned (.int k b) := by rw [h]
theorem tot_take_all (l : List It) (i : Nat) (h : l.length ≤ i) : tot (l.take i) = tot l := by rw [List.take_of_length_le h]

/-- A space lies in block b. -/
def Sp (w : World) (b : Nat) (p h : ByteArray) (q : Value) (k : Int) : Prop := w.heap[b]? = some (.cells #[.string p, .string h, q, .int .i64 k] 63 (0, 0))

theorem Sp.c0 {w : World} {b p h q k} (s : Sp w b p h q k) : w.cell? ⟨b, 0, none⟩ = some (.string p) := by simp [Sp] at s; simp [World.cell?, s]
theorem Sp.c1 {w : World} {b p h q k} (s : Sp w b p h q k) : w.cell? ⟨b, 1, none⟩ = some (.string h) := by simp [Sp] at s; simp [World.cell?, s]
theorem Sp.c2 {w : World} {b p h q k} (s : Sp w b p h q k) : w.cell? ⟨b, 2, none⟩ = some q := by simp [Sp] at s; simp [World.cell?, s]
theorem Sp.c3 {w : World} {b p h q k} (s : Sp w b p h q k) : w.cell? ⟨b, 3, none⟩ = some (.int .i64 k) := by simp [Sp] at s; simp [World.cell?, s]
theorem Sp.fr {w : World} {b p h q k} (s : Sp w b p h q k) (o : Nat) : w.frozen? ⟨b, o, none⟩ = false := by simp [Sp] at s; simp [World.frozen?, s]
theorem Sp.lt {w : World} {b p h q k} (s : Sp w b p h q k) : b < w.heap.size := lt_of_block s

/-- The queue: q is a slice of items that lie in a row of its own, at or above base. -/
def Qu (w : World) (base : Nat) (q : Value) (l : List It) : Prop := w.ownsRow base 35 2 q l.length (icells l)

theorem Qu.shape {w : World} {base q l} (h : Qu w base q l) : ∃ ao cap, q = .slice ao l.length cap ∧ (0 < l.length → ∃ g, ao = some ⟨g, 0, none⟩ ∧ base ≤ g ∧ g < w.heap.size ∧
    ∀ i (hi : i < l.length), w.cell? ⟨g, i * 2, none⟩ = some (.int .u8 l[i].1) ∧ w.cell? ⟨g, i * 2 + 1, none⟩ = some (.string l[i].2)) := by
  rcases h.2 with ⟨rfl, h0⟩ | ⟨g, cap, cur, rfl, hb, hg, _⟩
  · exact ⟨none, 0, by rw [h0], fun h => by omega⟩
  · refine ⟨_, _, rfl, fun _ => ⟨g, rfl, hb, lt_of_block hg, fun i hi => ?_⟩⟩
    have hc := World.ownsRow.cells h (g := g) rfl
    have hx := icells_get l i hi
    have h1 := hc _ _ hx.1
    have h2 := hc _ _ hx.2
    have ea : ∀ j, (⟨g, 0, none⟩ : Addr).add j = ⟨g, j, none⟩ := fun j => by unfold Addr.add; split <;> simp_all
    rw [ea] at h1 h2
    exact ⟨h1, h2⟩

set_option maxHeartbeats 400000 in
theorem Pattern_any (b : Nat) (p h : ByteArray) (q : Value) (k : Int) (w : World) (hb : Sp w b p h q k) :
    Calls Try.prog 16 #[.pointer (some ⟨b, 0, none⟩)] w fun e w' => e = .returned (.string p) ∧ w = w' := by
  have h0 := hb.c0
  clear hb
  go_enter Try.func16, Try.ntmps16
  go_wp2
  go_ret
  exact ⟨rfl, rfl⟩

set_option maxHeartbeats 400000 in
theorem Hold_any (b : Nat) (p h : ByteArray) (q : Value) (k : Int) (w : World) (hb : Sp w b p h q k) :
    Calls Try.prog 15 #[.pointer (some ⟨b, 0, none⟩)] w fun e w' => e = .returned (.string h) ∧ w = w' := by
  have h0 := hb.c1
  clear hb
  go_enter Try.func15, Try.ntmps15
  go_wp2
  go_ret
  exact ⟨rfl, rfl⟩

set_option maxHeartbeats 800000 in
theorem Used_any (b base : Nat) (p h : ByteArray) (q : Value) (k : Int) (l : List It) (w : World) (hb : Sp w b p h q k) (hq : Qu w base q l) (hsum : (p.size + h.size + tot l : Nat) ≤ 4611686018427387904) (hl : l.length ≤ 4611686018427387904) :
    Calls Try.prog 19 #[.pointer (some ⟨b, 0, none⟩)] w fun e w' => e = .returned (.int .i64 ((p.size + h.size + tot l : Nat) : Int)) ∧ Below w.heap.size w w' := by
  have c0 := hb.c0
  have c1 := hb.c1
  have c2 := hb.c2
  have hlt := hb.lt
  obtain ⟨ao, cap, rfl, hcells⟩ := hq.shape
  clear hb hq
  go_enter Try.func19, Try.ntmps19
  go_wp2
  go_quiet (fail)
  go_wp2
  go_loopw [3, 27] (fun n i wr => ∃ j : Nat, j ≤ l.length ∧ i = .int .i64 j ∧ n = .int .i64 ((p.size + h.size + tot (l.take j) : Nat) : Int) ∧ Below w.heap.size w wr) (fun _ i _ => l.length - (intOf i).toNat)
  case atStart => exact ⟨0, Nat.zero_le _, rfl, by simp [tot], below_drewN (Below.refl _ _) _⟩
  case round =>
    obtain ⟨j, hj, rfl, rfl, hbel⟩ := hrel
    have hle := tot_take_le l j
    by_cases hlt' : j < l.length
    · obtain ⟨g, rfl, hgb, hgl, hc⟩ := hcells (by omega)
      have hts := tot_take l j hlt'
      have hle' := tot_take_le l (j + 1)
      obtain ⟨hk, ht⟩ := hc j hlt'
      generalize l[j].1 = xk at *
      generalize l[j].2 = xt at *
      have k0 := (hbel.cell (p := ⟨g, j * 2, none⟩) hgl).trans hk
      have k1 := (hbel.cell (p := ⟨g, j * 2 + 1, none⟩) hgl).trans ht
      have hbd : p.size + h.size + tot (l.take j) + xt.size ≤ 4611686018427387904 := by omega
      have HT := Lib.hid hts
      clear hts hc hk ht c0 c1 c2
      go_wp2
      go_roundw
      case rel => exact ⟨j + 1, by omega, by go_num, by rw [HT.out]; go_num, (hbel.alloc (by have := hbel.size; omega) _)⟩
      case measure => simp [intOf]; omega
    · go_wp2
      go_ret
      exact ⟨ret_int (by have := tot_take_all l j (by omega); omega), hbel⟩

end Go.Proofs.Ytbhepdlcnfcfgaa
