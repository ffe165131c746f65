/- A command line; Right. -/
import Derived.Test.YtbigolappdlhcaaE
namespace Go.Proofs.Ytbigolappdlhcaa
set_option linter.unusedSimpArgs false
set_option linter.unusedVariables false
open Go.RowKit

/-- A piece: is it a file; its text. -/
abbrev Pc := Bool × ByteArray
def pcells (x : Pc) : List Value := [.bool x.1, .string x.2]

/-- A command line. -/
structure Av where
  q : Bool
  e : Bool
  s : Bool
  i : Bool
  suf : ByteArray
  scr : List Pc
  nam : List ByteArray

abbrev Av.cells (a : Av) (sv nv : Value) : Array Value := #[.bool a.q, .bool a.e, .bool a.s, .bool a.i, .string a.suf, sv, nv]
abbrev Av.val (a : Av) (sv nv : Value) : Value := .agg (a.cells sv nv)

/-- v shows the pieces l. -/
def Sx (w : World) (v : Value) (l : List Pc) : Prop := ∃ ao cap, v = .slice ao l.length cap ∧ (0 < l.length → ∃ b off, ao = some ⟨b, off, none⟩ ∧ b < w.heap.size ∧ ∀ i (hi : i < l.length), w.cell? ⟨b, off + i * 2, none⟩ = some (.bool l[i].1) ∧ w.cell? ⟨b, off + i * 2 + 1, none⟩ = some (.string l[i].2))

theorem Sx.to {w w' : World} {v : Value} {l : List Pc} (h : Sx w v l) (hb : Below w.heap.size w w') : Sx w' v l := by
  obtain ⟨ao, cap, rfl, h2⟩ := h
  refine ⟨ao, cap, rfl, fun hn => ?_⟩
  obtain ⟨b, off, rfl, hl, hc⟩ := h2 hn
  exact ⟨b, off, rfl, Nat.lt_of_lt_of_le hl hb.size, fun i hi => ⟨(hb.cell (p := ⟨b, off + i * 2, none⟩) hl).trans (hc i hi).1, (hb.cell (p := ⟨b, off + i * 2 + 1, none⟩) hl).trans (hc i hi).2⟩⟩

theorem Sx.ofRd {w : World} {v : Value} {l : List Pc} (h : Rd w v l.length 2 (l.flatMap pcells)) : Sx w v l := by
  obtain ⟨_, ao, cap, rfl, h2⟩ := h
  refine ⟨ao, cap, rfl, fun hn => ?_⟩
  obtain ⟨b, off, rfl, hl, hc⟩ := h2 hn
  refine ⟨b, off, rfl, hl, fun i hi => ⟨?_, ?_⟩⟩
  · exact hc (i * 2) _ (by have := flat_get (f := pcells) (sz := 2) (fun _ => rfl) l i 0 hi (by omega); simpa [pcells] using this)
  · exact hc (i * 2 + 1) _ (by have := flat_get (f := pcells) (sz := 2) (fun _ => rfl) l i 1 hi (by omega); simpa [pcells] using this)

theorem Sx.ofOwn {w : World} {base : Nat} {v : Value} {l : List Pc} {e : TypeId} (h : w.ownsRow base e 2 v l.length (l.flatMap pcells)) : Sx w v l := by
  rcases h.2 with ⟨rfl, h0⟩ | ⟨g, cap, cur, rfl, hb, hgg, rest⟩
  · exact ⟨none, 0, by rw [h0], fun h => by omega⟩
  · have key : ∀ j u, (l.flatMap pcells)[j]? = some u → w.cell? ⟨g, 0 + j, none⟩ = some u := fun j u hu => by
      have hc := World.ownsRow.cells h (g := g) rfl j u hu
      have ea : (⟨g, 0, none⟩ : Addr).add j = ⟨g, 0 + j, none⟩ := by unfold Addr.add; split <;> simp_all
      rwa [ea] at hc
    refine ⟨_, cap, rfl, fun _ => ⟨g, 0, rfl, lt_of_block hgg, fun i hi => ⟨?_, ?_⟩⟩⟩
    · exact key (i * 2) _ (by have := flat_get (f := pcells) (sz := 2) (fun _ => rfl) l i 0 hi (by omega); simpa [pcells] using this)
    · have := key (i * 2 + 1) _ (by have := flat_get (f := pcells) (sz := 2) (fun _ => rfl) l i 1 hi (by omega); simpa [pcells] using this)
      rwa [← Nat.add_assoc] at this

/-- v is the command line a. -/
def Ax (w : World) (v : Value) (a : Av) : Prop := ∃ sv nv, v = a.val sv nv ∧ Sx w sv a.scr ∧ Tx w nv a.nam
theorem Ax.to {w w' : World} {v : Value} {a : Av} (h : Ax w v a) (hb : Below w.heap.size w w') : Ax w' v a := by
  obtain ⟨sv, nv, rfl, h1, h2⟩ := h
  exact ⟨sv, nv, rfl, h1.to hb, h2.to hb⟩

def rightB (a : Av) : Bool := decide (0 < a.scr.length) && sufOk a.suf && (a.i || decide (a.suf.size = 0)) && (a.s || !a.i)

theorem emp_toList (s : ByteArray) : (s.toList == ([] : List UInt8)) = decide (s.size = 0) := by
  rw [ByteArray.toList_eq]
  have : s.size = s.data.toList.length := by simp
  rw [this]
  cases s.data.toList <;> simp
theorem emp_toList2 (s : ByteArray) : s.toList.isEmpty = decide (s.size = 0) := by
  rw [← emp_toList]
  cases s.toList <;> rfl

theorem bl_alloc (w : World) (o : Obj) : Below w.heap.size w (w.alloc o) := (Below.refl _ _).alloc (Nat.le_refl _) o

set_option maxHeartbeats 3200000 in
theorem right_core (q e s i : Bool) (suf : ByteArray) (ao : Option Addr) (n cap : Nat) (nv : Value) (w : World) :
    Calls Try.prog 15 #[.agg #[.bool q, .bool e, .bool s, .bool i, .string suf, .slice ao n cap, nv]] w fun e w' => e = .returned (.bool (decide (0 < n) && sufOk suf && (i || decide (suf.size = 0)) && (s || !i))) ∧ Below w.heap.size w w' := by
  by_cases hn : 0 < n
  · have hnd : decide ((0 : Int) < (n : Int)) = true := decide_eq_true (by omega)
    have hn0 : (0 : Int) < (n : Int) := by omega
    rw [decide_eq_true hn]
    obtain ⟨k, hk⟩ : ∃ k, sufOk suf = k := ⟨_, rfl⟩
    have HS := suffixed_any suf
    rw [hk] at *
    clear hk
    have hem := emp_toList2 suf
    have hem2 := emp_toList suf
    by_cases hz : suf.size = 0
    · rw [decide_eq_true hz] at *
      obtain rfl : suf = ⟨#[]⟩ := by apply ba_ext; have : suf.data.toList.length = 0 := by simpa using hz
                                     rw [List.length_eq_zero_iff.1 this]
      have HS := Lib.hid HS
      clear hz hem hem2
      cases k <;> cases i <;> cases s
      all_goals
        go_enter Try.func15, Try.ntmps15
        go_wp2_with (go_at_call 28; refine (HS.out _).mono ?_; rintro e w1 ⟨rfl, hb⟩; have c2 := hb.cell (p := ⟨w.heap.size + 1, 2, none⟩) (by simp); have c3 := hb.cell (p := ⟨w.heap.size + 1, 3, none⟩) (by simp); have c4 := hb.cell (p := ⟨w.heap.size + 1, 4, none⟩) (by simp))
        go_ret
        exact ⟨rfl, bl_to (bl_to (bl_alloc w _) (bl_alloc _ _)) hb⟩
    · rw [decide_eq_false hz] at *
      have HS := Lib.hid HS
      have hz2 : ¬ suf.size = 0 := hz
      clear hz
      cases k <;> cases i <;> cases s
      all_goals
        go_enter Try.func15, Try.ntmps15
        go_wp2_with (go_at_call 28; refine (HS.out _).mono ?_; rintro e w1 ⟨rfl, hb⟩; have c2 := hb.cell (p := ⟨w.heap.size + 1, 2, none⟩) (by simp); have c3 := hb.cell (p := ⟨w.heap.size + 1, 3, none⟩) (by simp); have c4 := hb.cell (p := ⟨w.heap.size + 1, 4, none⟩) (by simp))
        go_ret
        exact ⟨rfl, bl_to (bl_to (bl_alloc w _) (bl_alloc _ _)) hb⟩
  · have hnd : decide ((0 : Int) < (n : Int)) = false := decide_eq_false (by omega)
    have hn0 : ¬ (0 : Int) < (n : Int) := by omega
    rw [decide_eq_false hn]
    go_enter Try.func15, Try.ntmps15
    go_wp2_with fail
    go_ret
    exact ⟨rfl, bl_to (bl_alloc w _) (bl_alloc _ _)⟩
set_option maxHeartbeats 3200000 in
theorem rright_core (q e s i : Bool) (suf : ByteArray) (ao : Option Addr) (n cap : Nat) (nv : Value) (w : World) :
    Calls Try.prog 16 #[.agg #[.bool q, .bool e, .bool s, .bool i, .string suf, .slice ao n cap, nv]] w fun e w' => e = .returned (.bool (decide (0 < n) && sufOk suf && (i || decide (suf.size = 0)) && (s || !i))) ∧ Below w.heap.size w w' := by
  by_cases hn : 0 < n
  · have hnd : decide ((0 : Int) < (n : Int)) = true := decide_eq_true (by omega)
    have hn0 : (0 : Int) < (n : Int) := by omega
    rw [decide_eq_true hn]
    obtain ⟨k, hk⟩ : ∃ k, sufOk suf = k := ⟨_, rfl⟩
    have HS := suffix_any suf
    rw [hk] at *
    clear hk
    have hem := emp_toList2 suf
    have hem2 := emp_toList suf
    by_cases hz : suf.size = 0
    · rw [decide_eq_true hz] at *
      obtain rfl : suf = ⟨#[]⟩ := by apply ba_ext; have : suf.data.toList.length = 0 := by simpa using hz
                                     rw [List.length_eq_zero_iff.1 this]
      have HS := Lib.hid HS
      clear hz hem hem2
      cases k <;> cases i <;> cases s
      all_goals
        go_enter Try.func16, Try.ntmps16
        go_wp2_with (go_at_call 29; refine (HS.out _).mono ?_; rintro e w1 ⟨rfl, rfl⟩)
        go_ret
        exact ⟨rfl, bl_alloc w _⟩
    · rw [decide_eq_false hz] at *
      have HS := Lib.hid HS
      have hz2 : ¬ suf.size = 0 := hz
      clear hz
      cases k <;> cases i <;> cases s
      all_goals
        go_enter Try.func16, Try.ntmps16
        go_wp2_with (go_at_call 29; refine (HS.out _).mono ?_; rintro e w1 ⟨rfl, rfl⟩)
        go_ret
        exact ⟨rfl, bl_alloc w _⟩
  · have hnd : decide ((0 : Int) < (n : Int)) = false := decide_eq_false (by omega)
    have hn0 : ¬ (0 : Int) < (n : Int) := by omega
    rw [decide_eq_false hn]
    obtain ⟨k, hk⟩ : ∃ k, sufOk suf = k := ⟨_, rfl⟩
    have HS := suffix_any suf
    rw [hk] at *
    clear hk
    have HS := Lib.hid HS
    cases k
    all_goals
      go_enter Try.func16, Try.ntmps16
      go_wp2_with (go_at_call 29; refine (HS.out _).mono ?_; rintro e w1 ⟨rfl, rfl⟩)
      go_ret
      exact ⟨rfl, bl_alloc w _⟩

theorem right_any (v : Value) (a : Av) (w : World) (h : Ax w v a) : Calls Try.prog 15 #[v] w fun e w' => e = .returned (.bool (rightB a)) ∧ Below w.heap.size w w' := by
  obtain ⟨sv, nv, rfl, ⟨ao, cap, rfl, _⟩, h2⟩ := h
  exact right_core a.q a.e a.s a.i a.suf ao _ cap nv w
theorem rright_any (v : Value) (a : Av) (w : World) (h : Ax w v a) : Calls Try.prog 16 #[v] w fun e w' => e = .returned (.bool (rightB a)) ∧ Below w.heap.size w w' := by
  obtain ⟨sv, nv, rfl, ⟨ao, cap, rfl, _⟩, h2⟩ := h
  exact rright_core a.q a.e a.s a.i a.suf ao _ cap nv w
end Go.Proofs.Ytbigolappdlhcaa
