/- Items and steps that came in. -/
import Derived.Test.YtbhepdlcnfcfgaaO
import Derived.Test.YtbhepdlcnfcfgaaE
import Derived.Deep.Strs
namespace Go.Proofs.Ytbhepdlcnfcfgaa
set_option linter.unusedSimpArgs false
set_option linter.unusedVariables false
open Go.RowKit Go.Deep Go.ChangeShapes Go.WideShapes

theorem c33 : Try.prog.cellsOf 33 = 1 := by kernel_rfl
theorem c9 : Try.prog.cellsOf 9 = 1 := by kernel_rfl
theorem c3 : Try.prog.cellsOf 3 = 1 := by kernel_rfl
theorem c35 : Try.prog.cellsOf 35 = 2 := by kernel_rfl
theorem c50 : Try.prog.cellsOf 50 = 4 := by kernel_rfl

section
variable {H : Type} {enc : TypeId × Value → H} {w : World} {base : Nat} {spare : Nat → Bool} {held : Bool}

def itemCells (a : It) : List Value := [.int .u8 a.1, .string a.2]
def itemDat {H : Type} (a : It) : DataW H := .agg [.lit (.int .u8 a.1), .lit (.string a.2.data.toList)]

theorem item_el (n : Nat) (cs : List Value) (x : DataW H × List MemPlace) (h : DataW.trod enc Try.prog w base spare held n 35 cs = some x) :
    ∃ a : It, cs = itemCells a ∧ x.1 = itemDat a ∧ ((Lit.int .u8 a.1).wf = true ∧ a.2.size ≤ maxLen) := by
  obtain ⟨y0, y1, m, rfl, hl, h0, h1⟩ := trod_struct2 (f0 := _) (f1 := _) Try.underlying35 h
  rw [c35] at hl
  match cs, hl with
  | [v0, v1], _ =>
    simp only [c33, c9] at h0 h1
    obtain ⟨k, e0, rfl, wk⟩ := DataW.trod_int Try.underlying33 h0
    obtain ⟨t, e1, rfl, wt⟩ := DataW.trod_string Try.underlying9 h1
    simp at e0 e1
    subst e0 e1
    exact ⟨(k, t), rfl, rfl, wk, wt⟩

/-- A step of a script. -/
structure Stp where
  k : Int
  t : ByteArray
  ik : Int
  it : ByteArray
instance : Inhabited Stp := ⟨⟨0, ⟨#[]⟩, 0, ⟨#[]⟩⟩⟩
def stepCells (a : Stp) : List Value := [.int .i64 a.k, .string a.t, .int .u8 a.ik, .string a.it]
def stepDat {H : Type} (a : Stp) : DataW H := .agg [.lit (.int .i64 a.k), .lit (.string a.t.data.toList), itemDat (a.ik, a.it)]

theorem step_el (n : Nat) (cs : List Value) (x : DataW H × List MemPlace) (h : DataW.trod enc Try.prog w base spare held n 50 cs = some x) :
    ∃ a : Stp, cs = stepCells a ∧ x.1 = stepDat a ∧ ((Lit.int .i64 a.k).wf = true ∧ (Lit.int .u8 a.ik).wf = true ∧ a.t.size ≤ maxLen ∧ a.it.size ≤ maxLen) := by
  obtain ⟨y0, y1, y2, m, rfl, hl, h0, h1, h2⟩ := trod_struct3 (f0 := _) (f1 := _) (f2 := _) Try.underlying50 h
  rw [c50] at hl
  match cs, hl with
  | [v0, v1, v2, v3], _ =>
    simp only [c3, c9, c35] at h0 h1 h2
    obtain ⟨k, e0, rfl, wk⟩ := DataW.trod_int Try.underlying3 h0
    obtain ⟨t, e1, rfl, wt⟩ := DataW.trod_string Try.underlying9 h1
    obtain ⟨a, e2, e3, wi⟩ := item_el _ _ _ h2
    simp [itemCells] at e0 e1 e2
    obtain ⟨rfl, rfl⟩ := e2
    subst e0 e1
    refine ⟨⟨k, t, a.1, a.2⟩, rfl, ?_, wk, wi.1, wt, wi.2⟩
    show DataW.agg [_, _, y2.1] = _
    rw [e3]
    rfl

end
end Go.Proofs.Ytbhepdlcnfcfgaa
