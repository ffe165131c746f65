/- A set that came in; the table of letters that the row lists. -/
import Derived.Test.YtlhppbendpnkeaaGreatDoorQB
import Derived.Test.YtlhppbendpnkeaaGreatDoorRows
import Derived.Lib.LaidTab
import Derived.Lib.LaidIn
import Derived.Lib.LaidU8
import Derived.MakeChecks
import Derived.Laws.IdiomArrays
namespace Go.Proofs.YtlhppbendpnkeaaGreatDoor
set_option linter.unusedSimpArgs false
set_option linter.unusedVariables false
open Go.RowKit Go.Deep Go.ChangeShapes Go.WideShapes

theorem qc22 : Tryz.prog.cellsOf 22 = 1 := by kernel_rfl
theorem qc24 : Tryz.prog.cellsOf 24 = 4 := by kernel_rfl
theorem wf64 {n : Int} (h : (Lit.int .u64 n).wf = true) : ∃ a : Nat, n = (a : Int) ∧ a < 18446744073709551616 := by
  simp only [Lit.wf, IntKind.min, IntKind.max, IntKind.signed, IntKind.bits, Bool.and_eq_true, decide_eq_true_eq, Bool.false_eq_true, if_false] at h
  refine ⟨n.toNat, by omega, by omega⟩
theorem okWide_arr {P : Program} {w : World} {r : Reach} {b n : Nat} {t e : TypeId} {v : Value} (ht : P.underlying t = some (.array n e)) (h : Value.okWide P w r b t v) : ∃ cs, v = .agg cs ∧ cs.size = P.cellsOf t := by
  unfold Value.okWide at h
  rw [ht] at h
  obtain ⟨cs, e, hz, _⟩ := h
  exact ⟨cs, e, hz⟩
theorem array_four {cs : Array Value} (h : cs.size = 4) : ∃ a b c d, cs = #[a, b, c, d] := by
  obtain ⟨l⟩ := cs
  match l, h with
  | [a, b, c, d], _ => exact ⟨a, b, c, d, rfl⟩
section
variable {H : Type} {enc : TypeId × Value → H} {P : Program} {w : World} {base : Nat} {spare : Nat → Bool} {held : Bool}
theorem open_set {t e : TypeId} {v : Value} {d : DataW H} {p : List MemPlace} {m : Reach} {bs : Nat} (ht : P.underlying t = some (.array 4 e)) (he : P.underlying e = some (.int .u64)) (ce : P.cellsOf e = 1) (ct : P.cellsOf t = 4)
    (hok : Value.okWide P w m bs t v) (h : DataW.Trod enc P w base spare held t v d p) :
    ∃ f : Nat → Bool, v = .agg (setC f) := by
  obtain ⟨cs, rfl, hz⟩ := okWide_arr ht hok
  rw [ct] at hz
  obtain ⟨a, b, c, d', rfl⟩ := array_four hz
  obtain ⟨fuel, hf⟩ := h
  obtain ⟨y0, y1, y2, y3, n, _, g0, g1, g2, g3⟩ := trod_array4 ht ce hf
  obtain ⟨n0, e0, _, w0⟩ := DataW.trod_int he g0
  obtain ⟨n1, e1, _, w1⟩ := DataW.trod_int he g1
  obtain ⟨n2, e2, _, w2⟩ := DataW.trod_int he g2
  obtain ⟨n3, e3, _, w3⟩ := DataW.trod_int he g3
  obtain ⟨a0, rfl, l0⟩ := wf64 w0
  obtain ⟨a1, rfl, l1⟩ := wf64 w1
  obtain ⟨a2, rfl, l2⟩ := wf64 w2
  obtain ⟨a3, rfl, l3⟩ := wf64 w3
  obtain rfl := List.head_eq_of_cons_eq e0
  obtain rfl := List.head_eq_of_cons_eq e1
  obtain rfl := List.head_eq_of_cons_eq e2
  obtain rfl := List.head_eq_of_cons_eq e3
  exact ⟨ofW a0 a1 a2 a3, by rw [sW_ofW l0 l1 l2 l3]⟩
end

theorem gShort : Tryz.prog.globalNamed "paddock/lines.short" = some 0 := by kernel_rfl
theorem tShort : (Tryz.prog.globals[0]?).map (·.type) = some 91 := by kernel_rfl
theorem qc5 : Tryz.prog.cellsOf 5 = 1 := by kernel_rfl
theorem qc91 : Tryz.prog.cellsOf 91 = 14 := by kernel_rfl
def shortZ : List Int := [0, 0, 0, 0, 0, 0, 0, 97, 98, 116, 110, 118, 102, 114]
theorem short_data : Rows.laid_paddock_lines_short = Lib.tabData (H := Unit) .u8 shortZ := rfl

/-- What the row lists, to what the walk asks. -/
theorem sh_of_laid {W : World} (h : laidMetH Tryz.prog Rows.topClassRow.laid W) : Sh W := by
  rw [MakeChecks.laidMetH_plain _ _ _ (by kernel_rfl)] at h
  obtain ⟨g, t, cs, fuel, p, hg, ht, hv, hd⟩ := Lib.laidMet.reads h (n := "paddock/lines.short") (d := Rows.laid_paddock_lines_short) (.tail _ (.tail _ (.tail _ (.tail _ (.head _)))))
  obtain rfl := Option.some.inj (gShort.symm.trans hg)
  obtain rfl := Option.some.inj (tShort.symm.trans ht)
  rw [short_data] at hd
  have hcs := Lib.cells_of_tab Tryz.underlying91 Tryz.underlying5 qc5 qc91 hd
  intro i hi
  have hc := World.var?_cell gShort hv i
  have e : cs[i]? = some (.int .u8 ((shortB i).toNat : Int)) := by
    have e1 : cs[i]? = cs.toList[i]? := by simp
    rw [e1, hcs]
    rcases i with _|_|_|_|_|_|_|_|_|_|_|_|_|_|i <;> first | rfl | omega
  rw [hc, e]
end Go.Proofs.YtlhppbendpnkeaaGreatDoor
