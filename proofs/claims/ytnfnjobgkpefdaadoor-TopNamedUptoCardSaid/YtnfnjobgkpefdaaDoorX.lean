/- A path that came in; the table of letters that the row lists. -/
import Derived.Test.YtnfnjobgkpefdaaDoorW
import Derived.Deep.Strs
import Derived.Lib.LaidTab
import Derived.Lib.LaidIn
import Derived.Lib.LaidU8
import Derived.MakeChecks
namespace Go.Proofs.YtnfnjobgkpefdaaDoor
set_option linter.unusedSimpArgs false
set_option linter.unusedVariables false
open Go.RowKit Go.Deep Go.ChangeShapes Go.WideShapes

theorem c9 : Tryd.prog.cellsOf 9 = 1 := by kernel_rfl
section
variable {H : Type} {enc : TypeId × Value → H} {w : World} {base : Nat} {spare : Nat → Bool} {held : Bool}

def strDat {H : Type} (t : ByteArray) : DataW H := .lit (.string t.data.toList)
theorem str_el (n : Nat) (cs : List Value) (x : DataW H × List MemPlace) (h : DataW.trod enc Tryd.prog w base spare held n 9 cs = some x) :
    ∃ t : ByteArray, cs = [Value.string t] ∧ x.1 = strDat t ∧ t.size ≤ maxLen := by
  obtain ⟨t, e, rfl, wt⟩ := DataW.trod_string Tryd.underlying9 h
  exact ⟨t, e, rfl, wt⟩
theorem flat_strs (l : List ByteArray) : l.flatMap (fun t => [Value.string t]) = l.map Value.string := by
  induction l with
  | nil => rfl
  | cons a r ih => rw [List.flatMap_cons, ih]; rfl
theorem bulk_strs (l : List ByteArray) : sumL l ≤ Rows.uptoBulkAll (l.map (strDat (H := H))) := by
  induction l with
  | nil => exact Nat.le_refl _
  | cons a r ih =>
    have hb : Rows.uptoBulk (strDat (H := H) a) = a.size + 1 := by simp [strDat, Rows.uptoBulk]
    rw [List.map_cons, sumL_cons, Rows.uptoBulkAll, hb]
    omega
theorem open_path {v : Value} {d : DataW H} {p : List MemPlace} {m : Reach} {bs : Nat} (hok : Value.okWide Tryd.prog w m bs 23 v) (h : DataW.Trod enc Tryd.prog w base spare held 23 v d p) (hb : Rows.uptoBulk d ≤ 1048576) :
    ∃ ts : List ByteArray, Tx w v ts ∧ sumL ts ≤ 1048576 := by
  obtain ⟨ts, hr, hall, hd⟩ := rd_of_trod Tryd.underlying23 c9 (by omega) (fun t => [Value.string t]) strDat (fun t => t.size ≤ maxLen) (fun _ => rfl) str_el (okWide_slice Tryd.underlying23 hok) h
  rw [flat_strs] at hr
  rcases hd with ⟨_, rfl⟩ | ⟨sp, rfl⟩
  · exact ⟨[], Tx.ofRd hr, by simp [sumL]⟩
  · have hk := bulk_strs (H := H) ts
    simp only [Rows.uptoBulk] at hb
    exact ⟨ts, Tx.ofRd hr, by omega⟩
end

theorem gShort : Tryd.prog.globalNamed "paddock/lines.short" = some 0 := by kernel_rfl
theorem tShort : (Tryd.prog.globals[0]?).map (·.type) = some 61 := by kernel_rfl
theorem c5 : Tryd.prog.cellsOf 5 = 1 := by kernel_rfl
theorem c61 : Tryd.prog.cellsOf 61 = 14 := by kernel_rfl
def shortZ : List Int := [0, 0, 0, 0, 0, 0, 0, 97, 98, 116, 110, 118, 102, 114]
theorem short_data : Rows.laid_paddock_lines_short = Lib.tabData (H := Unit) .u8 shortZ := rfl

/-- What the row lists, to what the walk asks. -/
theorem sh_of_laid {W : World} (h : laidMetH Tryd.prog Rows.topNamedUptoRow.laid W) : Sh W := by
  rw [MakeChecks.laidMetH_plain _ _ _ (by kernel_rfl)] at h
  obtain ⟨g, t, cs, fuel, p, hg, ht, hv, hd⟩ := Lib.laidMet.reads h (n := "paddock/lines.short") (d := Rows.laid_paddock_lines_short) (.tail _ (.head _))
  obtain rfl := Option.some.inj (gShort.symm.trans hg)
  obtain rfl := Option.some.inj (tShort.symm.trans ht)
  rw [short_data] at hd
  have hcs := Lib.cells_of_tab Tryd.underlying61 Tryd.underlying5 c5 c61 hd
  intro i hi
  have hc := World.var?_cell gShort hv i
  have e : cs[i]? = some (.int .u8 ((shortB i).toNat : Int)) := by
    have e1 : cs[i]? = cs.toList[i]? := by simp
    rw [e1, hcs]
    rcases i with _|_|_|_|_|_|_|_|_|_|_|_|_|_|i <;> first | rfl | omega
  rw [hc, e]
end Go.Proofs.YtnfnjobgkpefdaaDoor
