/- A path that came in; the table of letters that the row lists. -/
import Derived.Test.YtnfnjobgkpefdaaDoorW
import Derived.Deep.Strs
import Derived.Lib.LaidTab
import Derived.Lib.LaidIn
import Derived.Lib.LaidU8
import Derived.MakeChecks
namespace Go.Proofs.YtnfnjobgkpefdaaDoor
set_option linter.unusedSimpArgs false
set_option linter.unusedVariables false
open Go.RowKit Go.Deep Go.ChangeShapes Go.WideShapes

theorem c9 : Tryd.prog.cellsOf 9 = 1 := by kernel_rfl
section
variable {H : Type} {enc : TypeId × Value → H} {w : World} {base : Nat} {spare : Nat → Bool} {held : Bool}

def strDat {H : Type} (t : ByteArray) : DataW H := .lit (.string t.data.toList)
theorem str_el (n : Nat) (cs : List Value) (x : DataW H × List MemPlace) (h : DataW.trod enc Tryd.prog w base spare held n 9 cs = some x) :
    ∃ t : ByteArray, cs = [Value.string t] ∧ x.1 = strDat t ∧ t.size ≤ maxLen := by
  obtain ⟨t, e, rfl, wt⟩ := DataW.trod_string Tryd.underlying9 h
  exact ⟨t, e, rfl, wt⟩
theorem flat_strs (l : List ByteArray) : l.flatMap (fun t => [Value.string t]) = l.map Value.string := by
  induction l with
  | nil => rfl
  | cons a r ih => rw [List.flatMap_cons, ih]; rfl
theorem strs_weights {l : List ByteArray} {t : ByteArray} (h : t ∈ l) : t.data.toList.length ∈ DataW.weightsAll Tryd.prog 9 (l.map (strDat (H := H))) := by
  induction l with
  | nil => simp at h
  | cons a r ih =>
    simp only [List.map_cons, DataW.weightsAll, List.mem_append]
    rcases List.mem_cons.1 h with rfl | h
    · exact .inl (by simp [strDat, DataW.weights])
    · exact .inr (ih h)
theorem by9 : Tryd.prog.bytesOf 9 = 16 := by kernel_rfl
theorem reach_lt : reachBytes ≤ 140737488355328 := by decide
theorem open_path {v : Value} {d : DataW H} {p : List MemPlace} {m : Reach} {bs : Nat} (hok : Value.okWide Tryd.prog w m bs 23 v) (h : DataW.Trod enc Tryd.prog w base spare held 23 v d p) (hsz : ∀ n ∈ d.weights Tryd.prog 23, n ≤ reachBytes) :
    ∃ ts : List ByteArray, Tx w v ts ∧ ts.length ≤ 17592186044416 ∧ ∀ s ∈ ts, s.size ≤ 4611686018427387904 := by
  obtain ⟨ts, hr, hall, hd⟩ := rd_of_trod Tryd.underlying23 c9 (by omega) (fun t => [Value.string t]) strDat (fun t => t.size ≤ maxLen) (fun _ => rfl) str_el (okWide_slice Tryd.underlying23 hok) h
  rw [flat_strs] at hr
  rcases hd with ⟨_, rfl⟩ | ⟨sp, rfl⟩
  · exact ⟨[], Tx.ofRd hr, by simp, by simp⟩
  · simp only [DataW.weights, Tryd.underlying23] at hsz
    have hr0 := reach_lt
    refine ⟨ts, Tx.ofRd hr, ?_, fun s hs => ?_⟩
    · have k := hsz _ (List.mem_cons_self ..)
      rw [by9] at k
      have e : (ts.map (strDat (H := H))).length = ts.length := by simp
      omega
    · have k := hsz _ (List.mem_cons_of_mem _ (List.mem_append_left _ (strs_weights hs)))
      have e : s.data.toList.length = s.size := by simp
      omega
end

theorem gShort : Tryd.prog.globalNamed "paddock/lines.short" = some 0 := by kernel_rfl
theorem tShort : (Tryd.prog.globals[0]?).map (·.type) = some 61 := by kernel_rfl
theorem c5 : Tryd.prog.cellsOf 5 = 1 := by kernel_rfl
theorem c61 : Tryd.prog.cellsOf 61 = 14 := by kernel_rfl
def shortZ : List Int := [0, 0, 0, 0, 0, 0, 0, 97, 98, 116, 110, 118, 102, 114]
theorem short_data : Rows.laid_paddock_lines_short = Lib.tabData (H := Unit) .u8 shortZ := rfl

/-- What the row lists, to what the walk asks. -/
theorem sh_of_laid {W : World} (h : laidMetH Tryd.prog Rows.topNamedRow.laid W) : Sh W := by
  rw [MakeChecks.laidMetH_plain _ _ _ (by kernel_rfl)] at h
  obtain ⟨g, t, cs, fuel, p, hg, ht, hv, hd⟩ := Lib.laidMet.reads h (n := "paddock/lines.short") (d := Rows.laid_paddock_lines_short) (.tail _ (.head _))
  obtain rfl := Option.some.inj (gShort.symm.trans hg)
  obtain rfl := Option.some.inj (tShort.symm.trans ht)
  rw [short_data] at hd
  have hcs := Lib.cells_of_tab Tryd.underlying61 Tryd.underlying5 c5 c61 hd
  intro i hi
  have hc := World.var?_cell gShort hv i
  have e : cs[i]? = some (.int .u8 ((shortB i).toNat : Int)) := by
    have e1 : cs[i]? = cs.toList[i]? := by simp
    rw [e1, hcs]
    rcases i with _|_|_|_|_|_|_|_|_|_|_|_|_|_|i <;> first | rfl | omega
  rw [hc, e]
end Go.Proofs.YtnfnjobgkpefdaaDoor
