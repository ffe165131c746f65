/- A list of texts that came in. -/
import Derived.Test.YtlckloeeimilhaaM
import Derived.Deep.Strs
namespace Go.Proofs.Ytlckloeeimilhaa
set_option linter.unusedSimpArgs false
set_option linter.unusedVariables false
open Go.RowKit Go.Deep Go.ChangeShapes Go.WideShapes

theorem c9 : Try.prog.cellsOf 9 = 1 := by kernel_rfl
section
variable {H : Type} {enc : TypeId × Value → H} {w : World} {base : Nat} {spare : Nat → Bool} {held : Bool}

def strDat {H : Type} (t : ByteArray) : DataW H := .lit (.string t.data.toList)
theorem str_el (n : Nat) (cs : List Value) (x : DataW H × List MemPlace) (h : DataW.trod enc Try.prog w base spare held n 9 cs = some x) :
    ∃ t : ByteArray, cs = [Value.string t] ∧ x.1 = strDat t ∧ t.size ≤ maxLen := by
  obtain ⟨t, e, rfl, wt⟩ := DataW.trod_string Try.underlying9 h
  exact ⟨t, e, rfl, wt⟩

theorem flat_strs (l : List ByteArray) : l.flatMap (fun t => [Value.string t]) = l.map Value.string := by
  induction l with
  | nil => rfl
  | cons a r ih => rw [List.flatMap_cons, ih]; rfl

theorem bulk_strs (l : List ByteArray) : (l.flatMap splitL).length + l.length ≤ Rows.uptoBulkAll (l.map (strDat (H := H))) ∧ ∀ t ∈ l, t.size ≤ Rows.uptoBulkAll (l.map (strDat (H := H))) := by
  induction l with
  | nil => exact ⟨Nat.le_refl _, fun t h => by simp at h⟩
  | cons a r ih =>
    have hs := splitL_length a
    have hb : Rows.uptoBulk (strDat (H := H) a) = a.size + 1 := by simp [strDat, Rows.uptoBulk]
    rw [List.map_cons, List.flatMap_cons, List.length_append, List.length_cons, Rows.uptoBulkAll, hb]
    refine ⟨by omega, fun t ht => ?_⟩
    rcases List.mem_cons.1 ht with rfl | ht
    · omega
    · have := ih.2 t ht; omega

theorem open_strs {v : Value} {d : DataW H} {p : List MemPlace} {m : Reach} {bs : Nat} (hok : Value.okWide Try.prog w m bs 22 v) (h : DataW.Trod enc Try.prog w base spare held 22 v d p) (hb : Rows.uptoBulk d ≤ 1048576) :
    ∃ ts : List ByteArray, Rd w v ts.length 1 (ts.map Value.string) ∧ ts.length ≤ 1048576 ∧ (∀ t ∈ ts, t.size ≤ 1048576) ∧ (ts.flatMap splitL).length ≤ 1048576 := by
  obtain ⟨ts, hr, hall, hd⟩ := rd_of_trod Try.underlying22 c9 (by omega) (fun t => [Value.string t]) strDat (fun t => t.size ≤ maxLen) (fun _ => rfl) str_el (okWide_slice Try.underlying22 hok) h
  rw [flat_strs] at hr
  rcases hd with ⟨_, rfl⟩ | ⟨sp, rfl⟩
  · exact ⟨[], hr, by simp, by simp, by simp⟩
  · have hk := bulk_strs (H := H) ts
    simp only [Rows.uptoBulk] at hb
    exact ⟨ts, hr, by omega, fun t ht => by have := hk.2 t ht; omega, by omega⟩
end
end Go.Proofs.Ytlckloeeimilhaa
