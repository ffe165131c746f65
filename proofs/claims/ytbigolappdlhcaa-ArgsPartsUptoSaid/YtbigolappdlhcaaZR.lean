/- Lists that came in, and how much they hold. -/
import Derived.Test.YtbigolappdlhcaaZQ
namespace Go.Proofs.Ytbigolappdlhcaa
set_option linter.unusedSimpArgs false
set_option linter.unusedVariables false
open Go.RowKit Go.Deep Go.ChangeShapes Go.WideShapes

section
variable {H : Type} {enc : TypeId × Value → H} {w : World} {base : Nat} {spare : Nat → Bool} {held : Bool}
theorem bulk_strs (l : List ByteArray) : sumS l ≤ Rows.uptoBulkAll (l.map (strDat (H := H))) := by
  induction l with
  | nil => exact Nat.le_refl _
  | cons a r ih =>
    have hb : Rows.uptoBulk (strDat (H := H) a) = a.size + 1 := by simp [strDat, Rows.uptoBulk]
    rw [List.map_cons, Rows.uptoBulkAll, hb, sumS]
    omega
theorem bulk_pcs (l : List Pc) : sumP l ≤ Rows.uptoBulkAll (l.map (pcDat (H := H))) := by
  induction l with
  | nil => exact Nat.le_refl _
  | cons a r ih =>
    have hb : Rows.uptoBulk (pcDat (H := H) a) = a.2.size + 3 := by simp [pcDat, Rows.uptoBulk, Rows.uptoBulkAll]; omega
    rw [List.map_cons, Rows.uptoBulkAll, hb, sumP]
    omega
theorem open_listU {v : Value} {d : DataW H} {p : List MemPlace} (h : DataW.Trod enc Try.prog w base spare held 25 v d p) (hsz : ∀ n ∈ d.weights Try.prog 25, n ≤ reachBytes) (hv : ∃ a0 len cap, v = .slice a0 len cap) :
    ∃ l : List ByteArray, Ls w v l ∧ sumS l ≤ Rows.uptoBulk d := by
  obtain ⟨l, hl⟩ := open_list h hsz hv
  refine ⟨l, hl, ?_⟩
  obtain ⟨a0, len, cap, rfl⟩ := hv
  obtain ⟨l', hr, hall, hd⟩ := rd_of_trod (v := .slice a0 len cap) (d := d) (p := p) Try.underlying25 c9 (by omega) (fun t => [Value.string t]) strDat (fun t => t.size ≤ maxLen) (fun _ => rfl) str_el ⟨_, _, _, rfl⟩ h
  rw [flat_strs] at hr
  have e : l = l' := by
    obtain ⟨ao, cap1, e1, hc1⟩ := hl.tz.tx
    obtain ⟨bo, cap2, e2, hc2⟩ := Tx.ofRd hr
    simp only [Value.slice.injEq] at e1 e2
    obtain ⟨rfl, rfl, rfl⟩ := e1
    obtain ⟨rfl, e3, rfl⟩ := e2
    apply List.ext_getElem e3
    intro i h1 h2
    obtain ⟨b, off, rfl, hb, hc⟩ := hc1 (by omega)
    obtain ⟨b', off', hh, hb', hc'⟩ := hc2 (by omega)
    simp only [Option.some.injEq, Addr.mk.injEq, and_true] at hh
    obtain ⟨rfl, rfl⟩ := hh
    have := (hc i h1).symm.trans (hc' i h2)
    simpa using this
  subst e
  rcases hd with ⟨_, rfl⟩ | ⟨sp, rfl⟩
  · simp [sumS]
  · have := bulk_strs (H := H) l
    simp only [Rows.uptoBulk]
    omega
theorem open_piecesU {v : Value} {d : DataW H} {p : List MemPlace} (h : DataW.Trod enc Try.prog w base spare held 24 v d p) (hv : ∃ a0 len cap, v = .slice a0 len cap) :
    ∃ l : List Pc, Sx w v l ∧ sumP l ≤ Rows.uptoBulk d := by
  obtain ⟨a0, len, cap, rfl⟩ := hv
  obtain ⟨l, hr, hall, hd⟩ := rd_of_trod (v := .slice a0 len cap) (d := d) (p := p) Try.underlying24 c45 (by omega) pcells pcDat (fun t => t.2.size ≤ maxLen) (fun _ => rfl) pc_el ⟨_, _, _, rfl⟩ h
  refine ⟨l, Sx.ofRd hr, ?_⟩
  rcases hd with ⟨_, rfl⟩ | ⟨sp, rfl⟩
  · simp [sumP]
  · have := bulk_pcs (H := H) l
    simp only [Rows.uptoBulk]
    omega
end
end Go.Proofs.Ytbigolappdlhcaa
