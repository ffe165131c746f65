/- Print: its closure. -/
import Derived.Test.YtbigolappdlhcaaJ
namespace Go.Proofs.Ytbigolappdlhcaa
set_option linter.unusedSimpArgs false
set_option linter.unusedVariables false
open Go.RowKit

def TP (t : TypeId) : Prop := t = 25 ∨ t = 9
/-- The captured variable: it holds the row l. -/
def CO (w : World) (base B : Nat) (l : List ByteArray) : Prop := ∃ ov, w.heap[B]? = some (.cells #[ov] 25 (0, 0)) ∧ Out w base ov l ∧ base ≤ B

theorem CO.to {w w' : World} {base B : Nat} {l : List ByteArray} (h : CO w base B l) (hb : Below w.heap.size w w') : CO w' base B l := by
  obtain ⟨ov, h1, h2, h3⟩ := h
  exact ⟨ov, (hb.block B (lt_of_block h1)).trans h1, h2.to hb, h3⟩

def PutPost (w : World) (base B : Nat) (l : List ByteArray) (e : Ending) (w' : World) : Prop := e = .returned (.tuple #[]) ∧ CO w' base B l ∧ FrT TP base w w'

theorem CO.step {w w2 : World} {base B n : Nat} {l m : List ByteArray} {ov nv : Value} (h1 : w.heap[B]? = some (.cells #[ov] 25 (0, 0))) (h2 : Out w base ov l) (h3 : base ≤ B) (hg : w.grownBy w2 ov.ownBlock) (hn : n = (l ++ m).length) (ho : w2.ownsRow base 9 1 nv n (l.map Value.string ++ m.map Value.string)) :
    CO (w2.setCell ⟨B, 0, none⟩ nv) base B (l ++ m) ∧ FrT TP base w (w2.setCell ⟨B, 0, none⟩ nv) ∧ w2.heap[B]? = some (.cells #[ov] 25 (0, 0)) := by
  have hf : Fr (fun i => ov.ownBlock = some i) w w2 := Fr.ofGrown hg
  have hB2 := (hf.block B (lt_of_block h1) (row_ne h2 h1 (by decide))).trans h1
  have hs : Fr (fun i => i = B) w2 (w2.setCell ⟨B, 0, none⟩ nv) := (Fr.refl (fun i => i = B) w2).setCell (p := ⟨B, 0, none⟩) rfl _
  have hlt := lt_of_block h1
  refine ⟨⟨nv, by rw [heap_setCell_same _ _ _ _ _ _ _ hB2]; rfl, Out.more hn (row_fr hs ho (fun g hg e => by subst e; exact row_ne ho hB2 (by decide) hg)), h3⟩, ?_, hB2⟩
  refine FrT.ofFr (S := fun i => ov.ownBlock = some i ∨ i = B) ((hf.mono (fun _ _ e => .inl e)).trans hs (fun i _ e => .inr e)) (by omega) ?_
  rintro i hi (e | rfl)
  · obtain ⟨h1, cs', hc'⟩ := row_block h2 e
    exact ⟨h1, fun cs t fr hc => by rw [hc'] at hc; simp only [Option.some.injEq, Obj.cells.injEq] at hc; exact .inr hc.2.1.symm⟩
  · exact ⟨h3, fun cs t fr hc => by rw [h1] at hc; simp only [Option.some.injEq, Obj.cells.injEq] at hc; exact .inl hc.2.1.symm⟩

set_option maxHeartbeats 1600000 in
theorem put_no (base B : Nat) (l : List ByteArray) (x : Value) (w : World) (h : CO w base B l) (hb : base ≤ w.heap.size) :
    Calls Try.prog 27 #[.bool false, x, .pointer (some ⟨B, 0, none⟩)] w (PutPost w base B l) := by
  go_enter Try.func27, Try.ntmps27
  go_wp2_with fail
  go_end0
  exact ⟨rfl, h, FrT.refl _ _ _⟩

set_option maxHeartbeats 1600000 in
theorem put_yes (base B : Nat) (l m : List ByteArray) (ad : Addr) (n cap : Nat) (w : World) (hn : m.length = n) (hc : ∀ j u, (m.map Value.string)[j]? = some u → w.cell? (ad.add j) = some u) (h : CO w base B l) (hb : base ≤ w.heap.size) (hl : l.length ≤ 200000) (hm : n ≤ 200000) :
    Calls Try.prog 27 #[.bool true, .slice (some ad) n cap, .pointer (some ⟨B, 0, none⟩)] w (PutPost w base B (l ++ m)) := by
  obtain ⟨ov, h1, h2, h3⟩ := h
  obtain ⟨i9, hi9, hz90, hz91, hz92⟩ := info_parts info9
  have c0 := (blk_at h1 0 (v := ov) rfl).1
  have H1 := Lib.hid h1
  have H2 := Lib.hid h2
  have HN := Lib.hid hn
  clear h1 h2 hn
  go_enter Try.func27, Try.ntmps27
  go_wp2_with (at_builtin; go_must (refine wpList_append_own _ rfl (.tmp 6) (.tmp 7) 25 rfl base 9 i9 (.string ⟨#[]⟩) 1 16 Try.underlying25 hi9 hz90 hz91 hz92 rfl (by decide) ov l.length (l.map Value.string) rfl H2.out ad n cap (m.map Value.string) rfl (by simp [HN.out]) hc (by intro u hu; simp at hu; obtain ⟨x, _, rfl⟩ := hu; rfl) (by unfold maxLen; omega) (by omega) hb ?_))
  intro nv w2 hown hgrow hiff
  obtain ⟨na, nc, rfl⟩ := row_slice hown
  have hs := CO.step (m := m) H1.out H2.out h3 hgrow (by rw [List.length_append, HN.out]) hown
  obtain ⟨z0, f0⟩ := blk_at hs.2.2 0 (v := ov) rfl
  have HS := Lib.hid hs
  clear hown hgrow hiff hs hc c0
  go_wp2_with fail
  go_end0
  exact ⟨rfl, HS.out.1, HS.out.2.1⟩

set_option maxHeartbeats 1600000 in
theorem put_nil (base B : Nat) (l : List ByteArray) (w : World) (h : CO w base B l) (hb : base ≤ w.heap.size) :
    Calls Try.prog 27 #[.bool true, .slice none 0 0, .pointer (some ⟨B, 0, none⟩)] w (PutPost w base B l) := by
  obtain ⟨ov, h1, h2, h3⟩ := h
  obtain ⟨i9, hi9, hz90, hz91, hz92⟩ := info_parts info9
  obtain ⟨c0, f0⟩ := blk_at h1 0 (v := ov) rfl
  obtain ⟨oa, oc, rfl⟩ := row_slice h2
  have H1 := Lib.hid h1
  have H2 := Lib.hid h2
  have hs : Fr (fun i => i = B) w (w.setCell ⟨B, 0, none⟩ (.slice oa l.length oc)) := (Fr.refl (fun i => i = B) w).setCell (p := ⟨B, 0, none⟩) rfl _
  have hC : CO (w.setCell ⟨B, 0, none⟩ (.slice oa l.length oc)) base B l := ⟨_, by rw [heap_setCell_same _ _ _ _ _ _ _ h1]; rfl, row_fr hs h2 (fun g hg e => by subst e; exact row_ne h2 h1 (by decide) hg), h3⟩
  have hF : FrT TP base w (w.setCell ⟨B, 0, none⟩ (.slice oa l.length oc)) := FrT.ofFr hs hb (by
    rintro i hi rfl
    exact ⟨h3, fun cs t fr hc => by rw [h1] at hc; simp only [Option.some.injEq, Obj.cells.injEq] at hc; exact .inl hc.2.1.symm⟩)
  have HC := Lib.hid hC
  have HF := Lib.hid hF
  clear h1 h2 hs hC hF
  go_enter Try.func27, Try.ntmps27
  go_wp2_with (at_builtin; go_must (refine wpList_append_own_none rfl (.tmp 6) (.tmp 7) 25 rfl base 9 i9 1 Try.underlying25 hi9 (.slice oa l.length oc) _ _ rfl H2.out rfl ?_))
  go_wp2_with fail
  go_end0
  exact ⟨rfl, HC.out, HF.out⟩

/-- The closure at a list that is written out. -/
theorem put_any (b : Bool) (base B : Nat) (l m : List ByteArray) (ad : Addr) (n cap : Nat) (w : World) (hn : m.length = n) (hc : ∀ j u, (m.map Value.string)[j]? = some u → w.cell? (ad.add j) = some u) (h : CO w base B l) (hb : base ≤ w.heap.size) (hl : l.length ≤ 200000) (hm : n ≤ 200000) :
    Calls Try.prog 27 #[.bool b, .slice (some ad) n cap, .pointer (some ⟨B, 0, none⟩)] w (PutPost w base B (l ++ if b then m else [])) := by
  cases b
  · rw [if_neg (by simp), List.append_nil]; exact put_no base B l _ w h hb
  · exact put_yes base B l m ad n cap w hn hc h hb hl hm
end Go.Proofs.Ytbigolappdlhcaa
