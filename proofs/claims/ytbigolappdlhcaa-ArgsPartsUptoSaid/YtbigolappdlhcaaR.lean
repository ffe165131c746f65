/- What the options do. -/
import Derived.Test.YtbigolappdlhcaaQ
namespace Go.Proofs.Ytbigolappdlhcaa
set_option linter.unusedSimpArgs false
set_option linter.unusedVariables false
open Go.RowKit

def TX (t : TypeId) : Prop := t = 27 ∨ t = 45
/-- A command line that is being read, in block X. -/
def XS (w : World) (base X : Nat) (a : Av) : Prop := ∃ sv, w.heap[X]? = some (.cells (a.cells sv (.slice none 0 0)) 27 (0, 0)) ∧ w.ownsRow base 45 2 sv a.scr.length (a.scr.flatMap pcells) ∧ base ≤ X

theorem XS.to {w w' : World} {base X : Nat} {a : Av} (h : XS w base X a) (hb : Below w.heap.size w w') : XS w' base X a := by
  obtain ⟨sv, h1, h2, h3⟩ := h
  exact ⟨sv, (hb.block X (lt_of_block h1)).trans h1, row_to hb h2, h3⟩
theorem XS.lt {w : World} {base X : Nat} {a : Av} (h : XS w base X a) : base ≤ w.heap.size := by
  obtain ⟨sv, h1, h2, h3⟩ := h
  have := lt_of_block h1
  omega

/-- What an option does. -/
def doOpt (a : Av) (s : ByteArray) : Nat → Av
  | 0 => { a with q := true }
  | 1 => { a with e := true }
  | 2 => { a with s := true }
  | 3 => { a with scr := a.scr ++ [(false, s)] }
  | 4 => { a with scr := a.scr ++ [(true, s)] }
  | _ => { a with i := true, s := true, suf := s }

def DoPost (w : World) (base X : Nat) (a' : Av) (e : Ending) (w' : World) : Prop := e = .returned (.tuple #[]) ∧ XS w' base X a' ∧ FrT TX base w w'

/-- A field is set. -/
theorem XS.set {w : World} {base X : Nat} {a a' : Av} {sv : Value} (h1 : w.heap[X]? = some (.cells (a.cells sv (.slice none 0 0)) 27 (0, 0))) (h2 : w.ownsRow base 45 2 sv a.scr.length (a.scr.flatMap pcells)) (h3 : base ≤ X) (i : Nat) (v : Value)
    (hc : (a.cells sv (.slice none 0 0)).setIfInBounds i v = a'.cells sv (.slice none 0 0)) (hs : a'.scr = a.scr) :
    (w.setCell ⟨X, i, none⟩ v).heap[X]? = some (.cells (a'.cells sv (.slice none 0 0)) 27 (0, 0)) ∧ (w.setCell ⟨X, i, none⟩ v).ownsRow base 45 2 sv a'.scr.length (a'.scr.flatMap pcells) ∧ FrT TX base w (w.setCell ⟨X, i, none⟩ v) := by
  have hf : Fr (fun i => i = X) w (w.setCell ⟨X, i, none⟩ v) := (Fr.refl (fun i => i = X) w).setCell (p := ⟨X, i, none⟩) rfl _
  refine ⟨by rw [heap_setCell_same _ _ _ _ _ _ _ h1, hc], ?_, ?_⟩
  · rw [hs]
    exact row_fr hf h2 (fun g hg e => by subst e; exact row_ne h2 h1 (by decide) hg)
  · refine FrT.ofFr hf (by have := lt_of_block h1; omega) ?_
    rintro j hj rfl
    exact ⟨h3, fun cs t fr hh => by rw [h1] at hh; simp only [Option.some.injEq, Obj.cells.injEq] at hh; exact .inl hh.2.1.symm⟩

section
variable {base X : Nat} {a : Av} {s : ByteArray} {w : World}

theorem do0 (h : XS w base X a) : Calls Try.prog 68 #[.pointer (some ⟨X, 0, none⟩), .string s] w (DoPost w base X (doOpt a s 0)) := by
  obtain ⟨sv, h1, h2, h3⟩ := h
  obtain ⟨z0, f0⟩ := blk_at h1 0 (v := .bool a.q) rfl
  have H := Lib.hid (XS.set (a' := doOpt a s 0) h1 h2 h3 0 (.bool true) rfl rfl)
  clear h1 h2
  go_enter Try.func68, Try.ntmps68
  go_wp2_with fail
  go_end0
  exact ⟨rfl, ⟨sv, H.out.1, H.out.2.1, h3⟩, H.out.2.2⟩
theorem do1 (h : XS w base X a) : Calls Try.prog 69 #[.pointer (some ⟨X, 0, none⟩), .string s] w (DoPost w base X (doOpt a s 1)) := by
  obtain ⟨sv, h1, h2, h3⟩ := h
  obtain ⟨z0, f0⟩ := blk_at h1 1 (v := .bool a.e) rfl
  have H := Lib.hid (XS.set (a' := doOpt a s 1) h1 h2 h3 1 (.bool true) rfl rfl)
  clear h1 h2
  go_enter Try.func69, Try.ntmps69
  go_wp2_with fail
  go_end0
  exact ⟨rfl, ⟨sv, H.out.1, H.out.2.1, h3⟩, H.out.2.2⟩
theorem do2 (h : XS w base X a) : Calls Try.prog 70 #[.pointer (some ⟨X, 0, none⟩), .string s] w (DoPost w base X (doOpt a s 2)) := by
  obtain ⟨sv, h1, h2, h3⟩ := h
  obtain ⟨z0, f0⟩ := blk_at h1 2 (v := .bool a.s) rfl
  have H := Lib.hid (XS.set (a' := doOpt a s 2) h1 h2 h3 2 (.bool true) rfl rfl)
  clear h1 h2
  go_enter Try.func70, Try.ntmps70
  go_wp2_with fail
  go_end0
  exact ⟨rfl, ⟨sv, H.out.1, H.out.2.1, h3⟩, H.out.2.2⟩
theorem do5 (h : XS w base X a) : Calls Try.prog 73 #[.pointer (some ⟨X, 0, none⟩), .string s] w (DoPost w base X (doOpt a s 5)) := by
  obtain ⟨sv, h1, h2, h3⟩ := h
  obtain ⟨z3, f3⟩ := blk_at h1 3 (v := .bool a.i) rfl
  obtain ⟨z2, f2⟩ := blk_at h1 2 (v := .bool a.s) rfl
  obtain ⟨z4, f4⟩ := blk_at h1 4 (v := .string a.suf) rfl
  have k1 := XS.set (a' := { a with i := true }) h1 h2 h3 3 (.bool true) rfl rfl
  have k2 := XS.set (a' := { a with i := true, s := true }) k1.1 k1.2.1 h3 2 (.bool true) rfl rfl
  have k3 := XS.set (a' := doOpt a s 5) k2.1 k2.2.1 h3 4 (.string s) rfl rfl
  have H := Lib.hid k3
  have HF := Lib.hid ((k1.2.2.trans k2.2.2).trans k3.2.2)
  clear h1 h2 k1 k2 k3
  go_enter Try.func73, Try.ntmps73
  go_wp2_with fail
  go_end0
  exact ⟨rfl, ⟨sv, H.out.1, H.out.2.1, h3⟩, HF.out⟩

/-- A piece more. -/
theorem XS.piece {w2 : World} {sv : Value} {b : Bool} {g cap : Nat} (h1 : w.heap[X]? = some (.cells (a.cells sv (.slice none 0 0)) 27 (0, 0))) (h2 : w.ownsRow base 45 2 sv a.scr.length (a.scr.flatMap pcells)) (h3 : base ≤ X) {o : Obj} (hg : (w.alloc o).grownBy w2 sv.ownBlock)
    (ho : w2.ownsRow base 45 2 (.slice (some ⟨g, 0, none⟩) (a.scr.length + 1) cap) (a.scr.length + 1) (a.scr.flatMap pcells ++ [.bool b, .string s])) :
    XS (w2.setCell ⟨X, 5, none⟩ (.slice (some ⟨g, 0, none⟩) (a.scr.length + 1) cap)) base X { a with scr := a.scr ++ [(b, s)] } ∧ FrT TX base w (w2.setCell ⟨X, 5, none⟩ (.slice (some ⟨g, 0, none⟩) (a.scr.length + 1) cap)) ∧ w2.heap[X]? = some (.cells (a.cells sv (.slice none 0 0)) 27 (0, 0)) := by
  have hf : Fr (fun i => sv.ownBlock = some i) w w2 := ((Fr.refl _ w).alloc o).trans (Fr.ofGrown hg) (fun i _ hi => hi)
  have hX2 := (hf.block X (lt_of_block h1) (row_ne h2 h1 (by decide))).trans h1
  have hs : Fr (fun i => i = X) w2 (w2.setCell ⟨X, 5, none⟩ (.slice (some ⟨g, 0, none⟩) (a.scr.length + 1) cap)) := (Fr.refl (fun i => i = X) w2).setCell (p := ⟨X, 5, none⟩) rfl _
  refine ⟨⟨_, by rw [heap_setCell_same _ _ _ _ _ _ _ hX2]; rfl, ?_, h3⟩, ?_, hX2⟩
  · rw [List.flatMap_append, List.length_append]
    exact row_fr hs ho (fun g hg e => by subst e; exact row_ne ho hX2 (by decide) hg)
  · refine FrT.ofFr (S := fun i => sv.ownBlock = some i ∨ i = X) ((hf.mono (fun _ _ e => .inl e)).trans hs (fun i _ e => .inr e)) (by have := lt_of_block h1; omega) ?_
    rintro i hi (e | rfl)
    · obtain ⟨h1, cs', hc'⟩ := row_block h2 e
      exact ⟨h1, fun cs t fr hc => by rw [hc'] at hc; simp only [Option.some.injEq, Obj.cells.injEq] at hc; exact .inr hc.2.1.symm⟩
    · exact ⟨h3, fun cs t fr hc => by rw [h1] at hc; simp only [Option.some.injEq, Obj.cells.injEq] at hc; exact .inl hc.2.1.symm⟩

set_option maxHeartbeats 1600000 in
theorem do3 (h : XS w base X a) (hl : a.scr.length ≤ 200000) : Calls Try.prog 71 #[.pointer (some ⟨X, 0, none⟩), .string s] w (DoPost w base X (doOpt a s 3)) := by
  have hw := h.lt
  obtain ⟨sv, h1, h2, h3⟩ := h
  obtain ⟨i0, hi, hz0, hz1, hz2⟩ := info_parts info45
  have z5 := (blk_at h1 5 (v := sv) rfl).1
  have e5 : ∀ o, (w.alloc o).cell? ⟨X, 5, none⟩ = some sv := fun o => bl_cell (bl_alloc w o) z5
  have H1 := Lib.hid h1
  have H2 := Lib.hid h2
  clear h1 h2
  go_enter Try.func71, Try.ntmps71
  go_wp2_with (at_builtin; go_must (refine wpList_append_lies _ rfl (.tmp 8) (.tmp 11) 24 rfl base 45 i0 (.agg #[(.bool false), (.string ⟨#[]⟩)]) 2 24 Try.underlying24 hi hz0 hz1 hz2 rfl (by decide) sv a.scr.length (a.scr.flatMap pcells) rfl (row_to (bl_alloc w _) H2.out) ⟨w.heap.size, 0, none⟩ 1 1 [.bool false, .string s] rfl rfl (cells_two w _ _ 45) (by intro u hu; simp at hu; rcases hu with rfl | rfl <;> rfl) (by omega) (by unfold maxLen; omega) (by omega) (by simp; omega) (w.heap.size + 1) (by simp) ?_))
  intro g cap w2 hown hgrow hat hlt
  have hp := XS.piece (b := false) H1.out H2.out h3 hgrow hown
  obtain ⟨y5, f5⟩ := blk_at hp.2.2 5 (v := sv) rfl
  have HP := Lib.hid hp
  clear hown hgrow hat hlt hp z5 e5
  go_wp2_with fail
  go_end0
  exact ⟨rfl, HP.out.1, HP.out.2.1⟩
set_option maxHeartbeats 1600000 in
theorem do4 (h : XS w base X a) (hl : a.scr.length ≤ 200000) : Calls Try.prog 72 #[.pointer (some ⟨X, 0, none⟩), .string s] w (DoPost w base X (doOpt a s 4)) := by
  have hw := h.lt
  obtain ⟨sv, h1, h2, h3⟩ := h
  obtain ⟨i0, hi, hz0, hz1, hz2⟩ := info_parts info45
  have z5 := (blk_at h1 5 (v := sv) rfl).1
  have e5 : ∀ o, (w.alloc o).cell? ⟨X, 5, none⟩ = some sv := fun o => bl_cell (bl_alloc w o) z5
  have H1 := Lib.hid h1
  have H2 := Lib.hid h2
  clear h1 h2
  go_enter Try.func72, Try.ntmps72
  go_wp2_with (at_builtin; go_must (refine wpList_append_lies _ rfl (.tmp 8) (.tmp 11) 24 rfl base 45 i0 (.agg #[(.bool false), (.string ⟨#[]⟩)]) 2 24 Try.underlying24 hi hz0 hz1 hz2 rfl (by decide) sv a.scr.length (a.scr.flatMap pcells) rfl (row_to (bl_alloc w _) H2.out) ⟨w.heap.size, 0, none⟩ 1 1 [.bool true, .string s] rfl rfl (cells_two w _ _ 45) (by intro u hu; simp at hu; rcases hu with rfl | rfl <;> rfl) (by omega) (by unfold maxLen; omega) (by omega) (by simp; omega) (w.heap.size + 1) (by simp) ?_))
  intro g cap w2 hown hgrow hat hlt
  have hp := XS.piece (b := true) H1.out H2.out h3 hgrow hown
  obtain ⟨y5, f5⟩ := blk_at hp.2.2 5 (v := sv) rfl
  have HP := Lib.hid hp
  clear hown hgrow hat hlt hp z5 e5
  go_wp2_with fail
  go_end0
  exact ⟨rfl, HP.out.1, HP.out.2.1⟩
end
end Go.Proofs.Ytbigolappdlhcaa
