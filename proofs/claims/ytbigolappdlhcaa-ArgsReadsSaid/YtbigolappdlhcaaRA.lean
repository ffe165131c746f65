/- The reference's reading: its state, fail, piece, inPlace. -/
import Derived.Test.YtbigolappdlhcaaV
namespace Go.Proofs.Ytbigolappdlhcaa
set_option linter.unusedSimpArgs false
set_option linter.unusedVariables false
open Go.RowKit

def TR (t : TypeId) : Prop := t = 65 ∨ t = 45
def RC (lv : Value) (at_ bad : Int) (a : Av) (sv nv : Value) : Array Value := #[lv, .int .i64 at_, .int .i64 bad, .bool a.q, .bool a.e, .bool a.s, .bool a.i, .string a.suf, sv, nv]
/-- A reading, in block B. -/
def RS (w : World) (base B : Nat) (lv : Value) (at_ bad : Int) (a : Av) : Prop := ∃ sv, w.heap[B]? = some (.cells (RC lv at_ bad a sv (.slice none 0 0)) 65 (0, 0)) ∧ w.ownsRow base 45 2 sv a.scr.length (a.scr.flatMap pcells) ∧ base ≤ B

theorem RS.to {w w' : World} {base B : Nat} {lv : Value} {at_ bad : Int} {a : Av} (h : RS w base B lv at_ bad a) (hb : Below w.heap.size w w') : RS w' base B lv at_ bad a := by
  obtain ⟨sv, h1, h2, h3⟩ := h
  exact ⟨sv, (hb.block B (lt_of_block h1)).trans h1, row_to hb h2, h3⟩
theorem RS.lt {w : World} {base B : Nat} {lv : Value} {at_ bad : Int} {a : Av} (h : RS w base B lv at_ bad a) : base ≤ w.heap.size := by
  obtain ⟨sv, h1, h2, h3⟩ := h
  have := lt_of_block h1
  omega

/-- A field is set. -/
theorem RS.set {w : World} {base B : Nat} {lv : Value} {at_ bad at' bad' : Int} {a a' : Av} {sv : Value} (h1 : w.heap[B]? = some (.cells (RC lv at_ bad a sv (.slice none 0 0)) 65 (0, 0))) (h2 : w.ownsRow base 45 2 sv a.scr.length (a.scr.flatMap pcells)) (h3 : base ≤ B) (i : Nat) (v : Value)
    (hc : (RC lv at_ bad a sv (.slice none 0 0)).setIfInBounds i v = RC lv at' bad' a' sv (.slice none 0 0)) (hs : a'.scr = a.scr) :
    (w.setCell ⟨B, i, none⟩ v).heap[B]? = some (.cells (RC lv at' bad' a' sv (.slice none 0 0)) 65 (0, 0)) ∧ (w.setCell ⟨B, i, none⟩ v).ownsRow base 45 2 sv a'.scr.length (a'.scr.flatMap pcells) ∧ FrT TR base w (w.setCell ⟨B, i, none⟩ v) := by
  have hf : Fr (fun i => i = B) w (w.setCell ⟨B, i, none⟩ v) := (Fr.refl (fun i => i = B) w).setCell (p := ⟨B, i, none⟩) rfl _
  refine ⟨by rw [heap_setCell_same _ _ _ _ _ _ _ h1, hc], ?_, ?_⟩
  · rw [hs]
    exact row_fr hf h2 (fun g hg e => by subst e; exact row_ne h2 h1 (by decide) hg)
  · refine FrT.ofFr hf (by have := lt_of_block h1; omega) ?_
    rintro j hj rfl
    exact ⟨h3, fun cs t fr hh => by rw [h1] at hh; simp only [Option.some.injEq, Obj.cells.injEq] at hh; exact .inl hh.2.1.symm⟩

/-- Where the first fault is. -/
def badOf (bad k : Int) : Int := if bad < 0 then k else bad
theorem badOf_neg (k : Int) : badOf (-1) k = k := by unfold badOf; rw [if_pos (by omega)]
theorem badOf_pos {bad : Int} (h : 0 ≤ bad) (k : Int) : badOf bad k = bad := by unfold badOf; rw [if_neg (by omega)]
def inBad (s : ByteArray) (bad k : Int) : Int := if sufOk s then bad else badOf bad k

def ReadsPost (w : World) (base B : Nat) (lv : Value) (at' bad' : Int) (a' : Av) (e : Ending) (w' : World) : Prop := e = .returned (.tuple #[]) ∧ RS w' base B lv at' bad' a' ∧ FrT TR base w w'

section
variable {base B : Nat} {a : Av} {s : ByteArray} {w : World} {lv : Value} {at_ bad : Int}

theorem fail_any (k : Int) (h : RS w base B lv at_ bad a) : Calls Try.prog 51 #[.pointer (some ⟨B, 0, none⟩), .int .i64 k] w (ReadsPost w base B lv at_ (badOf bad k) a) := by
  have hx := Lib.hid h
  obtain ⟨sv, h1, h2, h3⟩ := h
  obtain ⟨z2, f2⟩ := blk_at h1 2 (v := .int .i64 bad) rfl
  by_cases hb : bad < 0
  · have hbo : badOf bad k = k := if_pos hb
    rw [hbo]
    clear hbo
    have H := Lib.hid (RS.set (at' := at_) (bad' := k) (a' := a) h1 h2 h3 2 (.int .i64 k) rfl rfl)
    clear h1 h2
    go_enter Try.func51, Try.ntmps51
    go_wp2_with fail
    go_end0
    exact ⟨rfl, ⟨sv, H.out.1, H.out.2.1, h3⟩, H.out.2.2⟩
  · have hbo : badOf bad k = bad := if_neg hb
    rw [hbo]
    clear h1 h2 hbo
    go_enter Try.func51, Try.ntmps51
    go_wp2_with fail
    go_end0
    exact ⟨rfl, hx.out, FrT.refl _ _ _⟩

/-- A piece more. -/
theorem RS.piece {w2 : World} {sv : Value} {b : Bool} {g cap : Nat} (h1 : w.heap[B]? = some (.cells (RC lv at_ bad a sv (.slice none 0 0)) 65 (0, 0))) (h2 : w.ownsRow base 45 2 sv a.scr.length (a.scr.flatMap pcells)) (h3 : base ≤ B) {o : Obj} (hg : (w.alloc o).grownBy w2 sv.ownBlock)
    (ho : w2.ownsRow base 45 2 (.slice (some ⟨g, 0, none⟩) (a.scr.length + 1) cap) (a.scr.length + 1) (a.scr.flatMap pcells ++ [.bool b, .string s])) :
    RS (w2.setCell ⟨B, 8, none⟩ (.slice (some ⟨g, 0, none⟩) (a.scr.length + 1) cap)) base B lv at_ bad { a with scr := a.scr ++ [(b, s)] } ∧ FrT TR base w (w2.setCell ⟨B, 8, none⟩ (.slice (some ⟨g, 0, none⟩) (a.scr.length + 1) cap)) ∧ w2.heap[B]? = some (.cells (RC lv at_ bad a sv (.slice none 0 0)) 65 (0, 0)) := by
  have hf : Fr (fun i => sv.ownBlock = some i) w w2 := ((Fr.refl _ w).alloc o).trans (Fr.ofGrown hg) (fun i _ hi => hi)
  have hX2 := (hf.block B (lt_of_block h1) (row_ne h2 h1 (by decide))).trans h1
  have hs : Fr (fun i => i = B) w2 (w2.setCell ⟨B, 8, none⟩ (.slice (some ⟨g, 0, none⟩) (a.scr.length + 1) cap)) := (Fr.refl (fun i => i = B) w2).setCell (p := ⟨B, 8, none⟩) rfl _
  refine ⟨⟨_, by rw [heap_setCell_same _ _ _ _ _ _ _ hX2]; rfl, ?_, h3⟩, ?_, hX2⟩
  · rw [List.flatMap_append, List.length_append]
    exact row_fr hs ho (fun g hg e => by subst e; exact row_ne ho hX2 (by decide) hg)
  · refine FrT.ofFr (S := fun i => sv.ownBlock = some i ∨ i = B) ((hf.mono (fun _ _ e => .inl e)).trans hs (fun i _ e => .inr e)) (by have := lt_of_block h1; omega) ?_
    rintro i hi (e | rfl)
    · obtain ⟨h1, cs', hc'⟩ := row_block h2 e
      exact ⟨h1, fun cs t fr hc => by rw [hc'] at hc; simp only [Option.some.injEq, Obj.cells.injEq] at hc; exact .inr hc.2.1.symm⟩
    · exact ⟨h3, fun cs t fr hc => by rw [h1] at hc; simp only [Option.some.injEq, Obj.cells.injEq] at hc; exact .inl hc.2.1.symm⟩

set_option maxHeartbeats 1600000 in
theorem piece_any (b : Bool) (h : RS w base B lv at_ bad a) (hl : a.scr.length ≤ 200000) : Calls Try.prog 39 #[.pointer (some ⟨B, 0, none⟩), .bool b, .string s] w (ReadsPost w base B lv at_ bad { a with scr := a.scr ++ [(b, s)] }) := by
  have hw := h.lt
  obtain ⟨sv, h1, h2, h3⟩ := h
  obtain ⟨i0, hi, hz0, hz1, hz2⟩ := info_parts info45
  have z5 := (blk_at h1 8 (v := sv) rfl).1
  have e5 : ∀ o, (w.alloc o).cell? ⟨B, 8, none⟩ = some sv := fun o => bl_cell (bl_alloc w o) z5
  have H1 := Lib.hid h1
  have H2 := Lib.hid h2
  clear h1 h2
  go_enter Try.func39, Try.ntmps39
  go_wp2_with (at_builtin; go_must (refine wpList_append_lies _ rfl (.tmp 11) (.tmp 15) 24 rfl base 45 i0 (.agg #[(.bool false), (.string ⟨#[]⟩)]) 2 24 Try.underlying24 hi hz0 hz1 hz2 rfl (by decide) sv a.scr.length (a.scr.flatMap pcells) rfl (row_to (bl_alloc w _) H2.out) ⟨w.heap.size, 0, none⟩ 1 1 [.bool b, .string s] rfl rfl (cells_two w _ _ 45) (by intro u hu; simp at hu; rcases hu with rfl | rfl <;> rfl) (by omega) (by unfold maxLen; omega) (by omega) (by simp; omega) (w.heap.size + 1) (by simp) ?_))
  intro g cap w2 hown hgrow hat hlt
  have hp := RS.piece (b := b) H1.out H2.out h3 hgrow hown
  obtain ⟨y5, f5⟩ := blk_at hp.2.2 8 (v := sv) rfl
  have HP := Lib.hid hp
  clear hown hgrow hat hlt hp z5 e5
  go_wp2_with fail
  go_end0
  exact ⟨rfl, HP.out.1, HP.out.2.1⟩

set_option maxHeartbeats 1600000 in
theorem inplace_any (k : Int) (h : RS w base B lv at_ bad a) : Calls Try.prog 50 #[.pointer (some ⟨B, 0, none⟩), .string s, .int .i64 k] w (ReadsPost w base B lv at_ (inBad s bad k) (doOpt a s 5)) := by
  obtain ⟨b, hb⟩ : ∃ b, sufOk s = b := ⟨_, rfl⟩
  have HS := suffix_any s
  have hib : inBad s bad k = if b then bad else badOf bad k := by unfold inBad; rw [hb]
  rw [hb] at HS
  clear hb
  rw [hib]
  clear hib
  have HS := Lib.hid HS
  have hgen : ∀ (w1 : World) (bd : Int), RS w1 base B lv at_ bd a → ∃ sv, Hid ((((w1.setCell ⟨B, 6, none⟩ (.bool true)).setCell ⟨B, 5, none⟩ (.bool true)).setCell ⟨B, 7, none⟩ (.string s)).heap[B]? = some (.cells (RC lv at_ bd (doOpt a s 5) sv (.slice none 0 0)) 65 (0, 0)) ∧
      (((w1.setCell ⟨B, 6, none⟩ (.bool true)).setCell ⟨B, 5, none⟩ (.bool true)).setCell ⟨B, 7, none⟩ (.string s)).ownsRow base 45 2 sv (doOpt a s 5).scr.length ((doOpt a s 5).scr.flatMap pcells) ∧ FrT TR base w1 (((w1.setCell ⟨B, 6, none⟩ (.bool true)).setCell ⟨B, 5, none⟩ (.bool true)).setCell ⟨B, 7, none⟩ (.string s)) ∧ base ≤ B) ∧
      (w1.cell? ⟨B, 6, none⟩ = some (.bool a.i) ∧ w1.frozen? ⟨B, 6, none⟩ = false) ∧ (w1.cell? ⟨B, 5, none⟩ = some (.bool a.s) ∧ w1.frozen? ⟨B, 5, none⟩ = false) ∧ (w1.cell? ⟨B, 7, none⟩ = some (.string a.suf) ∧ w1.frozen? ⟨B, 7, none⟩ = false) := by
    intro w1 bd hr
    obtain ⟨sv, h1, h2, h3⟩ := hr
    have k1 := RS.set (at' := at_) (bad' := bd) (a' := { a with i := true }) h1 h2 h3 6 (.bool true) rfl rfl
    have k2 := RS.set (at' := at_) (bad' := bd) (a' := { a with i := true, s := true }) k1.1 k1.2.1 h3 5 (.bool true) rfl rfl
    have k3 := RS.set (at' := at_) (bad' := bd) (a' := doOpt a s 5) k2.1 k2.2.1 h3 7 (.string s) rfl rfl
    exact ⟨sv, ⟨k3.1, k3.2.1, (k1.2.2.trans k2.2.2).trans k3.2.2, h3⟩, blk_at h1 6 rfl, blk_at h1 5 rfl, blk_at h1 7 rfl⟩
  have HGEN := Lib.hid hgen
  have HX := Lib.hid h
  clear hgen h
  cases b
  · rw [if_neg (by simp)]
    go_enter Try.func50, Try.ntmps50
    go_wp2_with (go_at_call 29; refine (HS.out _).mono ?_; rintro e w1 ⟨rfl, rfl⟩)
    refine (fail_any k HX.out).mono ?_
    rintro e w2 ⟨rfl, hr2, hf2⟩
    obtain ⟨sv, HH, ⟨z6, f6⟩, ⟨z5, f5⟩, ⟨z7, f7⟩⟩ := HGEN.out w2 _ hr2
    have HF2 := Lib.hid hf2
    clear hr2 hf2
    go_wp2_with fail
    go_end0
    exact ⟨rfl, ⟨sv, HH.out.1, HH.out.2.1, HH.out.2.2.2⟩, HF2.out.trans HH.out.2.2.1⟩
  · rw [if_pos rfl]
    obtain ⟨sv, HH, ⟨z6, f6⟩, ⟨z5, f5⟩, ⟨z7, f7⟩⟩ := HGEN.out w bad HX.out
    go_enter Try.func50, Try.ntmps50
    go_wp2_with (go_at_call 29; refine (HS.out _).mono ?_; rintro e w1 ⟨rfl, rfl⟩)
    go_end0
    exact ⟨rfl, ⟨sv, HH.out.1, HH.out.2.1, HH.out.2.2.2⟩, HH.out.2.2.1⟩
end
end Go.Proofs.Ytbigolappdlhcaa
