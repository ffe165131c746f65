/- The reference's Read: facts. -/
import Derived.Test.YtbigolappdlhcaaRE
namespace Go.Proofs.Ytbigolappdlhcaa
set_option linter.unusedSimpArgs false
set_option linter.unusedVariables false
open Go.RowKit

/-- How much Read has left. -/
def rdM (n B : Nat) (w : World) : Nat :=
  match w.heap[B]? with
  | some (Obj.cells cs _ _) => (match (cs[2]? : Option Value), (cs[1]? : Option Value) with | some (Value.int _ bad), some (Value.int _ a) => if 0 ≤ bad then 0 else n + 1 - a.toNat | _, _ => 0)
  | _ => 0
theorem rdM_eq {n base B : Nat} {w : World} {lv : Value} {at_ bad : Int} {a : Av} (h : RS w base B lv at_ bad a) : rdM n B w = if 0 ≤ bad then 0 else n + 1 - at_.toNat := by
  obtain ⟨sv, h1, _⟩ := h
  unfold rdM
  rw [h1]
  rfl

/-- The state at the head of Read's loop: nothing is at fault, or all is known. -/
def RJ (W : World) (base B : Nat) (lv : Value) (l : List ByteArray) (R : Sum Nat (Nat × Av)) (wr : World) : Prop :=
  Below base W wr ∧ base ≤ W.heap.size ∧ ((∃ (i : Nat) (a : Av), RS wr base B lv (i : Int) (-1) a ∧ a.scr.length ≤ i ∧ i ≤ l.length ∧ readW l i a = R) ∨ (∃ (k : Nat) (at' : Int) (a' : Av), RS wr base B lv at' (k : Int) a' ∧ R = .inl k))
/-- The state behind it. -/
def RK (W : World) (base B : Nat) (lv : Value) (l : List ByteArray) (R : Sum Nat (Nat × Av)) (wr : World) : Prop :=
  Below base W wr ∧ base ≤ W.heap.size ∧ ((∃ (i : Nat) (a : Av), RS wr base B lv (i : Int) (-1) a ∧ a.scr.length ≤ i ∧ i ≤ l.length ∧ R = .inr (i, a)) ∨ (∃ (k : Nat) (at' : Int) (a' : Av), RS wr base B lv at' (k : Int) a' ∧ R = .inl k))

theorem next_of {W w w' : World} {base B i : Nat} {lv : Value} {l : List ByteArray} {a : Av} {R : Sum Nat (Nat × Av)} {R' : Int × Bool × Av} {e : Ending} (h : LetPost w base B lv l i R' e w')
    (hR : (if R'.2.1 = false then .inl i else if R'.1 < 0 then .inl l.length else readW l (i + 1 + R'.1.toNat) R'.2.2) = R) (hsc : R'.2.2.scr.length ≤ a.scr.length + 1) (hle : R'.1 ≤ 0 ∨ (R'.1 = 1 ∧ l.drop (i + 1) ≠ [])) (ha : a.scr.length ≤ i) (hi : i < l.length) (hf : Below base W w) (hb : base ≤ W.heap.size) :
    e = .returned (.tuple #[]) ∧ RJ W base B lv l R w' ∧ rdM l.length B w' < l.length + 1 - i := by
  obtain ⟨h0, h1, h2⟩ := h
  have hW := hf.trans h1.below
  refine ⟨h0, ?_⟩
  rcases h2 with ⟨q1, at', a', hr⟩ | ⟨q1, q2, at', a', hr⟩ | ⟨q1, q2, hr⟩
  · rw [if_pos q1] at hR
    exact ⟨⟨hW, hb, .inr ⟨i, at', a', hr, hR.symm⟩⟩, by rw [rdM_eq hr, if_pos (by omega)]; omega⟩
  · rw [if_neg (by rw [q1]; simp), if_pos q2] at hR
    exact ⟨⟨hW, hb, .inr ⟨l.length, at', a', hr, hR.symm⟩⟩, by rw [rdM_eq hr, if_pos (by omega)]; omega⟩
  · rw [if_neg (by rw [q1]; simp), if_neg (by omega)] at hR
    obtain ⟨x, ok, a'⟩ := R'
    simp only at q1 q2 hr hR hsc hle
    have hx : (x = 0) ∨ (x = 1 ∧ i + 2 ≤ l.length) := by
      rcases hle with hh | ⟨hh, hne⟩
      · left; omega
      · right
        refine ⟨hh, ?_⟩
        have h3 : (l.drop (i + 1)).length ≠ 0 := fun e => hne (List.length_eq_zero_iff.1 e)
        rw [List.length_drop] at h3
        omega
    have ha' : ((i : Int) + 1 + x) = ((i + 1 + x.toNat : Nat) : Int) := by omega
    rw [ha'] at hr
    exact ⟨⟨hW, hb, .inl ⟨i + 1 + x.toNat, a', hr, by omega, by omega, hR⟩⟩, by rw [rdM_eq hr, if_neg (by omega)]; omega⟩

theorem longR_read (l : List ByteArray) (i : Nat) (a : Av) (t : ByteArray) : (if (longR a t).2.1 = false then .inl i else if (longR a t).1 < 0 then .inl l.length else readW l (i + 1 + (longR a t).1.toNat) (longR a t).2.2) = (match longL a t with | none => Sum.inl i | some a' => readW l (i + 1) a') := by
  unfold longR
  cases longL a t <;> rfl
theorem longR_scr (a : Av) (t : ByteArray) : (longR a t).2.2.scr.length ≤ a.scr.length + 1 ∧ (longR a t).1 ≤ 0 := by
  unfold longR
  cases h : longL a t with
  | none => exact ⟨by show a.scr.length ≤ _; omega, Int.le_refl _⟩
  | some a' => exact ⟨(longL_scr h).1, Int.le_refl _⟩

/-- The state of the last loop. -/
def NJ (W : World) (base B : Nat) (lv : Value) (at_ : Int) (a : Av) (L : List ByteArray) (m : Nat) (wr : World) : Prop :=
  ∃ sv nv, wr.heap[B]? = some (.cells (RC lv at_ (-1) a sv nv) 65 (0, 0)) ∧ wr.ownsRow base 45 2 sv a.scr.length (a.scr.flatMap pcells) ∧ wr.ownsRow base 9 1 nv m ((L.take m).map Value.string) ∧ base ≤ B ∧ Below base W wr ∧ base ≤ W.heap.size

theorem NJ.nam {W wr w2 : World} {base B m g cap : Nat} {lv : Value} {at_ : Int} {a : Av} {L : List ByteArray} {t : ByteArray} {sv nv : Value} (h1 : wr.heap[B]? = some (.cells (RC lv at_ (-1) a sv nv) 65 (0, 0))) (h2 : wr.ownsRow base 45 2 sv a.scr.length (a.scr.flatMap pcells)) (h3 : wr.ownsRow base 9 1 nv m ((L.take m).map Value.string)) (h4 : base ≤ B) (h5 : Below base W wr) (h6 : base ≤ W.heap.size) (hk : m < L.length) (hx : L[m] = t)
    (hf : Fr (fun i => nv.ownBlock = some i) wr w2) (hown : w2.ownsRow base 9 1 (.slice (some ⟨g, 0, none⟩) (m + 1) cap) (m + 1) ((L.take m).map Value.string ++ [.string t])) :
    NJ W base B lv at_ a L (m + 1) (w2.setCell ⟨B, 9, none⟩ (.slice (some ⟨g, 0, none⟩) (m + 1) cap)) := by
  have hy2 := (hf.block B (lt_of_block h1) (row_ne h3 h1 (by decide))).trans h1
  have hn2 : w2.ownsRow base 45 2 sv a.scr.length (a.scr.flatMap pcells) := row_fr hf h2 (fun g hg => row_ne2 h3 h2 (by decide) hg)
  have hb2 : Below base W w2 := h5.trans (hf.toBelow (Nat.le_trans h4 (Nat.le_of_lt (lt_of_block h1))) (fun i _ hi => (World.ownsRow.lt h3 i hi).1))
  have hs : Fr (fun i => i = B) w2 (w2.setCell ⟨B, 9, none⟩ (.slice (some ⟨g, 0, none⟩) (m + 1) cap)) := (Fr.refl (fun i => i = B) w2).setCell (p := ⟨B, 9, none⟩) rfl _
  refine ⟨sv, .slice (some ⟨g, 0, none⟩) (m + 1) cap, ?_, ?_, ?_, h4, hb2.setCell h4 _, h6⟩
  · rw [heap_setCell_same _ _ _ _ _ _ _ hy2]; rfl
  · exact row_fr hs hn2 (fun g' hg' e => row_ne hn2 hy2 (by decide) (by rw [hg', e]))
  · rw [take_snoc _ _ hk, List.map_append, hx]
    exact row_fr hs hown (fun g' hg' e => row_ne hown hy2 (by decide) (by rw [hg', e]))

theorem kind_one {t : ByteArray} (h : t = ⟨#[45]⟩ ∨ (t ≠ ⟨#[45, 45]⟩ ∧ Lib.hasPrefix t.data.toList [45] = false)) : kind t = 1 := by
  unfold kind
  rcases h with rfl | ⟨h1, h2⟩
  · decide
  · rw [if_neg h1]
    by_cases h3 : t = ⟨#[45]⟩
    · rw [if_pos h3]
    · rw [if_neg h3, if_pos h2]
/-- What an argument is, as the reference asks. -/
theorem kinds (t : ByteArray) : (kind t = 0 ∧ t = ⟨#[45, 45]⟩) ∨ ((t.toList == [45, 45]) = false ∧ (
    (kind t = 1 ∧ (t.toList == [45]) = true) ∨ ((t.toList == [45]) = false ∧ (
    (kind t = 1 ∧ t = ⟨#[]⟩) ∨ ((t.toList == []) = false ∧ ∃ h0 : 0 < t.size, (
    (kind t = 1 ∧ ((t[0].toNat : Int) == 45) = false) ∨ (((t[0].toNat : Int) == 45) = true ∧ ∃ h1 : 1 < t.size, (
    (kind t = 2 ∧ ((t[1].toNat : Int) == 45) = true ∧ lead t (tail2 t)) ∨ (kind t = 3 ∧ ((t[1].toNat : Int) == 45) = false))))))))) := by
  obtain ⟨⟨L⟩⟩ := t
  have hb : ∀ (x y : UInt8), ((x.toNat : Int) == (y.toNat : Int)) = decide (x = y) := by
    intro x y
    by_cases h : x = y
    · subst h; simp
    · rw [decide_eq_false h]
      simp only [beq_eq_false_iff_ne, ne_eq]
      intro e
      exact h (UInt8.toNat_inj.1 (by omega))
  have h45 : ((45 : UInt8).toNat : Int) = 45 := rfl
  simp only [ByteArray.toList_eq]
  match L with
  | [] => exact .inr ⟨rfl, .inr ⟨rfl, .inl ⟨by decide, rfl⟩⟩⟩
  | [x] =>
    by_cases hx : x = 45
    · subst hx; exact .inr ⟨rfl, .inl ⟨by decide, rfl⟩⟩
    · refine .inr ⟨by simp, .inr ⟨by simp [hx], .inr ⟨rfl, by show 0 < 1; omega, .inl ⟨?_, ?_⟩⟩⟩⟩
      · refine kind_one (.inr ⟨fun e => ?_, ?_⟩)
        · have := congrArg (fun s : ByteArray => s.data.toList) e; simp at this
        · simp [Lib.hasPrefix, List.isPrefixOf, hx, Ne.symm hx]
      · have := hb x 45
        rw [decide_eq_false hx] at this
        exact this
  | x :: y :: r =>
    by_cases hx : x = 45
    · subst hx
      by_cases hy : y = 45
      · subst hy
        match r with
        | [] => exact .inl ⟨by decide, rfl⟩
        | z :: r =>
          refine .inr ⟨by simp, .inr ⟨by simp, .inr ⟨rfl, by show 0 < _ + 1; omega, .inr ⟨rfl, by show 1 < _ + 1 + 1; omega, .inl ⟨?_, rfl, ?_⟩⟩⟩⟩⟩
          · unfold kind
            rw [if_neg (fun e => by have := congrArg (fun s : ByteArray => s.data.toList) e; simp at this), if_neg (fun e => by have := congrArg (fun s : ByteArray => s.data.toList) e; simp at this)]
            rfl
          · exact lead_tail2 rfl
      · refine .inr ⟨by simp [hy], .inr ⟨by simp, .inr ⟨rfl, by show 0 < _ + 1; omega, .inr ⟨rfl, by show 1 < _ + 1 + 1; omega, .inr ⟨?_, ?_⟩⟩⟩⟩⟩
        · unfold kind
          rw [if_neg (fun e => by have := congrArg (fun s : ByteArray => s.data.toList) e; simp [hy] at this), if_neg (fun e => by have := congrArg (fun s : ByteArray => s.data.toList) e; simp at this), if_neg (by simp [Lib.hasPrefix]), if_neg (by simp [Lib.hasPrefix, List.isPrefixOf, hy, Ne.symm hy])]
        · have := hb y 45
          rw [decide_eq_false hy] at this
          exact this
    · refine .inr ⟨by simp [hx], .inr ⟨by simp, .inr ⟨rfl, by show 0 < _ + 1; omega, .inl ⟨?_, ?_⟩⟩⟩⟩
      · refine kind_one (.inr ⟨fun e => ?_, ?_⟩)
        · have := congrArg (fun s : ByteArray => s.data.toList) e; simp [hx] at this
        · simp [Lib.hasPrefix, List.isPrefixOf, hx, Ne.symm hx]
      · have := hb x 45
        rw [decide_eq_false hx] at this
        exact this
end Go.Proofs.Ytbigolappdlhcaa
