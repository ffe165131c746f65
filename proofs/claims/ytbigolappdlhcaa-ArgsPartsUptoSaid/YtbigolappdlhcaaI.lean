/- Frames by types; Copy. -/
import Derived.Test.YtbigolappdlhcaaH
import Derived.StillTailTactics
import Derived.BigRegion
import Derived.Deep.DeepCutAuto
namespace Go.Proofs.Ytbigolappdlhcaa
set_option linter.unusedSimpArgs false
set_option linter.unusedVariables false
open Go.RowKit

/-- A region that draws, all of whose operations but the last ones only read: walked once, in the text's order, in a world that is a letter. -/
theorem region_tail {id : Nat} {Q : Exit → Act → World → Prop} {a : Act} {w : World} {l : List Oper} (n : Nat) (hm : Try.prog.follows .mixedOrders = true) (hB : Region.lexTailB .any l.toArray n = true)
    (h : ∀ W : World, Below w.heap.size w W → wpStill Try.prog l.toArray W (fun a' => wpList Try.prog l.toArray Q (l.drop n) a' W) (l.take n) a) : (Code.region id l.toArray true).wp Try.prog Q a w :=
  wp_region_still_tail n hm hB (h _ ((Below.refl _ _).drew))

/-- A frame by types: of the blocks at or behind base only those whose type T names may have turned. -/
structure FrT (T : TypeId → Prop) (base : Nat) (w w' : World) : Prop where
  below : Below base w w'
  keep : ∀ (k : Nat) (cs : Array Value) (t : TypeId) (fr : Nat × Nat), w.heap[k]? = some (.cells cs t fr) → ¬ T t → w'.heap[k]? = some (.cells cs t fr)

theorem FrT.refl (T : TypeId → Prop) (base : Nat) (w : World) : FrT T base w w := ⟨Below.refl _ _, fun _ _ _ _ h _ => h⟩
theorem FrT.trans {T : TypeId → Prop} {base : Nat} {a b c : World} (h : FrT T base a b) (k : FrT T base b c) : FrT T base a c := ⟨h.below.trans k.below, fun i cs t fr hc h1 => k.keep i cs t fr (h.keep i cs t fr hc h1) h1⟩
theorem FrT.ofBelow (T : TypeId → Prop) {base : Nat} {a b : World} (h : Below a.heap.size a b) (hb : base ≤ a.heap.size) : FrT T base a b := ⟨h.mono hb, fun i cs t fr hc _ => (h.block i (lt_of_block hc)).trans hc⟩
theorem FrT.ofFr {T : TypeId → Prop} {S : Nat → Prop} {base : Nat} {a b : World} (h : Fr S a b) (hb : base ≤ a.heap.size) (hS : ∀ i, i < a.heap.size → S i → base ≤ i ∧ ∀ cs t fr, a.heap[i]? = some (.cells cs t fr) → T t) : FrT T base a b :=
  ⟨h.toBelow hb (fun i hi hs => (hS i hi hs).1), fun i cs t fr hc h1 => (h.block i (lt_of_block hc) (fun hs => h1 ((hS i (lt_of_block hc) hs).2 cs t fr hc))).trans hc⟩
theorem FrT.mono {T T' : TypeId → Prop} {base base' : Nat} {a b : World} (h : FrT T base a b) (hT : ∀ t, T t → T' t) (hb : base' ≤ base) : FrT T' base' a b := ⟨h.below.mono hb, fun i cs t fr hc h1 => h.keep i cs t fr hc (fun hh => h1 (hT t hh))⟩

theorem row_to {w w1 : World} {base sz n : Nat} {e : TypeId} {v : Value} {xs : List Value} (hb : Below w.heap.size w w1) (hs : w.ownsRow base e sz v n xs) : w1.ownsRow base e sz v n xs :=
  World.ownsRow.kept (row := none) hs ⟨hb.os, hb.tape, hb.output, hb.size, fun k hk _ => hb.block k hk⟩ (by cases v.ownBlock <;> simp)
theorem row_fr {S : Nat → Prop} {b0 sz n : Nat} {e : TypeId} {w w' : World} {v : Value} {xs : List Value} (h : Fr S w w') (hr : w.ownsRow b0 e sz v n xs) (hS : ∀ g, v.ownBlock = some g → ¬ S g) : w'.ownsRow b0 e sz v n xs := by
  refine ⟨hr.1, ?_⟩
  rcases hr.2 with hn | ⟨g, cap, cur, rfl, hb, hg, rest⟩
  · exact .inl hn
  · exact .inr ⟨g, cap, cur, rfl, hb, (h.block g (lt_of_block hg) (hS g rfl)).trans hg, rest⟩
theorem row_block {b0 sz n : Nat} {e : TypeId} {w : World} {v : Value} {xs : List Value} (hr : w.ownsRow b0 e sz v n xs) {g : Nat} (hg : v.ownBlock = some g) : b0 ≤ g ∧ ∃ cs, w.heap[g]? = some (.cells cs e (0, 0)) := by
  rcases hr.2 with ⟨rfl, _⟩ | ⟨g', cap, cur, rfl, hb, hgg, rest⟩
  · simp [Value.ownBlock] at hg
  · simp only [Value.ownBlock, Option.some.injEq] at hg
    subst hg
    exact ⟨hb, cur, hgg⟩
/-- The row of a type does not lie in a block of another one. -/
theorem row_ne {b0 sz n b : Nat} {e t : TypeId} {cs : Array Value} {fr : Nat × Nat} {w : World} {v : Value} {xs : List Value} (hr : w.ownsRow b0 e sz v n xs) (hb : w.heap[b]? = some (.cells cs t fr)) (hne : e ≠ t) : v.ownBlock ≠ some b := by
  intro h
  obtain ⟨_, cs', hc⟩ := row_block hr h
  rw [hb] at hc
  simp only [Option.some.injEq, Obj.cells.injEq] at hc
  exact hne hc.2.1.symm
theorem row_ne2 {b0 b1 sz sz' n n' : Nat} {e t : TypeId} {w : World} {v v' : Value} {xs xs' : List Value} (hr : w.ownsRow b0 e sz v n xs) (hr' : w.ownsRow b1 t sz' v' n' xs') (hne : e ≠ t) {g : Nat} (hg : v'.ownBlock = some g) : v.ownBlock ≠ some g := by
  obtain ⟨_, cs, hc⟩ := row_block hr' hg
  exact row_ne hr hc hne
theorem FrT.row {T : TypeId → Prop} {base b0 sz n : Nat} {e : TypeId} {w w' : World} {v : Value} {xs : List Value} (h : FrT T base w w') (hr : w.ownsRow b0 e sz v n xs) (h1 : ¬ T e) : w'.ownsRow b0 e sz v n xs := by
  refine ⟨hr.1, ?_⟩
  rcases hr.2 with hn | ⟨g, cap, cur, rfl, hb, hg, rest⟩
  · exact .inl hn
  · exact .inr ⟨g, cap, cur, rfl, hb, h.keep _ _ _ _ hg h1, rest⟩
theorem blk_at {w : World} {b : Nat} {cs : Array Value} {t : TypeId} (h : w.heap[b]? = some (.cells cs t (0, 0))) (i : Nat) {v : Value} (hv : cs[i]? = some v) : w.cell? ⟨b, i, none⟩ = some v ∧ w.frozen? ⟨b, i, none⟩ = false :=
  ⟨by simp [World.cell?, h, hv], by simp [World.frozen?, h]⟩
theorem cells_one (w : World) (x : Value) (t : TypeId) : ∀ j u, [x][j]? = some u → (w.alloc (.cells #[x] t)).cell? ((⟨w.heap.size, 0, none⟩ : Addr).add j) = some u := fun j u hu => by
  have hb : (w.alloc (.cells #[x] t)).heap[w.heap.size]? = some (.cells #[x] t (0, 0)) := heap_alloc_new w _
  exact World.news_of_block hb j u hu

theorem row_slice {b0 sz n : Nat} {e : TypeId} {w : World} {v : Value} {xs : List Value} (hr : w.ownsRow b0 e sz v n xs) : ∃ ao cap, v = .slice ao n cap := by
  rcases hr.2 with ⟨rfl, rfl⟩ | ⟨g, cap, cur, rfl, hb, hgg, hle, rest⟩
  · exact ⟨none, 0, rfl⟩
  · exact ⟨_, cap, rfl⟩
theorem row_base {b0 b1 sz n : Nat} {e : TypeId} {w : World} {v : Value} {xs : List Value} (hr : w.ownsRow b0 e sz v n xs) (h : b1 ≤ b0) : w.ownsRow b1 e sz v n xs := by
  refine ⟨hr.1, ?_⟩
  rcases hr.2 with h2 | ⟨g, cap, cur, rfl, hb, rest⟩
  · exact .inl h2
  · exact .inr ⟨g, cap, cur, rfl, Nat.le_trans h hb, rest⟩
theorem info45 : (Try.prog.info? 45).map (fun i => (i.zero, i.size, i.bytes)) = some (some (.agg #[(.bool false), (.string ⟨#[]⟩)]), 2, 24) := by kernel_rfl
theorem info9 : (Try.prog.info? 9).map (fun i => (i.zero, i.size, i.bytes)) = some (some (.string ⟨#[]⟩), 1, 16) := by kernel_rfl

def zeroA : Array Value := #[.bool false, .bool false, .bool false, .bool false, .string ⟨#[]⟩, .slice none 0 0, .slice none 0 0]
/-- A command line whose lists are as yet k and m long, in block y. -/
def CI (w : World) (base y z : Nat) (a : Av) (k m : Nat) (wr : World) : Prop :=
  ∃ sv nv, wr.heap[y]? = some (.cells (a.cells sv nv) 27 (0, 0)) ∧ wr.ownsRow base 45 2 sv k ((a.scr.take k).flatMap pcells) ∧ wr.ownsRow base 9 1 nv m ((a.nam.take m).map Value.string) ∧
    wr.heap[z]? = some (.cells zeroA 27 (0, 0)) ∧ Below base w wr ∧ base ≤ y ∧ base ≤ z ∧ y ≠ z

theorem take_snoc {α : Type} (l : List α) (j : Nat) (h : j < l.length) : l.take (j + 1) = l.take j ++ [l[j]] := List.take_succ_eq_append_getElem h

theorem heap_setCell_ne (w : World) (p : Addr) (u : Value) (k : Nat) (h : k ≠ p.block) : (w.setCell p u).heap[k]? = w.heap[k]? := Below.heap_setCell _ _ _ _ h

theorem CI.scr {w wr w2 : World} {base y z k m : Nat} {a : Av} {sv nv : Value} {b : Bool} {t : ByteArray} {g cap : Nat} (h1 : wr.heap[y]? = some (.cells (a.cells sv nv) 27 (0, 0))) (h2 : wr.ownsRow base 45 2 sv k ((a.scr.take k).flatMap pcells)) (h3 : wr.ownsRow base 9 1 nv m ((a.nam.take m).map Value.string))
    (h4 : wr.heap[z]? = some (.cells zeroA 27 (0, 0))) (h5 : Below base w wr) (h6 : base ≤ y) (h7 : base ≤ z) (h8 : y ≠ z) (hk : k < a.scr.length) (hx : a.scr[k] = (b, t))
    (hf : Fr (fun i => sv.ownBlock = some i) wr w2) (hown : w2.ownsRow base 45 2 (.slice (some ⟨g, 0, none⟩) (k + 1) cap) (k + 1) ((a.scr.take k).flatMap pcells ++ [.bool b, .string t])) :
    CI w base y z a (k + 1) m (w2.setCell ⟨y, 5, none⟩ (.slice (some ⟨g, 0, none⟩) (k + 1) cap)) := by
  have hz := h4
  have hy2 := (hf.block y (lt_of_block h1) (row_ne h2 h1 (by decide))).trans h1
  have hz2 := (hf.block z (lt_of_block hz) (row_ne h2 hz (by decide))).trans hz
  have hn2 : w2.ownsRow base 9 1 nv m ((a.nam.take m).map Value.string) := row_fr hf h3 (fun g hg => row_ne2 h2 h3 (by decide) hg)
  have hb2 : Below base w w2 := h5.trans (hf.toBelow (Nat.le_trans h6 (Nat.le_of_lt (lt_of_block h1))) (fun i _ hi => (World.ownsRow.lt h2 i hi).1))
  refine ⟨.slice (some ⟨g, 0, none⟩) (k + 1) cap, nv, ?_, ?_, ?_, ?_, hb2.setCell h6 _, h6, h7, h8⟩
  · rw [heap_setCell_same _ _ _ _ _ _ _ hy2]; rfl
  · rw [take_snoc _ _ hk, List.flatMap_append, hx]
    have hs : Fr (fun i => i = y) w2 (w2.setCell ⟨y, 5, none⟩ (.slice (some ⟨g, 0, none⟩) (k + 1) cap)) := (Fr.refl (fun i => i = y) w2).setCell (p := ⟨y, 5, none⟩) rfl _
    exact row_fr hs hown (fun g' hg' e => row_ne hown hy2 (by decide) (by rw [hg', e]))
  · have hs : Fr (fun i => i = y) w2 (w2.setCell ⟨y, 5, none⟩ (.slice (some ⟨g, 0, none⟩) (k + 1) cap)) := (Fr.refl (fun i => i = y) w2).setCell (p := ⟨y, 5, none⟩) rfl _
    exact row_fr hs hn2 (fun g' hg' e => row_ne hn2 hy2 (by decide) (by rw [hg', e]))
  · rw [heap_setCell_ne _ _ _ _ (Ne.symm h8)]; exact hz2

theorem CI.nam {w wr w2 : World} {base y z k m : Nat} {a : Av} {sv nv : Value} {t : ByteArray} {g cap : Nat} (h1 : wr.heap[y]? = some (.cells (a.cells sv nv) 27 (0, 0))) (h2 : wr.ownsRow base 45 2 sv k ((a.scr.take k).flatMap pcells)) (h3 : wr.ownsRow base 9 1 nv m ((a.nam.take m).map Value.string))
    (h4 : wr.heap[z]? = some (.cells zeroA 27 (0, 0))) (h5 : Below base w wr) (h6 : base ≤ y) (h7 : base ≤ z) (h8 : y ≠ z) (hk : m < a.nam.length) (hx : a.nam[m] = t)
    (hf : Fr (fun i => nv.ownBlock = some i) wr w2) (hown : w2.ownsRow base 9 1 (.slice (some ⟨g, 0, none⟩) (m + 1) cap) (m + 1) ((a.nam.take m).map Value.string ++ [.string t])) :
    CI w base y z a k (m + 1) (w2.setCell ⟨y, 6, none⟩ (.slice (some ⟨g, 0, none⟩) (m + 1) cap)) := by
  have hz := h4
  have hy2 := (hf.block y (lt_of_block h1) (row_ne h3 h1 (by decide))).trans h1
  have hz2 := (hf.block z (lt_of_block hz) (row_ne h3 hz (by decide))).trans hz
  have hn2 : w2.ownsRow base 45 2 sv k ((a.scr.take k).flatMap pcells) := row_fr hf h2 (fun g hg => row_ne2 h3 h2 (by decide) hg)
  have hb2 : Below base w w2 := h5.trans (hf.toBelow (Nat.le_trans h6 (Nat.le_of_lt (lt_of_block h1))) (fun i _ hi => (World.ownsRow.lt h3 i hi).1))
  have hs : Fr (fun i => i = y) w2 (w2.setCell ⟨y, 6, none⟩ (.slice (some ⟨g, 0, none⟩) (m + 1) cap)) := (Fr.refl (fun i => i = y) w2).setCell (p := ⟨y, 6, none⟩) rfl _
  refine ⟨sv, .slice (some ⟨g, 0, none⟩) (m + 1) cap, ?_, ?_, ?_, ?_, hb2.setCell h6 _, h6, h7, h8⟩
  · rw [heap_setCell_same _ _ _ _ _ _ _ hy2]; rfl
  · exact row_fr hs hn2 (fun g' hg' e => row_ne hn2 hy2 (by decide) (by rw [hg', e]))
  · rw [take_snoc _ _ hk, List.map_append, hx]
    exact row_fr hs hown (fun g' hg' e => row_ne hown hy2 (by decide) (by rw [hg', e]))
  · rw [heap_setCell_ne _ _ _ _ (Ne.symm h8)]; exact hz2

/-- What Copy leaves: rows of its own. -/
def OwnPost (w : World) (a : Av) (e : Ending) (w' : World) : Prop :=
  ∃ sv nv, e = .returned (a.val sv nv) ∧ w'.ownsRow w.heap.size 45 2 sv a.scr.length (a.scr.flatMap pcells) ∧ w'.ownsRow w.heap.size 9 1 nv a.nam.length (a.nam.map Value.string) ∧ Below w.heap.size w w'

theorem CI.below {w wr W : World} {base y z k m : Nat} {a : Av} (h : CI w base y z a k m wr) (hb : Below wr.heap.size wr W) : CI w base y z a k m W := by
  obtain ⟨sv, nv, h1, h2, h3, h4, h5, h6, h7, h8⟩ := h
  exact ⟨sv, nv, (hb.block y (lt_of_block h1)).trans h1, row_to hb h2, row_to hb h3, (hb.block z (lt_of_block h4)).trans h4, h5.trans (hb.mono (Nat.le_trans h6 (Nat.le_of_lt (lt_of_block h1)))), h6, h7, h8⟩

set_option maxRecDepth 8000 in
set_option maxHeartbeats 6400000 in
theorem copy_any (v : Value) (a : Av) (w : World) (h : Ax w v a) (h1 : a.scr.length * 24 ≤ 140737488355000) (h2 : a.nam.length * 16 ≤ 140737488355000) : Calls Try.prog 12 #[v] w (OwnPost w a) := by
  obtain ⟨sv, nv, rfl, hs, hn⟩ := h
  have HS := Lib.hid hs
  have HN := Lib.hid hn
  obtain ⟨ao, cap, rfl, hc⟩ := hs
  obtain ⟨ao', cap', rfl, hc'⟩ := hn
  clear hc hc'
  obtain ⟨q, e, s, i, uu, c, n⟩ := a
  simp only at HS HN h1 h2 ⊢
  have H0 : Hid (CI (w.alloc (.cells #[.bool q, .bool e, .bool s, .bool i, .string uu, .slice ao c.length cap, .slice ao' n.length cap'] 27)) (w.heap.size + 1) (w.heap.size + 1 + 1) (w.heap.size + 1) ⟨q, e, s, i, uu, c, n⟩ 0 0 (((w.alloc (.cells #[.bool q, .bool e, .bool s, .bool i, .string uu, .slice ao c.length cap, .slice ao' n.length cap'] 27)).alloc (.cells zeroA 27)).alloc (.cells #[.bool q, .bool e, .bool s, .bool i, .string uu, .slice none 0 0, .slice none 0 0] 27))) := by
    refine ⟨.slice none 0 0, .slice none 0 0, ?_, World.ownsRow_nil _ _ _ _, World.ownsRow_nil _ _ _ _, ?_, ?_, by omega, by omega, by omega⟩
    · have := heap_alloc_new ((w.alloc (.cells #[.bool q, .bool e, .bool s, .bool i, .string uu, .slice ao c.length cap, .slice ao' n.length cap'] 27)).alloc (.cells zeroA 27)) (.cells #[.bool q, .bool e, .bool s, .bool i, .string uu, .slice none 0 0, .slice none 0 0] 27)
      simpa using this
    · rw [heap_alloc_old _ _ (by simp)]
      have := heap_alloc_new (w.alloc (.cells #[.bool q, .bool e, .bool s, .bool i, .string uu, .slice ao c.length cap, .slice ao' n.length cap'] 27)) (.cells zeroA 27)
      simpa using this
    · have := bl_to (bl_alloc (w.alloc (.cells #[.bool q, .bool e, .bool s, .bool i, .string uu, .slice ao c.length cap, .slice ao' n.length cap'] 27)) (.cells zeroA 27)) (bl_alloc _ (.cells #[.bool q, .bool e, .bool s, .bool i, .string uu, .slice none 0 0, .slice none 0 0] 27))
      simpa using this
  have HA : Hid ((w.alloc (.cells #[.bool q, .bool e, .bool s, .bool i, .string uu, .slice ao c.length cap, .slice ao' n.length cap'] 27)).heap[w.heap.size]? = some (.cells #[.bool q, .bool e, .bool s, .bool i, .string uu, .slice ao c.length cap, .slice ao' n.length cap'] 27 (0, 0))) := heap_alloc_new w _
  have HW := Lib.hid (bl_alloc w (.cells #[.bool q, .bool e, .bool s, .bool i, .string uu, .slice ao c.length cap, .slice ao' n.length cap'] 27))
  obtain ⟨i0, hi, hz0, hz1, hz2⟩ := info_parts info45
  obtain ⟨i9, hi9, hz90, hz91, hz92⟩ := info_parts info9
  simp only [zeroA] at H0
  go_enter Try.func12, Try.ntmps12
  go_wp2_with fail
  generalize (w.alloc (.cells #[.bool q, .bool e, .bool s, .bool i, .string uu, .slice ao c.length cap, .slice ao' n.length cap'] 27)) = W1 at *
  go_loopw [4] (fun iv wr => ∃ k : Nat, k ≤ c.length ∧ iv = .int .i64 k ∧ CI W1 (w.heap.size + 1) (w.heap.size + 1 + 1) (w.heap.size + 1) ⟨q, e, s, i, uu, c, n⟩ k 0 wr) (fun iv _ => c.length - (intOf iv).toNat)
  case atStart => exact ⟨0, Nat.zero_le _, rfl, H0.out⟩
  case round =>
    obtain ⟨k, hk, rfl, sv, nv, g1, g2, g3, g4, g5, g6, g7, g8⟩ := hrel
    clear H0
    have hbox := (g5.block w.heap.size (by omega)).trans HA.out
    have hwb := HW.out.trans (g5.mono (by omega))
    have b5 := (blk_at hbox 5 (v := .slice ao c.length cap) rfl).1
    have b6 := (blk_at hbox 6 (v := .slice ao' n.length cap') rfl).1
    by_cases hlt : k < c.length
    · obtain ⟨_, _, e1, hc1⟩ := HS.out
      simp only [Value.slice.injEq, true_and] at e1
      obtain ⟨rfl, rfl⟩ := e1
      obtain ⟨b, off, rfl, hbl, hc⟩ := hc1 (by omega)
      have hce := hc k hlt
      obtain ⟨x, hx⟩ : ∃ x, c[k] = x := ⟨_, rfl⟩
      rw [hx] at hce
      obtain ⟨xb, xt⟩ := x
      simp only at hce
      have G1 := Lib.hid g1
      have G2 := Lib.hid g2
      have G3 := Lib.hid g3
      have G4 := Lib.hid g4
      have G5 := Lib.hid g5
      have HX := Lib.hid hx
      have hwbs := hwb.cell (p := ⟨b, off + k * 2, none⟩) hbl
      have hwbt := hwb.cell (p := ⟨b, off + k * 2 + 1, none⟩) hbl
      have hws := hwb.size
      have hk0 : (0 : Int) ≤ (k : Int) := by omega
      have hk1 : (k : Int) < (c.length : Int) := by omega
      have h63 : k + 1 ≤ maxLen := by unfold maxLen; omega
      have hby : (k + 1) * 24 ≤ 140737488355328 := by omega
      rw [hce.1] at hwbs
      rw [hce.2] at hwbt
      clear hc1 hc hce hx g2 g3 g4 g5
      go_wp2_with fail
      obtain ⟨y5, fy5⟩ := blk_at G1.out 5 (v := sv) rfl
      clear g1
      have ay : sv.ownBlock ≠ some (w.heap.size + 1 + 1) := row_ne G2.out G1.out (by decide)
      have ax : sv.ownBlock ≠ some w.heap.size := fun e => by have := (World.ownsRow.lt G2.out _ e).1; omega
      have ab : sv.ownBlock ≠ some b := fun e => by have := (World.ownsRow.lt G2.out _ e).1; omega
      have ly := lt_of_block G1.out
      have lb : b < wr.heap.size := by omega
      have HF : Hid (∀ {o : Obj} {w2 : World}, (wr.alloc o).drew.grownBy w2 sv.ownBlock → Fr (fun i => sv.ownBlock = some i) wr w2 ∧ w2.heap[w.heap.size + 1 + 1]? = some (.cells #[.bool q, .bool e, .bool s, .bool i, .string uu, sv, nv] 27 (0, 0))) := fun {o w2} hg => by
        have hf : Fr (fun i => sv.ownBlock = some i) wr w2 := (((Fr.refl _ wr).alloc o).drew).trans (Fr.ofGrown hg) (fun i _ hi => hi)
        exact ⟨hf, (hf.block _ ly ay).trans G1.out⟩
      have e5 : ∀ o, (wr.alloc o).cell? ⟨w.heap.size + 1 + 1, 5, none⟩ = some sv := fun o => bl_cell (bl_alloc wr o) y5
      go_region_law
        ((refine step_append_lies _ (by rfl) _ _ _ (by rfl) (w.heap.size + 1) 45 i0 (.agg #[(.bool false), (.string ⟨#[]⟩)]) 2 24 Try.underlying24 hi hz0 hz1 hz2 rfl (by omega) sv k ((c.take k).flatMap pcells) (by rfl) ((G2.out.alloc _).drew) ⟨wr.heap.size, 0, none⟩ 1 1 [.bool xb, .string xt] (by rfl) (by rfl) (World.news_of_block (cs := #[.bool xb, .string xt]) (t := 45) (fr := (0, 0)) (heap_alloc_new wr _)) (by simp [Value.oneCell']) (by omega) h63 hby (by simp; omega) (wr.heap.size + 1) (by simp) ?_; intro g cap2 w2 hown hgrow hat hlt2; obtain ⟨hfr, hy2⟩ := HF.out hgrow; obtain ⟨c5, f5⟩ := blk_at hy2 5 (v := sv) rfl; have HFR := Lib.hid hfr; have HOWN := Lib.hid hown; clear hfr hy2 hown hgrow hat hlt2))
      all_goals
        clear c5 f5 e5
        go_wp2_with fail
        go_roundw
        case rel => exact ⟨k + 1, by omega, by go_num, CI.scr G1.out G2.out G3.out G4.out G5.out g6 g7 g8 hlt HX.out HFR.out HOWN.out⟩
        case measure => simp [intOf]; omega
    · obtain rfl : k = c.length := by omega
      have H2 : Hid (CI W1 (w.heap.size + 1) (w.heap.size + 1 + 1) (w.heap.size + 1) ⟨q, e, s, i, uu, c, n⟩ c.length 0 wr) := ⟨sv, nv, g1, g2, g3, g4, g5, g6, g7, g8⟩
      clear g1 g2 g3 g4 hbox hwb hlt
      have hws := g5.size
      clear g5
      go_wp2_with fail
      obtain ⟨wo, hwo⟩ : ∃ wo : World, wo = wr := ⟨_, rfl⟩
      rw [← hwo] at H2 ⊢
      clear hwo b5 b6 hws
      go_loopw [5] (fun iv wr => ∃ k : Nat, k ≤ n.length ∧ iv = .int .i64 k ∧ CI W1 (w.heap.size + 1) (w.heap.size + 1 + 1) (w.heap.size + 1) ⟨q, e, s, i, uu, c, n⟩ c.length k wr) (fun iv _ => n.length - (intOf iv).toNat)
      case atStart => exact ⟨0, Nat.zero_le _, rfl, H2.out⟩
      case round =>
        clear H2
        obtain ⟨k, hk, rfl, sv, nv, g1, g2, g3, g4, g5, g6, g7, g8⟩ := hrel
        have hbox := (g5.block w.heap.size (by omega)).trans HA.out
        have hwb := HW.out.trans (g5.mono (by omega))
        have b6 := (blk_at hbox 6 (v := .slice ao' n.length cap') rfl).1
        by_cases hlt : k < n.length
        · obtain ⟨_, _, e1, hc1⟩ := HN.out
          simp only [Value.slice.injEq, true_and] at e1
          obtain ⟨rfl, rfl⟩ := e1
          obtain ⟨b, off, rfl, hbl, hc⟩ := hc1 (by omega)
          have hce := hc k hlt
          obtain ⟨xt, hx⟩ : ∃ x, n[k] = x := ⟨_, rfl⟩
          rw [hx] at hce
          have G1 := Lib.hid g1
          have G2 := Lib.hid g2
          have G3 := Lib.hid g3
          have G4 := Lib.hid g4
          have G5 := Lib.hid g5
          have HX := Lib.hid hx
          have hwbt := hwb.cell (p := ⟨b, off + k, none⟩) hbl
          have hws := hwb.size
          have hk0 : (0 : Int) ≤ (k : Int) := by omega
          have hk1 : (k : Int) < (n.length : Int) := by omega
          have h63 : k + 1 ≤ maxLen := by unfold maxLen; omega
          have hby : (k + 1) * 16 ≤ 140737488355328 := by omega
          rw [hce] at hwbt
          clear hc1 hc hce hx g2 g3 g4 g5
          go_wp2_with fail
          obtain ⟨y5, fy5⟩ := blk_at G1.out 6 (v := nv) rfl
          clear g1
          have ay : nv.ownBlock ≠ some (w.heap.size + 1 + 1) := row_ne G3.out G1.out (by decide)
          have ly := lt_of_block G1.out
          have HF : Hid (∀ {o : Obj} {w2 : World}, (wr.alloc o).drew.grownBy w2 nv.ownBlock → Fr (fun i => nv.ownBlock = some i) wr w2 ∧ w2.heap[w.heap.size + 1 + 1]? = some (.cells #[.bool q, .bool e, .bool s, .bool i, .string uu, sv, nv] 27 (0, 0))) := fun {o w2} hg => by
            have hf : Fr (fun i => nv.ownBlock = some i) wr w2 := (((Fr.refl _ wr).alloc o).drew).trans (Fr.ofGrown hg) (fun i _ hi => hi)
            exact ⟨hf, (hf.block _ ly ay).trans G1.out⟩
          have e5 : ∀ o, (wr.alloc o).cell? ⟨w.heap.size + 1 + 1, 6, none⟩ = some nv := fun o => bl_cell (bl_alloc wr o) y5
          go_region_law
            ((refine step_append_lies _ (by rfl) _ _ _ (by rfl) (w.heap.size + 1) 9 i9 (.string ⟨#[]⟩) 1 16 Try.underlying25 hi9 hz90 hz91 hz92 rfl (by omega) nv k ((n.take k).map Value.string) (by rfl) ((G3.out.alloc _).drew) ⟨wr.heap.size, 0, none⟩ 1 1 [.string xt] (by rfl) (by rfl) (World.news_of_block (cs := #[.string xt]) (t := 9) (fr := (0, 0)) (heap_alloc_new wr _)) (by simp [Value.oneCell']) (by omega) h63 hby (by simp; omega) (wr.heap.size + 1) (by simp) ?_; intro g cap2 w2 hown hgrow hat hlt2; obtain ⟨hfr, hy2⟩ := HF.out hgrow; obtain ⟨c5, f5⟩ := blk_at hy2 6 (v := nv) rfl; have HFR := Lib.hid hfr; have HOWN := Lib.hid hown; clear hfr hy2 hown hgrow hat hlt2))
          all_goals
            clear c5 f5 e5
            go_wp2_with fail
            go_roundw
            case rel => exact ⟨k + 1, by omega, by go_num, CI.nam G1.out G2.out G3.out G4.out G5.out g6 g7 g8 hlt HX.out HFR.out HOWN.out⟩
            case measure => simp [intOf]; omega
        · obtain rfl : k = n.length := by omega
          have hnil1 : c.take c.length = c := List.take_of_length_le (Nat.le_refl _)
          have hnil2 : n.take n.length = n := List.take_of_length_le (Nat.le_refl _)
          simp only at g2 g3
          rw [hnil1] at g2
          rw [hnil2] at g3
          obtain ⟨so, sc, rfl⟩ := row_slice g2
          obtain ⟨no, nc, rfl⟩ := row_slice g3
          have G1 := Lib.hid g1
          have G2 := Lib.hid g2
          have G3 := Lib.hid g3
          have G4 := Lib.hid g4
          have HWB := Lib.hid hwb
          clear hnil1 hnil2 g2 g3 g5 hwb hbox
          obtain ⟨z0, f0⟩ := blk_at g4 0 (v := .bool false) rfl
          obtain ⟨z1, f1⟩ := blk_at g4 1 (v := .bool false) rfl
          obtain ⟨z2, f2⟩ := blk_at g4 2 (v := .bool false) rfl
          obtain ⟨z3, f3⟩ := blk_at g4 3 (v := .bool false) rfl
          obtain ⟨z4, f4⟩ := blk_at g4 4 (v := .string ⟨#[]⟩) rfl
          obtain ⟨z5, f5⟩ := blk_at g4 5 (v := .slice none 0 0) rfl
          obtain ⟨z6, f6⟩ := blk_at g4 6 (v := .slice none 0 0) rfl
          have y0 := (blk_at g1 0 (v := .bool q) rfl).1
          have y1 := (blk_at g1 1 (v := .bool e) rfl).1
          have y2 := (blk_at g1 2 (v := .bool s) rfl).1
          have y3 := (blk_at g1 3 (v := .bool i) rfl).1
          have y4 := (blk_at g1 4 (v := .string uu) rfl).1
          have y5 := (blk_at g1 5 rfl).1
          have y6 := (blk_at g1 6 rfl).1
          clear g1 g4
          go_wp2_with fail
          refine bodyPost_ret (v := .agg #[.bool q, .bool e, .bool s, .bool i, .string uu, .slice so c.length sc, .slice no n.length nc]) (by simp [results, Try.results12, go_sem, z0, z1, z2, z3, z4, z5, z6]) rfl ?_
          have hf := (((((((Fr.refl (fun i => i = w.heap.size + 1) wr).setCell (p := ⟨w.heap.size + 1, 0, none⟩) rfl (.bool q)).setCell (p := ⟨w.heap.size + 1, 1, none⟩) rfl (.bool e)).setCell (p := ⟨w.heap.size + 1, 2, none⟩) rfl (.bool s)).setCell (p := ⟨w.heap.size + 1, 3, none⟩) rfl (.bool i)).setCell (p := ⟨w.heap.size + 1, 4, none⟩) rfl (.string uu)).setCell (p := ⟨w.heap.size + 1, 5, none⟩) rfl (.slice so c.length sc)).setCell (p := ⟨w.heap.size + 1, 6, none⟩) rfl (.slice no n.length nc)
          have r2 := (row_fr hf G2.out (fun g hg e => by subst e; exact row_ne G2.out G4.out (by decide) hg))
          have r3 := (row_fr hf G3.out (fun g hg e => by subst e; exact row_ne G3.out G4.out (by decide) hg))
          exact ⟨_, _, rfl, row_base r2 (by omega), row_base r3 (by omega), HWB.out.trans (hf.toBelow HWB.out.size (fun i _ h => by omega))⟩
end Go.Proofs.Ytbigolappdlhcaa
