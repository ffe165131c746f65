/- What is turned behind the readings. -/
import Derived.Test.YtbigolappdlhcaaZG
import Derived.Laws.OwnMore
import Derived.Deep.AppendLies
namespace Go.Proofs.Ytbigolappdlhcaa
set_option linter.unusedSimpArgs false
set_option linter.unusedVariables false
open Go.RowKit Go.Deep Go.ChangeShapes Go.WideShapes

section
variable {w : World}
/-- Texts behind a row of one's own, as many as came in. -/
theorem wpList_append_textsG {ops : Array Oper} {rest : List Oper} {o : Oper} {a : Act} {Q : Exit → Act → World → Prop} (hgd : o.guard = none) (s x : Operand)
    (ho : o.op = .call { callee := .builtin .append, args := #[s, x], argTypes := #[25, 25] }) (base : Nat) (v : Value) (l : List ByteArray) (hs : a.eval s = v) (hown : Out w base v l)
    (xv : Value) (m : List ByteArray) (hx : a.eval x = xv) (hT : Tz w xv m) (hlm : (l.length + m.length) * 16 ≤ 140737488355328) (hbase : base ≤ w.heap.size)
    (h : ∀ v' w', Out w' base v' (l ++ m) → Below base w w' → wpList Try.prog ops Q rest (a.put o.dst v') w') : wpList Try.prog ops Q (o :: rest) a w := by
  obtain ⟨i9, hi9, hz90, hz91, hz92⟩ := info_parts info9
  obtain ⟨ao, cap, rfl, hc⟩ := hT.tx
  have hfit := hT.le _ _ _ rfl
  cases ao with
  | none =>
    have h0 := hfit.2 rfl
    have hm0 : m = [] := List.length_eq_zero_iff.1 (by omega)
    subst h0 hm0
    refine wpList_append_own_none hgd s x 25 ho base 9 i9 1 Try.underlying25 hi9 v l.length (l.map Value.string) hs hown hx (h v w ?_ (Below.refl _ _))
    rw [List.append_nil]; exact hown
  | some ad =>
    refine wpList_append_own _ hgd s x 25 ho base 9 i9 (.string ⟨#[]⟩) 1 16 Try.underlying25 hi9 hz90 hz91 hz92 rfl (by decide) v l.length (l.map Value.string) hs hown ad m.length cap (m.map Value.string) hx (by simp) ?_ (by intro u hu; simp at hu; obtain ⟨x, _, rfl⟩ := hu; rfl) (by unfold maxLen; omega) hlm hbase ?_
    · intro j u hu
      have hj : j < m.length := by
        have := (List.getElem?_eq_some_iff.1 hu).1
        simpa using this
      obtain ⟨b, off, hh, hbl, hcc⟩ := hc (by omega)
      simp only [Option.some.injEq] at hh
      subst hh
      have hadd : (⟨b, off, none⟩ : Addr).add j = ⟨b, off + j, none⟩ := by unfold Addr.add; split <;> simp_all
      rw [hadd, hcc j hj, ← hu]
      simp [hj]
    · intro v' w' h1 h2 _
      refine h v' w' (Out.more (by simp) h1) ?_
      exact (Fr.ofGrown h2).toBelow hbase (fun i _ hi => (World.ownsRow.lt hown i hi).1)
end

section
variable {H : Type} {enc : TypeId × Value → H} {w : World} {base : Nat} {spare : Nat → Bool} {held : Bool}
theorem open_listR {v : Value} {d : DataW H} {p : List MemPlace} (h : DataW.Trod enc Try.prog w base spare held 25 v d p) (hsz : ∀ n ∈ d.weights Try.prog 25, n ≤ reachBytes) (hv : ∃ a0 len cap, v = .slice a0 len cap) :
    ∃ l : List ByteArray, Ls w v l ∧ l.length * 16 ≤ 140737488351232 := by
  obtain ⟨l, hl⟩ := open_list h hsz hv
  refine ⟨l, hl, ?_⟩
  obtain ⟨a0, len, cap, rfl⟩ := hv
  obtain ⟨l', hr, hall, hd⟩ := rd_of_trod (v := .slice a0 len cap) (d := d) (p := p) Try.underlying25 c9 (by omega) (fun t => [Value.string t]) strDat (fun t => t.size ≤ maxLen) (fun _ => rfl) str_el ⟨_, _, _, rfl⟩ h
  have h2 : reachBytes = 140737488351232 := rfl
  rw [h2] at hsz
  have e : l.length = l'.length := by
    obtain ⟨_, _, e1, _⟩ := hl.tz.tx
    obtain ⟨_, _, _, e2, _⟩ := hr
    simp only [Value.slice.injEq] at e1 e2
    omega
  rw [e]
  rcases hd with ⟨_, rfl⟩ | ⟨sp, rfl⟩
  · simp
  · have := hsz (((l'.map (strDat (H := H))).length + sp.length) * Try.prog.bytesOf 9) (by simp [DataW.weights, Try.underlying25])
    rw [b9, List.length_map] at this
    omega
end

theorem Bx.frm {S : Nat → Prop} {w w' : World} {base B : Nat} {a : Av} {so : Option Addr} {sc : Nat} {no : Option Addr} {nc : Nat} (h : Bx w base B a so sc no nc) (hf : Fr S w w') (hS : ∀ i, S i → i < base) (hB : base ≤ B) : Bx w' base B a so sc no nc :=
  ⟨(hf.block _ (lt_of_block h.blk) (fun e => by have := hS _ e; omega)).trans h.blk, row_fr hf h.r1 (fun g hg e => by have := hS _ e; have := (World.ownsRow.lt h.r1 g hg).1; omega), row_fr hf h.r2 (fun g hg e => by have := hS _ e; have := (World.ownsRow.lt h.r2 g hg).1; omega)⟩
/-- The state while the first answer's lists, and the written arguments, are turned. -/
structure IV (wp : World) (A1 Ba : Nat) (a : Av) (so : Option Addr) (sc : Nat) (no : Option Addr) (nc : Nat) (co : Option Addr) (p cc : Nat) (w : World) : Prop where
  fr : Fr (fun i => (A1 ≤ i ∧ i ≤ Ba) ∨ wp.heap.size ≤ i) wp w
  box : w.heap[Ba]? = some (.cells (a.cells (.slice so a.scr.length sc) (.slice no a.nam.length nc)) 27 (0, 0))
  r1 : ∃ xs, w.ownsRow A1 45 2 (.slice so a.scr.length sc) a.scr.length xs
  r2 : ∃ xs, w.ownsRow A1 9 1 (.slice no a.nam.length nc) a.nam.length xs
  r3 : ∃ xs, w.ownsRow wp.heap.size 9 1 (.slice co p cc) p xs
  l1 : ∀ g, (Value.slice so a.scr.length sc).ownBlock = some g → g < Ba
  l2 : ∀ g, (Value.slice no a.nam.length nc).ownBlock = some g → g < Ba
  la : A1 ≤ Ba
  lb : Ba < wp.heap.size

section
variable {wp w : World} {A1 Ba : Nat} {a : Av} {so : Option Addr} {sc : Nat} {no : Option Addr} {nc : Nat} {co : Option Addr} {p cc : Nat}
theorem IV.lt1 (h : IV wp A1 Ba a so sc no nc co p cc w) {g : Nat} (hg : (Value.slice so a.scr.length sc).ownBlock = some g) : A1 ≤ g ∧ g < Ba := by
  obtain ⟨xs, hr⟩ := h.r1
  exact ⟨(World.ownsRow.lt hr g hg).1, h.l1 g hg⟩
theorem IV.lt2 (h : IV wp A1 Ba a so sc no nc co p cc w) {g : Nat} (hg : (Value.slice no a.nam.length nc).ownBlock = some g) : A1 ≤ g ∧ g < Ba := by
  obtain ⟨xs, hr⟩ := h.r2
  exact ⟨(World.ownsRow.lt hr g hg).1, h.l2 g hg⟩
theorem IV.lt3 (h : IV wp A1 Ba a so sc no nc co p cc w) {g : Nat} (hg : (Value.slice co p cc).ownBlock = some g) : wp.heap.size ≤ g := by
  obtain ⟨xs, hr⟩ := h.r3
  exact (World.ownsRow.lt hr g hg).1
theorem IV.ne12 (h : IV wp A1 Ba a so sc no nc co p cc w) {g : Nat} (h1 : (Value.slice so a.scr.length sc).ownBlock = some g) : (Value.slice no a.nam.length nc).ownBlock ≠ some g := by
  obtain ⟨xs, hr⟩ := h.r1
  obtain ⟨ys, hs⟩ := h.r2
  exact row_ne2 hs hr (by decide) h1

theorem IV.store1 (h : IV wp A1 Ba a so sc no nc co p cc w) {g : Nat} (hg : so = some ⟨g, 0, none⟩) (j : Nat) (hj : j < a.scr.length * 2) (u : Value) : IV wp A1 Ba a so sc no nc co p cc (w.setCell ⟨g, j, none⟩ u) := by
  subst hg
  have hl := h.lt1 (g := g) rfl
  have hlb := h.lb
  have hf : Fr (fun i => i = g) w (w.setCell ⟨g, j, none⟩ u) := (Fr.refl (fun i => i = g) w).setCell (p := ⟨g, j, none⟩) rfl u
  obtain ⟨xs, hr1⟩ := h.r1
  obtain ⟨ys, hr2⟩ := h.r2
  obtain ⟨zs, hr3⟩ := h.r3
  refine ⟨h.fr.setCell (p := ⟨g, j, none⟩) (.inl ⟨hl.1, by show g ≤ Ba; omega⟩) u, ?_, ⟨_, (hr1.stored j u).1⟩, ⟨ys, ?_⟩, ⟨zs, ?_⟩, h.l1, h.l2, h.la, h.lb⟩
  · exact (heap_setCell_ne w _ u Ba (by show Ba ≠ g; omega)).trans h.box
  · exact row_fr hf hr2 (fun k hk e => h.ne12 (g := g) rfl (by rw [hk]; exact congrArg some e))
  · exact row_fr hf hr3 (fun k hk e => by have := h.lt3 hk; have e' : k = g := e; omega)
theorem IV.store2 (h : IV wp A1 Ba a so sc no nc co p cc w) {g : Nat} (hg : no = some ⟨g, 0, none⟩) (j : Nat) (hj : j < a.nam.length * 1) (u : Value) : IV wp A1 Ba a so sc no nc co p cc (w.setCell ⟨g, j, none⟩ u) := by
  subst hg
  have hl := h.lt2 (g := g) rfl
  have hlb := h.lb
  have hf : Fr (fun i => i = g) w (w.setCell ⟨g, j, none⟩ u) := (Fr.refl (fun i => i = g) w).setCell (p := ⟨g, j, none⟩) rfl u
  obtain ⟨xs, hr1⟩ := h.r1
  obtain ⟨ys, hr2⟩ := h.r2
  obtain ⟨zs, hr3⟩ := h.r3
  refine ⟨h.fr.setCell (p := ⟨g, j, none⟩) (.inl ⟨hl.1, by show g ≤ Ba; omega⟩) u, ?_, ⟨xs, ?_⟩, ⟨_, (hr2.stored j u).1⟩, ⟨zs, ?_⟩, h.l1, h.l2, h.la, h.lb⟩
  · exact (heap_setCell_ne w _ u Ba (by show Ba ≠ g; omega)).trans h.box
  · exact row_fr hf hr1 (fun k hk e => h.ne12 hk (by rw [show k = g from e]; rfl))
  · exact row_fr hf hr3 (fun k hk e => by have := h.lt3 hk; have e' : k = g := e; omega)
theorem IV.store3 (h : IV wp A1 Ba a so sc no nc co p cc w) {g : Nat} (hg : co = some ⟨g, 0, none⟩) (j : Nat) (hj : j < p * 1) (u : Value) : IV wp A1 Ba a so sc no nc co p cc (w.setCell ⟨g, j, none⟩ u) := by
  subst hg
  have hl := h.lt3 (g := g) rfl
  have hlb := h.lb
  have hf : Fr (fun i => i = g) w (w.setCell ⟨g, j, none⟩ u) := (Fr.refl (fun i => i = g) w).setCell (p := ⟨g, j, none⟩) rfl u
  obtain ⟨xs, hr1⟩ := h.r1
  obtain ⟨ys, hr2⟩ := h.r2
  obtain ⟨zs, hr3⟩ := h.r3
  refine ⟨h.fr.setCell (p := ⟨g, j, none⟩) (.inr hl) u, ?_, ⟨xs, ?_⟩, ⟨ys, ?_⟩, ⟨_, (hr3.stored j u).1⟩, h.l1, h.l2, h.la, h.lb⟩
  · exact (heap_setCell_ne w _ u Ba (by show Ba ≠ g; omega)).trans h.box
  · exact row_fr hf hr1 (fun k hk e => by have := h.lt1 hk; have e' : k = g := e; omega)
  · exact row_fr hf hr2 (fun k hk e => by have := h.lt2 hk; have e' : k = g := e; omega)
theorem IV.to {w' : World} (h : IV wp A1 Ba a so sc no nc co p cc w) (hb : Below w.heap.size w w') : IV wp A1 Ba a so sc no nc co p cc w' := by
  obtain ⟨xs, hr1⟩ := h.r1
  obtain ⟨ys, hr2⟩ := h.r2
  obtain ⟨zs, hr3⟩ := h.r3
  exact ⟨h.fr.trans (Fr.ofBelow (fun _ => False) hb) (fun _ _ hs => hs.elim), (hb.block _ (lt_of_block h.box)).trans h.box, ⟨xs, row_to hb hr1⟩, ⟨ys, row_to hb hr2⟩, ⟨zs, row_to hb hr3⟩, h.l1, h.l2, h.la, h.lb⟩
end
end Go.Proofs.Ytbigolappdlhcaa
