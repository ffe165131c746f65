/- The map of the classes: its region, in whatever order (printed by genCC.py). -/
import Derived.Test.YtlhppbendpnkeaaGreatDoorMG
import Derived.Great.BuildSlice
namespace Go.Proofs.YtlhppbendpnkeaaGreatDoor
set_option linter.unusedSimpArgs false
set_option linter.unusedVariables false
open Go.RowKit

def slT : List Nat := [17, 18, 60, 19, 61, 20, 62, 21, 63, 22, 64, 23, 24, 25, 26, 27, 65, 28, 29, 30, 66, 31, 32, 33, 34, 67, 35, 36, 37, 38, 68, 39, 69, 40, 70, 41, 42, 43, 44, 71, 45, 0]
def clT : List Nat := [3, 0, 4, 0, 4, 0, 4, 0, 4, 1, 4, 0, 0, 0, 0, 0, 4, 2, 2, 0, 4, 0, 2, 0, 0, 4, 0, 2, 0, 0, 4, 0, 4, 0, 4, 0, 0, 0, 0, 4, 3, 3]
def sl (i : Nat) : Nat := slT.getD i 99
def cl (i : Nat) : Nat := clT.getD i 4
/-- What a slot holds, by its kind: a set; the set al; a row of bytes; the map. -/
def OkV (al : Nat → Bool) (N : Nat) (c : Nat) (v : Value) (w : World) : Prop := match c with
  | 0 => ∃ f, v = .agg (setC f)
  | 1 => v = .agg (setC al)
  | 2 => ∃ (b : Nat) (l : Bs) (fr : Nat × Nat), v = .slice (some ⟨b, 0, none⟩) l.length l.length ∧ l.length ≤ 2 ∧ N ≤ b ∧ w.heap[b]? = some (.cells (l.map fun c => Value.int .u8 (c.toNat : Int)).toArray 5 fr)
  | 3 => ∃ B es ck, v = .map (some B) ∧ N ≤ B ∧ w.heap[B]? = some (.map es ck) ∧ MapOk al es
  | _ => True
/-- Rows keep what they hold, maps what may be said of them. -/
structure Gr (al : Nat → Bool) (w w' : World) : Prop where
  row : ∀ (k : Nat) C t fr, w.heap[k]? = some (.cells C t fr) → ∃ fr', w'.heap[k]? = some (.cells C t fr')
  map : ∀ (k : Nat) es ck, w.heap[k]? = some (.map es ck) → MapOk al es → ∃ es' ck', w'.heap[k]? = some (.map es' ck') ∧ MapOk al es'
theorem Gr.ofBelow {al : Nat → Bool} {w w' : World} (h : Below w.heap.size w w') : Gr al w w' :=
  ⟨fun k C t fr hk => ⟨fr, blk_below hk h (blk_lt hk)⟩, fun k es ck hk ho => ⟨es, ck, blk_below hk h (blk_lt hk), ho⟩⟩
theorem OkV.gr {al : Nat → Bool} {N c : Nat} {v : Value} {w w' : World} (h : OkV al N c v w) (g : Gr al w w') : OkV al N c v w' := by
  match c, h with
  | 0, h => exact h
  | 1, h => exact h
  | 2, ⟨b, l, fr, h1, h2, h3, h4⟩ => obtain ⟨fr', h5⟩ := g.row _ _ _ _ h4; exact ⟨b, l, fr', h1, h2, h3, h5⟩
  | 3, ⟨B, es, ck, h1, h2, h3, h4⟩ => obtain ⟨es', ck', h5, h6⟩ := g.map _ _ _ h3 h4; exact ⟨B, es', ck', h1, h2, h5, h6⟩
  | _ + 4, _ => exact trivial
/-- What holds between the operations. -/
structure CI (W0 : World) (al : Nat → Bool) (p : Nat → Nat) (F : Nat → Nat → Bool) (listed : Array Bool) (a : Act) (w : World) : Prop where
  size : a.tmps.size = 46
  defers : a.defers = []
  ptr : ∀ k, 1 ≤ k → k ≤ 6 → a.tmps.getD k undef = .pointer (some ⟨p k, 0, none⟩) ∧ W0.heap[p k]? = some (.cells (setC (F k)) 24 (0, 0))
  below : Below W0.heap.size W0 w
  v : ∀ i, i < 42 → listed.getD i false = true → OkV al W0.heap.size (cl i) (a.tmps.getD (sl i) undef) w
section
variable {W0 : World} {al : Nat → Bool} {p : Nat → Nat} {F : Nat → Nat → Bool} {listed : Array Bool} {a : Act} {w w' : World}
theorem getD_put (xs : Array Value) (t k : Nat) (v : Value) (ht : t < xs.size) : (xs.setIfInBounds t v).getD k undef = if k = t then v else xs.getD k undef := by
  by_cases h : k = t
  · subst h; simp [ht]
  · rw [if_neg h]; simp [Array.getElem?_setIfInBounds, Ne.symm h]
theorem listed_set {i j : Nat} (h : (listed.setIfInBounds i true).getD j false = true) : j = i ∨ listed.getD j false = true := by
  by_cases e : j = i
  · exact .inl e
  · right
    simpa [Array.getElem?_setIfInBounds, Ne.symm e] using h
theorem CI.blk (h : CI W0 al p F listed a w) (k : Nat) (h1 : 1 ≤ k) (h2 : k ≤ 6) : w.heap[p k]? = some (.cells (setC (F k)) 24 (0, 0)) := blk_below (h.ptr k h1 h2).2 h.below (blk_lt (h.ptr k h1 h2).2)
theorem CI.step (h : CI W0 al p F listed a w) {i : Nat} (t : Nat) (ht : sl i = t) (h46 : t < 46) (h6 : t = 0 ∨ 6 < t) (hinj : ∀ j, j < 42 → j ≠ i → sl j ≠ t) {v : Value} (hb : Below W0.heap.size w w') (hg : Gr al w w') (hv : OkV al W0.heap.size (cl i) v w') :
    CI W0 al p F (listed.setIfInBounds i true) (a.put (some t) v) w' := by
  refine ⟨by simp [Act.put, h.size], h.defers, fun k h1 h2 => ⟨?_, (h.ptr k h1 h2).2⟩, h.below.trans hb, fun j hj hl => ?_⟩
  · show (a.tmps.setIfInBounds t v).getD k undef = _
    rw [getD_put _ _ _ _ (by rw [h.size]; exact h46), if_neg (by omega)]; exact (h.ptr k h1 h2).1
  · show OkV _ _ _ ((a.tmps.setIfInBounds t v).getD (sl j) undef) _
    rw [getD_put _ _ _ _ (by rw [h.size]; exact h46)]
    by_cases e : j = i
    · subst e; rw [if_pos ht]; exact hv
    · rw [if_neg (hinj j hj e)]
      exact (h.v j hj ((listed_set hl).resolve_left e)).gr hg
theorem CI.value (h : CI W0 al p F listed a w) {i : Nat} (t : Nat) (ht : sl i = t) (h46 : t < 46) (h6 : t = 0 ∨ 6 < t) (hinj : ∀ j, j < 42 → j ≠ i → sl j ≠ t) {v : Value} (hb : Below w.heap.size w w') (hv : OkV al W0.heap.size (cl i) v w') :
    CI W0 al p F (listed.setIfInBounds i true) (a.put (some t) v) w' := h.step t ht h46 h6 hinj (hb.mono h.below.size) (Gr.ofBelow hb) hv
theorem CI.skip (h : CI W0 al p F listed a w) {i : Nat} (hc : cl i = 4) (hb : Below W0.heap.size w w') (hg : Gr al w w') : CI W0 al p F (listed.setIfInBounds i true) (a.put none undef) w' := by
  refine ⟨h.size, h.defers, h.ptr, h.below.trans hb, fun j hj hl => ?_⟩
  by_cases e : j = i
  · subst e; rw [hc]; exact trivial
  · exact (h.v j hj ((listed_set hl).resolve_left e)).gr hg
theorem CI.get {ops : Array Oper} (h : CI W0 al p F listed a w) {i : Nat} (hr : i ∈ Region.ready .any ops listed) (j : Nat) (hj : j < 42) (hd : depB .any ops i j = true) : OkV al W0.heap.size (cl j) (a.tmps.getD (sl j) undef) w :=
  h.v j hj (ready_dep hr hd)
/-- A pair laid into the map. -/
theorem CI.insert {Q : Exit → Act → World → Prop} (h : CI W0 al p F listed a w) {i : Nat} {o : Oper} (s : ByteArray) (x : Nat) (hc : cl i = 4) (ho : o.op = .insert 144 (.tmp 17) (.const (.string s)) (.tmp x)) (hd : o.dst = none)
    (hm : OkV al W0.heap.size 3 (a.tmps.getD 17 undef) w) (f : Nat → Bool) (hv : a.tmps.getD x undef = .agg (setC f)) (hs : s = alnumS → setC f = setC al) :
    o.wp Tryz.prog a w (fun a' w' => CI W0 al p F (listed.setIfInBounds i true) a' w') Q := by
  obtain ⟨B, es, ck, h1, h2, h3, h4⟩ := hm
  obtain ⟨es', ck', hr, hok⟩ := run_insert (f := f) s h3 h4 hs
  refine wp_insertf 144 (.tmp 17) (.const (.string s)) (.tmp x) (w' := { w with heap := w.heap.setIfInBounds B (.map es' ck') }) ho ?_ ?_
  · simp only [Act.eval, h1, hv]; exact hr
  · rw [hd]
    obtain ⟨k1, k2⟩ := MapKept.heap_set (o' := .map es' ck') h3
    refine h.skip hc ⟨rfl, rfl, rfl, by simp, fun k hk => k2 k (by omega)⟩ ⟨fun k C t fr hk => ⟨fr, (k2 k (fun e => by rw [e, h3] at hk; cases hk)).trans hk⟩, fun k es0 ck0 hk ho => ?_⟩
    by_cases e : k = B
    · subst e; exact ⟨es', ck', k1, hok⟩
    · exact ⟨es0, ck0, (k2 k e).trans hk, ho⟩
end
theorem inj_sl (i t : Nat) (h : (List.range 42).all (fun j => decide (j = i) || decide (sl j ≠ t)) = true) : ∀ j, j < 42 → j ≠ i → sl j ≠ t := by
  intro j hj hne
  have := List.all_eq_true.1 h j (by simpa using hj)
  simp only [Bool.or_eq_true, decide_eq_true_eq] at this
  exact this.resolve_left hne
theorem cf92 (vs : Array Value) (W : World) : (callFunc 92 vs).run Tryz.prog W = .ok (.enter 92 vs) W := by kernel_rfl
theorem cf93 (vs : Array Value) (W : World) : (callFunc 93 vs).run Tryz.prog W = .ok (.enter 93 vs) W := by kernel_rfl
theorem cf77 (vs : Array Value) (W : World) : (callFunc 77 vs).run Tryz.prog W = .ok (.enter 77 vs) W := by kernel_rfl
theorem cf11 (vs : Array Value) (W : World) : (callFunc 11 vs).run Tryz.prog W = .ok (.enter 11 vs) W := by kernel_rfl
theorem cf113 (vs : Array Value) (W : World) : (callFunc 113 vs).run Tryz.prog W = .ok (.enter 113 vs) W := by kernel_rfl
theorem conv_mark {w : World} {b n c : Nat} {C : Array Value} {e : TypeId} {fr : Nat × Nat} (hb : w.heap[b]? = some (.cells C e fr)) :
    ∃ fr', (convert 44 44 (.slice (some ⟨b, 0, none⟩) n c)).run Tryz.prog w = .ok (.slice (some ⟨b, 0, none⟩) n c) { w with heap := w.heap.setIfInBounds b (.cells C e fr') } := by
  have hsh : w.shape? b = some (e, C.size) := by unfold World.shape?; rw [hb]
  obtain ⟨lo, hi⟩ := fr
  refine ⟨if lo == hi then (C.size, C.size + 1) else (min lo C.size, max hi (C.size + 1)), ?_⟩
  have hfr : w.freeze ⟨b, C.size, none⟩ 1 = { w with heap := w.heap.setIfInBounds b (.cells C e (if lo == hi then (C.size, C.size + 1) else (min lo C.size, max hi (C.size + 1)))) } := by
    unfold World.freeze
    rw [if_neg (by decide)]
    congr 1
    apply Array.ext
    · simp
    · intro k h1 h2
      simp only [Array.getElem_modify, Array.getElem_setIfInBounds]
      by_cases hk : b = k
      · subst hk
        have : w.heap[b]'(by simpa using h1) = .cells C e (lo, hi) := (Array.getElem?_eq_some_iff.1 hb).2
        simp [this]
      · simp only [hk, if_false]
        exact (Array.getElem_setIfInBounds_ne (by simpa using h1) hk).symm
  simp [convert, run_underlying Tryz.underlying44, run_underlying Tryz.underlying5, markStringish, hsh]
  simpa using hfr
theorem info5' : (Tryz.prog.info? 5).map (fun i => (i.zero, i.size)) = some (some (.int .u8 0), 1) := by kernel_rfl
theorem bs_one (c : Int) (W : World) : (Instr.buildSlice 44 1 #[(0, .int .u8 c)]).run Tryz.prog W = .ok (.slice (some ⟨W.heap.size, 0, none⟩) 1 1) (W.alloc (.cells #[.int .u8 c] 5)) := by
  have h := info5'
  cases hi : Tryz.prog.info? 5 with
  | none => rw [hi] at h; cases h
  | some ie =>
    rw [hi] at h
    simp only [Option.map_some, Option.some.injEq, Prod.mk.injEq] at h
    exact Go.run_buildSlice W 44 5 1 _ _ ie (.int .u8 0) Tryz.underlying44 hi h.1 (by rw [h.2]; decide) (by rw [h.2]; decide) (by rw [h.2]; kernel_rfl)
theorem bs_two (c d : Int) (W : World) : (Instr.buildSlice 44 2 #[(0, .int .u8 c), (1, .int .u8 d)]).run Tryz.prog W = .ok (.slice (some ⟨W.heap.size, 0, none⟩) 2 2) (W.alloc (.cells #[.int .u8 c, .int .u8 d] 5)) := by
  have h := info5'
  cases hi : Tryz.prog.info? 5 with
  | none => rw [hi] at h; cases h
  | some ie =>
    rw [hi] at h
    simp only [Option.map_some, Option.some.injEq, Prod.mk.injEq] at h
    exact Go.run_buildSlice W 44 5 2 _ _ ie (.int .u8 0) Tryz.underlying44 hi h.1 (by rw [h.2]; decide) (by rw [h.2]; decide) (by rw [h.2]; kernel_rfl)
theorem CI.conv {W0 : World} {al : Nat → Bool} {p : Nat → Nat} {F : Nat → Nat → Bool} {listed : Array Bool} {a : Act} {w : World} {Q : Exit → Act → World → Prop} (h : CI W0 al p F listed a w) {i : Nat} {o : Oper} (x t : Nat) (ho : o.op = .convert 44 44 (.tmp x)) (hd : o.dst = some t)
    (ht : sl i = t) (h46 : t < 46) (h6 : t = 0 ∨ 6 < t) (hinj : ∀ j, j < 42 → j ≠ i → sl j ≠ t) (hc : cl i = 2) (hm : OkV al W0.heap.size 2 (a.tmps.getD x undef) w) :
    o.wp Tryz.prog a w (fun a' w' => CI W0 al p F (listed.setIfInBounds i true) a' w') Q := by
  obtain ⟨b, l, fr, h1, h2, h3, h4⟩ := hm
  obtain ⟨fr', hr⟩ := conv_mark (n := l.length) (c := l.length) h4
  obtain ⟨k1, k2⟩ := MapKept.heap_set (o' := .cells (l.map fun c => Value.int .u8 (c.toNat : Int)).toArray 5 fr') h4
  refine wp_convertf 44 44 (.tmp x) ho (by simp only [Act.eval, h1]; exact hr) ?_
  rw [hd]
  refine h.step t ht h46 h6 hinj ⟨rfl, rfl, rfl, by simp, fun k hk => k2 k (by omega)⟩ ⟨fun k C t' fr0 hk => ?_, fun k es ck hk ho => ⟨es, ck, (k2 k (fun e => by rw [e, h4] at hk; cases hk)).trans hk, ho⟩⟩ ?_
  · by_cases e : k = b
    · subst e
      rw [h4] at hk
      simp only [Option.some.injEq, Obj.cells.injEq] at hk
      obtain ⟨rfl, rfl, _⟩ := hk
      exact ⟨fr', k1⟩
    · exact ⟨fr0, (k2 k e).trans hk⟩
  · rw [hc]; exact ⟨b, l, fr', rfl, h2, h3, k1⟩
theorem ready_lt {ops : Array Oper} {md : Region.Mode} {listed : Array Bool} {i : Nat} (h : i ∈ Region.ready md ops listed) : i < ops.size := by
  obtain ⟨_, o, h2, _⟩ := mem_ready.1 h
  exact (Array.getElem?_eq_some_iff.1 h2).1
theorem of_row {al : Nat → Bool} {N : Nat} {v : Value} {w : World} (h : OkV al N 2 v w) : Calls Tryz.prog 77 #[v] w fun e w' => (∃ f, e = .returned (.agg (setC f))) ∧ Below w.heap.size w w' := by
  obtain ⟨b, l, fr, rfl, h2, h3, h4⟩ := h
  refine (Of_any l b 0 l.length w (blk_lt h4) (by omega) (fun i hi => ?_)).mono fun e w' hp => ⟨⟨_, hp.1⟩, hp.2⟩
  simp [World.cell?, h4, hi]
end Go.Proofs.YtlhppbendpnkeaaGreatDoor
