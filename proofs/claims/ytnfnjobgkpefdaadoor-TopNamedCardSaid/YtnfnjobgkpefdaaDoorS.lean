/- A range over SplitSeq's iterator, whose body never leaves. -/
import Derived.Test.YtnfnjobgkpefdaaDoorR
namespace Go.Proofs.YtnfnjobgkpefdaaDoor
set_option linter.unusedSimpArgs false
set_option linter.unusedVariables false
open Go.RowKit Go.Shelf

/-- The three captured cells, the block of the rounds' deferred calls and the loop's record. -/
def Held (hB z k : Nat) : Prop := (hB ≤ k ∧ k < hB + 3) ∨ k = z ∨ k = z + 1

theorem cf37 : ∀ args w, (callFunc 37 args).run Tryd.prog w = .ok (.enter 37 args) w := enters_of Tryd.func37 (by kernel_rfl) rfl

/-- How a round's body must be left. -/
def roundEnd (hB z : Nat) (I : List Bs → World → Prop) (xs : List Bs) (W : World) : Exit → Act → World → Prop
  | .normal, _, W' => (∀ k, Held hB z k → W'.heap[k]? = W.heap[k]?) ∧ I xs W'
  | _, _, _ => False

theorem range_split {n : Nat} {g : Operand} {ps : Array Tmp} {assign body : Code} {Q : Exit → Act → World → Prop} {a : Act} {w : World} (hB : Nat) (s : ByteArray)
    (hg : a.eval g = .func (.func 37) #[] #[.pointer (some ⟨hB + 1, 0, none⟩), .pointer (some ⟨hB, 0, none⟩), .pointer (some ⟨hB + 2, 0, none⟩)])
    (hC : Caps w hB s) (hlt : hB + 3 ≤ w.heap.size) (hsz : s.size ≤ 16777216) (hps : ps.size = 1)
    (I : List Bs → World → Prop) (hI : ∀ pre A B row, I pre A → A.grownBy B row → (∀ r, row = some r → Held hB w.heap.size r) → I pre B) (h0 : I [] w) (a₁ : Bs → Act)
    (hassign : ∀ (l : Nat) (x : Bs) (W : World) (K : Act → World → Prop), K (a₁ x) W →
      assign.wpIn (Fence.wide.inRound l) (n - 1 - 1) Tryd.prog (Exit.then K (fun _ _ _ => False)) { tmps := (ps.zip #[.string ⟨x.toArray⟩]).foldl (fun t (p, v) => t.setIfInBounds p v) a.tmps, defers := [] } W)
    (hbody : ∀ (l : Nat) (pre : List Bs) (x : Bs) (rest : List Bs) (W : World), splitB s.data.toList = pre ++ x :: rest → I pre W → w.heap.size + 2 ≤ W.heap.size → body.wpIn (Fence.wide.inRound l) (n - 1 - 1) Tryd.prog (roundEnd hB w.heap.size I (pre ++ [x]) W) (a₁ x) W)
    (hdone : ∀ (W : World), I (splitB s.data.toList) W → W.heap[w.heap.size]? = some (.deferred (some [])) → Q .normal { a with defers := { target := .collected w.heap.size, args := #[] } :: a.defers } W) :
    (Code.rangeFunc g ps assign body).wpIn Fence.wide n Tryd.prog Q a w := by
  refine wpIn_rangeFunc ?_
  intro fn hfn
  obtain ⟨rc, hrc⟩ : ∃ rc : LoopState → Option Code → Loop, rc = fun st pe => { state := st, pending := pe, fn := fn, tmps := a.tmps, params := ps, assign := assign, body := body, defers := w.heap.size } := ⟨_, rfl⟩
  obtain ⟨W1, hW1⟩ : ∃ W1, (w.alloc (.deferred (some []))).alloc (.loop (rc .ready none)) = W1 := ⟨_, rfl⟩
  have hz1 : W1.heap.size = w.heap.size + 2 := by rw [← hW1]; simp
  have hl1 : W1.heap[w.heap.size + 1]? = some (.loop (rc .ready none)) := by
    rw [← hW1]
    have := heap_alloc_new (w.alloc (.deferred (some []))) (.loop (rc .ready none))
    rwa [World.size_alloc] at this
  have hd1 : W1.heap[w.heap.size]? = some (.deferred (some [])) := by
    rw [← hW1, Lib.alloc_old _ _ _ (by simp)]
    exact heap_alloc_new w _
  have hold : ∀ k, k < w.heap.size → W1.heap[k]? = w.heap[k]? := fun k hk => by
    rw [← hW1, Lib.alloc_old _ _ _ (by simp; omega), Lib.alloc_old _ _ _ hk]
  have hC1 : Caps W1 hB s := hC.keep (fun k _ hk => hold k (by omega))
  have hI1 : I [] W1 := by
    rw [← hW1]
    exact hI _ _ _ none (hI _ _ _ none h0 (World.grownBy_alloc _ _ none) (fun r e => by cases e)) (World.grownBy_alloc _ _ none) (fun r e => by cases e)
  refine ⟨w.heap.size + 1, [{ target := .collected w.heap.size, args := #[] }], W1, { target := .fn (.func 37) #[.pointer (some ⟨hB + 1, 0, none⟩), .pointer (some ⟨hB, 0, none⟩), .pointer (some ⟨hB + 2, 0, none⟩)], args := #[.func (.yield (w.heap.size + 1)) #[] #[]] }, W1, 37,
    #[.func (.yield (w.heap.size + 1)) #[] #[], .pointer (some ⟨hB + 1, 0, none⟩), .pointer (some ⟨hB, 0, none⟩), .pointer (some ⟨hB + 2, 0, none⟩)], W1, ?_, ?_, ?_, ?_, fun h => (by cases h), ?_⟩
  · rw [← hW1, hrc]; exact run_enterLoop_outer _ _ _ _ _
  · simp only [resolve, hg]
    simp [go_sem]
  · intro f' hf'; exact trivial
  · simp [invoke, go_sem, cf37]
  · refine (f37_in (n - 1) (w.heap.size + 1) hB s (fun pre W => I pre W ∧ w.heap.size + 2 ≤ W.heap.size ∧ W.heap[w.heap.size + 1]? = some (.loop (rc .ready none)) ∧ W.heap[w.heap.size]? = some (.deferred (some []))) W1 ?_ ?_ hC1 ⟨hI1, by omega, hl1, hd1⟩ hsz).mono ?_
    · rintro pre A B row ⟨h1, h2, h3, h4⟩ hgr hr
      refine ⟨hI _ _ _ row h1 hgr (fun r e => by rw [hr r e]; exact .inl ⟨Nat.le_refl _, by omega⟩), Nat.le_trans h2 hgr.size, (hgr.block _ (by omega) (fun e => ?_)).trans h3, (hgr.block _ (by omega) (fun e => ?_)).trans h4⟩
      · have := hr _ e.symm; omega
      · have := hr _ e.symm; omega
    · rintro pre x rest W hsp ⟨h1, h2, h3, h4⟩
      have hy := run_yield (P := Tryd.prog) (args := #[.string ⟨x.toArray⟩]) h3 (by rw [hrc]; exact hps.symm)
      rw [hrc] at hy
      refine ⟨fn, _, assign, body, hy, roundIn_of_wpIn hfn (hassign _ x W _ ⟨_, run_beginRound h3 (by rw [hrc]), ?_⟩)⟩
      have hlt1 : w.heap.size + 1 < W.heap.size := by omega
      obtain ⟨W2, hW2⟩ : ∃ W2, W.putObj (w.heap.size + 1) (.loop (rc .busy none)) = W2 := ⟨_, rfl⟩
      have e2 : W.putObj (w.heap.size + 1) (.loop { rc .ready none with state := .busy }) = W2 := by rw [← hW2, hrc]
      rw [e2]
      have hl2 : W2.heap[w.heap.size + 1]? = some (.loop (rc .busy none)) := by rw [← hW2]; exact World.putObj_heap_same hlt1
      have ho2 : ∀ k, k ≠ w.heap.size + 1 → W2.heap[k]? = W.heap[k]? := fun k hk => by rw [← hW2]; exact World.putObj_heap_other hk
      have hI2 : I pre W2 := by rw [← hW2]; exact hI _ _ _ (some (w.heap.size + 1)) h1 (grownBy_putObj' _ _ _) (fun r e => by cases e; exact .inr (.inr rfl))
      have hz2 : w.heap.size + 2 ≤ W2.heap.size := by rw [← hW2]; simp [World.putObj]; omega
      refine wpIn_mono (hbody _ pre x rest W2 hsp hI2 hz2) ?_
      rintro e a3 W3 hp
      cases e with
      | normal =>
        obtain ⟨hk, hi3⟩ := hp
        have hl3 : W3.heap[w.heap.size + 1]? = some (.loop (rc .busy none)) := (hk _ (.inr (.inr rfl))).trans hl2
        have her := run_endRound (P := Tryd.prog) none hl3
        have hlt3 : w.heap.size + 1 < W3.heap.size := lt_blk hl3
        refine ⟨_, _, her, rfl, ⟨hI _ _ _ (some (w.heap.size + 1)) hi3 (grownBy_putObj' _ _ _) (fun r e => by cases e; exact .inr (.inr rfl)), ?_, ?_, ?_⟩, fun k hk1 hk2 => ?_⟩
        · simp [World.putObj]; omega
        · rw [World.putObj_heap_same hlt3, hrc]; rfl
        · rw [World.putObj_heap_other (by omega), hk _ (.inr (.inl rfl)), ho2 _ (by omega)]; exact h4
        · rw [World.putObj_heap_other (by omega), hk _ (.inl ⟨hk1, hk2⟩), ho2 _ (by omega)]
      | _ => exact hp.elim
    · rintro e W2 ⟨⟨v, rfl⟩, h1, h2, h3, h4⟩
      have hend := run_endLoop (P := Tryd.prog) h3 (by rw [hrc]; simp)
      have hp : (rc .ready none).pending = none := by rw [hrc]
      rw [hp] at hend
      exact ⟨none, _, hend, hdone _ (hI _ _ _ (some (w.heap.size + 1)) h1 (grownBy_putObj' _ _ _) (fun r e => by cases e; exact .inr (.inr rfl))) ((World.putObj_heap_other (by omega)).trans h4)⟩
end Go.Proofs.YtnfnjobgkpefdaaDoor
