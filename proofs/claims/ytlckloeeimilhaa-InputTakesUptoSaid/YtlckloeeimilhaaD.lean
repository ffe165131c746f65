/- The source: Input. -/
import Derived.Test.YtlckloeeimilhaaB
namespace Go.Proofs.Ytlckloeeimilhaa
set_option linter.unusedSimpArgs false
set_option linter.unusedVariables false
open Go.RowKit

abbrev Tl := ByteArray × Int
def tcells : List Tl → List Value
  | [] => []
  | (t, b) :: r => .string t :: .int .i64 b :: tcells r
theorem tcells_append (a b : List Tl) : tcells (a ++ b) = tcells a ++ tcells b := by
  induction a with
  | nil => rfl
  | cons x r ih => obtain ⟨k, t⟩ := x; simp [tcells, ih]
theorem tcells_get (l : List Tl) : ∀ (i : Nat) (hi : i < l.length), (tcells l)[i * 2]? = some (.string l[i].1) ∧ (tcells l)[i * 2 + 1]? = some (.int .i64 l[i].2) := by
  induction l with
  | nil => intro i hi; simp at hi
  | cons x r ih =>
    obtain ⟨k, t⟩ := x
    intro i hi
    cases i with
    | zero => exact ⟨rfl, rfl⟩
    | succ i =>
      have h := ih i (by simpa using hi)
      rw [show (i + 1) * 2 = i * 2 + 1 + 1 from by omega, show i * 2 + 1 + 1 + 1 = (i * 2 + 1) + 1 + 1 from rfl]
      simpa [tcells] using h

/-- A frame by types: of the blocks at or behind base only those of the types 62 (Input), 28 (source), 3 (int) may have turned. -/
structure FrT (base : Nat) (w w' : World) : Prop where
  below : Below base w w'
  keep : ∀ (k : Nat) (cs : Array Value) (t : TypeId) (fr : Nat × Nat), w.heap[k]? = some (.cells cs t fr) → t ≠ 62 → t ≠ 28 → t ≠ 3 → w'.heap[k]? = some (.cells cs t fr)

theorem FrT.refl (base : Nat) (w : World) : FrT base w w := ⟨Below.refl _ _, fun _ _ _ _ h _ _ _ => h⟩
theorem FrT.trans {base : Nat} {a b c : World} (h : FrT base a b) (k : FrT base b c) : FrT base a c := ⟨h.below.trans k.below, fun i cs t fr hc h1 h2 h3 => k.keep i cs t fr (h.keep i cs t fr hc h1 h2 h3) h1 h2 h3⟩
theorem FrT.ofBelow {base : Nat} {a b : World} (h : Below a.heap.size a b) (hb : base ≤ a.heap.size) : FrT base a b := ⟨h.mono hb, fun i cs t fr hc _ _ _ => (h.block i (lt_of_block hc)).trans hc⟩
/-- Of a frame by blocks, whose blocks lie behind base and are of those types. -/
theorem FrT.ofFr {S : Nat → Prop} {base : Nat} {a b : World} (h : Fr S a b) (hb : base ≤ a.heap.size) (hS : ∀ i, i < a.heap.size → S i → base ≤ i ∧ ∀ cs t fr, a.heap[i]? = some (.cells cs t fr) → t = 62 ∨ t = 28 ∨ t = 3) : FrT base a b :=
  ⟨h.toBelow hb (fun i hi hs => (hS i hi hs).1), fun i cs t fr hc h1 h2 h3 => (h.block i (lt_of_block hc) (fun hs => by rcases (hS i (lt_of_block hc) hs).2 cs t fr hc with e | e | e <;> contradiction)).trans hc⟩
theorem FrT.row {base b0 sz n : Nat} {e : TypeId} {w w' : World} {v : Value} {xs : List Value} (h : FrT base w w') (hr : w.ownsRow b0 e sz v n xs) (h1 : e ≠ 62) (h2 : e ≠ 28) (h3 : e ≠ 3) : w'.ownsRow b0 e sz v n xs := by
  refine ⟨hr.1, ?_⟩
  rcases hr.2 with hn | ⟨g, cap, cur, rfl, hb, hg, rest⟩
  · exact .inl hn
  · exact .inr ⟨g, cap, cur, rfl, hb, h.keep _ _ _ _ hg h1 h2 h3, rest⟩
theorem row_fr {S : Nat → Prop} {b0 sz n : Nat} {e : TypeId} {w w' : World} {v : Value} {xs : List Value} (h : Fr S w w') (hr : w.ownsRow b0 e sz v n xs) (hS : ∀ g, v.ownBlock = some g → ¬ S g) : w'.ownsRow b0 e sz v n xs := by
  refine ⟨hr.1, ?_⟩
  rcases hr.2 with hn | ⟨g, cap, cur, rfl, hb, hg, rest⟩
  · exact .inl hn
  · exact .inr ⟨g, cap, cur, rfl, hb, (h.block g (lt_of_block hg) (hS g rfl)).trans hg, rest⟩
theorem row_block {b0 sz n : Nat} {e : TypeId} {w : World} {v : Value} {xs : List Value} (hr : w.ownsRow b0 e sz v n xs) {g : Nat} (hg : v.ownBlock = some g) : b0 ≤ g ∧ ∃ cs, w.heap[g]? = some (.cells cs e (0, 0)) := by
  rcases hr.2 with ⟨rfl, _⟩ | ⟨g', cap, cur, rfl, hb, hgg, rest⟩
  · simp [Value.ownBlock] at hg
  · simp only [Value.ownBlock, Option.some.injEq] at hg
    subst hg
    exact ⟨hb, cur, hgg⟩
/-- The row of a type does not lie in a block of another one. -/
theorem row_ne {b0 sz n b : Nat} {e t : TypeId} {cs : Array Value} {fr : Nat × Nat} {w : World} {v : Value} {xs : List Value} (hr : w.ownsRow b0 e sz v n xs) (hb : w.heap[b]? = some (.cells cs t fr)) (hne : e ≠ t) : v.ownBlock ≠ some b := by
  intro h
  obtain ⟨_, cs', hc⟩ := row_block hr h
  rw [hb] at hc
  simp only [Option.some.injEq, Obj.cells.injEq] at hc
  exact hne hc.2.1.symm

/-- The source: what it was told, and what it was asked. -/
structure Src (w : World) (base S : Nat) (tv av : Value) (tl : List Tl) (al : List Nat) : Prop where
  blk : w.heap[S]? = some (.cells #[tv, av] 28 (0, 0))
  told : w.ownsRow base 32 2 tv tl.length (tcells tl)
  asked : w.ownsRow base 3 1 av al.length (al.map fun (k : Nat) => Value.int .i64 (k : Int))
  le : base ≤ S

theorem Src.to {w w' : World} {base S : Nat} {tv av : Value} {tl : List Tl} {al : List Nat} (s : Src w base S tv av tl al) (hb : Below w.heap.size w w') : Src w' base S tv av tl al :=
  ⟨(hb.block S (lt_of_block s.blk)).trans s.blk, row_to hb s.told, row_to hb s.asked, s.le⟩

theorem row_shape {b0 sz n : Nat} {e : TypeId} {w : World} {v : Value} {xs : List Value} (hr : w.ownsRow b0 e sz v n xs) : ∃ ao cap, v = .slice ao n cap ∧ n ≤ cap ∧ (0 < n → ∃ g, ao = some ⟨g, 0, none⟩ ∧ ∀ j u, xs[j]? = some u → w.cell? ⟨g, j, none⟩ = some u) := by
  rcases hr.2 with ⟨rfl, rfl⟩ | ⟨g, cap, cur, rfl, hb, hgg, hle, rest⟩
  · exact ⟨none, 0, rfl, Nat.le_refl _, fun h => by omega⟩
  · refine ⟨_, cap, rfl, hle, fun _ => ⟨g, rfl, fun j u hu => ?_⟩⟩
    have hc := World.ownsRow.cells hr (g := g) rfl j u hu
    have ea : (⟨g, 0, none⟩ : Addr).add j = ⟨g, 0 + j, none⟩ := by unfold Addr.add; split <;> simp_all
    rw [ea] at hc
    simpa using hc

theorem cells_one (w : World) (x : Value) (t : TypeId) : ∀ j u, [x][j]? = some u → (w.alloc (.cells #[x] t)).cell? ((⟨w.heap.size, 0, none⟩ : Addr).add j) = some u := fun j u hu => by
  have hb : (w.alloc (.cells #[x] t)).heap[w.heap.size]? = some (.cells #[x] t (0, 0)) := heap_alloc_new w _
  exact World.news_of_block hb j u hu

theorem blk_at {w : World} {b : Nat} {cs : Array Value} {t : TypeId} (h : w.heap[b]? = some (.cells cs t (0, 0))) (i : Nat) {v : Value} (hv : cs[i]? = some v) : w.cell? ⟨b, i, none⟩ = some v ∧ w.frozen? ⟨b, i, none⟩ = false :=
  ⟨by simp [World.cell?, h, hv], by simp [World.frozen?, h]⟩

/-- What a call of the source's Input leaves. -/
def AskPost (w : World) (base S : Nat) (tv av : Value) (tl : List Tl) (al : List Nat) (k : Nat) (d : ByteArray) (y : Int) (e : Ending) (w' : World) : Prop :=
  e = .returned (.tuple #[.string d, .int .i64 y]) ∧ ∃ av', Src w' base S tv av' tl (al ++ [k]) ∧ FrT base w w' ∧ Fr (fun i => i = S ∨ av.ownBlock = some i) w w'

set_option maxHeartbeats 3200000 in
theorem Ask_any (base S : Nat) (tv av : Value) (tl : List Tl) (al : List Nat) (k : Nat) (hk : k < tl.length) (d : ByteArray) (y : Int) (hx : tl[k] = (d, y)) (w : World) (s : Src w base S tv av tl al) (hal : al.length ≤ 1048576) (htl : tl.length ≤ 1048576) (hbase : base ≤ w.heap.size) :
    Calls Try.prog 51 #[.pointer (some ⟨S, 0, none⟩), .int .i64 k] w (AskPost w base S tv av tl al k d y) := by
  obtain ⟨i0, hi, hz0, hz1, hz2⟩ := info_parts info3
  have c0 := (blk_at s.blk 0 (v := tv) rfl).1
  have c1 := (blk_at s.blk 1 (v := av) rfl).1
  have f1 := (blk_at s.blk 1 (v := av) rfl).2
  obtain ⟨ao, cap, rfl, hcap, hcells⟩ := row_shape s.told
  have HS := Lib.hid s
  have HC := Lib.hid hcells
  clear s hcells
  have h63 : al.length + 1 ≤ maxLen := by unfold maxLen; omega
  have hby : (al.length + 1) * 8 ≤ 140737488355328 := by omega
  have h0 : (0 : Int) ≤ (k : Int) := by omega
  have h1 : (k : Int) < (tl.length : Int) := by omega
  go_enter Try.func51, Try.ntmps51
  go_wp2_with (at_builtin; go_must (refine wpList_append_lies _ rfl (.tmp 10) (.tmp 12) 26 rfl base 3 i0 (.int .i64 0) 1 8 Try.underlying26 hi hz0 hz1 hz2 rfl (by decide) av al.length (al.map fun (k : Nat) => Value.int .i64 (k : Int)) rfl (row_to (bl_alloc w _) HS.out.asked) ⟨w.heap.size, 0, none⟩ 1 1 [.int .i64 k] rfl rfl (cells_one w _ _) (by intro u hu; simp at hu; rcases hu with rfl; rfl) (by omega) h63 hby (by simp; omega) (w.heap.size + 1) (by simp) ?_))
  intro g2 cap2 w2 hown hgrow hat hlt2
  have hf2 : Fr (fun i => av.ownBlock = some i) w w2 := ((Fr.refl _ w).alloc _).trans (Fr.ofGrown hgrow) (fun i _ hi => hi)
  have hb2 : w2.heap[S]? = some (.cells #[.slice ao tl.length cap, av] 28 (0, 0)) := (hf2.block S (lt_of_block HS.out.blk) (row_ne HS.out.asked HS.out.blk (by decide))).trans HS.out.blk
  have ht2 : w2.ownsRow base 32 2 (.slice ao tl.length cap) tl.length (tcells tl) := row_fr hf2 HS.out.told (fun g hg hn => by
    obtain ⟨_, cs, hc⟩ := row_block HS.out.told hg
    exact row_ne HS.out.asked hc (by decide) hn)
  have d0 := (blk_at hb2 0 (v := .slice ao tl.length cap) rfl).1
  have d1 := (blk_at hb2 1 (v := av) rfl).1
  have g1 := (blk_at hb2 1 (v := av) rfl).2
  obtain ⟨W2, hW2⟩ : ∃ W2, W2 = w2.setCell ⟨S, 1, none⟩ (.slice (some ⟨g2, 0, none⟩) (al.length + 1) cap2) := ⟨_, rfl⟩
  have hf3 : Fr (fun i => i = S) w2 W2 := by rw [hW2]; exact (Fr.refl (fun i => i = S) w2).setCell (p := ⟨S, 1, none⟩) rfl _
  have hb3 : W2.heap[S]? = some (.cells #[.slice ao tl.length cap, .slice (some ⟨g2, 0, none⟩) (al.length + 1) cap2] 28 (0, 0)) := by rw [hW2, heap_setCell_same _ _ _ _ _ _ _ hb2]; rfl
  have ht3 : W2.ownsRow base 32 2 (.slice ao tl.length cap) tl.length (tcells tl) := row_fr hf3 ht2 (fun g hg e => by subst e; exact row_ne ht2 hb2 (by decide) hg)
  have ho3 : W2.ownsRow base 3 1 (.slice (some ⟨g2, 0, none⟩) (al.length + 1) cap2) (al.length + 1) (al.map (fun (k : Nat) => Value.int .i64 (k : Int)) ++ [.int .i64 k]) := row_fr hf3 hown (fun g hg e => by subst e; exact row_ne hown hb2 (by decide) hg)
  have HP : Hid (∃ av', Src W2 base S (.slice ao tl.length cap) av' tl (al ++ [k]) ∧ FrT base w W2 ∧ Fr (fun i => i = S ∨ av.ownBlock = some i) w W2) := by
    show ∃ _, _
    refine ⟨_, ⟨hb3, ht3, ?_, HS.out.le⟩, ?_, ?_⟩
    · rw [List.map_append, List.length_append]; exact ho3
    · refine FrT.ofFr (S := fun i => i = S ∨ av.ownBlock = some i) ((hf2.mono (fun _ _ e => .inr e)).trans hf3 (fun _ _ e => .inl e)) hbase ?_
      rintro i hi (rfl | e)
      · exact ⟨HS.out.le, fun cs t fr hc => by rw [HS.out.blk] at hc; simp only [Option.some.injEq, Obj.cells.injEq] at hc; exact .inr (.inl hc.2.1.symm)⟩
      · obtain ⟨h1, cs', hc'⟩ := row_block HS.out.asked e
        exact ⟨h1, fun cs t fr hc => by rw [hc'] at hc; simp only [Option.some.injEq, Obj.cells.injEq] at hc; exact .inr (.inr hc.2.1.symm)⟩
    · exact (hf2.mono (fun _ _ e => .inr e)).trans hf3 (fun _ _ e => .inl e)
  obtain ⟨ao', cap', hsl, _, hc3⟩ := row_shape ht3
  simp only [Value.slice.injEq, true_and] at hsl
  obtain ⟨rfl, rfl⟩ := hsl
  obtain ⟨g, rfl, hcc⟩ := hc3 (by omega)
  have e0 := hcc _ _ (tcells_get tl k hk).1
  have e1 := hcc _ _ (tcells_get tl k hk).2
  have e2 := (blk_at hb3 0 rfl).1
  have HT := Lib.hid hW2
  clear hcc ht3 ho3 hb3 hf3 hf2 ht2 hb2 hown hgrow hat hlt2 HC
  rw [hW2] at e0 e1 e2
  rw [hx] at e0 e1
  clear hW2 hx
  go_wp2_with fail
  rw [← HT.out]
  rw [← HT.out] at e0 e1 e2
  go_quiet (fail)
  go_wp2
  go_ret2
  obtain ⟨av', p1, p2, p3⟩ := HP.out
  have hB : ∀ n, Below W2.heap.size W2 (W2.drewN n) := fun n => below_drewN (Below.refl _ _) n
  exact ⟨rfl, av', p1.to (hB _), p2.trans (FrT.ofBelow (hB _) (Nat.le_trans hbase p2.below.size)), p3.trans (Fr.ofBelow (fun _ => False) (hB _)) (fun _ _ e => e.elim)⟩
end Go.Proofs.Ytlckloeeimilhaa
