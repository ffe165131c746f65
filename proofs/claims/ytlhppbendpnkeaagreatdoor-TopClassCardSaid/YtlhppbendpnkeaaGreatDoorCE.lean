/- Class: a set, by its name. -/
import Derived.Test.YtlhppbendpnkeaaGreatDoorCD
namespace Go.Proofs.YtlhppbendpnkeaaGreatDoor
set_option linter.unusedSimpArgs false
set_option linter.unusedVariables false
open Go.RowKit

theorem zero24 (w : World) : (zeroValue 24).run Tryz.prog w = .ok (.agg (setC noneF)) w := by rw [setC_none]; kernel_rfl
theorem setC_inj {f g : Nat → Bool} (h : setC f = setC g) : ∀ c, c < 256 → f c = g c := setV_inj (by unfold setV; rw [h])
theorem look_class {w : World} {B ck : Nat} {es : Array MapEntry} (s : ByteArray) (hb : w.heap[B]? = some (.map es ck)) (hok : MapOk alF es) :
    ∃ f b, (Instr.lookup 144 (.map (some B)) (.string s) true).run Tryz.prog w = .ok (.tuple #[.agg (setC f), .bool b]) w ∧ (s = alnumS → ∀ c, c < 256 → f c = true → alF c = true) := by
  obtain ⟨r, h1, h2⟩ := find_now (al := alF) s es.toList 0 hok
  have hf := MapKept.run_findKey (w := w) (P := Tryz.prog) Tryz.underlying9 h1
  have hk : MapKept.IsKey .string (.string s) := by simp [MapKept.IsKey]
  rcases h2 with rfl | ⟨j, e, rfl, h3, h4⟩
  · refine ⟨noneF, false, ?_, fun _ c _ h => by simp [noneF] at h⟩
    unfold Instr.lookup
    simp only [Sem.run_bind, run_underlying under144, Result.andThen, MapKept.run_getObj_map hb, Sem.run_pure, MapKept.run_checkKey Tryz.underlying9 hk, hf, zero24, if_true]
  · obtain ⟨s', f, e1, e2, e3⟩ := hok e (List.mem_of_getElem? h3)
    rw [h4] at e1
    simp only [Value.string.injEq] at e1
    subst e1
    refine ⟨f, true, ?_, fun hs c hc h => by rw [← setC_inj (e3 hs) c hc]; exact h⟩
    unfold Instr.lookup
    simp only [Sem.run_bind, run_underlying under144, Result.andThen, MapKept.run_getObj_map hb, Sem.run_pure, MapKept.run_checkKey Tryz.underlying9 hk, hf, e2, if_true]

/-- A set and a mark; at alnum, only letters and digits. -/
def ClassP (s : ByteArray) (e : Ending) : Prop := ∃ f b, e = .returned (.tuple #[.agg (setC f), .bool b]) ∧ (s = alnumS → ∀ c, c < 256 → f c = true → alF c = true)

set_option maxRecDepth 100000 in
set_option maxHeartbeats 400000 in
theorem Class_any (s : ByteArray) (w : World) :
    Calls Tryz.prog 94 #[.string s] w fun e w' => ClassP s e ∧ Below w.heap.size w w' := by
  obtain ⟨W1, hW1⟩ : ∃ W, w.alloc (.cells (setC noneF) 24) = W := ⟨_, rfl⟩
  have HX1 : Hid (Below w.heap.size w W1) := by show Below _ _ _; rw [← hW1]; exact bl_alloc _ _
  have HZ1 : Hid (W1.heap[w.heap.size]? = some (.cells (setC noneF) 24 (0, 0))) := by show _ = _; rw [← hW1]; exact heap_alloc_new _ _
  have HS1 : Hid (W1.heap.size = w.heap.size + 1) := by show _ = _; rw [← hW1]; simp
  rw [setC_none] at hW1
  have HW1 := Lib.hid hW1
  clear hW1
  go_enter Tryz.func94, Tryz.ntmps94
  go_wp2_with fail
  rw [HW1.out]
  refine (classes_any W1).mono ?_
  rintro e w2 ⟨⟨B, es, ck, rfl, hB, hb, hok⟩, hb2⟩
  obtain ⟨f, b, hlk, hal⟩ := look_class s hb hok
  have HAL := Lib.hid hal
  have HZ2 : Hid (w2.heap[w.heap.size]? = some (.cells (setC noneF) 24 (0, 0))) := blk_below HZ1.out hb2 (blk_lt HZ1.out)
  have HB2 : Hid (Below w.heap.size w w2) := HX1.out.trans (hb2.mono HX1.out.size)
  obtain ⟨W3, hb3, hs3, k3, e3⟩ := one_set w2 f
  have z4 : (setC f).size = 4 := rfl
  have HK3 := Lib.hid k3
  have HZ3 : Hid (W3.heap[w.heap.size]? = some (.cells (setC noneF) 24 (0, 0))) := blk_below HZ2.out hb3 (blk_lt HZ2.out)
  have e4 : (storeCells ⟨w.heap.size, 0, none⟩ (setC f).toList).run Tryz.prog W3 = .ok () (W3.setRow w.heap.size (setC f)) := run_set f HZ3.out rfl
  have HB3 : Hid (Below w.heap.size w W3) := HB2.out.trans (hb3.mono HB2.out.size)
  clear hb hok hal hb2 hb3 hs3 k3 hB
  go_wp2_with (refine wpList_load_row (by rfl) 24 (.tmp 4) (by rfl) w2.heap.size (by rfl) 24 _ (0, 0) _ HK3.out Tryz.underlying24 (by rfl) info24 ?_)
  have hR : (W3.setRow w.heap.size (setC f)).heap[w.heap.size]? = some (.cells (setC f) 24 (0, 0)) := setRow_heap _ _ _ _ _ _ HZ3.out
  have HBE := Lib.hid (below_setRow HB3.out (Nat.le_refl _) (setC f))
  obtain ⟨W5, hW5⟩ : ∃ W, W3.setRow w.heap.size (setC f) = W := ⟨_, rfl⟩
  rw [hW5] at hR HBE ⊢
  clear e4 e3 hW5
  unfold setC at hR
  obtain ⟨v0, -⟩ := blk_at hR 0 rfl
  obtain ⟨v1, -⟩ := blk_at hR 1 rfl
  obtain ⟨v2, -⟩ := blk_at hR 2 rfl
  obtain ⟨v3, -⟩ := blk_at hR 3 rfl
  refine bodyPost_ret (v := .tuple #[.agg (setC f), .bool b]) (by simp [results, Tryz.results94, go_sem, v0, v1, v2, v3]; rfl) rfl ?_
  exact ⟨⟨f, b, rfl, HAL.out⟩, HBE.out⟩
end Go.Proofs.YtlhppbendpnkeaaGreatDoor
