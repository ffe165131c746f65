/- sets: Range, Of. -/
import Derived.Test.YtlhppbendpnkeaaGreatDoorMC
import Derived.Laws.Rows
import Derived.Laws.Tables
import Derived.Laws.CopyOwn
namespace Go.Proofs.YtlhppbendpnkeaaGreatDoor
set_option linter.unusedSimpArgs false
set_option linter.unusedVariables false
open Go.RowKit

def noneF : Nat → Bool := fun _ => false
theorem sW_none (i : Nat) : sW noneF i = 0 := (wordN_eq (by decide) (by intro k _; simp [noneF])).symm
theorem setC_none : setC noneF = #[.int .u64 0, .int .u64 0, .int .u64 0, .int .u64 0] := by
  unfold setC; simp only [sW_none]; rfl
theorem info24 : (Tryz.prog.info? 24).map (·.size) = some 4 := by kernel_rfl
def rangeF (a b : Nat) : Nat → Bool := fun c => decide (a ≤ c ∧ c < b)
theorem setC_congr {f g : Nat → Bool} (h : ∀ c, c < 256 → f c = g c) : setC f = setC g := by
  have := setV_congr h
  unfold setV at this
  exact Value.agg.inj this
theorem blk_below {B : Nat} {a b : World} {i : Nat} {o : Obj} (h : a.heap[i]? = some o) (hb : Below B a b) (hi : i < B) : b.heap[i]? = some o := by rw [hb.block i hi]; exact h
theorem blk_lt {w : World} {i : Nat} {o : Obj} (h : w.heap[i]? = some o) : i < w.heap.size := (Array.getElem?_eq_some_iff.1 h).1
theorem below_bl {w0 w1 w2 : World} {B : Nat} (h1 : Below B w0 w1) (h2 : Below w1.heap.size w1 w2) (hB : B ≤ w1.heap.size) : Below B w0 w2 := h1.trans (h2.mono hB)

theorem run_set (f : Nat → Bool) {W : World} {b : Nat} {old : Array Value} {t : TypeId} (h : W.heap[b]? = some (.cells old t (0, 0))) (hs : old.size = 4) :
    (storeCells ⟨b, 0, none⟩ (setC f).toList).run Tryz.prog W = .ok () (W.setRow b (setC f)) := by
  have h1 := run_storeCells_from (P := Tryz.prog) b t (setC f).toList 0 old W h (by rw [hs]; rfl) (fun v hv => by
    have h2 : (setC f).all (·.oneCell') = true := by simp [setC, Value.oneCell']
    exact (Array.all_eq_true_iff_forall_mem.1 h2) v (by simpa using hv))
  simpa using h1
theorem setC_size (f : Nat → Bool) : (setC f).size = 4 := rfl

set_option maxHeartbeats 1600000 in
theorem Range_any (a b : Nat) (ha : a < 256) (hb : b < 256) (w : World) :
    Calls Tryz.prog 92 #[.int .u8 (a : Int), .int .u8 (b : Int)] w fun e w' => e = .returned (setV (rangeF a (b + 1))) ∧ Below w.heap.size w w' := by
  go_enter Tryz.func92, Tryz.ntmps92
  go_wp2_with fail
  go_loopw [6] (fun s6 wr => ∃ k : Nat, s6 = .int .i64 (k : Int) ∧ a ≤ k ∧ (k ≤ b + 1 ∨ k = a) ∧ wr.heap[w.heap.size + 1]? = some (.cells (setC (rangeF a k)) 24 (0, 0)) ∧ wr.heap[w.heap.size]? = some (.cells (setC noneF) 24 (0, 0)) ∧ Below w.heap.size w wr) (fun s6 _ => b + 1 - (intOf s6).toNat)
  case atStart =>
    refine ⟨a, rfl, Nat.le_refl _, .inr rfl, ?_, ?_, by go_grown⟩
    · rw [heap_alloc2_new, setC_congr (f := rangeF a a) (g := noneF) (fun c _ => by simp [rangeF, noneF]), setC_none]
    · rw [Below.heap_alloc _ _ _ (by simp), heap_alloc_new, setC_none]
  case round =>
    obtain ⟨k, rfl, hak, hkb, h1, h0, hbl⟩ := hrel
    have hk : k ≤ 256 := by omega
    have H1 := Lib.hid h1
    have H0 := Lib.hid h0
    have HB := Lib.hid hbl
    have hs := blk_lt h1
    clear h1 h0 hbl
    by_cases hkb2 : k ≤ b
    · have l1 : (k : Int) ≤ (b : Int) := by omega
      have d1 : decide ((k : Int) ≤ (b : Int)) = true := decide_eq_true l1
      have HA : Hid (∀ W, Calls Tryz.prog 96 #[.agg (setC (rangeF a k)), .int .u8 (k : Int)] W fun e w' => e = .returned (.agg (setC (insF (rangeF a k) k))) ∧ Below W.heap.size W w') := fun W => add_any (rangeF a k) k (by omega) W
      have x1 : IntKind.u8.wrap (k : Int) = (k : Int) := IntWalk.u8_in _ ⟨by omega, by omega⟩
      have x2 : IntKind.i64.wrap ((k : Int) + 1) = ((k + 1 : Nat) : Int) := by rw [wrap_in _ (by omega) (by omega)]; push_cast; rfl
      have he : setC (insF (rangeF a k) k) = setC (rangeF a (k + 1)) := setC_congr (fun c _ => by
        simp only [insF, rangeF, ← Bool.decide_or]
        congr 1; apply propext; omega)
      have HE := Lib.hid he
      clear he
      go_wp2_with (refine wpList_load_row (by rfl) 24 _ (by rfl) (w.heap.size + 1) (by rfl) 24 _ (0, 0) _ H1.out Tryz.underlying24 (by rfl) info24 ?_)
      refine (HA.out _).mono ?_
      rintro e w2 ⟨rfl, hb2⟩
      have H1' : Hid (w2.heap[w.heap.size + 1]? = _) := blk_below H1.out hb2 hs
      have H0' : Hid (w2.heap[w.heap.size]? = _) := blk_below H0.out hb2 (by omega)
      have HB' := Lib.hid (below_bl HB.out hb2 (by omega))
      clear hb2
      have R1 := run_set (insF (rangeF a k) k) H1'.out rfl
      have S1 := setC_size (insF (rangeF a k) k)
      go_wp2_with fail
      go_roundw
      case rel =>
        refine ⟨k + 1, by first | rfl | go_num, by omega, .inl (by omega), ?_, ?_, below_setRow HB'.out (by omega) _⟩
        · rw [← HE.out]; exact setRow_heap _ _ _ _ _ _ H1'.out
        · rw [setRow_other _ _ _ _ (by omega)]; exact H0'.out
      case measure => simp [intOf]; omega
    · have l1 : ¬ (k : Int) ≤ (b : Int) := by omega
      have d1 : decide ((k : Int) ≤ (b : Int)) = false := decide_eq_false l1
      have he : setC (rangeF a k) = setC (rangeF a (b + 1)) := setC_congr (fun c _ => by
        simp only [rangeF]
        congr 1; apply propext; omega)
      rw [he] at H1
      have R1 := run_set (rangeF a (b + 1)) H0.out rfl
      have S1 := setC_size (rangeF a (b + 1))
      clear he
      go_wp2_with (refine wpList_load_row (by rfl) 24 _ (by rfl) (w.heap.size + 1) (by rfl) 24 _ (0, 0) _ H1.out Tryz.underlying24 (by rfl) info24 ?_)
      refine bodyPost_ret (results_cell_row (by rfl) _ _ w.heap.size 24 (setC (rangeF a (b + 1))) (0, 0) _ (by rfl) (setRow_heap _ _ _ _ _ _ H0.out) Tryz.underlying24 (by rfl) info24) rfl ?_
      exact ⟨rfl, below_setRow HB.out (by omega) _⟩
/-- The set of some bytes. -/
def ofF (l : List UInt8) : Nat → Bool := fun c => l.any (fun x => x.toNat == c)

set_option maxHeartbeats 1600000 in
theorem Of_any (l : List UInt8) (b off cap : Nat) (w : World) (hbw : b < w.heap.size) (hn : l.length ≤ 4096) (hl : ∀ i (hi : i < l.length), w.cell? ⟨b, off + i, none⟩ = some (.int .u8 (l[i].toNat : Int))) :
    Calls Tryz.prog 77 #[.slice (some ⟨b, off, none⟩) l.length cap] w fun e w' => e = .returned (setV (ofF l)) ∧ Below w.heap.size w w' := by
  have HL := Lib.hid hl
  clear hl
  go_enter Tryz.func77, Tryz.ntmps77
  go_wp2_with fail
  go_loopw [8] (fun s8 wr => ∃ k : Nat, s8 = .int .i64 (k : Int) ∧ k ≤ l.length ∧ wr.heap[w.heap.size + 1]? = some (.cells (setC (ofF (l.take k))) 24 (0, 0)) ∧ wr.heap[w.heap.size]? = some (.cells (setC noneF) 24 (0, 0)) ∧ Below w.heap.size w wr) (fun s8 _ => l.length - (intOf s8).toNat)
  case atStart =>
    refine ⟨0, rfl, Nat.zero_le _, ?_, ?_, by go_grown⟩
    · rw [heap_alloc2_new, setC_congr (f := ofF (l.take 0)) (g := noneF) (fun c _ => by simp [ofF, noneF]), setC_none]
    · rw [Below.heap_alloc _ _ _ (by simp), heap_alloc_new, setC_none]
  case round =>
    obtain ⟨k, rfl, hk, h1, h0, hbl⟩ := hrel
    have H1 := Lib.hid h1
    have H0 := Lib.hid h0
    have HB := Lib.hid hbl
    have hs := blk_lt h1
    clear h1 h0 hbl
    by_cases hkb2 : k < l.length
    · have l1 : (k : Int) < (l.length : Int) := by omega
      have d1 : decide ((k : Int) < (l.length : Int)) = true := decide_eq_true l1
      have g1 : (0 : Int) ≤ (k : Int) := by omega
      have hc : wr.cell? ⟨b, off + k, none⟩ = some (.int .u8 (l[k].toNat : Int)) := by
        rw [HB.out.cell (by exact hbw)]; exact HL.out k hkb2
      have hlt := l[k].toNat_lt
      have HA : Hid (∀ W, Calls Tryz.prog 96 #[.agg (setC (ofF (l.take k))), .int .u8 (l[k].toNat : Int)] W fun e w' => e = .returned (.agg (setC (insF (ofF (l.take k)) l[k].toNat))) ∧ Below W.heap.size W w') := fun W => add_any (ofF (l.take k)) l[k].toNat (by omega) W
      have x2 : IntKind.i64.wrap ((k : Int) + 1) = ((k + 1 : Nat) : Int) := by rw [wrap_in _ (by omega) (by omega)]; push_cast; rfl
      have he : setC (insF (ofF (l.take k)) l[k].toNat) = setC (ofF (l.take (k + 1))) := setC_congr (fun c _ => by
        rw [ofF, List.take_succ_eq_append_getElem hkb2, List.any_append]
        simp only [insF, ofF, List.any_cons, List.any_nil, Bool.or_false]
        congr 1
        rw [Bool.eq_iff_iff]
        simp
        exact ⟨fun h => h.symm, fun h => h.symm⟩)
      have HE := Lib.hid he
      clear he
      go_wp2_with (refine wpList_load_row (by rfl) 24 _ (by rfl) (w.heap.size + 1) (by rfl) 24 _ (0, 0) _ H1.out Tryz.underlying24 (by rfl) info24 ?_)
      refine (HA.out _).mono ?_
      rintro e w2 ⟨rfl, hb2⟩
      have H1' : Hid (w2.heap[w.heap.size + 1]? = _) := blk_below H1.out hb2 hs
      have H0' : Hid (w2.heap[w.heap.size]? = _) := blk_below H0.out hb2 (by omega)
      have HB' := Lib.hid (below_bl HB.out hb2 (by omega))
      clear hb2
      have R1 := run_set (insF (ofF (l.take k)) l[k].toNat) H1'.out rfl
      have S1 := setC_size (insF (ofF (l.take k)) l[k].toNat)
      go_wp2_with fail
      go_roundw
      case rel =>
        refine ⟨k + 1, by first | rfl | go_num, by omega, ?_, ?_, below_setRow HB'.out (by omega) _⟩
        · rw [← HE.out]; exact setRow_heap _ _ _ _ _ _ H1'.out
        · rw [setRow_other _ _ _ _ (by omega)]; exact H0'.out
      case measure => simp [intOf]; omega
    · have l1 : ¬ (k : Int) < (l.length : Int) := by omega
      have d1 : decide ((k : Int) < (l.length : Int)) = false := decide_eq_false l1
      rw [List.take_of_length_le (by omega)] at H1
      have R1 := run_set (ofF l) H0.out rfl
      have S1 := setC_size (ofF l)
      go_wp2_with (refine wpList_load_row (by rfl) 24 _ (by rfl) (w.heap.size + 1) (by rfl) 24 _ (0, 0) _ H1.out Tryz.underlying24 (by rfl) info24 ?_)
      refine bodyPost_ret (results_cell_row (by rfl) _ _ w.heap.size 24 (setC (ofF l)) (0, 0) _ (by rfl) (setRow_heap _ _ _ _ _ _ H0.out) Tryz.underlying24 (by rfl) info24) rfl ?_
      exact ⟨rfl, below_setRow HB.out (by omega) _⟩
end Go.Proofs.YtlhppbendpnkeaaGreatDoor
