/- Texts of one chain, merged by a small program (ZP, ZQ). -/
import Derived.Test.YtlhppbendpnkeaaGreatDoorMH
import Derived.Defers
import Derived.Recover
/- syntax: Parse. -/
namespace Go.Proofs.YtlhppbendpnkeaaGreatDoor
set_option linter.unusedSimpArgs false
set_option linter.unusedVariables false
open Go.RowKit

theorem catch14 (p q r : Value) (w : World) :
    CallsD Tryz.prog 14 #[p, q, r] .returning w fun e u' w' => e = .returned (.tuple #[]) ∧ u' = .returning ∧ w' = w := by
  refine callsD_of_wpS Tryz.func14 rfl fun c₀ cs hu => ?_
  apply wpS_seq
  apply wpS_region
  simp [wpOpsS, go_sem, recoverD, hu, Tryz.ntmps14, Exit.thenS]
  apply wpS_seq
  apply wpS_region
  simp [wpOpsS, go_sem, recoverD, hu, Exit.thenS]
  refine wpS_cond (t := false) (by simp [Act.eval, Array.replicate]) ?_
  simp only [Bool.false_eq_true, if_false]
  refine wpS_of_wp (wp_skip ?_)
  cases c₀
  simp_all [bodyPostS, results, Tryz.results14]

/-- What Parse answers. -/
def ParseP (k : Nat) (f : Nat → Bool) (mx : Int) (gr : Nat) (kk : Option (Nat → Bool)) (lo : Nat) (e : Ending) (w' : World) : Prop :=
  ∃ v, e = .returned (.tuple #[.agg (ndC k f 0 mx gr v), .int .i64 0, .int .i64 0]) ∧ Kid lo w' v kk

set_option maxRecDepth 100000 in
set_option maxHeartbeats 3200000 in
theorem Parse_any (s : ByteArray) (x : Bool) (k : Nat) (f : Nat → Bool) (mx : Int) (gr : Nat) (kk : Option (Nat → Bool)) (g2 o2 : Nat) (w : World) (hsz : s.size ≤ 4096)
    (HB : ∀ R M W, Pa W R s 0 x 0 (.map (some M)) 0 → W.heap[M]? = some (.map #[] 0) → Calls Tryz.prog 15 #[.pointer (some ⟨R, 0, none⟩)] W fun e w' => Pret k f mx gr kk R M s s.size x g2 (.map (some M)) o2 W.heap.size W e w') :
    Calls Tryz.prog 6 #[.string s, .bool x] w fun e w' => ParseP k f mx gr kk w.heap.size e w' ∧ Below w.heap.size w w' := by
  have hmf : ∀ (fn : Fn) (first cap : Array Value) (w : World), (Instr.makeFunc fn first cap).run Tryz.prog w = .ok (.func fn first cap) w := fun _ _ _ _ => rfl
  have l1 : ¬ (4096 : Int) < (s.size : Int) := by omega
  have l2 : decide ((4096 : Int) < (s.size : Int)) = false := decide_eq_false l1
  have hmm : ∀ W : World, (Instr.makeMap 51 none).run Tryz.prog W = .ok (.map (some W.heap.size)) (W.alloc (.map #[] 0)) := fun W => by simp [go_sem, Instr.makeMap]
  obtain ⟨W1, hW1⟩ : ∃ W, ((((w.alloc (.cells zeroC 30)).alloc (.cells #[.int .i64 0] 31)).alloc (.cells #[.int .i64 0] 3)).alloc (.map #[] 0)).alloc (.cells #[.string s, .int .i64 0, .bool x, .int .i64 0, .map (some (w.heap.size + 1 + 1 + 1)), .int .i64 0] 53) = W := ⟨_, rfl⟩
  obtain ⟨n, hn⟩ : ∃ n, w.heap.size = n := ⟨_, rfl⟩
  have HP1 : Hid (Pa W1 (n + 1 + 1 + 1 + 1) s 0 x 0 (.map (some (n + 1 + 1 + 1))) 0) := by
    have h := heap_alloc_new ((((w.alloc (.cells zeroC 30)).alloc (.cells #[.int .i64 0] 31)).alloc (.cells #[.int .i64 0] 3)).alloc (.map #[] 0)) (.cells #[.string s, .int .i64 0, .bool x, .int .i64 0, .map (some (w.heap.size + 1 + 1 + 1)), .int .i64 0] 53)
    rw [hW1] at h
    simp only [World.size_alloc, hn] at h
    exact h
  have H0 : Hid (W1.heap[n]? = some (.cells zeroC 30 (0, 0))) := by
    show _ = _
    rw [← hW1, Below.heap_alloc _ _ _ (by simp; omega), Below.heap_alloc _ _ _ (by simp; omega), Below.heap_alloc _ _ _ (by simp; omega), Below.heap_alloc _ _ _ (by simp; omega), ← hn]; exact heap_alloc_new _ _
  have H1 : Hid (W1.heap[n + 1]? = some (.cells #[.int .i64 0] 31 (0, 0))) := by
    show _ = _
    rw [← hW1, Below.heap_alloc _ _ _ (by simp; omega), Below.heap_alloc _ _ _ (by simp; omega), Below.heap_alloc _ _ _ (by simp; omega), ← hn]; exact heap_alloc2_new _ _ _
  have H2 : Hid (W1.heap[n + 1 + 1]? = some (.cells #[.int .i64 0] 3 (0, 0))) := by
    show _ = _
    have h := heap_alloc_new ((w.alloc (.cells zeroC 30)).alloc (.cells #[.int .i64 0] 31)) (.cells #[.int .i64 0] 3)
    simp only [World.size_alloc, hn] at h
    rw [← hW1, Below.heap_alloc _ _ _ (by simp; omega), Below.heap_alloc _ _ _ (by simp; omega)]; exact h
  have HM : Hid (W1.heap[n + 1 + 1 + 1]? = some (.map #[] 0)) := by
    show _ = _
    have h := heap_alloc_new (((w.alloc (.cells zeroC 30)).alloc (.cells #[.int .i64 0] 31)).alloc (.cells #[.int .i64 0] 3)) (.map #[] 0)
    simp only [World.size_alloc, hn] at h
    rw [← hW1, Below.heap_alloc _ _ _ (by simp; omega)]; exact h
  have HB1 : Hid (Below n w W1) := by show Below _ _ _; rw [← hW1, ← hn]; go_grown
  rw [hn] at hW1 ⊢
  have HN := Lib.hid hn
  have HW1 := Lib.hid hW1
  unfold zeroC at HW1
  have HB' := Lib.hid HB
  clear hW1 HB hn
  go_enter_defers Tryz.func6, Tryz.ntmps6
  go_wp2_with fail
  rw [HN.out]
  rw [HW1.out]
  refine (HB'.out (n + 1 + 1 + 1 + 1) (n + 1 + 1 + 1) W1 HP1.out HM.out).mono ?_
  rintro e w2 ⟨v, rfl, hk, hp2, hy2⟩
  have hl0 := blk_lt H0.out
  have hl1 := blk_lt H1.out
  have hl2 := blk_lt H2.out
  have K0 : Hid (w2.heap[n]? = some (.cells zeroC 30 (0, 0))) := (hy2.block _ hl0 (by omega) (by omega)).trans H0.out
  have K1 : Hid (w2.heap[n + 1]? = some (.cells #[.int .i64 0] 31 (0, 0))) := (hy2.block _ hl1 (by omega) (by omega)).trans H1.out
  have K2 : Hid (w2.heap[n + 1 + 1]? = some (.cells #[.int .i64 0] 3 (0, 0))) := (hy2.block _ hl2 (by omega) (by omega)).trans H2.out
  have HB2 : Hid (Below n w w2) := HB1.out.trans (hy2.below (by omega) (by omega) (by omega))
  have hnd := nd_ndC k f 0 mx gr hk.one
  obtain ⟨W3, hW3⟩ : ∃ W, w2.setRow n (ndC k f 0 mx gr v) = W := ⟨_, rfl⟩
  have hst : (storeCells ⟨n, 0, none⟩ (ndC k f 0 mx gr v).toList).run Tryz.prog w2 = .ok () W3 := by rw [← hW3]; exact run_node K0.out rfl hnd
  have hsz9 : (ndC k f 0 mx gr v).size = 9 := rfl
  have R0 : Hid (W3.heap[n]? = some (.cells (ndC k f 0 mx gr v) 30 (0, 0))) := by show _ = _; rw [← hW3]; exact setRow_heap _ _ _ _ _ _ K0.out
  have R1 : Hid (W3.heap[n + 1]? = some (.cells #[.int .i64 0] 31 (0, 0))) := by show _ = _; rw [← hW3, setRow_other _ _ _ _ (by omega)]; exact K1.out
  have R2 : Hid (W3.heap[n + 1 + 1]? = some (.cells #[.int .i64 0] 3 (0, 0))) := by show _ = _; rw [← hW3, setRow_other _ _ _ _ (by omega)]; exact K2.out
  have hp3 : Pa W3 (n + 1 + 1 + 1 + 1) s s.size x g2 (.map (some (n + 1 + 1 + 1))) o2 := by rw [← hW3]; exact hp2.row (by omega) _
  have c1 := hp3.c1.1
  have HB3 : Hid (Below n w W3) := by show Below _ _ _; rw [← hW3]; exact below_setRow HB2.out (Nat.le_refl _) _
  have HK3 : Hid (Kid W1.heap.size W3 v kk) := by show Kid _ _ _ _; rw [← hW3]; exact hk.to (Nat.le_refl _) (fun B hB _ => setRow_other _ _ _ _ (by omega))
  obtain ⟨W4, hW4⟩ : ∃ W, W3.setRow n (ndC k f 0 mx gr v) = W := ⟨_, rfl⟩
  have hst4 : (storeCells ⟨n, 0, none⟩ (ndC k f 0 mx gr v).toList).run Tryz.prog W3 = .ok () W4 := by rw [← hW4]; exact run_node R0.out rfl hnd
  have Q0 : Hid (W4.heap[n]? = some (.cells (ndC k f 0 mx gr v) 30 (0, 0))) := by show _ = _; rw [← hW4]; exact setRow_heap _ _ _ _ _ _ R0.out
  have Q1 : Hid (W4.heap[n + 1]? = some (.cells #[.int .i64 0] 31 (0, 0))) := by show _ = _; rw [← hW4, setRow_other _ _ _ _ (by omega)]; exact R1.out
  have Q2 : Hid (W4.heap[n + 1 + 1]? = some (.cells #[.int .i64 0] 3 (0, 0))) := by show _ = _; rw [← hW4, setRow_other _ _ _ _ (by omega)]; exact R2.out
  have HB4 : Hid (Below n w W4) := by show Below _ _ _; rw [← hW4]; exact below_setRow HB3.out (Nat.le_refl _) _
  have HK4 : Hid (Kid W1.heap.size W4 v kk) := by show Kid _ _ _ _; rw [← hW4]; exact HK3.out.to (Nat.le_refl _) (fun B hB _ => setRow_other _ _ _ _ (by omega))
  obtain ⟨d1, g1⟩ := blk_at Q1.out 0 (v := .int .i64 0) rfl
  obtain ⟨d2, g2'⟩ := blk_at Q2.out 0 (v := .int .i64 0) rfl
  have z3 : decide ((s.size : Int) < (s.size : Int)) = false := decide_eq_false (by omega)
  have z4 : ¬ (s.size : Int) < (s.size : Int) := by omega
  clear hk hp2 hy2 hnd hW3 hW4 hp3
  go_wp2_with (refine wpList_load_row (by rfl) 30 (.tmp 4) (by rfl) n (by rfl) 30 _ (0, 0) _ R0.out Tryz.underlying30 (by rfl) info30 ?_)
  obtain ⟨W5, hW5⟩ : ∃ W, (W4.setCell ⟨n + 1, 0, none⟩ (.int .i64 0)).setCell ⟨n + 1 + 1, 0, none⟩ (.int .i64 0) = W := ⟨_, rfl⟩
  have P0 : W5.heap[n]? = some (.cells (ndC k f 0 mx gr v) 30 (0, 0)) := by
    rw [← hW5, Below.heap_setCell _ _ _ _ (by show n ≠ n + 1 + 1; omega), Below.heap_setCell _ _ _ _ (by show n ≠ n + 1; omega)]; exact Q0.out
  have e1 : W5.cell? ⟨n + 1, 0, none⟩ = some (.int .i64 0) := by
    rw [← hW5]; simp [World.cell?, World.setCell, Array.getElem?_modify, Q1.out]
  have e2 : W5.cell? ⟨n + 1 + 1, 0, none⟩ = some (.int .i64 0) := by
    rw [← hW5]; simp [World.cell?, World.setCell, Array.getElem?_modify, Q2.out]
  have HB5 : Below n w W5 := by rw [← hW5]; exact (HB4.out.setCell (by show n ≤ n + 1; omega) _).setCell (by show n ≤ n + 1 + 1; omega) _
  have HK5 : Kid n W5 v kk := by
    have h1 := HB1.out.size
    have h2 := blk_lt H2.out
    rw [← hW5]
    refine HK4.out.to (by omega) (fun B hB _ => ?_)
    rw [Below.heap_setCell _ _ _ _ (by show B ≠ n + 1 + 1; omega), Below.heap_setCell _ _ _ _ (by show B ≠ n + 1; omega)]
  rw [hW5]
  clear hst hst4 d1 d2 g1 g2' c1
  unfold ndC at P0
  have v0 := (blk_at P0 0 rfl).1
  have v1 := (blk_at P0 1 rfl).1
  have v2 := (blk_at P0 2 rfl).1
  have v3 := (blk_at P0 3 rfl).1
  have v4 := (blk_at P0 4 rfl).1
  have v5 := (blk_at P0 5 rfl).1
  have v6 := (blk_at P0 6 rfl).1
  have v7 := (blk_at P0 7 rfl).1
  have v8 := (blk_at P0 8 rfl).1
  simp only [List.getElem_toArray, List.getElem_cons_zero, List.getElem_cons_succ] at v0 v1 v2 v3 v4 v5 v6 v7 v8
  refine leaves_cons (f := 14) (args := #[.pointer (some ⟨n, 0, none⟩), .pointer (some ⟨n + 1, 0, none⟩), .pointer (some ⟨n + 1 + 1, 0, none⟩)]) (by simp) (by simp [go_sem]) ?_
  refine (catch14 _ _ _ _).mono ?_
  rintro e u' w'' ⟨rfl, rfl, rfl⟩
  refine ⟨.tuple #[.agg (ndC k f 0 mx gr v), .int .i64 0, .int .i64 0], by unfold ndC; simp [results, Tryz.results6, go_sem, v0, v1, v2, v3, v4, v5, v6, v7, v8, e1, e2], ⟨v, rfl, HK5⟩, HB5⟩
end Go.Proofs.YtlhppbendpnkeaaGreatDoor
/- syntax: what Parse answers at a set, at a set and a star, at a group of a set. -/
namespace Go.Proofs.YtlhppbendpnkeaaGreatDoor
set_option linter.unusedSimpArgs false
set_option linter.unusedVariables false
open Go.RowKit

/-- An atom that is a set stands from i to j. -/
def AtomAt (x : Bool) (f : Nat → Bool) (s : ByteArray) (i j : Nat) : Prop :=
  ∀ (R M g : Nat) (m : Value) (o : Nat) (W : World), Pa W R s i x g m o → M < W.heap.size → Calls Tryz.prog 45 #[.pointer (some ⟨R, 0, none⟩), .bool true] W fun e w' => Pret 2 f 0 0 none R M s j x g m o W.heap.size W e w'
/-- Nothing that repeats stands at the head. -/
structure Quiet (x : Bool) (t : Bs) : Prop where
  star : ∀ r, t ≠ 42 :: r
  plus : signB x t 43 = false
  ask : signB x t 63 = false
  brace : signB x t 123 = false
  bar : signB x t 124 = false
  over : overB x t = true
theorem quiet_nil (x : Bool) : Quiet x [] := by cases x <;> exact ⟨fun r h => (by cases h), rfl, rfl, rfl, rfl, rfl⟩
theorem quiet_end (x : Bool) : Quiet x (if x then [41] else [92, 41]) := by
  cases x
  · exact ⟨fun r h => by simp at h, by decide, by decide, by decide, by decide, by decide⟩
  · exact ⟨fun r h => by simp at h, by decide, by decide, by decide, by decide, by decide⟩
theorem star_ne {s : ByteArray} {j : Nat} (h : ∀ r, s.data.toList.drop j ≠ 42 :: r) : ∀ hj : j < s.size, s[j]'hj ≠ 42 := by
  intro hj e
  refine h (s.data.toList.drop (j + 1)) ?_
  rw [List.drop_eq_getElem_cons (by simpa using hj)]
  congr 1
section
variable {x : Bool} {f : Nat → Bool} {s : ByteArray} {i j : Nat}
theorem rep_none (hj : j ≤ s.size) (hsz : s.size ≤ 65536) (hq : Quiet x (s.data.toList.drop j)) (R M g : Nat) (m : Value) (o k : Nat) (f' : Nat → Bool) (mx : Int) (gr : Nat) (kk : Option (Nat → Bool)) :
    ∀ (lo : Nat) (W : World) (pp : Option Addr) (pn pc : Nat), lo ≤ W.heap.size → Kid lo W (.slice pp pn pc) kk → Pa W R s j x g m o → R < W.heap.size →
      Calls Tryz.prog 46 #[.pointer (some ⟨R, 0, none⟩), .agg (ndC k f' 0 mx gr (.slice pp pn pc))] W fun e w' => Pret k f' mx gr kk R M s j x g m o lo W e w' := fun lo W pp pn pc _ hk hp _ =>
  (repeated_none R s j x g m o k f' mx gr pp pn pc W hp hj hsz (star_ne hq.star) hq.plus hq.ask hq.brace).mono fun e w' h => ⟨_, h.1, hk.below h.2, hp.to h.2, Ey.ofBelow h.2⟩
theorem rep_star (hj : j < s.size) (hsz : s.size ≤ 65536) (h42 : s[j]'hj = 42) (R M g : Nat) (m : Value) (o : Nat) :
    ∀ (lo : Nat) (W : World) (pp : Option Addr) (pn pc : Nat), lo ≤ W.heap.size → Kid lo W (.slice pp pn pc) none → Pa W R s j x g m o → R < W.heap.size →
      Calls Tryz.prog 46 #[.pointer (some ⟨R, 0, none⟩), .agg (ndC 2 f 0 0 0 (.slice pp pn pc))] W fun e w' => Pret 5 noneF (-1) 0 (some f) R M s (j + 1) x g m o lo W e w' := fun lo W pp pn pc hlo hk hp _ => by
  have e0 : Value.slice pp pn pc = .slice none 0 0 := hk
  rw [e0]
  refine (repeated_star R s j x g m o (.int .u8 2) (.int .u64 (sW f 0 : Nat)) (.int .u64 (sW f 1 : Nat)) (.int .u64 (sW f 2 : Nat)) (.int .u64 (sW f 3 : Nat)) (.int .i64 0) (.int .i64 0) (.int .i64 0) (.slice none 0 0) W hp hj hsz h42 (by intro v hv; simp only [List.mem_cons, List.not_mem_nil, or_false] at hv; rcases hv with rfl | rfl | rfl | rfl | rfl | rfl | rfl | rfl | rfl <;> rfl)).mono fun e w' h => ?_
  obtain ⟨B, h1, h2, h3, h4, h5⟩ := h
  exact ⟨_, h1, ⟨B, rfl, by omega, h3⟩, h4, Ey.ofEx h5⟩
/-- Branches at one atom. -/
theorem bs_none (hA : AtomAt x f s i j) (hi : i < s.size) (hj : j ≤ s.size) (hsz : s.size ≤ 65536) (hov : overB x (s.data.toList.drop i) = false) (h94 : s[i]'hi ≠ 94) (h36 : s[i]'hi ≠ 36) (hq : Quiet x (s.data.toList.drop j))
    (R M g : Nat) (m : Value) (o : Nat) (W : World) (hp : Pa W R s i x g m o) (hM : M < W.heap.size) :
    Calls Tryz.prog 15 #[.pointer (some ⟨R, 0, none⟩)] W fun e w' => Pret 2 f 0 0 none R M s j x g m o W.heap.size W e w' :=
  branches_any R M s j x g m o 2 f 0 0 none W (blk_lt hp) hM hj hsz hq.bar fun W' hb =>
    branch_any R M s i j j x g g g m o o o 2 f 0 0 none 2 f 0 0 none W' (hp.to hb) (Nat.lt_of_lt_of_le (blk_lt hp) hb.size) (Nat.lt_of_lt_of_le hM hb.size) hi hj hsz hov hq.over h94 h36
      (fun W'' hb' => hA R M g m o W'' ((hp.to hb).to hb') (Nat.lt_of_lt_of_le hM (Nat.le_trans hb.size hb'.size)))
      (rep_none hj hsz hq R M g m o 2 f 0 0 none)
theorem bs_star (hA : AtomAt x f s i j) (hi : i < s.size) (hj : j < s.size) (hsz : s.size ≤ 65536) (hov : overB x (s.data.toList.drop i) = false) (h94 : s[i]'hi ≠ 94) (h36 : s[i]'hi ≠ 36) (h42 : s[j]'hj = 42) (hq : Quiet x (s.data.toList.drop (j + 1)))
    (R M g : Nat) (m : Value) (o : Nat) (W : World) (hp : Pa W R s i x g m o) (hM : M < W.heap.size) :
    Calls Tryz.prog 15 #[.pointer (some ⟨R, 0, none⟩)] W fun e w' => Pret 5 noneF (-1) 0 (some f) R M s (j + 1) x g m o W.heap.size W e w' :=
  branches_any R M s (j + 1) x g m o 5 noneF (-1) 0 (some f) W (blk_lt hp) hM (by omega) hsz hq.bar fun W' hb =>
    branch_any R M s i j (j + 1) x g g g m o o o 2 f 0 0 none 5 noneF (-1) 0 (some f) W' (hp.to hb) (Nat.lt_of_lt_of_le (blk_lt hp) hb.size) (Nat.lt_of_lt_of_le hM hb.size) hi (by omega) hsz hov hq.over h94 h36
      (fun W'' hb' => hA R M g m o W'' ((hp.to hb).to hb') (Nat.lt_of_lt_of_le hM (Nat.le_trans hb.size hb'.size)))
      (rep_star hj hsz h42 R M g m o)
end
/-- Parse at a text that begins with an atom which is a set. -/
theorem parse_atom (s : ByteArray) (x : Bool) (f : Nat → Bool) (t : Bs) (w : World) (hs : s.data.toList = t) (hA : AtomAt x f s 0 t.length) (ht : t ≠ []) (hsz : t.length ≤ 4096) (hov : overB x t = false) (hh : ∀ r, t ≠ 94 :: r ∧ t ≠ 36 :: r) :
    Calls Tryz.prog 6 #[.string s, .bool x] w fun e w' => ParseP 2 f 0 0 none w.heap.size e w' ∧ Below w.heap.size w w' := by
  have hl : s.size = t.length := by rw [← hs]; simp
  have hi : 0 < s.size := by rw [hl]; exact List.length_pos_iff.2 ht
  have h0 : t = s[0]'hi :: s.data.toList.drop 1 := by
    rw [← hs]
    have : s.data.toList = s.data.toList.drop 0 := rfl
    conv => lhs; rw [this, List.drop_eq_getElem_cons (by simpa using hi)]
    rfl
  refine Parse_any s x 2 f 0 0 none 0 0 w (by omega) fun R M W hp hM => ?_
  have hA' := hA
  rw [← hl] at hA'
  exact bs_none hA' hi (Nat.le_refl _) (by omega) (by rw [List.drop_zero, hs]; exact hov) (fun e => (hh _).1 (by rw [← e]; exact h0)) (fun e => (hh _).2 (by rw [← e]; exact h0)) (by rw [List.drop_eq_nil_of_le (by simp)]; exact quiet_nil x) R M 0 _ 0 W hp (blk_lt hM)
theorem parse_star (s : ByteArray) (x : Bool) (f : Nat → Bool) (t : Bs) (w : World) (hs : s.data.toList = t ++ [42]) (hA : AtomAt x f s 0 t.length) (ht : t ≠ []) (hsz : t.length < 4096) (hov : overB x (t ++ [42]) = false) (hh : ∀ r, t ++ [(42 : UInt8)] ≠ 94 :: r ∧ t ++ [(42 : UInt8)] ≠ 36 :: r) :
    Calls Tryz.prog 6 #[.string s, .bool x] w fun e w' => ParseP 5 noneF (-1) 0 (some f) w.heap.size e w' ∧ Below w.heap.size w w' := by
  have hl : s.size = t.length + 1 := by
    have := congrArg List.length hs
    rw [List.length_append] at this
    have e : s.data.toList.length = s.size := by simp
    simpa [e] using this
  have hi : 0 < s.size := by omega
  have h0 : t ++ [(42 : UInt8)] = s[0]'hi :: s.data.toList.drop 1 := by
    rw [← hs]
    have : s.data.toList = s.data.toList.drop 0 := rfl
    conv => lhs; rw [this, List.drop_eq_getElem_cons (by simpa using hi)]
    rfl
  have hj : t.length < s.size := by omega
  have h42 : s[t.length]'hj = 42 := by
    have h : s.data.toList.drop t.length = [42] := by rw [hs]; simp
    exact (get_head h).2.1
  refine Parse_any s x 5 noneF (-1) 0 (some f) 0 0 w (by omega) fun R M W hp hM => ?_
  have h := bs_star hA hi hj (by omega) (by rw [List.drop_zero, hs]; exact hov) (fun e => (hh _).1 (by rw [← e]; exact h0)) (fun e => (hh _).2 (by rw [← e]; exact h0)) h42 (by rw [List.drop_eq_nil_of_le (by simp; omega)]; exact quiet_nil x) R M 0 (.map (some M)) 0 W hp (blk_lt hM)
  rw [hl]
  exact h
end Go.Proofs.YtlhppbendpnkeaaGreatDoor
