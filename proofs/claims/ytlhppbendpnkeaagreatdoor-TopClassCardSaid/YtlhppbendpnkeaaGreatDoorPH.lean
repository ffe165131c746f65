/- syntax.Print: repeat; Print at a star. -/
import Derived.Test.YtlhppbendpnkeaaGreatDoorPG
namespace Go.Proofs.YtlhppbendpnkeaaGreatDoor
set_option linter.unusedSimpArgs false
set_option linter.unusedVariables false
open Go.RowKit

set_option maxRecDepth 100000 in
set_option maxHeartbeats 6400000 in
theorem repeat_any (B R : Nat) (x : Bool) (l : Bs) (f : Nat → Bool) (D : Nat) (w : World) (h : Wr w B R x l) (hD : w.heap[D]? = some (.cells (seC f) 30 (0, 0))) (hlen : l.length + (setT x f).length + 1 ≤ 4096) (hBw : B ≤ w.heap.size) :
    Calls Tryz.prog 57 #[.pointer (some ⟨R, 0, none⟩), .agg (reC (.slice (some ⟨D, 0, none⟩) 1 1))] w fun e w' => e = .returned (.tuple #[]) ∧ (Wr w' B R x (l ++ (setT x f ++ [42])) ∧ Ot B R w w') := by
  obtain ⟨W1, hW1⟩ : ∃ W, w.alloc (.cells (reC (.slice (some ⟨D, 0, none⟩) 1 1)) 30) = W := ⟨_, rfl⟩
  have HB1 : Hid (Below w.heap.size w W1) := by show Below _ _ _; rw [← hW1]; exact bl_alloc _ _
  have HN1 : Hid (W1.heap[w.heap.size]? = some (.cells (reC (.slice (some ⟨D, 0, none⟩) 1 1)) 30 (0, 0))) := by show _ = _; rw [← hW1]; exact heap_alloc_new _ _
  have hs1 : w.heap.size ≤ W1.heap.size := HB1.out.size
  have hk : ∀ ob, (w.alloc ob).heap[D]? = some (.cells (seC f) 30 (0, 0)) := fun ob => blk_below hD (bl_alloc w ob) (blk_lt hD)
  have HC := Lib.hid (node_set B R x l f W1 (h.to HB1.out) (by omega) (by omega))
  have hRl := h.lt
  have HWr := Lib.hid h
  have HW1 := Lib.hid hW1
  have HLEN := Lib.hid hlen
  unfold reC at HW1 ⊢
  unfold seC at HC hk
  have k0 := fun ob => (blk_at (hk ob) 0 (v := .int .u8 2) rfl).1
  have k1 := fun ob => (blk_at (hk ob) 1 (v := .int .u64 (sW f 0 : Nat)) rfl).1
  have k2 := fun ob => (blk_at (hk ob) 2 (v := .int .u64 (sW f 1 : Nat)) rfl).1
  have k3 := fun ob => (blk_at (hk ob) 3 (v := .int .u64 (sW f 2 : Nat)) rfl).1
  have k4 := fun ob => (blk_at (hk ob) 4 (v := .int .u64 (sW f 3 : Nat)) rfl).1
  have k5 := fun ob => (blk_at (hk ob) 5 (v := .int .i64 0) rfl).1
  have k6 := fun ob => (blk_at (hk ob) 6 (v := .int .i64 0) rfl).1
  have k7 := fun ob => (blk_at (hk ob) 7 (v := .int .i64 0) rfl).1
  have k8 := fun ob => (blk_at (hk ob) 8 (v := .slice none 0 0) rfl).1
  clear hW1 h hD hk hlen
  go_enter Tryz.func57, Tryz.ntmps57
  go_wp2_with fail
  rw [HW1.out]
  refine HC.out.mono ?_
  rintro e w2 ⟨rfl, hw2, ho2⟩
  have hn := ho2.keep w.heap.size _ HN1.out (by omega) (fun C fr e => by simp only [Obj.cells.injEq] at e; exact absurd e.2.1 (by decide))
  unfold reC at hn
  have c5 : w2.cell? ⟨w.heap.size, 5, none⟩ = some (.int .i64 0) := (blk_at hn 5 rfl).1
  have c6 : w2.cell? ⟨w.heap.size, 6, none⟩ = some (.int .i64 (-1)) := (blk_at hn 6 rfl).1
  have H2 := Lib.hid hw2
  have O2 := Lib.hid ho2
  have hs2 := ho2.size
  have HP := Lib.hid (put_any B R x (l ++ setT x f) { data := #[42] } w2 hw2 (by rw [List.length_append]; exact HLEN.out) (by omega))
  clear hn hw2 ho2 k0 k1 k2 k3 k4 k5 k6 k7 k8
  go_wp2_with fail
  refine HP.out.mono ?_
  rintro e w3 ⟨rfl, hw3, ho3⟩
  have H3 := Lib.hid hw3
  have O3 := Lib.hid ho3
  clear hw3 ho3
  go_wp2_with fail
  go_end0
  refine ⟨rfl, ?_, ((Ot.ofBelow HB1.out hBw).trans O2.out).trans O3.out⟩
  rw [← List.append_assoc]
  exact H3.out

theorem catch19 (p q : Value) (w : World) :
    CallsD Tryz.prog 19 #[p, q] .returning w fun e u' w' => e = .returned (.tuple #[]) ∧ u' = .returning ∧ w' = w := by
  refine callsD_of_wpS Tryz.func19 rfl fun c₀ cs hu => ?_
  apply wpS_seq
  apply wpS_region
  simp [wpOpsS, go_sem, recoverD, hu, Tryz.ntmps19, Exit.thenS]
  apply wpS_seq
  apply wpS_region
  simp [wpOpsS, go_sem, recoverD, hu, Exit.thenS]
  refine wpS_cond (t := false) (by simp [Act.eval, Array.replicate]) ?_
  simp only [Bool.false_eq_true, if_false]
  refine wpS_of_wp (wp_skip ?_)
  cases c₀
  simp_all [bodyPostS, results, Tryz.results19]

theorem freeze_other (w : World) (p : Addr) (n k : Nat) (h : k ≠ p.block) : (w.freeze p n).heap[k]? = w.heap[k]? := by
  unfold World.freeze
  split
  · rfl
  · simp only [Array.getElem?_modify]
    rw [if_neg (Ne.symm h)]
theorem freeze_size (w : World) (p : Addr) (n : Nat) : (w.freeze p n).heap.size = w.heap.size := by
  unfold World.freeze
  split
  · rfl
  · simp

set_option maxRecDepth 100000 in
set_option maxHeartbeats 3200000 in
theorem String_o (B R : Nat) (x : Bool) (l : Bs) (w : World) (h : Wr w B R x l) (h0 : l ≠ []) :
    Calls Tryz.prog 21 #[.pointer (some ⟨R, 0, none⟩)] w fun e w' => e = .returned (.string ⟨l.toArray⟩) ∧ Ot B R w w' := by
  obtain ⟨hB, p, v, hp, hbk, hown, hne⟩ := h
  have hl0 : l.length ≠ 0 := by simpa using h0
  obtain ⟨g, cap, cur, rfl, hbg, hg, hnc, hcm, hcs, htake⟩ : ∃ g cap cur, v = .slice (some ⟨g, 0, none⟩) l.length cap ∧ B ≤ g ∧ w.heap[g]? = some (.cells cur 5 (0, 0)) ∧ l.length ≤ cap ∧ cap ≤ maxLen ∧ cur.size = cap * 1 ∧ cur.toList.take (l.length * 1) = Lib.byteCells l := by
    rcases hown.2 with ⟨_, hz⟩ | ⟨g, cap, cur, hv, r⟩
    · exact absurd hz hl0
    · exact ⟨g, cap, cur, hv, r⟩
  have c1 : w.drew.cell? ⟨R, 1, none⟩ = some (.slice (some ⟨g, 0, none⟩) l.length cap) := (blk_at (w := w.drew) (b := R) (t := 62) hbk 1 rfl).1
  have hSD : (Builtin.unsafeSliceData_ #[44] 86 #[.slice (some ⟨g, 0, none⟩) l.length cap]).run Tryz.prog w.drew = .ok (.pointer (some ⟨g, 0, none⟩)) w.drew :=
    Lib.run_unsafeSliceData_row _ _ _ _ _ _ (by omega)
  have hUS : (Builtin.unsafeString_ #[86, 3] 9 #[.pointer (some ⟨g, 0, none⟩), .int .i64 l.length]).run Tryz.prog w.drew = .ok (.string ⟨l.toArray⟩) (w.drew.freeze ⟨g, 0, none⟩ l.length) := by
    refine Lib.run_unsafeString_row w.drew 86 3 9 5 Tryz.underlying86 (by kernel_rfl) g cur.size (by have hg' : w.drew.heap[g]? = some (.cells cur 5 (0, 0)) := hg; simp [World.shape?, hg']) l h0 (by omega) (by unfold maxLen at hcm; omega) ?_
    intro j y hy
    exact hown.cells (g := g) rfl j (.int .u8 y.toNat) (by simp [Lib.byteCells, hy])
  have HG := Lib.hid hg
  clear hp hbk hown hne hg hcs htake h0
  go_enter Tryz.func21, Tryz.ntmps21
  go_wp2_with fail
  go_region
  all_goals
    go_wp2_with fail
    go_ret
    refine ⟨rfl, Lib.below_freeze (Below.drew (Below.refl B w)) (p := ⟨g, 0, none⟩) hbg _, by rw [freeze_size]; exact Nat.le_refl _, fun k o hk hn hb => ?_⟩
    rw [freeze_other _ _ _ _ (fun e => by
      have hg := HG.out
      have e' : k = g := e
      subst e'
      rw [hg] at hk
      simp only [Option.some.injEq] at hk
      exact hb _ _ hk.symm)]
    exact hk

set_option maxRecDepth 100000 in
set_option maxHeartbeats 6400000 in
theorem Print_rep (x : Bool) (f : Nat → Bool) (D : Nat) (w : World) (hD : w.heap[D]? = some (.cells (seC f) 30 (0, 0))) :
    Calls Tryz.prog 7 #[.agg (reC (.slice (some ⟨D, 0, none⟩) 1 1)), .bool x] w fun e w' => e = .returned (.tuple #[.string ⟨(setT x f ++ [42]).toArray⟩, .int .i64 0]) ∧ Below w.heap.size w w' := by
  have hmf : ∀ (fn : Fn) (first cap : Array Value) (w : World), (Instr.makeFunc fn first cap).run Tryz.prog w = .ok (.func fn first cap) w := fun _ _ _ _ => rfl
  obtain ⟨n, hn⟩ : ∃ n, w.heap.size = n := ⟨_, rfl⟩
  obtain ⟨W1, hW1⟩ : ∃ W, ((w.alloc (.cells (reC (.slice (some ⟨D, 0, none⟩) 1 1)) 30)).alloc (.cells #[.string { data := #[] }] 9)).alloc (.cells #[.int .i64 0] 31) = W := ⟨_, rfl⟩
  have HB1 : Hid (Below n w W1) := by show Below _ _ _; rw [← hW1, ← hn]; go_grown
  have HN1 : Hid (W1.heap[n]? = some (.cells (reC (.slice (some ⟨D, 0, none⟩) 1 1)) 30 (0, 0))) := by
    show _ = _
    rw [← hW1, Below.heap_alloc _ _ _ (by simp; omega), Below.heap_alloc _ _ _ (by simp; omega), ← hn]; exact heap_alloc_new _ _
  have H41 : Hid (W1.heap[n + 1]? = some (.cells #[.string { data := #[] }] 9 (0, 0))) := by
    show _ = _
    rw [← hW1, Below.heap_alloc _ _ _ (by simp; omega), ← hn]; exact heap_alloc2_new _ _ _
  have H51 : Hid (W1.heap[n + 1 + 1]? = some (.cells #[.int .i64 0] 31 (0, 0))) := by
    show _ = _
    have h := heap_alloc_new ((w.alloc (.cells (reC (.slice (some ⟨D, 0, none⟩) 1 1)) 30)).alloc (.cells #[.string { data := #[] }] 9)) (.cells #[.int .i64 0] 31)
    simp only [World.size_alloc, hn] at h
    rw [← hW1]; exact h
  have hDn := blk_lt hD
  have HD1 : Hid (W1.heap[D]? = some (.cells (seC f) 30 (0, 0))) := blk_below hD HB1.out (by omega)
  have HRI : Hid (∀ W, W.heap[D]? = some (.cells (seC f) 30 (0, 0)) → Calls Tryz.prog 17 #[.agg (reC (.slice (some ⟨D, 0, none⟩) 1 1))] W fun e w' => e = .returned (.bool true) ∧ Below W.heap.size W w') := fun W hW => Right_rep D f W hW
  have HAN : Hid (∀ W, W.heap[D]? = some (.cells (seC f) 30 (0, 0)) → Calls Tryz.prog 18 #[.agg (reC (.slice (some ⟨D, 0, none⟩) 1 1))] W fun e w' => e = .returned (.bool true) ∧ Below W.heap.size W w') := fun W hW => anchored_rep D f W hW
  have HNO : Hid (∀ R W, Wr W n R x [] → W.heap[D]? = some (.cells (seC f) 30 (0, 0)) → n ≤ W.heap.size → Calls Tryz.prog 20 #[.pointer (some ⟨R, 0, none⟩), .agg (reC (.slice (some ⟨D, 0, none⟩) 1 1))] W fun e w' => e = .returned (.tuple #[]) ∧ (Wr w' n R x ([] ++ (setT x f ++ [42])) ∧ Ot n R W w')) := fun R W hW hd hb =>
    node_rep0 n R x [] D (setT x f ++ [42]) W hW hb (fun W' hW' hb' hbl => repeat_any n R x [] f D W' hW' (blk_below hd hbl (blk_lt hd)) (by have := setT_le x f; simp; omega) hb')
  have HW1 := Lib.hid hW1
  unfold reC at HW1 HRI HAN HNO ⊢
  rw [hn]
  have HNN := Lib.hid hn
  clear hW1 hD hn
  go_enter_defers Tryz.func7, Tryz.ntmps7
  go_wp2_with fail
  rw [HW1.out, HNN.out]
  refine (HRI.out W1 HD1.out).mono ?_
  rintro e w2 ⟨rfl, hb2⟩
  have HB2 : Hid (Below n w w2) := HB1.out.trans (hb2.mono (by have := HB1.out.size; have := HNN.out; omega))
  have HN2 := Lib.hid (blk_below HN1.out hb2 (blk_lt HN1.out))
  have HD2 := Lib.hid (blk_below HD1.out hb2 (blk_lt HD1.out))
  have H42 := Lib.hid (blk_below H41.out hb2 (blk_lt H41.out))
  have H52 := Lib.hid (blk_below H51.out hb2 (blk_lt H51.out))
  clear hb2
  cases x with
  | true =>
    have HZN := HN2
    have HZD := HD2
    have HZ4 := H42
    have HZ5 := H52
    have HZB := HB2
    obtain ⟨W3, hW3⟩ : ∃ W, w2.alloc (.cells #[.pointer none, .slice none 0 0, .bool true] 62) = W := ⟨_, rfl⟩
    have hb3 : Below w2.heap.size w2 W3 := by rw [← hW3]; exact bl_alloc _ _
    have HR3 : Hid (W3.heap[w2.heap.size]? = some (.cells #[.pointer none, .slice none 0 0, .bool true] 62 (0, 0))) := by show _ = _; rw [← hW3]; exact heap_alloc_new _ _
    have hlt : n + 1 + 1 < w2.heap.size := blk_lt HZ5.out
    have HWR : Hid (Wr W3 n w2.heap.size true []) := ⟨by omega, .pointer none, .slice none 0 0, .inl rfl, HR3.out, ⟨rfl, .inl ⟨rfl, rfl⟩⟩, by simp [Value.ownBlock]⟩
    have HN3 := Lib.hid (blk_below HZN.out hb3 (blk_lt HZN.out))
    have HD3 := Lib.hid (blk_below HZD.out hb3 (blk_lt HZD.out))
    have H43 := Lib.hid (blk_below HZ4.out hb3 (blk_lt HZ4.out))
    have H53 := Lib.hid (blk_below HZ5.out hb3 (blk_lt HZ5.out))
    have hs3 := hb3.size
    have HB3 : Hid (Below n w W3) := HZB.out.trans (hb3.mono (by omega))
    have HW3 := Lib.hid hW3
    have hk : ∀ ob, (w2.alloc ob).heap[n]? = some (.cells (reC (.slice (some ⟨D, 0, none⟩) 1 1)) 30 (0, 0)) := fun ob => blk_below HZN.out (bl_alloc w2 ob) (blk_lt HZN.out)
    unfold reC at hk
    have c0 := fun ob => (blk_at (hk ob) 0 (v := .int .u8 5) rfl).1
    have c1 := fun ob => (blk_at (hk ob) 1 (v := .int .u64 0) rfl).1
    have c2 := fun ob => (blk_at (hk ob) 2 (v := .int .u64 0) rfl).1
    have c3 := fun ob => (blk_at (hk ob) 3 (v := .int .u64 0) rfl).1
    have c4 := fun ob => (blk_at (hk ob) 4 (v := .int .u64 0) rfl).1
    have c5 := fun ob => (blk_at (hk ob) 5 (v := .int .i64 0) rfl).1
    have c6 := fun ob => (blk_at (hk ob) 6 (v := .int .i64 (-1)) rfl).1
    have c7 := fun ob => (blk_at (hk ob) 7 (v := .int .i64 0) rfl).1
    have c8 := fun ob => (blk_at (hk ob) 8 (v := .slice (some ⟨D, 0, none⟩) 1 1) rfl).1
    clear hk hb3 hW3
    go_wp2_with fail
    rw [HW3.out]
    refine (HNO.out _ W3 HWR.out HD3.out (by omega)).mono ?_
    rintro e w4 ⟨rfl, hw4, ho4⟩
    rw [List.nil_append] at hw4
    have hs4 := ho4.size
    have hne : ∀ (C : Array Value) (t : TypeId), t ≠ 5 → ∀ C' fr, Obj.cells C t (0, 0) ≠ .cells C' 5 fr := fun C t ht C' fr e => by simp only [Obj.cells.injEq] at e; exact ht e.2.1
    have H44 := Lib.hid (ho4.keep _ _ H43.out (by omega) (hne _ _ (by decide)))
    have H54 := Lib.hid (ho4.keep _ _ H53.out (by omega) (hne _ _ (by decide)))
    have HB4 : Hid (Below n w w4) := HB3.out.trans ho4.below
    have HST := Lib.hid (String_o n _ true _ w4 hw4 (by simp))
    clear ho4 hw4 c0 c1 c2 c3 c4 c5 c6 c7 c8
    go_wp2_with fail
    refine HST.out.mono ?_
    rintro e w5 ⟨rfl, ho5⟩
    have h45 := ho5.keep _ _ H44.out (by omega) (hne _ _ (by decide))
    have h55 := ho5.keep _ _ H54.out (by omega) (hne _ _ (by decide))
    have HB5 : Hid (Below n w w5) := HB4.out.trans ho5.below
    obtain ⟨d1, g1⟩ := blk_at h45 0 (v := .string { data := #[] }) rfl
    obtain ⟨d2, g2⟩ := blk_at h55 0 (v := .int .i64 0) rfl
    have H45 := Lib.hid h45
    have H55 := Lib.hid h55
    obtain ⟨rs, hrs⟩ : ∃ rs : ByteArray, (⟨(setT true f ++ [42]).toArray⟩ : ByteArray) = rs := ⟨_, rfl⟩
    rw [hrs]
    clear ho5 h45 h55
    go_wp2_with fail
    obtain ⟨W6, hW6⟩ : ∃ W, (w5.setCell ⟨n + 1, 0, none⟩ (.string rs)).setCell ⟨n + 1 + 1, 0, none⟩ (.int .i64 0) = W := ⟨_, rfl⟩
    have e1 : W6.cell? ⟨n + 1, 0, none⟩ = some (.string rs) := by
      rw [← hW6]; simp [World.cell?, World.setCell, Array.getElem?_modify, H45.out]
    have e2 : W6.cell? ⟨n + 1 + 1, 0, none⟩ = some (.int .i64 0) := by
      rw [← hW6]; simp [World.cell?, World.setCell, Array.getElem?_modify, H55.out]
    have HB6 : Below n w W6 := by rw [← hW6]; exact (HB5.out.setCell (by show n ≤ n + 1; omega) _).setCell (by show n ≤ n + 1 + 1; omega) _
    rw [hW6]
    clear d1 d2 g1 g2
    refine leaves_cons (f := 19) (args := #[.pointer (some ⟨n + 1, 0, none⟩), .pointer (some ⟨n + 1 + 1, 0, none⟩)]) (by simp) (by simp [go_sem]) ?_
    refine (catch19 _ _ _).mono ?_
    rintro e u' w'' ⟨rfl, rfl, rfl⟩
    exact ⟨.tuple #[.string rs, .int .i64 0], by simp [results, Tryz.results7, go_sem, e1, e2], by rw [← hrs], HB6⟩
  | false =>
    have hk2 := HN2.out
    unfold reC at hk2
    have q0 := (blk_at hk2 0 rfl).1
    have q1 := (blk_at hk2 1 rfl).1
    have q2 := (blk_at hk2 2 rfl).1
    have q3 := (blk_at hk2 3 rfl).1
    have q4 := (blk_at hk2 4 rfl).1
    have q5 := (blk_at hk2 5 rfl).1
    have q6 := (blk_at hk2 6 rfl).1
    have q7 := (blk_at hk2 7 rfl).1
    have q8 := (blk_at hk2 8 rfl).1
    simp only [List.getElem_toArray, List.getElem_cons_zero, List.getElem_cons_succ] at q0 q1 q2 q3 q4 q5 q6 q7 q8
    clear hk2
    go_wp2_with fail
    refine (HAN.out w2 HD2.out).mono ?_
    rintro e w2' ⟨rfl, hb2'⟩
    have HZB : Hid (Below n w w2') := HB2.out.trans (hb2'.mono (by have := blk_lt HN2.out; omega))
    have HZN := Lib.hid (blk_below HN2.out hb2' (blk_lt HN2.out))
    have HZD := Lib.hid (blk_below HD2.out hb2' (blk_lt HD2.out))
    have HZ4 := Lib.hid (blk_below H42.out hb2' (blk_lt H42.out))
    have HZ5 := Lib.hid (blk_below H52.out hb2' (blk_lt H52.out))
    clear hb2' q0 q1 q2 q3 q4 q5 q6 q7 q8
    obtain ⟨W3, hW3⟩ : ∃ W, w2'.alloc (.cells #[.pointer none, .slice none 0 0, .bool false] 62) = W := ⟨_, rfl⟩
    have hb3 : Below w2'.heap.size w2' W3 := by rw [← hW3]; exact bl_alloc _ _
    have HR3 : Hid (W3.heap[w2'.heap.size]? = some (.cells #[.pointer none, .slice none 0 0, .bool false] 62 (0, 0))) := by show _ = _; rw [← hW3]; exact heap_alloc_new _ _
    have hlt : n + 1 + 1 < w2'.heap.size := blk_lt HZ5.out
    have HWR : Hid (Wr W3 n w2'.heap.size false []) := ⟨by omega, .pointer none, .slice none 0 0, .inl rfl, HR3.out, ⟨rfl, .inl ⟨rfl, rfl⟩⟩, by simp [Value.ownBlock]⟩
    have HN3 := Lib.hid (blk_below HZN.out hb3 (blk_lt HZN.out))
    have HD3 := Lib.hid (blk_below HZD.out hb3 (blk_lt HZD.out))
    have H43 := Lib.hid (blk_below HZ4.out hb3 (blk_lt HZ4.out))
    have H53 := Lib.hid (blk_below HZ5.out hb3 (blk_lt HZ5.out))
    have hs3 := hb3.size
    have HB3 : Hid (Below n w W3) := HZB.out.trans (hb3.mono (by omega))
    have HW3 := Lib.hid hW3
    have hk : ∀ ob, (w2'.alloc ob).heap[n]? = some (.cells (reC (.slice (some ⟨D, 0, none⟩) 1 1)) 30 (0, 0)) := fun ob => blk_below HZN.out (bl_alloc w2' ob) (blk_lt HZN.out)
    unfold reC at hk
    have c0 := fun ob => (blk_at (hk ob) 0 (v := .int .u8 5) rfl).1
    have c1 := fun ob => (blk_at (hk ob) 1 (v := .int .u64 0) rfl).1
    have c2 := fun ob => (blk_at (hk ob) 2 (v := .int .u64 0) rfl).1
    have c3 := fun ob => (blk_at (hk ob) 3 (v := .int .u64 0) rfl).1
    have c4 := fun ob => (blk_at (hk ob) 4 (v := .int .u64 0) rfl).1
    have c5 := fun ob => (blk_at (hk ob) 5 (v := .int .i64 0) rfl).1
    have c6 := fun ob => (blk_at (hk ob) 6 (v := .int .i64 (-1)) rfl).1
    have c7 := fun ob => (blk_at (hk ob) 7 (v := .int .i64 0) rfl).1
    have c8 := fun ob => (blk_at (hk ob) 8 (v := .slice (some ⟨D, 0, none⟩) 1 1) rfl).1
    clear hk hb3 hW3
    go_wp2_with fail
    rw [HW3.out]
    refine (HNO.out _ W3 HWR.out HD3.out (by omega)).mono ?_
    rintro e w4 ⟨rfl, hw4, ho4⟩
    rw [List.nil_append] at hw4
    have hs4 := ho4.size
    have hne : ∀ (C : Array Value) (t : TypeId), t ≠ 5 → ∀ C' fr, Obj.cells C t (0, 0) ≠ .cells C' 5 fr := fun C t ht C' fr e => by simp only [Obj.cells.injEq] at e; exact ht e.2.1
    have H44 := Lib.hid (ho4.keep _ _ H43.out (by omega) (hne _ _ (by decide)))
    have H54 := Lib.hid (ho4.keep _ _ H53.out (by omega) (hne _ _ (by decide)))
    have HB4 : Hid (Below n w w4) := HB3.out.trans ho4.below
    have HST := Lib.hid (String_o n _ false _ w4 hw4 (by simp))
    clear ho4 hw4 c0 c1 c2 c3 c4 c5 c6 c7 c8
    go_wp2_with fail
    refine HST.out.mono ?_
    rintro e w5 ⟨rfl, ho5⟩
    have h45 := ho5.keep _ _ H44.out (by omega) (hne _ _ (by decide))
    have h55 := ho5.keep _ _ H54.out (by omega) (hne _ _ (by decide))
    have HB5 : Hid (Below n w w5) := HB4.out.trans ho5.below
    obtain ⟨d1, g1⟩ := blk_at h45 0 (v := .string { data := #[] }) rfl
    obtain ⟨d2, g2⟩ := blk_at h55 0 (v := .int .i64 0) rfl
    have H45 := Lib.hid h45
    have H55 := Lib.hid h55
    obtain ⟨rs, hrs⟩ : ∃ rs : ByteArray, (⟨(setT false f ++ [42]).toArray⟩ : ByteArray) = rs := ⟨_, rfl⟩
    rw [hrs]
    clear ho5 h45 h55
    go_wp2_with fail
    obtain ⟨W6, hW6⟩ : ∃ W, (w5.setCell ⟨n + 1, 0, none⟩ (.string rs)).setCell ⟨n + 1 + 1, 0, none⟩ (.int .i64 0) = W := ⟨_, rfl⟩
    have e1 : W6.cell? ⟨n + 1, 0, none⟩ = some (.string rs) := by
      rw [← hW6]; simp [World.cell?, World.setCell, Array.getElem?_modify, H45.out]
    have e2 : W6.cell? ⟨n + 1 + 1, 0, none⟩ = some (.int .i64 0) := by
      rw [← hW6]; simp [World.cell?, World.setCell, Array.getElem?_modify, H55.out]
    have HB6 : Below n w W6 := by rw [← hW6]; exact (HB5.out.setCell (by show n ≤ n + 1; omega) _).setCell (by show n ≤ n + 1 + 1; omega) _
    rw [hW6]
    clear d1 d2 g1 g2
    refine leaves_cons (f := 19) (args := #[.pointer (some ⟨n + 1, 0, none⟩), .pointer (some ⟨n + 1 + 1, 0, none⟩)]) (by simp) (by simp [go_sem]) ?_
    refine (catch19 _ _ _).mono ?_
    rintro e u' w'' ⟨rfl, rfl, rfl⟩
    exact ⟨.tuple #[.string rs, .int .i64 0], by simp [results, Tryz.results7, go_sem, e1, e2], by rw [← hrs], HB6⟩
end Go.Proofs.YtlhppbendpnkeaaGreatDoor
