/- The document's own step: done, Do. -/
import Derived.Test.YtbhepdlcnfcfgaaF
import Derived.Lib.IndexBytes
import Derived.Deep.AppendLies
import Derived.Deep.RegionLaw
namespace Go.Proofs.Ytbhepdlcnfcfgaa
set_option linter.unusedSimpArgs false
set_option linter.unusedVariables false
open Go.RowKit

abbrev refVal (p h : ByteArray) (q : Value) (k : Int) : Value := .agg #[.string p, .string h, q, .int .i64 k]

/-- What done hands back. -/
def DonePost (w : World) (base : Nat) (q : Value) (k : Int) (t : ByteArray × ByteArray × List It) (e : Ending) (w' : World) : Prop :=
  ∃ ao n cap, e = .returned (refVal t.1 t.2.1 (.slice ao n cap) k) ∧ Qu w' base (.slice ao n cap) t.2.2 ∧ Below w.heap.size w w' ∧ ((Value.slice ao n cap).ownBlock = q.ownBlock ∨ (Value.slice ao n cap).ownBlock = none ∨ ∃ g, (Value.slice ao n cap).ownBlock = some g ∧ w.heap.size ≤ g)

theorem rest_cut (p : ByteArray) (h : nlIs p = true) : (p.extract (line p).size p.size).extract 1 (p.size - (line p).size) = rest p := by
  have hn : nlAt p < p.size := by simpa [nlIs] using h
  have hls : (line p).size = nlAt p := by unfold line; rw [ByteArray.size_extract]; omega
  have hr : rest p = p.extract (nlAt p + 1) p.size := by unfold rest; rw [if_pos hn]
  apply ba_ext
  have e : p.size - (line p).size = (p.extract (line p).size p.size).size := by rw [ByteArray.size_extract]; omega
  rw [e, Lib.extract_to_end, Lib.extract_to_end, hr, Lib.extract_to_end, List.drop_drop, hls]
theorem rest_end (p : ByteArray) (h : nlIs p = false) : p.extract (line p).size p.size = rest p := by
  have hl := line_last p h
  rw [hl.1, hl.2]
  apply ba_ext
  rw [Lib.extract_to_end, List.drop_of_length_le (by simp)]

theorem joined_l (a b : ByteArray) : joined a b = a ++ ⟨#[10]⟩ ++ b := by simp [joined, ByteArray.append_assoc]

theorem Qu.mono {w : World} {b b' : Nat} {v : Value} {l : List It} (h : Qu w b v l) (hb : b' ≤ b) : Qu w b' v l := by
  refine ⟨h.1, ?_⟩
  rcases h.2 with hn | ⟨g, cap, cur, hv, hbg, rest⟩
  · exact .inl hn
  · exact .inr ⟨g, cap, cur, hv, Nat.le_trans hb hbg, rest⟩
theorem bl_undrew {w w' : World} (h : Below w.drew.heap.size w.drew w') : Below w.heap.size w w' := ⟨h.os, h.tape, h.output, h.size, h.block⟩
theorem bl_alloc (w : World) (o : Obj) : Below w.heap.size w (w.alloc o) := (Below.refl _ _).alloc (Nat.le_refl _) o
/-- Of a block that is known whole: a cell, and that it is not frozen, in a later world. -/
theorem blk_cell {W w4 : World} {b : Nat} {cs : Array Value} {t : TypeId} (hb : Below W.heap.size W w4) (h : W.heap[b]? = some (.cells cs t (0, 0))) (i : Nat) {v : Value} (hv : cs[i]? = some v) : w4.cell? ⟨b, i, none⟩ = some v ∧ w4.frozen? ⟨b, i, none⟩ = false := by
  have h4 : w4.heap[b]? = some (.cells cs t (0, 0)) := (hb.block b (lt_of_block h)).trans h
  exact ⟨by simp [World.cell?, h4, hv], by simp [World.frozen?, h4]⟩

theorem own_ne54 {w : World} {b base : Nat} {cs : Array Value} {v : Value} {n : Nat} {xs : List Value} (s : w.heap[b]? = some (.cells cs 54 (0, 0))) (ho : w.ownsRow base 35 2 v n xs) : v.ownBlock ≠ some b := by
  rcases ho.2 with ⟨rfl, _⟩ | ⟨g, cap, cur, rfl, _, hg, _⟩
  · simp [Value.ownBlock]
  · intro e
    simp only [Value.ownBlock, Option.some.injEq] at e
    subst e
    rw [s] at hg
    simp at hg

theorem push_done {w W3 w4 : World} {base g cap : Nat} {p h : ByteArray} {k : Int} {q cv : Value} {l : List It} {ik : Int} {it : ByteArray} {c0 c2 : Array Value} {H : Nat} (hq : Qu w base q l) (h3 : Below w.heap.size w W3) (h4 : Below W3.heap.size W3 w4) (hs3 : W3.heap.size = w.heap.size + 1 + 1 + 1)
    (b0 : W3.heap[w.heap.size]? = some (.cells c0 54 (0, 0))) (b2 : W3.heap[w.heap.size + 1 + 1]? = some (.cells c2 54 (0, 0)))
    (hown : w4.ownsRow base 35 2 (.slice (some ⟨g, 0, none⟩) (l.length + 1) cap) (l.length + 1) (icells l ++ [.int .u8 ik, .string it])) (hge : ∀ g, cv.ownBlock = some g → W3.heap.size ≤ g) (hat : cv.ownBlock = some g ∨ g = H) (hH : W3.heap.size ≤ H) (v0 v1 v2 v3 v4 : Value) :
    DonePost w base q k (p, h, l ++ [(ik, it)]) (.returned (refVal p h (.slice (some ⟨g, 0, none⟩) (l.length + 1) cap) k)) (((((w4.setCell ⟨w.heap.size, 2, none⟩ v0).setCell ⟨w.heap.size + 1 + 1, 0, none⟩ v1).setCell ⟨w.heap.size + 1 + 1, 1, none⟩ v2).setCell ⟨w.heap.size + 1 + 1, 2, none⟩ v3).setCell ⟨w.heap.size + 1 + 1, 3, none⟩ v4) := by
  have n0 : (Value.slice (some ⟨g, 0, none⟩) (l.length + 1) cap).ownBlock ≠ some w.heap.size := own_ne54 ((h4.block _ (lt_of_block b0)).trans b0) hown
  have n2 : (Value.slice (some ⟨g, 0, none⟩) (l.length + 1) cap).ownBlock ≠ some (w.heap.size + 1 + 1) := own_ne54 ((h4.block _ (lt_of_block b2)).trans b2) hown
  refine ⟨_, _, _, rfl, ?_, ?_, .inr (.inr ⟨g, rfl, ?_⟩)⟩
  · exact Qu.snoc rfl (ownsRow_setCell_other (ownsRow_setCell_other (ownsRow_setCell_other (ownsRow_setCell_other (ownsRow_setCell_other hown n0 _) n2 _) n2 _) n2 _) n2 _)
  · exact (((((bl_to h3 h4).setCell (Nat.le_refl _) _).setCell (by simp; omega) _).setCell (by simp; omega) _).setCell (by simp; omega) _).setCell (by simp; omega) _
  · rcases hat with hat | hat
    · have := hge g hat; omega
    · omega

set_option maxHeartbeats 12800000 in
theorem done_push (p h : ByteArray) (q : Value) (k : Int) (l : List It) (base : Nat) (xt : ByteArray) (ik : Int) (it : ByteArray) (w : World) (hq : Qu w base q l) (hn : l.length + 1 ≤ 5864062014805) (hbase : base ≤ w.heap.size) :
    Calls Try.prog 45 #[refVal p h q k, stepVal ⟨8, xt, ik, it⟩] w (DonePost w base q k (nxt ⟨8, xt, ik, it⟩ p h l)) := by
  obtain ⟨ao, cap, rfl, _⟩ := hq.its.shape
  obtain ⟨i0, hi, hz0, hz1, hz2⟩ := info_parts Try.info35
  have HN : Hid (nxt ⟨8, xt, ik, it⟩ p h l = (p, h, l ++ [(ik, it)])) := by show _ = _; rfl
  rw [HN.out]
  have HQ := Lib.hid hq
  clear hq HN
  go_enter Try.func45, Try.ntmps45
  go_wp2_with fail
  obtain ⟨W3, hW3⟩ : ∃ W3, W3 = ((w.alloc (.cells #[.string p, .string h, .slice ao l.length cap, .int .i64 k] 54)).alloc (.cells #[.int .i64 8, .string xt, .int .u8 ik, .string it] 50)).alloc (.cells #[.string ⟨#[]⟩, .string ⟨#[]⟩, .slice none 0 0, .int .i64 0] 54) := ⟨_, rfl⟩
  rw [← hW3]
  have hs3 : W3.heap.size = w.heap.size + 1 + 1 + 1 := by rw [hW3]; simp
  have b0 : W3.heap[w.heap.size]? = some (.cells #[.string p, .string h, .slice ao l.length cap, .int .i64 k] 54 (0, 0)) := by
    rw [hW3, heap_alloc_old _ _ (by simp; omega), heap_alloc_old _ _ (by simp)]; exact heap_alloc_new w _
  have b1 : W3.heap[w.heap.size + 1]? = some (.cells #[.int .i64 8, .string xt, .int .u8 ik, .string it] 50 (0, 0)) := by
    rw [hW3, heap_alloc_old _ _ (by simp)]
    have := heap_alloc_new (w.alloc (.cells #[.string p, .string h, .slice ao l.length cap, .int .i64 k] 54)) (.cells #[.int .i64 8, .string xt, .int .u8 ik, .string it] 50)
    simpa using this
  have b2 : W3.heap[w.heap.size + 1 + 1]? = some (.cells #[.string ⟨#[]⟩, .string ⟨#[]⟩, .slice none 0 0, .int .i64 0] 54 (0, 0)) := by
    rw [hW3]
    have := heap_alloc_new ((w.alloc (.cells #[.string p, .string h, .slice ao l.length cap, .int .i64 k] 54)).alloc (.cells #[.int .i64 8, .string xt, .int .u8 ik, .string it] 50)) (.cells #[.string ⟨#[]⟩, .string ⟨#[]⟩, .slice none 0 0, .int .i64 0] 54)
    simpa using this
  have hb3 : Below w.heap.size w W3 := by
    rw [hW3]; exact bl_to ((Below.refl _ _).alloc (Nat.le_refl _) _) (bl_to ((Below.refl _ _).alloc (Nat.le_refl _) _) ((Below.refl _ _).alloc (Nat.le_refl _) _))
  clear hW3
  have s2 : W3.cell? ⟨w.heap.size, 2, none⟩ = some (.slice ao l.length cap) := by simp [World.cell?, b0]
  have x2 : W3.cell? ⟨w.heap.size + 1, 2, none⟩ = some (.int .u8 ik) := by simp [World.cell?, b1]
  have x3 : W3.cell? ⟨w.heap.size + 1, 3, none⟩ = some (.string it) := by simp [World.cell?, b1]
  have s2a : ∀ o, (W3.alloc o).cell? ⟨w.heap.size, 2, none⟩ = some (.slice ao l.length cap) := fun o => bl_cell ((Below.refl _ _).alloc (Nat.le_refl _) o) s2
  have x2a : ∀ o, (W3.alloc o).cell? ⟨w.heap.size + 1, 2, none⟩ = some (.int .u8 ik) := fun o => bl_cell ((Below.refl _ _).alloc (Nat.le_refl _) o) x2
  have x3a : ∀ o, (W3.alloc o).cell? ⟨w.heap.size + 1, 3, none⟩ = some (.string it) := fun o => bl_cell ((Below.refl _ _).alloc (Nat.le_refl _) o) x3
  have hl63 : l.length + 1 ≤ maxLen := by unfold maxLen; omega
  have hby : (l.length + 1) * 24 ≤ 140737488355328 := by omega
  have HQ3 := Lib.hid (bl_qu hb3 HQ.out)
  have HQ3a : Hid (∀ o, Its (W3.alloc o) (.slice ao l.length cap) l) := fun o => (Qu.alloc HQ3.out o).its
  have HB3 := Lib.hid hb3
  have B0 := Lib.hid b0
  have B1 := Lib.hid b1
  have B2 := Lib.hid b2
  have HS3 := Lib.hid hs3
  clear b0 b1 b2 hb3 hs3
  have hbW : base ≤ W3.heap.size := by have := HS3.out; omega
  go_region_law (first
    | (refine step_append_lies _ rfl (.tmp 82) (.tmp 85) 31 rfl base 35 i0 (.agg #[.int .u8 0, .string ⟨#[]⟩]) 2 24 Try.underlying31 hi hz0 hz1 hz2 rfl (by decide) cv l.length (icells l) (by simp [Act.eval, Act.put]) (Qu.alloc QB.out _) ⟨wc.heap.size, 0, none⟩ 1 1 [.int .u8 ik, .string it] (by simp [Act.eval, Act.put]) rfl (cells_two wc _ _ 35) (by intro u hu; simp at hu; rcases hu with rfl | rfl <;> rfl) (by omega) hl63 hby (by have := HB3C.out.size; simp; omega) (wc.heap.size + 1) (by simp) (fun g cap' w4 hown hgrow hat hlt => ?_); have hf4 := ((Fr.refl (fun i => cv.ownBlock = some i) wc).alloc _).trans (Fr.ofGrown hgrow) (fun i _ hi => hi); have HB4 := Lib.hid (HB3C.out.trans (hf4.toBelow HB3C.out.size (fun i _ hi => HGE.out i hi))); have s2 := blk_cell HB4.out B0.out 2 rfl; have s2c := s2.1; have s2f := s2.2; have HOWN := Lib.hid hown; have HAT := Lib.hid hat; clear hown hat hlt hgrow hf4 s2)
    | (refine step_append_lies _ rfl (.tmp 82) (.tmp 85) 31 rfl base 35 i0 (.agg #[.int .u8 0, .string ⟨#[]⟩]) 2 24 Try.underlying31 hi hz0 hz1 hz2 rfl (by decide) cv l.length (icells l) (by simp [Act.eval, Act.put]) QB.out ⟨W3.heap.size, 0, none⟩ 1 1 [.int .u8 ik, .string it] (by simp [Act.eval, Act.put]) rfl HNEWS.out (by intro u hu; simp at hu; rcases hu with rfl | rfl <;> rfl) (by omega) hl63 hby (by have := HB3C.out.size; omega) wc.heap.size rfl (fun g cap' w4 hown hgrow hat hlt => ?_); have hf4 := (Fr.ofGrown hgrow : Fr (fun i => cv.ownBlock = some i) wc w4); have HB4 := Lib.hid (HB3C.out.trans (hf4.toBelow HB3C.out.size (fun i _ hi => HGE.out i hi))); have s2 := blk_cell HB4.out B0.out 2 rfl; have s2c := s2.1; have s2f := s2.2; have HOWN := Lib.hid hown; have HAT := Lib.hid hat; clear hown hat hlt hgrow hf4 s2)
    | (go_simp; go_at_call 47; (refine (Copy_any _ l _ ?_ (by omega)).mono ?_); (first | exact HQ3.out.its | exact HQ3a.out _); rintro e wc ⟨cv, rfl, hqc, hbc⟩; have QB := Lib.hid (Qu.mono hqc (by simp; omega) : Qu wc base cv l); have HGE : Hid (∀ g, cv.ownBlock = some g → W3.heap.size ≤ g) := (fun g hg => by have := (hqc.lt hg).1; simp at this; omega); (first | (have HB3C : Hid (Below W3.heap.size W3 wc) := bl_undrew hbc) | (have HB3C : Hid (Below W3.heap.size W3 wc) := bl_to (bl_alloc W3 _) (bl_undrew hbc))); (first | (have HNEWS : Hid (∀ j u, [Value.int .u8 ik, Value.string it][j]? = some u → wc.cell? ((⟨W3.heap.size, 0, none⟩ : Addr).add j) = some u) := (fun j u hu => bl_cell hbc (cells_two W3 (.int .u8 ik) (.string it) 35 j u hu))) | skip); have x2c := bl_cell HB3C.out x2; have x3c := bl_cell HB3C.out x3; clear hqc hbc))
  all_goals
    have y0 : w4.cell? ⟨w.heap.size, 0, none⟩ = some (.string p) := (blk_cell HB4.out B0.out 0 rfl).1
    have y1 : w4.cell? ⟨w.heap.size, 1, none⟩ = some (.string h) := (blk_cell HB4.out B0.out 1 rfl).1
    have y3 : w4.cell? ⟨w.heap.size, 3, none⟩ = some (.int .i64 k) := (blk_cell HB4.out B0.out 3 rfl).1
    have z0 : w4.cell? ⟨w.heap.size + 1 + 1, 0, none⟩ = some (.string ⟨#[]⟩) := (blk_cell HB4.out B2.out 0 rfl).1
    have z0f : w4.frozen? ⟨w.heap.size + 1 + 1, 0, none⟩ = false := (blk_cell HB4.out B2.out 0 (v := .string ⟨#[]⟩) rfl).2
    have z1 : w4.cell? ⟨w.heap.size + 1 + 1, 1, none⟩ = some (.string ⟨#[]⟩) := (blk_cell HB4.out B2.out 1 rfl).1
    have z1f : w4.frozen? ⟨w.heap.size + 1 + 1, 1, none⟩ = false := (blk_cell HB4.out B2.out 1 (v := .string ⟨#[]⟩) rfl).2
    have z2 : w4.cell? ⟨w.heap.size + 1 + 1, 2, none⟩ = some (.slice none 0 0) := (blk_cell HB4.out B2.out 2 rfl).1
    have z2f : w4.frozen? ⟨w.heap.size + 1 + 1, 2, none⟩ = false := (blk_cell HB4.out B2.out 2 (v := .slice none 0 0) rfl).2
    have z3 : w4.cell? ⟨w.heap.size + 1 + 1, 3, none⟩ = some (.int .i64 0) := (blk_cell HB4.out B2.out 3 rfl).1
    have z3f : w4.frozen? ⟨w.heap.size + 1 + 1, 3, none⟩ = false := (blk_cell HB4.out B2.out 3 (v := .int .i64 0) rfl).2
    have HF := Lib.hid (push_done (p := p) (h := h) (k := k) HQ.out HB3.out HB4.out HS3.out B0.out B2.out HOWN.out HGE.out HAT.out (by have := HB3C.out.size; omega))
    clear HOWN HAT HGE HB4
    go_wp2
    exact bodyPost_ret (v := refVal p h (.slice (some ⟨g, 0, none⟩) (l.length + 1) cap') k) (by simp [results, Try.results45, go_sem, y0, y1, y3, z0, z1, z2, z3]) rfl (HF.out _ _ _ _ _)

set_option maxHeartbeats 6400000 in
theorem done_any (p h : ByteArray) (q : Value) (k : Int) (l : List It) (base : Nat) (x : Stp) (w : World) (hq : Qu w base q l) (hp : p.size ≤ 1073741824) (hh : h.size ≤ 1073741824) (ht : x.t.size ≤ 140737488355328) (hn : l.length + 1 ≤ 5864062014805) (hbase : base ≤ w.heap.size) :
    Calls Try.prog 45 #[refVal p h q k, stepVal x] w (DonePost w base q k (nxt x p h l)) := by
  obtain ⟨ao, cap, rfl, _⟩ := hq.its.shape
  have HQ := Lib.hid hq
  have HB : Hid (∀ o1 o2 o3, Below w.heap.size w (((w.alloc o1).alloc o2).alloc o3)) := fun o1 o2 o3 => bl_to ((Below.refl _ _).alloc (Nat.le_refl _) _) (bl_to ((Below.refl _ _).alloc (Nat.le_refl _) _) ((Below.refl _ _).alloc (Nat.le_refl _) _))
  clear hq
  obtain ⟨xk, xt, ik, it⟩ := x
  simp only at *
  by_cases hk : 0 ≤ xk ∧ xk ≤ 9
  · rcases (show xk = 0 ∨ xk = 1 ∨ xk = 2 ∨ xk = 3 ∨ xk = 4 ∨ xk = 5 ∨ xk = 6 ∨ xk = 7 ∨ xk = 8 ∨ xk = 9 by omega) with rfl | rfl | rfl | rfl | rfl | rfl | rfl | rfl | rfl | rfl
    · have HN : Hid (nxt ⟨0, xt, ik, it⟩ p h l = (xt, h, l)) := by show _ = _; rfl
      rw [HN.out]
      clear hk HN
      go_enter Try.func45, Try.ntmps45
      go_wp2_with fail
      exact bodyPost_ret (v := refVal _ _ _ _) (by simp [results, Try.results45, go_sem]) rfl ⟨_, _, _, rfl, Qu.alloc (Qu.alloc (Qu.alloc HQ.out _) _) _, HB.out _ _ _, .inl rfl⟩
    · have HN : Hid (nxt ⟨1, xt, ik, it⟩ p h l = (p ++ ⟨#[10]⟩ ++ xt, h, l)) := by show _ = _; rw [← joined_l]; rfl
      rw [HN.out]
      clear hk HN
      go_enter Try.func45, Try.ntmps45
      go_wp2_with fail
      exact bodyPost_ret (v := refVal _ _ _ _) (by simp [results, Try.results45, go_sem]) rfl ⟨_, _, _, rfl, Qu.alloc (Qu.alloc (Qu.alloc HQ.out _) _) _, HB.out _ _ _, .inl rfl⟩
    · have HN : Hid (nxt ⟨2, xt, ik, it⟩ p h l = (h, h, l)) := by show _ = _; rfl
      rw [HN.out]
      clear hk HN
      go_enter Try.func45, Try.ntmps45
      go_wp2_with fail
      exact bodyPost_ret (v := refVal _ _ _ _) (by simp [results, Try.results45, go_sem]) rfl ⟨_, _, _, rfl, Qu.alloc (Qu.alloc (Qu.alloc HQ.out _) _) _, HB.out _ _ _, .inl rfl⟩
    · have HN : Hid (nxt ⟨3, xt, ik, it⟩ p h l = (p ++ ⟨#[10]⟩ ++ h, h, l)) := by show _ = _; rw [← joined_l]; rfl
      rw [HN.out]
      clear hk HN
      go_enter Try.func45, Try.ntmps45
      go_wp2_with fail
      exact bodyPost_ret (v := refVal _ _ _ _) (by simp [results, Try.results45, go_sem]) rfl ⟨_, _, _, rfl, Qu.alloc (Qu.alloc (Qu.alloc HQ.out _) _) _, HB.out _ _ _, .inl rfl⟩
    · have HN : Hid (nxt ⟨4, xt, ik, it⟩ p h l = (p, p, l)) := by show _ = _; rfl
      rw [HN.out]
      clear hk HN
      go_enter Try.func45, Try.ntmps45
      go_wp2_with fail
      exact bodyPost_ret (v := refVal _ _ _ _) (by simp [results, Try.results45, go_sem]) rfl ⟨_, _, _, rfl, Qu.alloc (Qu.alloc (Qu.alloc HQ.out _) _) _, HB.out _ _ _, .inl rfl⟩
    · have HN : Hid (nxt ⟨5, xt, ik, it⟩ p h l = (p, h ++ ⟨#[10]⟩ ++ p, l)) := by show _ = _; rw [← joined_l]; rfl
      rw [HN.out]
      clear hk HN
      go_enter Try.func45, Try.ntmps45
      go_wp2_with fail
      exact bodyPost_ret (v := refVal _ _ _ _) (by simp [results, Try.results45, go_sem]) rfl ⟨_, _, _, rfl, Qu.alloc (Qu.alloc (Qu.alloc HQ.out _) _) _, HB.out _ _ _, .inl rfl⟩
    · have HN : Hid (nxt ⟨6, xt, ik, it⟩ p h l = (h, p, l)) := by show _ = _; rfl
      rw [HN.out]
      clear hk HN
      go_enter Try.func45, Try.ntmps45
      go_wp2_with fail
      exact bodyPost_ret (v := refVal _ _ _ _) (by simp [results, Try.results45, go_sem]) rfl ⟨_, _, _, rfl, Qu.alloc (Qu.alloc (Qu.alloc HQ.out _) _) _, HB.out _ _ _, .inl rfl⟩
    · have HN : Hid (nxt ⟨7, xt, ik, it⟩ p h l = (rest p, h, l)) := by show _ = _; rfl
      rw [HN.out]
      have hll := line_le p
      by_cases hnl : nlIs p = true
      · have h1 := (line_rest p hnl).2
        have h2 : (line p).size + 1 ≤ p.size := by
          have hx : nlAt p < p.size := by simpa [nlIs] using hnl
          have : (line p).size = nlAt p := by unfold line; rw [ByteArray.size_extract]; omega
          omega
        rw [← rest_cut p hnl]
        clear hk HN h1
        go_enter Try.func45, Try.ntmps45
        go_wp2_with (first
          | (go_at_call 30; refine (First_ref p _ (by omega)).mono ?_; rintro e w' ⟨rfl, rfl⟩))
        exact bodyPost_ret (v := refVal _ _ _ _) (by simp [results, Try.results45, go_sem]) rfl ⟨_, _, _, rfl, Qu.alloc (Qu.alloc (Qu.alloc HQ.out _) _) _, HB.out _ _ _, .inl rfl⟩
      · have hnf : nlIs p = false := by simpa using hnl
        rw [← rest_end p hnf]
        clear hk HN hnl
        go_enter Try.func45, Try.ntmps45
        go_wp2_with (first
          | (go_at_call 30; refine (First_ref p _ (by omega)).mono ?_; rintro e w' ⟨rfl, rfl⟩))
        exact bodyPost_ret (v := refVal _ _ _ _) (by simp [results, Try.results45, go_sem]) rfl ⟨_, _, _, rfl, Qu.alloc (Qu.alloc (Qu.alloc HQ.out _) _) _, HB.out _ _ _, .inl rfl⟩
    · exact done_push p h _ k l base xt ik it w HQ.out hn hbase
    · have HN : Hid (nxt ⟨9, xt, ik, it⟩ p h l = (p, h, [])) := by show _ = _; rfl
      rw [HN.out]
      clear hk HN
      go_enter Try.func45, Try.ntmps45
      go_wp2_with fail
      exact bodyPost_ret (v := refVal _ _ _ _) (by simp [results, Try.results45, go_sem]) rfl ⟨none, 0, 0, rfl, World.ownsRow_nil _ _ _ _, HB.out _ _ _, .inr (.inl rfl)⟩
  · have HN : Hid (nxt ⟨xk, xt, ik, it⟩ p h l = (p, h, l)) := by
      show _ = _
      unfold nxt
      simp only
      rw [if_neg (by omega), if_neg (by omega), if_neg (by omega), if_neg (by omega), if_neg (by omega), if_neg (by omega), if_neg (by omega), if_neg (by omega), if_neg (by omega), if_neg (by omega)]
    rw [HN.out]
    have n0 : (xk == 0) = false := by simp; omega
    have n1 : (xk == 1) = false := by simp; omega
    have n2 : (xk == 2) = false := by simp; omega
    have n3 : (xk == 3) = false := by simp; omega
    have n4 : (xk == 4) = false := by simp; omega
    have n5 : (xk == 5) = false := by simp; omega
    have n6 : (xk == 6) = false := by simp; omega
    have n7 : (xk == 7) = false := by simp; omega
    have n8 : (xk == 8) = false := by simp; omega
    have n9 : (xk == 9) = false := by simp; omega
    clear HN hk
    go_enter Try.func45, Try.ntmps45
    go_wp2_with fail
    exact bodyPost_ret (v := refVal _ _ _ _) (by simp [results, Try.results45, go_sem]) rfl ⟨_, _, _, rfl, Qu.alloc (Qu.alloc (Qu.alloc HQ.out _) _) _, HB.out _ _ _, .inl rfl⟩

end Go.Proofs.Ytbhepdlcnfcfgaa
