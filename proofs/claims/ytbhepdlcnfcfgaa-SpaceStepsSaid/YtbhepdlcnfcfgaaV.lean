/- The document's own step: Do. -/
import Derived.Test.YtbhepdlcnfcfgaaH
namespace Go.Proofs.Ytbhepdlcnfcfgaa
set_option linter.unusedSimpArgs false
set_option linter.unusedVariables false
open Go.RowKit

def RefDo (w : World) (base : Nat) (q : Value) (k : Int) (t : ByteArray × ByteArray × List It) (c : Int) (e : Ending) (w' : World) : Prop :=
  ∃ ao n cap, e = .returned (.tuple #[refVal t.1 t.2.1 (.slice ao n cap) k, .int .i64 c]) ∧ Qu w' base (.slice ao n cap) t.2.2 ∧ Below w.heap.size w w' ∧ ((Value.slice ao n cap).ownBlock = q.ownBlock ∨ (Value.slice ao n cap).ownBlock = none ∨ ∃ g, (Value.slice ao n cap).ownBlock = some g ∧ w.heap.size ≤ g)

theorem nxt_bounds (x : Stp) (p h : ByteArray) (l : List It) (hp : p.size ≤ 1073741824) (hh : h.size ≤ 1073741824) (hl : tot l ≤ 1073741824) (ht : x.t.size ≤ 140737488355328) (hit : x.it.size ≤ 140737488355328) : sz (nxt x p h l) ≤ 562949953421312 ∧ (nxt x p h l).2.2.length ≤ l.length + 1 := by
  have j1 := joined_size p x.t
  have j2 := joined_size p h
  have j3 := joined_size h p
  have hr := rest_le p
  have ha : tot (l ++ [(x.ik, x.it)]) = tot l + x.it.size := by rw [tot_append]; simp [tot]
  unfold nxt sz
  repeat' split
  all_goals
    simp only [tot]
    refine ⟨?_, ?_⟩
    · omega
    · simp

theorem three (w : World) (c0 c1 c2 : Array Value) (t0 t1 t2 : TypeId) :
    let W3 := ((w.alloc (.cells c0 t0)).alloc (.cells c1 t1)).alloc (.cells c2 t2)
    W3.heap[w.heap.size]? = some (.cells c0 t0 (0, 0)) ∧ W3.heap[w.heap.size + 1]? = some (.cells c1 t1 (0, 0)) ∧ W3.heap[w.heap.size + 1 + 1]? = some (.cells c2 t2 (0, 0)) ∧ W3.heap.size = w.heap.size + 1 + 1 + 1 ∧ Below w.heap.size w W3 := by
  intro W3
  refine ⟨?_, ?_, ?_, by simp [W3], bl_to (bl_alloc _ _) (bl_to (bl_alloc _ _) (bl_alloc _ _))⟩
  · rw [heap_alloc_old _ _ (by simp; omega), heap_alloc_old _ _ (by simp)]; exact heap_alloc_new w _
  · rw [heap_alloc_old _ _ (by simp)]
    have := heap_alloc_new (w.alloc (.cells c0 t0)) (.cells c1 t1)
    rwa [show (w.alloc (.cells c0 t0)).heap.size = w.heap.size + 1 by simp] at this
  · have := heap_alloc_new ((w.alloc (.cells c0 t0)).alloc (.cells c1 t1)) (.cells c2 t2)
    rwa [show ((w.alloc (.cells c0 t0)).alloc (.cells c1 t1)).heap.size = w.heap.size + 1 + 1 by simp] at this

theorem blk4 {W w4 : World} {b : Nat} {v0 v1 v2 v3 : Value} {t : TypeId} (hb : Below W.heap.size W w4) (h : W.heap[b]? = some (.cells #[v0, v1, v2, v3] t (0, 0))) :
    (w4.cell? ⟨b, 0, none⟩ = some v0 ∧ w4.cell? ⟨b, 1, none⟩ = some v1 ∧ w4.cell? ⟨b, 2, none⟩ = some v2 ∧ w4.cell? ⟨b, 3, none⟩ = some v3) ∧ w4.frozen? ⟨b, 0, none⟩ = false ∧ w4.frozen? ⟨b, 1, none⟩ = false ∧ w4.frozen? ⟨b, 2, none⟩ = false ∧ w4.frozen? ⟨b, 3, none⟩ = false :=
  ⟨⟨(blk_cell hb h 0 rfl).1, (blk_cell hb h 1 rfl).1, (blk_cell hb h 2 rfl).1, (blk_cell hb h 3 rfl).1⟩, (blk_cell hb h 0 (v := v0) rfl).2, (blk_cell hb h 1 (v := v1) rfl).2, (blk_cell hb h 2 (v := v2) rfl).2, (blk_cell hb h 3 (v := v3) rfl).2⟩

theorem put4 {w w2 : World} {base b : Nat} {cs : Array Value} {v : Value} {l : List It} (hb : Below w.heap.size w w2) (hq : Qu w2 base v l) (hc : w2.heap[b]? = some (.cells cs 54 (0, 0))) (hge : w.heap.size ≤ b) (v0 v1 v2 v3 : Value) :
    Qu ((((w2.setCell ⟨b, 0, none⟩ v0).setCell ⟨b, 1, none⟩ v1).setCell ⟨b, 2, none⟩ v2).setCell ⟨b, 3, none⟩ v3) base v l ∧ Below w.heap.size w ((((w2.setCell ⟨b, 0, none⟩ v0).setCell ⟨b, 1, none⟩ v1).setCell ⟨b, 2, none⟩ v2).setCell ⟨b, 3, none⟩ v3) := by
  have n0 := own_ne54 hc hq
  refine ⟨ownsRow_setCell_other (ownsRow_setCell_other (ownsRow_setCell_other (ownsRow_setCell_other hq n0 _) n0 _) n0 _) n0 _, ?_⟩
  exact (((hb.setCell hge _).setCell hge _).setCell hge _).setCell hge _

theorem ret_agg2 {v : Value} {a b : Int} (h : a = b) : Ending.returned (.tuple #[v, .int .i64 a]) = .returned (.tuple #[v, .int .i64 b]) := by rw [h]

set_option maxHeartbeats 6400000 in
theorem Do_any (p h : ByteArray) (q : Value) (k : Int) (l : List It) (base : Nat) (x : Stp) (w : World) (hq : Qu w base q l) (hp : p.size ≤ 1073741824) (hh : h.size ≤ 1073741824) (hl : tot l ≤ 1073741824) (ht : x.t.size ≤ 140737488355328) (hit : x.it.size ≤ 140737488355328) (hn : l.length + 1 ≤ 5864062014805) (hbase : base ≤ w.heap.size) :
    Calls Try.prog 31 #[refVal p h q k, stepVal x] w (RefDo w base q k (aft k x p h l) (why k x p h l)) := by
  obtain ⟨ao, cap, rfl, _⟩ := hq.its.shape
  have HQ := Lib.hid hq
  have HB : Hid (∀ o1 o2 o3, Below w.heap.size w (((w.alloc o1).alloc o2).alloc o3)) := fun o1 o2 o3 => bl_to (bl_alloc _ _) (bl_to (bl_alloc _ _) (bl_alloc _ _))
  clear hq
  by_cases hbad : x.k = 8 ∧ ¬ (1 ≤ x.ik ∧ x.ik ≤ 3)
  · have hw : why k x p h l = 2 := by unfold why; rw [if_pos hbad]
    have ha : aft k x p h l = (p, h, l) := by unfold aft; rw [if_neg (by rw [hw]; omega)]
    rw [hw, ha]
    obtain ⟨xk, xt, ik, it⟩ := x
    simp only at *
    obtain ⟨rfl, hik⟩ := hbad
    rcases (show ik < 1 ∨ (¬ ik < 1 ∧ 3 < ik) by omega) with h1 | ⟨h1, h3⟩
    · clear hik hw ha
      go_enter Try.func31, Try.ntmps31
      go_wp2_with fail
      exact bodyPost_ret (v := .tuple #[refVal p h (.slice ao l.length cap) k, .int .i64 2]) (by simp [results, Try.results31, go_sem]) rfl ⟨_, _, _, rfl, Qu.alloc (Qu.alloc (Qu.alloc HQ.out _) _) _, HB.out _ _ _, .inl rfl⟩
    · clear hik hw ha
      go_enter Try.func31, Try.ntmps31
      go_wp2_with fail
      exact bodyPost_ret (v := .tuple #[refVal p h (.slice ao l.length cap) k, .int .i64 2]) (by simp [results, Try.results31, go_sem]) rfl ⟨_, _, _, rfl, Qu.alloc (Qu.alloc (Qu.alloc HQ.out _) _) _, HB.out _ _ _, .inl rfl⟩
  · have hbd := nxt_bounds x p h l hp hh hl ht hit
    have hwhy : why k x p h l = if k < (sz (nxt x p h l) : Int) then 180 else 0 := by unfold why; rw [if_neg hbad]
    have haft : aft k x p h l = if k < (sz (nxt x p h l) : Int) then (p, h, l) else nxt x p h l := by
      unfold aft; rw [hwhy]
      by_cases hf : k < (sz (nxt x p h l) : Int)
      · rw [if_pos hf, if_pos hf, if_neg (by omega)]
      · rw [if_neg hf, if_neg hf, if_pos rfl]
    rw [hwhy, haft]
    have HD : Hid (∀ W base', Qu W base' (.slice ao l.length cap) l → base' ≤ W.heap.size → Calls Try.prog 45 #[refVal p h (.slice ao l.length cap) k, stepVal x] W (DonePost W base' (.slice ao l.length cap) k (nxt x p h l))) := fun W base' hW hb' => done_any p h _ k l base' x W hW hp hh ht hn hb'
    rcases hN : nxt x p h l with ⟨p', h', l'⟩
    rw [hN] at hbd HD
    simp only [sz] at hbd
    obtain ⟨hs1, hs2⟩ := hbd
    have HG : (x.k == 8) = false ∨ ((x.k == 8) = true ∧ ¬ x.ik < 1 ∧ ¬ 3 < x.ik) := by
      by_cases h8 : x.k = 8
      · right
        have hg : 1 ≤ x.ik ∧ x.ik ≤ 3 := by
          rcases Classical.em (1 ≤ x.ik ∧ x.ik ≤ 3) with h | h
          · exact h
          · exact absurd ⟨h8, h⟩ hbad
        exact ⟨by simp [h8], by omega, by omega⟩
      · left; simp [h8]
    obtain ⟨xk, xt, ik, it⟩ := x
    simp only at *
    clear hwhy haft hbad hN
    have hT := three w #[.string p, .string h, .slice ao l.length cap, .int .i64 k] #[.int .i64 xk, .string xt, .int .u8 ik, .string it] #[.string ⟨#[]⟩, .string ⟨#[]⟩, .slice none 0 0, .int .i64 0] 54 50 54
    have HT := Lib.hid hT
    clear hT
    rcases (show k < (sz (p', h', l') : Int) ∨ ¬ k < (sz (p', h', l') : Int) from Classical.em _) with hf | hf
    · rw [if_pos hf, if_pos hf]
      have hf2 : k < ((p'.size + h'.size + tot l' : Nat) : Int) := hf
      clear hf
      rcases HG with hg | ⟨hg, hg1, hg2⟩
      all_goals
        go_enter Try.func31, Try.ntmps31
        go_wp2_with fail
        have hT := HT.out
        obtain ⟨W3, hW3⟩ : ∃ W3, W3 = ((w.alloc (.cells #[.string p, .string h, .slice ao l.length cap, .int .i64 k] 54)).alloc (.cells #[.int .i64 xk, .string xt, .int .u8 ik, .string it] 50)).alloc (.cells #[.string ⟨#[]⟩, .string ⟨#[]⟩, .slice none 0 0, .int .i64 0] 54) := ⟨_, rfl⟩
        simp only [← hW3] at hT ⊢
        clear hW3 HB
        obtain ⟨b0, b1, b2, hs3, hb3⟩ := hT
        have B0 := Lib.hid b0
        have B2 := Lib.hid b2
        have HS3 := Lib.hid hs3
        have HB3 := Lib.hid hb3
        clear b0 b1 b2 hs3 hb3
        refine (HD.out W3 base (bl_qu HB3.out HQ.out) (by have := HS3.out; omega)).mono ?_
        rintro e w1 ⟨ro, rn, rc, he, hqr, hb1, hat1⟩
        simp only at he hqr
        subst he
        have HU : Hid (∀ o, Qu (w1.alloc o) base (.slice ro rn rc) l') := fun o => Qu.alloc hqr o
        have HA1 := Lib.hid hat1
        have HB1 := Lib.hid hb1
        have HN1 := Lib.hid (heap_alloc_new w1 (.cells #[.string p', .string h', .slice ro rn rc, .int .i64 k] 54))
        clear hqr hb1 hat1
        go_wp2_with (go_at_call 44; refine (Used_ref p' h' (.slice ro rn rc) k l' _ (HU.out _).its (by omega) (by omega)).mono ?_; rintro e w2 ⟨rfl, hb2⟩; have HB12 := Lib.hid (bl_to (bl_alloc w1 _) hb2); have HB2 := Lib.hid (bl_to HB1.out HB12.out); have HQ2 := Lib.hid (bl_qu hb2 (HU.out _)); obtain ⟨⟨c0, c1, c2, c3⟩, _⟩ := blk4 HB2.out B0.out; obtain ⟨⟨d0, d1, d2, d3⟩, f0, f1, f2, f3⟩ := blk4 HB2.out B2.out; obtain ⟨⟨g0, g1, g2, g3⟩, _⟩ := blk4 hb2 HN1.out; clear hb2)
        have HP := Lib.hid (put4 (bl_to HB3.out HB2.out) (bl_qu (bl_to HB3.out HB2.out) HQ.out) ((HB2.out.block _ (lt_of_block B2.out)).trans B2.out) (by omega) (.string p) (.string h) (.slice ao l.length cap) (.int .i64 k))
        exact bodyPost_ret (v := .tuple #[refVal p h (.slice ao l.length cap) k, .int .i64 180]) (by simp [results, Try.results31, go_sem, d0, d1, d2, d3]) rfl ⟨_, _, _, rfl, HP.out.1, HP.out.2, .inl rfl⟩
    · rw [if_neg hf, if_neg hf]
      have hf2 : ¬ k < ((p'.size + h'.size + tot l' : Nat) : Int) := hf
      clear hf
      rcases HG with hg | ⟨hg, hg1, hg2⟩
      all_goals
        go_enter Try.func31, Try.ntmps31
        go_wp2_with fail
        have hT := HT.out
        obtain ⟨W3, hW3⟩ : ∃ W3, W3 = ((w.alloc (.cells #[.string p, .string h, .slice ao l.length cap, .int .i64 k] 54)).alloc (.cells #[.int .i64 xk, .string xt, .int .u8 ik, .string it] 50)).alloc (.cells #[.string ⟨#[]⟩, .string ⟨#[]⟩, .slice none 0 0, .int .i64 0] 54) := ⟨_, rfl⟩
        simp only [← hW3] at hT ⊢
        clear hW3 HB
        obtain ⟨b0, b1, b2, hs3, hb3⟩ := hT
        have B0 := Lib.hid b0
        have B2 := Lib.hid b2
        have HS3 := Lib.hid hs3
        have HB3 := Lib.hid hb3
        clear b0 b1 b2 hs3 hb3
        refine (HD.out W3 base (bl_qu HB3.out HQ.out) (by have := HS3.out; omega)).mono ?_
        rintro e w1 ⟨ro, rn, rc, he, hqr, hb1, hat1⟩
        simp only at he hqr
        subst he
        have HU : Hid (∀ o, Qu (w1.alloc o) base (.slice ro rn rc) l') := fun o => Qu.alloc hqr o
        have HA1 := Lib.hid hat1
        have HB1 := Lib.hid hb1
        have HN1 := Lib.hid (heap_alloc_new w1 (.cells #[.string p', .string h', .slice ro rn rc, .int .i64 k] 54))
        clear hqr hb1 hat1
        go_wp2_with (go_at_call 44; refine (Used_ref p' h' (.slice ro rn rc) k l' _ (HU.out _).its (by omega) (by omega)).mono ?_; rintro e w2 ⟨rfl, hb2⟩; have HB12 := Lib.hid (bl_to (bl_alloc w1 _) hb2); have HB2 := Lib.hid (bl_to HB1.out HB12.out); have HQ2 := Lib.hid (bl_qu hb2 (HU.out _)); obtain ⟨⟨c0, c1, c2, c3⟩, _⟩ := blk4 HB2.out B0.out; obtain ⟨⟨d0, d1, d2, d3⟩, f0, f1, f2, f3⟩ := blk4 HB2.out B2.out; obtain ⟨⟨g0, g1, g2, g3⟩, _⟩ := blk4 hb2 HN1.out; clear hb2)
        have HP := Lib.hid (put4 (bl_to HB3.out HB2.out) HQ2.out ((HB2.out.block _ (lt_of_block B2.out)).trans B2.out) (by omega) (.string p') (.string h') (.slice ro rn rc) (.int .i64 k))
        exact bodyPost_ret (v := .tuple #[refVal p' h' (.slice ro rn rc) k, .int .i64 0]) (by simp [results, Try.results31, go_sem, d0, d1, d2, d3]) rfl ⟨_, _, _, rfl, HP.out.1, HP.out.2, by
          rcases HA1.out with e | e | ⟨g, hg, hge⟩
          · exact .inl e
          · exact .inr (.inl e)
          · exact .inr (.inr ⟨g, hg, by have := HB3.out.size; omega⟩)⟩

end Go.Proofs.Ytbhepdlcnfcfgaa
