/- told, again, same, Most. -/
import Derived.Test.YtlckloeeimilhaaU
import Derived.Test.YtlckloeeimilhaaG
import Derived.Test.YtlckloeeimilhaaF
import Derived.Deep.RegionHeld3
namespace Go.Proofs.Ytlckloeeimilhaa
set_option linter.unusedSimpArgs false
set_option linter.unusedVariables false
open Go.RowKit

/-- What a source may say: no text with an error. -/
def toldL (l : List Tl) : List Tl := l.map fun x => if x.2 = 0 then x else (⟨#[]⟩, x.2)

set_option maxRecDepth 8000 in
set_option maxHeartbeats 3200000 in
theorem told_any (v : Value) (l : List Tl) (w : World) (h : Tv w v l) (hl : l.length ≤ 4194304) :
    Calls Try.prog 18 #[v] w fun e w' => ∃ u, e = .returned u ∧ w'.ownsRow w.heap.size 32 2 u l.length (tcells (toldL l)) ∧ Below w.heap.size w w' := by
  obtain ⟨i0, hi0, hz0, hz1, hz2⟩ := info_parts info32
  have HV := Lib.hid h
  obtain ⟨va, vc, rfl, _, _⟩ := h
  go_enter Try.func18, Try.ntmps18
  go_wp2_with fail
  go_loopw [3, 8] (fun s3 s8 wr => ∃ k : Nat, k ≤ l.length ∧ s8 = .int .i64 k ∧ wr.ownsRow w.heap.size 32 2 s3 k (tcells (toldL (l.take k))) ∧ Below w.heap.size w wr) (fun _ s8 _ => l.length - (intOf s8).toNat)
  case atStart => exact ⟨0, Nat.zero_le _, rfl, World.ownsRow_nil _ _ _ _, Below.refl _ _⟩
  case round =>
    obtain ⟨k, hk, rfl, g1, g2⟩ := hrel
    have HO := Lib.hid g1
    have HW := Lib.hid g2
    have hbs := g2.size
    by_cases hlt : k < l.length
    · obtain ⟨_, _, e1, _, hc1⟩ := HV.out.to g2
      simp only [Value.slice.injEq, true_and] at e1
      obtain ⟨rfl, rfl⟩ := e1
      obtain ⟨b, off, rfl, hbl, hc⟩ := hc1 (by omega)
      obtain ⟨d0, d1⟩ := hc k hlt
      have HTK : Hid (tcells (toldL (l.take (k + 1))) = tcells (toldL (l.take k)) ++ tcells (toldL [l[k]])) := by
        show _ = _
        rw [List.take_succ_eq_append_getElem hlt]
        unfold toldL
        rw [List.map_append, tcells_append]
      obtain ⟨x, hx⟩ : ∃ x, l[k] = x := ⟨_, rfl⟩
      rw [hx] at d0 d1 HTK
      obtain ⟨d, y⟩ := x
      simp only at d0 d1
      have hk1 : (k : Int) < (l.length : Int) := by omega
      have h63 : k + 1 ≤ maxLen := by unfold maxLen; omega
      have hby : (k + 1) * 24 ≤ 140737488355328 := by omega
      clear hc1 hc hx g1 g2
      by_cases hy : y = 0
      · subst hy
        have HO2 := Lib.hid (row_to (bl_to (bl_alloc wr (.cells #[.string d, .int .i64 0] 32)) (bl_alloc _ (.cells #[.string d, .int .i64 0] 32))) HO.out)
        have HB2 := Lib.hid (bl_to (bl_alloc wr (.cells #[.string d, .int .i64 0] 32)) (bl_alloc _ (.cells #[.string d, .int .i64 0] 32)))
        go_wp2_with (at_builtin; go_must (refine wpList_append_own _ rfl (.tmp 16) (.tmp 18) 25 rfl w.heap.size 32 i0 (.agg #[(.string ⟨#[]⟩), (.int .i64 0)]) 2 24 Try.underlying25 hi0 hz0 hz1 hz2 rfl (by decide) _ k (tcells (toldL (l.take k))) rfl HO2.out ⟨wr.heap.size + 1, 0, none⟩ 1 1 [.string d, .int .i64 0] rfl rfl (by have := cells_two (wr.alloc (.cells #[.string d, .int .i64 0] 32)) (.string d) (.int .i64 0) 32; simpa using this) (by intro u hu; simp at hu; rcases hu with rfl | rfl <;> rfl) h63 hby (by simp; omega) ?_))
        intro nv w3 hown hgrow hiff
        have hf3 : Fr (fun i => Value.ownBlock u3 = some i) wr w3 := (Fr.ofBelow _ HB2.out).trans (Fr.ofGrown hgrow) (fun i _ hi => hi)
        have HW3 := Lib.hid (HW.out.trans (hf3.toBelow hbs (fun i _ hi => (World.ownsRow.lt HO.out i hi).1)))
        have HO3 : Hid (w3.ownsRow w.heap.size 32 2 nv (k + 1) (tcells (toldL (l.take (k + 1))))) := by show World.ownsRow _ _ _ _ _ _ _; rw [HTK.out]; exact hown
        clear hown hgrow hiff hf3
        go_wp2_with fail
        go_roundw
        case rel => exact ⟨k + 1, by omega, by go_num, HO3.out, HW3.out⟩
        case measure => simp [intOf]; omega
      · have hy1 : (y != 0) = true := by simpa using hy
        have HE : Hid (tcells (toldL [(d, y)]) = [.string ⟨#[]⟩, .int .i64 y]) := by show _ = _; unfold toldL; simp [hy, tcells]
        have HO2 := Lib.hid (row_to (bl_to (bl_alloc wr (.cells #[.string ⟨#[]⟩, .int .i64 y] 32)) (bl_alloc _ (.cells #[.string ⟨#[]⟩, .int .i64 y] 32))) HO.out)
        have HB2 := Lib.hid (bl_to (bl_alloc wr (.cells #[.string ⟨#[]⟩, .int .i64 y] 32)) (bl_alloc _ (.cells #[.string ⟨#[]⟩, .int .i64 y] 32)))
        go_wp2_with (at_builtin; go_must (refine wpList_append_own _ rfl (.tmp 16) (.tmp 18) 25 rfl w.heap.size 32 i0 (.agg #[(.string ⟨#[]⟩), (.int .i64 0)]) 2 24 Try.underlying25 hi0 hz0 hz1 hz2 rfl (by decide) _ k (tcells (toldL (l.take k))) rfl HO2.out ⟨wr.heap.size + 1, 0, none⟩ 1 1 [.string ⟨#[]⟩, .int .i64 y] rfl rfl (by have := cells_two (wr.alloc (.cells #[.string ⟨#[]⟩, .int .i64 y] 32)) (.string ⟨#[]⟩) (.int .i64 y) 32; simpa using this) (by intro u hu; simp at hu; rcases hu with rfl | rfl <;> rfl) h63 hby (by simp; omega) ?_))
        intro nv w3 hown hgrow hiff
        have hf3 : Fr (fun i => Value.ownBlock u3 = some i) wr w3 := (Fr.ofBelow _ HB2.out).trans (Fr.ofGrown hgrow) (fun i _ hi => hi)
        have HW3 := Lib.hid (HW.out.trans (hf3.toBelow hbs (fun i _ hi => (World.ownsRow.lt HO.out i hi).1)))
        have HO3 : Hid (w3.ownsRow w.heap.size 32 2 nv (k + 1) (tcells (toldL (l.take (k + 1))))) := by show World.ownsRow _ _ _ _ _ _ _; rw [HTK.out, HE.out]; exact hown
        clear hown hgrow hiff hf3
        go_wp2_with fail
        go_roundw
        case rel => exact ⟨k + 1, by omega, by go_num, HO3.out, HW3.out⟩
        case measure => simp [intOf]; omega
    · obtain rfl : k = l.length := by omega
      have hx1 : ¬ (l.length : Int) < (l.length : Int) := by omega
      rw [List.take_of_length_le (Nat.le_refl _)] at g1
      have HO2 := Lib.hid g1
      clear g1 g2
      go_wp2_with fail
      go_ret
      exact ⟨u3, rfl, HO2.out, HW.out⟩

set_option maxRecDepth 8000 in
set_option maxHeartbeats 3200000 in
theorem most_any (v : Value) (tl : List Tl) (w : World) (h : Tv w v tl) (hs : ∀ d ∈ tl, d.1.size ≤ 4194304) (hI : (itemsE 0 tl).length ≤ 4194304) (htl : tl.length ≤ 4194304) :
    Calls Try.prog 19 #[v] w fun e w' => (∃ m : Int, e = .returned (.int .i64 m)) ∧ Below w.heap.size w w' := by
  have HA := Lib.hid (ahead_any v tl w h hs hI htl)
  have hE := endE_le tl 0
  obtain ⟨va, vc, rfl, _, _⟩ := h
  obtain ⟨I, hIe⟩ : ∃ I, itemsE 0 tl = I := ⟨_, rfl⟩
  obtain ⟨E, hEe⟩ : ∃ E, endE 0 tl = E := ⟨_, rfl⟩
  rw [hIe, hEe] at HA
  rw [hIe] at hI
  rw [hEe] at hE
  clear hIe hEe hs
  go_enter Try.func19, Try.ntmps19
  go_wp2_with fail
  refine HA.out.mono ?_
  rintro e w1 ⟨u, rfl, hu, hb1⟩
  obtain ⟨uo, uc, rfl, _, _⟩ := row_shape hu
  have HB1 := Lib.hid hb1
  clear hu hb1
  by_cases h1 : E < tl.length
  · have d1 : decide (E < tl.length) = true := decide_eq_true h1
    by_cases h2 : 0 < I.length
    · have d2 : decide (0 < I.length) = true := decide_eq_true h2
      have d3 : decide ((0 : Int) < (I.length : Int)) = true := decide_eq_true (by omega)
      have hw := wrap_in ((I.length : Int) - 1) (by omega) (by omega)
      go_wp2_with fail
      go_ret
      exact ⟨⟨_, rfl⟩, HB1.out⟩
    · have d2 : decide (0 < I.length) = false := decide_eq_false h2
      have d3 : decide ((0 : Int) < (I.length : Int)) = false := decide_eq_false (by omega)
      go_wp2_with fail
      go_ret
      exact ⟨⟨_, rfl⟩, HB1.out⟩
  · have d1 : decide (E < tl.length) = false := decide_eq_false h1
    go_wp2_with fail
    go_ret
    exact ⟨⟨_, rfl⟩, HB1.out⟩

set_option maxRecDepth 8000 in
set_option maxHeartbeats 3200000 in
theorem again_any {base X S : Nat} {lv tv av : Value} {x : IS} {tl : List Tl} {w : World} (hx : Inp w base X S lv x) (hs : Src w base S tv av tl (List.range x.asked)) (h : x.err ≠ 0 ∨ x.has = false) (hbase : base ≤ w.heap.size) :
    Calls Try.prog 22 #[.pointer (some ⟨X, 0, none⟩), .int .i64 x.err] w fun e w' => e = .returned (.bool true) ∧ Below w.heap.size w w' := by
  have HT := Lib.hid (fun W (hb : Below w.heap.size w W) => Take_stop (hx.to hb) (hs.to hb) h (Nat.le_trans hbase hb.size))
  have e1 : (x.err != x.err) = false := by simp
  obtain ⟨er, he⟩ : ∃ er, x.err = er := ⟨_, rfl⟩
  rw [he] at HT e1 ⊢
  clear hx hs h he
  go_enter Try.func22, Try.ntmps22
  go_wp2_with fail
  go_loopw [5] (fun s5 wr => ∃ k : Nat, k ≤ 3 ∧ s5 = .int .i64 k ∧ Below w.heap.size w wr) (fun s5 _ => 3 - (intOf s5).toNat)
  case atStart => exact ⟨0, Nat.zero_le _, rfl, Below.refl _ _⟩
  case round =>
    obtain ⟨k, hk, rfl, hb⟩ := hrel
    have HB := Lib.hid hb
    by_cases hlt : k < 3
    · have hk1 : (k : Int) < 3 := by omega
      have hd : decide ((k : Int) < 3) = true := decide_eq_true hk1
      clear hb
      go_wp2_with fail
      refine (HT.out _ HB.out).mono ?_
      rintro e w2 ⟨rfl, -, hb2⟩
      have HB2 := Lib.hid (bl_to (bl_to HB.out hb2) (bl_alloc w2 (.cells #[.string ⟨#[]⟩, .bool false] 37)))
      clear hb2
      go_wp2_with fail
      go_roundw
      case rel => exact ⟨k + 1, by omega, by go_num, HB2.out⟩
      case measure => simp [intOf]; omega
    · have hk1 : ¬ (k : Int) < 3 := by omega
      have hd : decide ((k : Int) < 3) = false := decide_eq_false hk1
      clear hb
      go_wp2_with fail
      go_ret
      exact ⟨rfl, HB.out⟩
end Go.Proofs.Ytlckloeeimilhaa
