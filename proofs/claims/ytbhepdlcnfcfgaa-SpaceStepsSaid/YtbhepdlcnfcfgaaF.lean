/- The document's own functions: First, Used, Copy. -/
import Derived.Test.YtbhepdlcnfcfgaaS
import Derived.Test.YtbhepdlcnfcfgaaL
namespace Go.Proofs.Ytbhepdlcnfcfgaa
set_option linter.unusedSimpArgs false
set_option linter.unusedVariables false
open Go.RowKit

theorem nl_hit {s : ByteArray} {j : Nat} (hj : j < s.size) (hle : j ≤ nlAt s) (h : s[j] = 10) : nlAt s = j := by
  have hlen : s.data.toList.length = s.size := by simp
  have hx : s.data.toList[j]'(by omega) = 10 := by rw [Array.getElem_toList]; exact h
  rcases Nat.lt_or_ge j (nlAt s) with hlt | hge
  · have := List.not_of_lt_findIdx (p := fun x : UInt8 => x == 10) (xs := s.data.toList) (i := j) hlt
    rw [hx] at this
    simp at this
  · omega
theorem nl_miss {s : ByteArray} {j : Nat} (hj : j < s.size) (hle : j ≤ nlAt s) (h : ¬ s[j] = 10) : j + 1 ≤ nlAt s := by
  rcases Nat.lt_or_ge j (nlAt s) with hlt | hge
  · omega
  · exfalso
    have he : nlAt s = j := by omega
    have hlen : s.data.toList.length = s.size := by simp
    have hn' : s.data.toList.findIdx (· == 10) < s.data.toList.length := by rw [hlen]; show nlAt s < _; omega
    have hx := List.findIdx_getElem (p := fun x : UInt8 => x == 10) (xs := s.data.toList) (w := hn')
    apply h
    have hx2 : s.data.toList[nlAt s]'(by omega) = 10 := by simpa [nlAt] using hx
    have : s.data.toList[j]'(by omega) = 10 := by
      have e2 : s.data.toList[j]'(by omega) = s.data.toList[nlAt s]'(by omega) := by congr 1; omega
      rw [e2, hx2]
    rw [Array.getElem_toList] at this
    exact this

set_option maxHeartbeats 1600000 in
theorem First_ref (s : ByteArray) (w : World) (hs : s.size ≤ 4611686018427387904) :
    Calls Try.prog 30 #[.string s] w fun e w' => e = .returned (.tuple #[.string (line s), .bool (nlIs s)]) ∧ w = w' := by
  go_enter Try.func30, Try.ntmps30
  go_wp2
  go_loop [4] (fun i => ∃ j : Nat, j ≤ s.size ∧ i = .int .i64 j ∧ j ≤ nlAt s) (fun i => s.size - (intOf i).toNat)
  case atStart => exact ⟨0, Nat.zero_le _, rfl, Nat.zero_le _⟩
  case round =>
    obtain ⟨j, hj, rfl, hle⟩ := hrel
    by_cases hlt : j < s.size
    · by_cases h10 : s[j] = 10
      · have hnl := nl_hit hlt hle h10
        have hl : line s = s.extract 0 j := by unfold line; rw [hnl]
        have hb : nlIs s = true := by simp [nlIs, hnl, hlt]
        have HL := Lib.hid hl
        have HB := Lib.hid hb
        have hc : ((s[j].toNat : Int) == 10) = true := by rw [h10]; rfl
        have HH : Hid (Ending.returned (.tuple #[.string (s.extract 0 j), .bool true]) = .returned (.tuple #[.string (line s), .bool (nlIs s)])) := by show _ = _; rw [hl, hb]
        clear hl hb hnl h10 hle
        go_wp2
        go_ret2
        exact ⟨HH.out, rfl⟩
      · have hm := nl_miss hlt hle h10
        have hc : ((s[j].toNat : Int) == 10) = false := by
          simp only [beq_eq_false_iff_ne, ne_eq]
          intro e
          apply h10
          apply UInt8.toNat_inj.1
          have : s[j].toNat = 10 := by omega
          rw [this]; rfl
        clear h10
        go_wp2
        go_round
        case rel => exact ⟨j + 1, by omega, by go_num, hm⟩
        case measure => simp [intOf]; omega
    · have hnl : nlAt s = s.size := by have := nlAt_le s; omega
      have hb : nlIs s = false := by simp [nlIs, hnl]
      have HL := Lib.hid (line_last s hb).1
      have HH : Hid (Ending.returned (.tuple #[.string s, .bool false]) = .returned (.tuple #[.string (line s), .bool (nlIs s)])) := by show _ = _; rw [hb, (line_last s hb).1]
      clear hb hnl
      go_wp2
      go_ret2
      exact ⟨HH.out, rfl⟩

set_option maxHeartbeats 1600000 in
theorem Used_ref (p h : ByteArray) (q : Value) (k : Int) (l : List It) (w : World) (hq : Its w q l) (hsum : p.size + h.size + tot l ≤ 4611686018427387904) (hl : l.length ≤ 4611686018427387904) :
    Calls Try.prog 44 #[.agg #[.string p, .string h, q, .int .i64 k]] w fun e w' => e = .returned (.int .i64 ((p.size + h.size + tot l : Nat) : Int)) ∧ Below w.heap.size w w' := by
  obtain ⟨ao, cap, rfl, hc⟩ := hq.shape
  have HC := Lib.hid hc
  clear hq hc
  have HA : Hid (Below w.heap.size w (w.alloc (.cells #[.string p, .string h, .slice ao l.length cap, .int .i64 k] 54))) := (Below.refl _ _).alloc (Nat.le_refl _) _
  go_enter Try.func44, Try.ntmps44
  go_wp2
  go_loopw [3, 4] (fun n i wr => ∃ j : Nat, j ≤ l.length ∧ i = .int .i64 j ∧ n = .int .i64 ((p.size + h.size + tot (l.take j) : Nat) : Int) ∧ wr = w.alloc (.cells #[.string p, .string h, .slice ao l.length cap, .int .i64 k] 54)) (fun _ i _ => l.length - (intOf i).toNat)
  case atStart => exact ⟨0, Nat.zero_le _, rfl, by simp [tot], rfl⟩
  case round =>
    obtain ⟨j, hj, rfl, rfl, rfl⟩ := hrel
    have hle := tot_take_le l j
    by_cases hlt' : j < l.length
    · obtain ⟨g, off, rfl, hgl, hc⟩ := HC.out (by omega)
      have hts := tot_take l j hlt'
      have hle' := tot_take_le l (j + 1)
      obtain ⟨hk, htt⟩ := hc j hlt'
      generalize l[j].1 = xk at *
      generalize l[j].2 = xt at *
      have k1 := (HA.out.cell (p := ⟨g, off + j * 2 + 1, none⟩) hgl).trans htt
      have hbd : p.size + h.size + tot (l.take j) + xt.size ≤ 4611686018427387904 := by omega
      have HT := Lib.hid hts
      clear hts hc hk htt
      go_wp2
      go_roundw
      case rel => exact ⟨j + 1, by omega, by go_num, by rw [HT.out]; go_num, trivial⟩
      case measure => simp [intOf]; omega
    · go_wp2
      go_ret
      exact ⟨ret_int (by have := tot_take_all l j (by omega); omega), HA.out⟩

set_option maxHeartbeats 3200000 in
theorem Copy_any (v : Value) (l : List It) (w : World) (hv : Its w v l) (hn : l.length ≤ 5864062014805) :
    Calls Try.prog 47 #[v] w (Cloned w l) := by
  obtain ⟨ao, cap, rfl, hc⟩ := hv.shape
  have HC := Lib.hid hc
  clear hv hc
  obtain ⟨i0, hi, hz0, hz1, hz2⟩ := info_parts Try.info35
  go_enter Try.func47, Try.ntmps47
  go_wp2
  go_loopw [3, 4] (fun sv i wr => ∃ (j : Nat) (out : Value), out = sv ∧ j ≤ l.length ∧ i = .int .i64 j ∧ Qu wr w.heap.size out (l.take j) ∧ Below w.heap.size w wr) (fun _ i _ => l.length - (intOf i).toNat)
  case atStart => exact ⟨0, _, rfl, Nat.zero_le _, rfl, World.ownsRow_nil _ _ _ _, Below.refl _ _⟩
  case round =>
    obtain ⟨j, out, rfl, hj, rfl, hout, hbel⟩ := hrel
    have hjl : (l.take j).length = j := by simp; omega
    by_cases hlt : j < l.length
    · obtain ⟨g, off, rfl, hgl, hc⟩ := HC.out (by omega)
      obtain ⟨c0, c1⟩ := hc j hlt
      have hts : l.take (j + 1) = l.take j ++ [l[j]] := List.take_succ_eq_append_getElem hlt
      have k0 := (hbel.cell (p := ⟨g, off + j * 2, none⟩) hgl).trans c0
      have k1 := (hbel.cell (p := ⟨g, off + j * 2 + 1, none⟩) hgl).trans c1
      generalize l[j] = x at *
      obtain ⟨xk, xt⟩ := x
      simp only at *
      have h63 : (l.take j).length + 1 ≤ maxLen := by unfold maxLen; omega
      have hby : ((l.take j).length + 1) * 24 ≤ 140737488355328 := by omega
      have hws := hbel.size
      have HT := Lib.hid hts
      have HO := Lib.hid hout
      have HJ := Lib.hid hjl
      clear hts hc c0 c1 hout hjl
      go_wp2_with (at_builtin; go_must (refine wpList_append_lies _ rfl (.tmp 11) (.tmp 16) 31 rfl w.heap.size 35 i0 (.agg #[.int .u8 0, .string ⟨#[]⟩]) 2 24 Try.underlying31 hi hz0 hz1 hz2 rfl (by decide) out (l.take j).length (icells (l.take j)) rfl (Qu.alloc HO.out _) ⟨wr.heap.size, 0, none⟩ 1 1 [.int .u8 xk, .string xt] rfl rfl (cells_two wr _ _ 35) (by intro u hu; simp at hu; rcases hu with rfl | rfl <;> rfl) (by omega) h63 hby (by simp; omega) (wr.heap.size + 1) (by simp) ?_))
      intro g2 cap2 w2 hown hgrow hat hlt2
      have hf2 : Fr (fun i => out.ownBlock = some i) wr w2 := ((Fr.refl _ wr).alloc _).trans (Fr.ofGrown hgrow) (fun i _ hi => hi)
      have HB2 := Lib.hid (hbel.trans (hf2.toBelow hws (fun i _ hi => (HO.out.lt hi).1)))
      have HQ2 := Lib.hid (Qu.snoc (by rw [HJ.out]) hown)
      clear hown hgrow hat hlt2 hf2 k0 k1
      go_wp2
      go_roundw
      case rel => exact ⟨j + 1, _, rfl, by omega, by go_num, by rw [HT.out]; exact HQ2.out, HB2.out⟩
      case measure => simp [intOf]; omega
    · have he : l.take j = l := List.take_of_length_le (by omega)
      have HO : Hid (Qu wr w.heap.size out l) := by show Qu _ _ _ _; rw [← he]; exact hout
      clear hout hjl he
      go_wp2
      go_ret
      exact ⟨_, rfl, HO.out, hbel⟩
end Go.Proofs.Ytbhepdlcnfcfgaa
