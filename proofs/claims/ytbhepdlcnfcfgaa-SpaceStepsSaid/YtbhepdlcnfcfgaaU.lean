/- bytes; the walk of SpaceQuota. -/
import Derived.Test.YtbhepdlcnfcfgaaS
namespace Go.Proofs.Ytbhepdlcnfcfgaa
set_option linter.unusedSimpArgs false
set_option linter.unusedVariables false
open Go.RowKit

set_option maxHeartbeats 1600000 in
theorem bytes_any (B : Nat) (p h : ByteArray) (q : Value) (k : Int) (l : List It) (w : World) (s : St w B B p h q k l) :
    Calls Try.prog 28 #[.pointer (some ⟨B, 0, none⟩)] w fun e w' => e = .returned (.int .i64 ((p.size + h.size + tot l : Nat) : Int)) ∧ Below w.heap.size w w' := by
  have HS := Lib.hid s
  have hsum : p.size + h.size + tot l ≤ 4611686018427387904 := by have := s.inv; have := s.kle; omega
  have hl : l.length ≤ 4611686018427387904 := by have := s.len; omega
  clear s
  go_enter Try.func28, Try.ntmps28
  go_wp2_with (first
    | (go_at_call 16; refine (Pattern_any B p h q k _ HS.out.sp).mono ?_; rintro e w' ⟨rfl, rfl⟩)
    | (go_at_call 15; refine (Hold_any B p h q k _ HS.out.sp).mono ?_; rintro e w' ⟨rfl, rfl⟩))
  refine (Queue_st B B p h q k l _ HS.out).mono ?_
  rintro e w1 ⟨v, rfl, hq, hb⟩
  obtain ⟨ao, cap, rfl, hc⟩ := hq.its.shape
  have HC := Lib.hid hc
  clear hq hc
  go_wp2_with fail
  go_loopw [3, 5] (fun n i wr => ∃ j : Nat, j ≤ l.length ∧ i = .int .i64 j ∧ n = .int .i64 ((p.size + h.size + tot (l.take j) : Nat) : Int) ∧ Below w1.heap.size w1 wr) (fun _ i _ => l.length - (intOf i).toNat)
  case atStart => exact ⟨0, Nat.zero_le _, rfl, by simp [tot], Below.refl _ _⟩
  case round =>
    obtain ⟨j, hj, rfl, rfl, hbel⟩ := hrel
    have hle := tot_take_le l j
    by_cases hlt' : j < l.length
    · obtain ⟨g, off, rfl, hgl, hc⟩ := HC.out (by omega)
      have hts := tot_take l j hlt'
      have hle' := tot_take_le l (j + 1)
      obtain ⟨hk, htt⟩ := hc j hlt'
      generalize l[j].1 = xk at *
      generalize l[j].2 = xt at *
      have k1 := (hbel.cell (p := ⟨g, off + j * 2 + 1, none⟩) hgl).trans htt
      have hbd : p.size + h.size + tot (l.take j) + xt.size ≤ 4611686018427387904 := by omega
      have HT := Lib.hid hts
      clear hts hc hk htt
      go_wp2
      go_roundw
      case rel => exact ⟨j + 1, by omega, by go_num, by rw [HT.out]; go_num, hbel⟩
      case measure => simp [intOf]; omega
    · go_wp2
      go_ret
      exact ⟨ret_int (by have := tot_take_all l j (by omega); omega), bl_to hb hbel⟩

theorem aft_len (k : Int) (x : Stp) (p h : ByteArray) (l : List It) : (aft k x p h l).2.2.length ≤ l.length + 1 := by
  unfold aft
  split
  · unfold nxt
    repeat' split
    all_goals simp
  · simp

theorem bel_do {w wr w2 : World} {B : Nat} {p h : ByteArray} {q : Value} {k : Int} {l : List It} (hbel : Below w.heap.size w wr) (hsz : w.heap.size ≤ B) (s : St wr B B p h q k l) (hf : Fr (fun i => i = B ∨ q.ownBlock = some i) wr w2) : Below w.heap.size w w2 := bel_push hbel hsz s.qu hf

set_option maxHeartbeats 6400000 in
theorem quota_any (k : Int) (v : Value) (xs : List Stp) (w : World) (hv : Script w v xs) (ht : ∀ x ∈ xs, x.t.size ≤ 140737488355328 ∧ x.it.size ≤ 140737488355328) (hn : xs.length ≤ 5864062014800) :
    Calls Try.prog 6 #[.int .i64 k, v] w fun e w' => e = .returned (.bool true) ∧ Below w.heap.size w w' := by
  obtain ⟨ao, cap, rfl, hcells⟩ := hv.shape
  clear hv
  have HT := Lib.hid ht
  have HC := Lib.hid hcells
  clear ht hcells
  by_cases hk : 0 ≤ k ∧ k ≤ 1073741824
  · obtain ⟨hk0, hk1⟩ := hk
    go_enter Try.func6, Try.ntmps6
    go_wp2_with (go_at_call 9; refine (begins_any _).mono ?_; rintro e w0 ⟨rfl, hb0⟩)
    refine (New_yes k _ hk0 hk1).mono ?_
    rintro e w1 ⟨rfl, s1, hb1⟩
    have hB1 : Below w.heap.size w w1 := bl_to hb0 hb1
    have hsz := hb0.size
    have hs1 := hb1.size
    generalize w0.heap.size = B at *
    go_wp2_with fail
    go_loopw [7] (fun i wr => ∃ (j : Nat) (p h : ByteArray) (q : Value) (l : List It), j ≤ xs.length ∧ i = .int .i64 j ∧ l.length ≤ j ∧ St wr B B p h q k l ∧ Below w.heap.size w wr) (fun i _ => xs.length - (intOf i).toNat)
    case atStart => exact ⟨0, _, _, _, [], Nat.zero_le _, rfl, Nat.le_refl _, s1, hB1⟩
    case round =>
      obtain ⟨j, p, h, q, l, hj, rfl, hlj, hs, hbel⟩ := hrel
      by_cases hlt : j < xs.length
      · obtain ⟨b, off, rfl, hbl, hc⟩ := HC.out (by omega)
        obtain ⟨c0, c1, c2, c3⟩ := hc j hlt
        have htx := HT.out _ (List.getElem_mem hlt)
        have k0 := (hbel.cell (p := ⟨b, off + j * 4, none⟩) hbl).trans c0
        have k1 := (hbel.cell (p := ⟨b, off + j * 4 + 1, none⟩) hbl).trans c1
        have k2 := (hbel.cell (p := ⟨b, off + j * 4 + 2, none⟩) hbl).trans c2
        have k3 := (hbel.cell (p := ⟨b, off + j * 4 + 3, none⟩) hbl).trans c3
        generalize xs[j] = x at *
        clear c0 c1 c2 c3 hc
        have HS := Lib.hid hs
        have hl0 : l.length ≤ 4611686018427387904 := by omega
        go_wp2_with (first
          | (go_at_call 16; refine (Pattern_any B p h q k _ HS.out.sp).mono ?_; rintro e w' ⟨rfl, rfl⟩)
          | (go_at_call 15; refine (Hold_any B p h q k _ HS.out.sp).mono ?_; rintro e w' ⟨rfl, rfl⟩))
        refine (Queue_st B B p h q k l _ HS.out).mono ?_
        rintro e w2 ⟨qv, rfl, hqv, hb2⟩
        have k0 := bl_cell hb2 k0
        have k1 := bl_cell hb2 k1
        have k2 := bl_cell hb2 k2
        have k3 := bl_cell hb2 k3
        have HQV := Lib.hid hqv
        clear hqv hs
        go_wp2_with fail
        refine (do_any B p h q k l x _ (HS.out.to hb2) htx.1 htx.2 (by omega)).mono ?_
        rintro e w3 ⟨bb, to, tn, tc, c, rfl, hd⟩
        obtain ⟨hbb, hcw, htv, q', hs3, hf3, hat3⟩ := hd
        have HS3 := Lib.hid hs3
        have HF3 := Lib.hid hf3
        have HQV3 := Lib.hid (hf3.qu HQV.out (fun i hi e => by
          have h1 := HQV.out.lt hi
          rcases e with rfl | e
          · have := HS.out.sp.lt; omega
          · have := (HS.out.qu.lt e).2; omega))
        have HB3 := Lib.hid (bel_do (bl_to hbel hb2) hsz (HS.out.to hb2) hf3)
        have hl3 := aft_len k x p h l
        by_cases hw0 : why k x p h l = 0
        · obtain rfl : c = 0 := by rw [hcw, hw0]
          clear hbb hcw htv hs3 hf3 hat3 hb2 k0 k1 k2 k3 hbel hw0
          generalize aft k x p h l = t at *
          obtain ⟨p', h', l'⟩ := t
          simp only at *
          have hsum : p'.size + h'.size + tot l' ≤ 4611686018427387904 := by have := HS3.out.inv; omega
          have hll : l'.length ≤ 4611686018427387904 := by omega
          have hinv : ¬ k < ((p'.size + h'.size + tot l' : Nat) : Int) := by have := HS3.out.inv; omega
          have HI := Lib.hid hinv
          clear hinv
          go_wp2_with fail
          refine (Used_any B B p' h' q' k l' _ HS3.out.sp HS3.out.qu hsum hll).mono ?_
          rintro e w4 ⟨rfl, hb4⟩
          go_wp2_with fail
          refine (bytes_any B p' h' q' k l' _ (HS3.out.to hb4)).mono ?_
          rintro e w5 ⟨rfl, hb5⟩
          go_wp2_with fail
          refine (Used_any B B p' h' q' k l' _ ((HS3.out.to hb4).to hb5).sp ((HS3.out.to hb4).to hb5).qu hsum hll).mono ?_
          rintro e w6 ⟨rfl, hb6⟩
          have hi := HI.out
          go_wp2_with fail
          go_roundw
          case rel => exact ⟨j + 1, p', h', q', l', by omega, by go_num, by omega, ((HS3.out.to hb4).to hb5).to hb6, bl_to (bl_to (bl_to HB3.out hb4) hb5) hb6⟩
          case measure => simp [intOf]; omega
        · have hne : (c != 0) = true := by rw [hcw]; simpa using hw0
          have ha : aft k x p h l = (p, h, l) := by unfold aft; rw [if_neg hw0]
          rw [ha] at hs3 hl3 HS3
          clear hbb hcw htv hs3 hf3 hat3 hb2 k0 k1 k2 k3 hbel hw0 ha
          simp only at *
          have hsum : p.size + h.size + tot l ≤ 4611686018427387904 := by have := HS3.out.inv; omega
          have hinv : ¬ k < ((p.size + h.size + tot l : Nat) : Int) := by have := HS3.out.inv; omega
          have HI := Lib.hid hinv
          clear hinv
          go_wp2_with (first
            | (go_at_call 16; refine (Pattern_any B p h q' k _ HS3.out.sp).mono ?_; rintro e w' ⟨rfl, rfl⟩)
            | (go_at_call 15; refine (Hold_any B p h q' k _ HS3.out.sp).mono ?_; rintro e w' ⟨rfl, rfl⟩))
          refine (Queue_st B B p h q' k l _ HS3.out).mono ?_
          rintro e w4 ⟨qn, rfl, hqn, hb4⟩
          have HQN := Lib.hid hqn
          clear hqn
          go_wp2_with fail
          refine (Same_yes qn qv l _ HQN.out.its (HQV3.out.its.to hb4) hl0).mono ?_
          rintro e w5 ⟨rfl, hb5⟩
          have hb45 := bl_to hb4 hb5
          have HS5 := Lib.hid (HS3.out.to hb45)
          clear hb4 hb5
          go_wp2_with fail
          refine (Used_any B B p h q' k l _ HS5.out.sp HS5.out.qu hsum hl0).mono ?_
          rintro e w6 ⟨rfl, hb6⟩
          go_wp2_with fail
          refine (bytes_any B p h q' k l _ (HS5.out.to hb6)).mono ?_
          rintro e w7 ⟨rfl, hb7⟩
          go_wp2_with fail
          refine (Used_any B B p h q' k l _ ((HS5.out.to hb6).to hb7).sp ((HS5.out.to hb6).to hb7).qu hsum hl0).mono ?_
          rintro e w8 ⟨rfl, hb8⟩
          have hi := HI.out
          go_wp2_with fail
          go_roundw
          case rel => exact ⟨j + 1, p, h, q', l, by omega, by go_num, by omega, ((HS5.out.to hb6).to hb7).to hb8, bl_to (bl_to (bl_to (bl_to HB3.out hb45) hb6) hb7) hb8⟩
          case measure => simp [intOf]; omega
      · go_wp2_with fail
        go_ret
        exact ⟨rfl, hbel⟩
  · have HK : k < 0 ∨ 1073741824 < k := by omega
    have HK' := Lib.hid HK
    rcases HK with hk' | hk'
    · go_enter Try.func6, Try.ntmps6
      go_wp2_with (go_at_call 9; refine (begins_any _).mono ?_; rintro e w0 ⟨rfl, hb0⟩)
      refine (New_no k _ HK'.out).mono ?_
      rintro e w1 ⟨rfl, rfl⟩
      go_wp2_with fail
      go_ret
      exact ⟨by simp [hk'], hb0⟩
    · have hk0 : ¬ k < 0 := by omega
      go_enter Try.func6, Try.ntmps6
      go_wp2_with (go_at_call 9; refine (begins_any _).mono ?_; rintro e w0 ⟨rfl, hb0⟩)
      refine (New_no k _ HK'.out).mono ?_
      rintro e w1 ⟨rfl, rfl⟩
      go_wp2_with fail
      go_ret
      exact ⟨by simp [hk'], hb0⟩

end Go.Proofs.Ytbhepdlcnfcfgaa
