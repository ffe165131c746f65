/- Print. -/
import Derived.Test.YtbigolappdlhcaaK
namespace Go.Proofs.Ytbigolappdlhcaa
set_option linter.unusedSimpArgs false
set_option linter.unusedVariables false
open Go.RowKit

/-- The state between two calls of Print's closure. -/
def PQ (W1 : World) (l : List ByteArray) (wx : World) : Prop := CO wx W1.heap.size W1.heap.size l ∧ Below W1.heap.size W1 wx
theorem PQ.put {W1 wx w' : World} {l l' : List ByteArray} {o : Obj} {e : Ending} (h : PQ W1 l wx) (hp : PutPost (wx.alloc o) W1.heap.size W1.heap.size l' e w') : PQ W1 l' w' :=
  ⟨hp.2.1, h.2.trans ((bl_alloc wx o).mono h.2.size |>.trans hp.2.2.below)⟩
theorem PQ.put0 {W1 wx w' : World} {l l' : List ByteArray} {e : Ending} (h : PQ W1 l wx) (hp : PutPost wx W1.heap.size W1.heap.size l' e w') : PQ W1 l' w' :=
  ⟨hp.2.1, h.2.trans hp.2.2.below⟩

theorem pieceL_snoc2 (l : List Pc) (k : Nat) (h : k < l.length) : pieceL (l.take (k + 1)) = pieceL (l.take k) ++ ((if l[k].1 then [⟨#[45, 102]⟩, l[k].2] else []) ++ (if !l[k].1 then [⟨#[45, 101]⟩, l[k].2] else [])) := by
  rw [pieceL_snoc l k h]
  cases l[k].1 <;> simp

set_option maxRecDepth 8000 in
set_option maxHeartbeats 6400000 in
theorem print_core (q e s i : Bool) (suf : ByteArray) (c : List Pc) (n : List ByteArray) (ao : Option Addr) (cap : Nat) (ao' : Option Addr) (cap' : Nat) (w : World)
    (HS : Hid (Sx w (.slice ao c.length cap) c)) (HN : Hid (Tx w (.slice ao' n.length cap') n)) (hr : rightB ⟨q, e, s, i, suf, c, n⟩ = true) (h1 : c.length ≤ 4611686018427387) (h2 : n.length ≤ 4611686018427387) (hsz : suf.size ≤ 255) (hnz : ao' = none → cap' = 0) :
    Calls Try.prog 13 #[.agg #[.bool q, .bool e, .bool s, .bool i, .string suf, .slice ao c.length cap, .slice ao' n.length cap']] w (PrintPost w ⟨q, e, s, i, suf, c, n⟩) := by
  have HR := Lib.hid (fun W (hx : Ax W (.agg #[.bool q, .bool e, .bool s, .bool i, .string suf, .slice ao c.length cap, .slice ao' n.length cap']) ⟨q, e, s, i, suf, c, n⟩) => right_any _ _ W hx)
  rw [hr] at HR
  have HRT := Lib.hid hr
  clear hr
  have HA : Hid ((w.alloc (.cells #[.bool q, .bool e, .bool s, .bool i, .string suf, .slice ao c.length cap, .slice ao' n.length cap'] 27)).heap[w.heap.size]? = some (.cells #[.bool q, .bool e, .bool s, .bool i, .string suf, .slice ao c.length cap, .slice ao' n.length cap'] 27 (0, 0))) := heap_alloc_new w _
  have HW := Lib.hid (bl_alloc w (.cells #[.bool q, .bool e, .bool s, .bool i, .string suf, .slice ao c.length cap, .slice ao' n.length cap'] 27))
  have HW1 : Hid ((w.alloc (.cells #[.bool q, .bool e, .bool s, .bool i, .string suf, .slice ao c.length cap, .slice ao' n.length cap'] 27)).heap.size = w.heap.size + 1) := by show _ = _; simp
  go_enter Try.func13, Try.ntmps13
  go_wp2_with fail
  refine (HR.out _ ⟨_, _, rfl, HS.out.to HW.out, HN.out.to HW.out⟩).mono ?_
  rintro e1 w1 ⟨rfl, hb1⟩
  have HB1 := Lib.hid (bl_to HW.out hb1)
  have HX : Hid (w1.heap[w.heap.size]? = some (.cells #[.bool q, .bool e, .bool s, .bool i, .string suf, .slice ao c.length cap, .slice ao' n.length cap'] 27 (0, 0))) := (hb1.block w.heap.size (by rw [HW1.out]; omega)).trans HA.out
  have hlt1 : w.heap.size < w1.heap.size := lt_of_block HX.out
  have e0 : ∀ o, (w1.alloc o).cell? ⟨w.heap.size, 0, none⟩ = some (.bool q) := fun o => bl_cell (bl_alloc w1 o) (blk_at HX.out 0 (v := .bool q) rfl).1
  have P0 : Hid (PQ w1 [] (w1.alloc (.cells #[.slice none 0 0] 25))) := ⟨⟨_, heap_alloc_new w1 _, Out.nil _ _, Nat.le_refl _⟩, bl_alloc w1 _⟩
  clear hb1 HR HA HW
  go_wp2_with fail
  have f0 : ∀ o, ((w1.alloc (.cells #[.slice none 0 0] 25)).alloc o).cell? ⟨w.heap.size, 0, none⟩ = some (.bool q) := fun o => bl_cell (bl_alloc _ o) (e0 _)
  have HWZ : Hid ((w1.alloc (.cells #[.slice none 0 0] 25)).heap.size = w1.heap.size + 1) := by show _ = _; simp
  generalize hwa : (w1.alloc (.cells #[.slice none 0 0] 25)) = wa at *
  clear hwa e0
  have hs0 := P0.out.2.size
  refine (put_any q w1.heap.size w1.heap.size [] [⟨#[45, 110]⟩] ⟨w1.heap.size + 1, 0, none⟩ 1 1 _ rfl (by rw [← HWZ.out]; exact cells_one wa _ 9) (P0.out.1.to (bl_alloc wa _)) (by simp; omega) (by simp) (by omega)).mono ?_
  rintro e2 w2 hp
  have p1 := P0.out.put hp
  obtain ⟨rfl, _, _⟩ := hp
  simp only [List.nil_append] at p1
  obtain ⟨l1, HL1⟩ : ∃ l1 : List ByteArray, Hid ((if q then [(⟨#[45, 110]⟩ : ByteArray)] else []) = l1) := ⟨_, rfl⟩
  have hl1 : l1.length ≤ 1 := by rw [← HL1.out]; cases q <;> simp
  rw [HL1.out] at p1
  have P1 := Lib.hid p1
  have hbox := (p1.2.block w.heap.size hlt1).trans HX.out
  have c1 := (blk_at hbox 1 (v := .bool e) rfl).1
  have hs1 := p1.2.size
  clear P0 p1 hbox hs0 f0
  go_wp2_with fail
  refine (put_any e w1.heap.size w1.heap.size l1 [⟨#[45, 69]⟩] ⟨w2.heap.size, 0, none⟩ 1 1 _ rfl (cells_one w2 _ _) (P1.out.1.to (bl_alloc w2 _)) (by simp; omega) (by omega) (by omega)).mono ?_
  rintro e3 w3 hp
  have p2 := P1.out.put hp
  obtain ⟨rfl, _, _⟩ := hp
  obtain ⟨l2, HL2⟩ : ∃ l2 : List ByteArray, Hid ((l1 ++ if e then [(⟨#[45, 69]⟩ : ByteArray)] else []) = l2) := ⟨_, rfl⟩
  have hl2 : l2.length ≤ 2 := by rw [← HL2.out, List.length_append]; cases e <;> simp <;> omega
  rw [HL2.out] at p2
  have P2 := Lib.hid p2
  have hbox := (p2.2.block w.heap.size hlt1).trans HX.out
  have c2 := (blk_at hbox 2 (v := .bool s) rfl).1
  have c3 := (blk_at hbox 3 (v := .bool i) rfl).1
  have hs2 := p2.2.size
  clear P1 p2 hbox hs1 c1
  go_upto_region 7 with (fail)
  go_cut [33] (fun _ wx => PQ w1 (l2 ++ if (s && !i) then [⟨#[45, 115]⟩] else []) wx)
  case first =>
    cases s <;> cases i
    all_goals
      go_wp2_with fail
      refine (put_any _ w1.heap.size w1.heap.size l2 [⟨#[45, 115]⟩] ⟨w3.heap.size, 0, none⟩ 1 1 _ rfl (cells_one w3 _ _) (P2.out.1.to (bl_alloc w3 _)) (by simp; omega) (by omega) (by omega)).mono ?_
      rintro e4 w4 hp
      have P3 := Lib.hid (P2.out.put hp)
      obtain ⟨rfl, _, _⟩ := hp
      go_wp2_with fail
      go_meet
      case rel => exact P3.out
  case rest =>
    have p3 := hcut
    clear hcut
    obtain ⟨si, HSI⟩ : ∃ si, Hid ((s && !i) = si) := ⟨_, rfl⟩
    rw [HSI.out] at p3
    obtain ⟨l3, HL3⟩ : ∃ l3 : List ByteArray, Hid ((l2 ++ if si then [(⟨#[45, 115]⟩ : ByteArray)] else []) = l3) := ⟨_, rfl⟩
    have hl3 : l3.length ≤ 3 := by rw [← HL3.out, List.length_append]; cases si <;> simp <;> omega
    rw [HL3.out] at p3
    have P3 := Lib.hid p3
    have hbox := (p3.2.block w.heap.size hlt1).trans HX.out
    have c3 := (blk_at hbox 3 (v := .bool i) rfl).1
    have c4 := (blk_at hbox 4 (v := .string suf) rfl).1
    have hs3 := p3.2.size
    clear P2 p3 hbox hs2
    go_wp2_with fail
    refine (put_any i w1.heap.size w1.heap.size l3 [⟨#[45, 105]⟩ ++ suf] ⟨wc.heap.size, 0, none⟩ 1 1 _ rfl (cells_one wc _ _) (P3.out.1.to (bl_alloc wc _)) (by simp; omega) (by omega) (by omega)).mono ?_
    rintro e5 w5 hp
    have p4 := P3.out.put hp
    obtain ⟨rfl, _, _⟩ := hp
    obtain ⟨l4, HL4⟩ : ∃ l4 : List ByteArray, Hid ((l3 ++ if i then [(⟨#[45, 105]⟩ : ByteArray) ++ suf] else []) = l4) := ⟨_, rfl⟩
    have hl4 : l4.length ≤ 4 := by rw [← HL4.out, List.length_append]; cases i <;> simp <;> omega
    have HOPT : Hid (optL q e (s && !i) i suf = l4) := by show _ = _; rw [← HL4.out, ← HL3.out, ← HL2.out, ← HL1.out, HSI.out]; unfold optL; simp
    have HLEN : Hid ((printL ⟨q, e, s, i, suf, c, n⟩).length = l4.length + 2 * c.length + 1 + n.length) := by
      show _ = _
      unfold printL
      simp only [List.length_append, List.length_cons, pieceL_length]
      rw [HOPT.out]; omega
    rw [HL4.out] at p4
    have P4 := Lib.hid p4
    have hbox := (p4.2.block w.heap.size hlt1).trans HX.out
    have c5 := (blk_at hbox 5 (v := .slice ao c.length cap) rfl).1
    have c6 := (blk_at hbox 6 (v := .slice ao' n.length cap') rfl).1
    have hs4 := p4.2.size
    have HBW : Hid (Below w.heap.size w w5) := HB1.out.trans (p4.2.mono HB1.out.size)
    clear P3 p4 hbox hs3 c3 c4
    by_cases hb1 : 65536 < c.length
    · have z1 : decide ((65536 : Int) < (c.length : Int)) = true := decide_eq_true (by omega)
      have z2 : (65536 : Int) < (c.length : Int) := by omega
      have HPP : Hid (printP ⟨q, e, s, i, suf, c, n⟩ = ([], 3)) := by
        show _ = _
        unfold printP
        rw [HRT.out, if_neg (by simp), if_pos (by rw [HLEN.out]; omega)]
      clear hb1
      go_wp2_with fail
      go_ret2
      exact ⟨.slice none 0 0, by rw [HPP.out]; rfl, by rw [HPP.out]; exact Out.nil _ _, HBW.out⟩
    · have z1 : decide ((65536 : Int) < (c.length : Int)) = false := decide_eq_false (by omega)
      have z2 : ¬ (65536 : Int) < (c.length : Int) := by omega
      by_cases hb2 : 65536 < n.length
      · have z3 : decide ((65536 : Int) < (n.length : Int)) = true := decide_eq_true (by omega)
        have z4 : (65536 : Int) < (n.length : Int) := by omega
        have HPP : Hid (printP ⟨q, e, s, i, suf, c, n⟩ = ([], 3)) := by
          show _ = _
          unfold printP
          rw [HRT.out, if_neg (by simp), if_pos (by rw [HLEN.out]; omega)]
        clear hb1 hb2
        go_wp2_with fail
        go_ret2
        exact ⟨.slice none 0 0, by rw [HPP.out]; rfl, by rw [HPP.out]; exact Out.nil _ _, HBW.out⟩
      · have z3 : decide ((65536 : Int) < (n.length : Int)) = false := decide_eq_false (by omega)
        have z4 : ¬ (65536 : Int) < (n.length : Int) := by omega
        have hcl : c.length ≤ 65536 := by omega
        have hnl : n.length ≤ 65536 := by omega
        clear hb1 hb2
        go_wp2_with fail
        clear c5 c6 hs4 z1 z2 z3 z4
        go_loopw [59] (fun i59 wx => ∃ k : Nat, k ≤ c.length ∧ i59 = .int .i64 (k : Int) ∧ PQ w1 (l4 ++ pieceL (c.take k)) wx) (fun i59 _ => c.length - (intOf i59).toNat)
        case atStart => exact ⟨0, Nat.zero_le _, rfl, by simpa [pieceL] using P4.out⟩
        case round =>
          obtain ⟨k, hk, rfl, po⟩ := hrel
          clear P4 HBW
          have hbox := (po.2.block w.heap.size hlt1).trans HX.out
          have hwb := HB1.out.trans (po.2.mono HB1.out.size)
          have hws := po.2.size
          by_cases hlt : k < c.length
          · obtain ⟨_, _, e1, hc1⟩ := HS.out
            simp only [Value.slice.injEq, true_and] at e1
            obtain ⟨rfl, rfl⟩ := e1
            obtain ⟨b, off, rfl, hbl, hc⟩ := hc1 (by omega)
            have hce := hc k hlt
            have hpn := pieceL_snoc2 c k hlt
            have hpl := pieceL_length (c.take k)
            rw [List.length_take, Nat.min_eq_left (Nat.le_of_lt hlt)] at hpl
            obtain ⟨x, hx⟩ : ∃ x, c[k] = x := ⟨_, rfl⟩
            rw [hx] at hce hpn
            obtain ⟨xb, xt⟩ := x
            simp only at hce hpn
            have d0 := (hwb.cell (p := ⟨b, off + k * 2, none⟩) hbl).trans hce.1
            have d1 := (hwb.cell (p := ⟨b, off + k * 2 + 1, none⟩) hbl).trans hce.2
            have hk0 : (0 : Int) ≤ (k : Int) := by omega
            have hk1 : (k : Int) < (c.length : Int) := by omega
            have PP := Lib.hid po
            have HPN := Lib.hid hpn
            generalize pieceL (c.take k) = pk at *
            obtain ⟨lk, HLK⟩ : ∃ lk, Hid (l4 ++ pk = lk) := ⟨_, rfl⟩
            have hln : lk.length ≤ 140000 := by rw [← HLK.out, List.length_append]; omega
            rw [HLK.out] at PP
            clear hc1 hc hce hx hbox hwb po hpn
            go_wp2_with fail
            obtain ⟨wz, hwz⟩ : ∃ wz, wr.alloc (.cells #[.bool xb, .string xt] 45) = wz := ⟨_, rfl⟩
            have hzb : wz.heap[wr.heap.size]? = some (.cells #[.bool xb, .string xt] 45 (0, 0)) := by rw [← hwz]; exact heap_alloc_new wr _
            have hzs : wz.heap.size = wr.heap.size + 1 := by rw [← hwz]; simp
            have HZS := Lib.hid hzs
            have pz : PQ w1 lk wz := by rw [← hwz]; exact ⟨PP.out.1.to (bl_alloc wr _), PP.out.2.trans ((bl_alloc wr _).mono PP.out.2.size)⟩
            have PZ := Lib.hid pz
            have HZB := Lib.hid hzb
            rw [hwz]
            clear hwz hzb hzs pz PP d0 d1
            refine (put_any xb w1.heap.size w1.heap.size lk [⟨#[45, 102]⟩, xt] ⟨wr.heap.size + 1, 0, none⟩ 2 2 _ rfl (by rw [← HZS.out]; exact cells_two wz _ _ 9) (PZ.out.1.to (bl_alloc wz _)) (by have := HZS.out; simp; omega) (by omega) (by omega)).mono ?_
            rintro e6 w6 hp
            have p5 := PZ.out.put hp
            have hz6 := hp.2.2.keep _ _ _ _ ((heap_alloc_old wz _ (by have := HZS.out; omega)).trans HZB.out) (by simp [TP])
            obtain ⟨rfl, _, _⟩ := hp
            obtain ⟨lm, HLM⟩ : ∃ lm, Hid ((lk ++ if xb then [(⟨#[45, 102]⟩ : ByteArray), xt] else []) = lm) := ⟨_, rfl⟩
            have hlm : lm.length ≤ 140002 := by rw [← HLM.out, List.length_append]; cases xb <;> simp <;> omega
            rw [HLM.out] at p5
            have P5 := Lib.hid p5
            have y0 := (blk_at hz6 0 (v := .bool xb) rfl).1
            have y1 := (blk_at hz6 1 (v := .string xt) rfl).1
            have hs6 := p5.2.size
            clear PZ p5 hz6
            go_wp2_with fail
            refine (put_any (!xb) w1.heap.size w1.heap.size lm [⟨#[45, 101]⟩, xt] ⟨w6.heap.size, 0, none⟩ 2 2 _ rfl (cells_two w6 _ _ 9) (P5.out.1.to (bl_alloc w6 _)) (by simp; omega) (by omega) (by omega)).mono ?_
            rintro e7 w7 hp
            have P6 := Lib.hid (P5.out.put hp)
            obtain ⟨rfl, _, _⟩ := hp
            clear P5 y0 y1 hs6
            go_wp2_with fail
            go_roundw
            case rel => exact ⟨k + 1, by omega, by go_num, by rw [HPN.out, ← List.append_assoc, HLK.out, ← List.append_assoc, HLM.out]; exact P6.out⟩
            case measure => simp [intOf]; omega
          · obtain rfl : k = c.length := by omega
            rw [List.take_of_length_le (Nat.le_refl _)] at po
            have PP := Lib.hid po
            have hpl := pieceL_length c
            have HPL : Hid (printL ⟨q, e, s, i, suf, c, n⟩ = l4 ++ pieceL c ++ [dashes] ++ n) := by show _ = _; unfold printL; rw [HOPT.out]; simp
            obtain ⟨lk, HLK⟩ : ∃ lk, Hid (l4 ++ pieceL c = lk) := ⟨_, rfl⟩
            have hln : lk.length ≤ 140000 := by rw [← HLK.out, List.length_append]; omega
            rw [HLK.out] at PP HPL
            clear hbox hwb po hlt hpl
            go_wp2_with fail
            refine (put_any true w1.heap.size w1.heap.size lk [dashes] ⟨wr.heap.size, 0, none⟩ 1 1 _ rfl (cells_one wr _ _) (PP.out.1.to (bl_alloc wr _)) (by simp; omega) (by omega) (by omega)).mono ?_
            rintro e6 w6 hp
            have p5 := PP.out.put hp
            obtain ⟨rfl, _, _⟩ := hp
            simp only [if_true] at p5
            obtain ⟨lm, HLM⟩ : ∃ lm, Hid (lk ++ [dashes] = lm) := ⟨_, rfl⟩
            have hlm : lm.length ≤ 140001 := by rw [← HLM.out, List.length_append]; simp; omega
            rw [HLM.out] at p5 HPL
            have P5 := Lib.hid p5
            have hbox := (p5.2.block w.heap.size hlt1).trans HX.out
            have HWB := Lib.hid (HB1.out.trans (p5.2.mono HB1.out.size))
            have c6 := (blk_at hbox 6 (v := .slice ao' n.length cap') rfl).1
            have hs6 := p5.2.size
            obtain ⟨lz, HLZ⟩ : ∃ lz, Hid (lm ++ n = lz) := ⟨_, rfl⟩
            rw [HLZ.out] at HPL
            have HPR : Hid (printP ⟨q, e, s, i, suf, c, n⟩ = if 65536 < lz.length then ([], 3) else (lz, 0)) := by
              show _ = _
              unfold printP
              rw [HRT.out, if_neg (by simp), HPL.out]
            have hlz : lz.length ≤ 300000 := by rw [← HLZ.out, List.length_append]; omega
            have HEND : Hid (∀ w7, PQ w1 lz w7 → ∃ oa oc, w7.cell? ⟨w1.heap.size, 0, none⟩ = some (.slice oa lz.length oc) ∧ Out w7 w.heap.size (.slice oa lz.length oc) lz ∧ Below w.heap.size w w7) := fun w7 h7 => by
              obtain ⟨⟨ov, g1, g2, g3⟩, hb⟩ := h7
              obtain ⟨oa, oc, rfl⟩ := row_slice g2
              exact ⟨oa, oc, (blk_at g1 0 rfl).1, row_base g2 (by omega), HB1.out.trans (hb.mono HB1.out.size)⟩
            clear PP p5 hbox hws
            go_wp2_with fail
            have HC : Hid (Calls Try.prog 27 #[.bool true, .slice ao' n.length cap', .pointer (some ⟨w1.heap.size, 0, none⟩)] w6 fun e w' => e = .returned (.tuple #[]) ∧ PQ w1 lz w') := by
              show Calls _ _ _ _ _
              cases ao' with
              | none =>
                have hn0 : n = [] := by
                  obtain ⟨_, _, e1, hc1⟩ := HN.out
                  cases n with
                  | nil => rfl
                  | cons a r =>
                    obtain ⟨b, off, hh, _⟩ := hc1 (by simp)
                    simp only [Value.slice.injEq] at e1
                    rw [hh] at e1; simp at e1
                subst hn0
                rw [hnz rfl]
                have hz : lm = lz := by rw [← HLZ.out, List.append_nil]
                subst hz
                exact (put_nil w1.heap.size w1.heap.size lm w6 P5.out.1 hs6).mono fun e w' hp => ⟨hp.1, P5.out.put0 hp⟩
              | some ad =>
                have hcs : ∀ j u, (n.map Value.string)[j]? = some u → w6.cell? (ad.add j) = some u := fun j u hu => by
                  have hjl : j < n.length := by have := (List.getElem?_eq_some_iff.1 hu).1; simpa using this
                  obtain ⟨_, _, e1, hc1⟩ := HN.out
                  obtain ⟨b, off, hh, hbl, hc⟩ := hc1 (by omega)
                  simp only [Value.slice.injEq] at e1
                  rw [hh] at e1
                  simp only [Option.some.injEq] at e1
                  rw [e1.1]
                  have ea : (⟨b, off, none⟩ : Addr).add j = ⟨b, off + j, none⟩ := by unfold Addr.add; split <;> simp_all
                  rw [ea, HWB.out.cell (p := ⟨b, off + j, none⟩) hbl, hc j hjl, ← hu]
                  simp [hjl]
                refine (put_yes w1.heap.size w1.heap.size lm n ad n.length cap' w6 rfl hcs P5.out.1 hs6 (by omega) (by omega)).mono fun e w' hp => ⟨hp.1, ?_⟩
                rw [← HLZ.out]
                exact P5.out.put0 hp
            clear hnz c6
            refine HC.out.mono ?_
            rintro e7 w7 ⟨rfl, p7⟩
            obtain ⟨oa, oc, y0, h8, h9⟩ := HEND.out w7 p7
            have H8 := Lib.hid h8
            have H9 := Lib.hid h9
            clear HC HEND P5 p7 h8 h9 hs6
            by_cases hbig : 65536 < lz.length
            · have z1 : (65536 : Int) < (lz.length : Int) := by omega
              have HPP : Hid (printP ⟨q, e, s, i, suf, c, n⟩ = ([], 3)) := by show _ = _; rw [HPR.out, if_pos hbig]
              clear hbig
              go_wp2_with fail
              go_ret2
              exact ⟨.slice none 0 0, by rw [HPP.out]; rfl, by rw [HPP.out]; exact Out.nil _ _, H9.out⟩
            · have z1 : ¬ (65536 : Int) < (lz.length : Int) := by omega
              have HPP : Hid (printP ⟨q, e, s, i, suf, c, n⟩ = (lz, 0)) := by show _ = _; rw [HPR.out, if_neg hbig]
              clear hbig
              go_wp2_with fail
              go_ret2
              exact ⟨.slice oa lz.length oc, by rw [HPP.out]; rfl, by rw [HPP.out]; exact H8.out, H9.out⟩

theorem print_any (v : Value) (a : Av) (w : World) (sv nv : Value) (hv : v = a.val sv nv) (hs : Sx w sv a.scr) (hn : Tx w nv a.nam) (hz : Nz nv) (h1 : a.scr.length ≤ 4611686018427387) (h2 : a.nam.length ≤ 4611686018427387) :
    Calls Try.prog 13 #[v] w (PrintPost w a) := by
  subst hv
  have HS := Lib.hid hs
  have HN := Lib.hid hn
  obtain ⟨ao, cap, rfl, hc⟩ := hs
  obtain ⟨ao', cap', rfl, hc'⟩ := hn
  clear hc hc'
  obtain ⟨q, e, s, i, suf, c, n⟩ := a
  rcases Bool.eq_false_or_eq_true (rightB ⟨q, e, s, i, suf, c, n⟩) with hr | hr
  · exact print_core q e s i suf c n ao cap ao' cap' w HS HN hr h1 h2 (right_suf hr) (fun e => hz _ _ (by rw [e]))
  · have HR := Lib.hid (fun W (hx : Ax W (.agg #[.bool q, .bool e, .bool s, .bool i, .string suf, .slice ao c.length cap, .slice ao' n.length cap']) ⟨q, e, s, i, suf, c, n⟩) => right_any _ _ W hx)
    rw [hr] at HR
    have HPP : Hid (printP ⟨q, e, s, i, suf, c, n⟩ = ([], 260)) := by show _ = _; unfold printP; rw [hr, if_pos rfl]
    have HW := Lib.hid (bl_alloc w (.cells #[.bool q, .bool e, .bool s, .bool i, .string suf, .slice ao c.length cap, .slice ao' n.length cap'] 27))
    clear hr hz h1 h2
    go_enter Try.func13, Try.ntmps13
    go_wp2_with fail
    refine (HR.out _ ⟨_, _, rfl, HS.out.to HW.out, HN.out.to HW.out⟩).mono ?_
    rintro e1 w1 ⟨rfl, hb1⟩
    have HB := Lib.hid (bl_to HW.out hb1)
    clear hb1 HR
    go_wp2_with fail
    go_ret2
    exact ⟨.slice none 0 0, by rw [HPP.out]; rfl, by rw [HPP.out]; exact Out.nil _ _, HB.out⟩
end Go.Proofs.Ytbigolappdlhcaa
