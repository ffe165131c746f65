/- The walk of the reference's letters. -/
import Derived.Test.YtbigolappdlhcaaRB
namespace Go.Proofs.Ytbigolappdlhcaa
set_option linter.unusedSimpArgs false
set_option linter.unusedVariables false
open Go.RowKit

theorem LI.bad {w wr : World} {base B : Nat} {lv : Value} {s : ByteArray} {more : List ByteArray} {i j : Nat} {R : Int × Bool × Av} {a : Av} (h1 : 1 ≤ j) (h2 : j ≤ s.size) (hf : FrT TR base w wr) (hR : R.2.1 = false) (h : RS wr base B lv ((i : Int) + 1) (i : Int) a) : LI w base B lv s more i R j wr := ⟨h1, h2, hf, .inr ⟨hR, a, h⟩⟩
theorem LI.good {w wr : World} {base B : Nat} {lv : Value} {s : ByteArray} {more : List ByteArray} {i j : Nat} {R : Int × Bool × Av} {a : Av} (h1 : 1 ≤ j) (h2 : j ≤ s.size) (hf : FrT TR base w wr) (h : RS wr base B lv ((i : Int) + 1) (-1) a) (hl : a.scr.length ≤ 100000) (hR : shortF (tail1 s) more ((tail1 s).size - (j - 1)) a = R) : LI w base B lv s more i R j wr := ⟨h1, h2, hf, .inl ⟨a, h, hl, hR⟩⟩

theorem RS.put {w : World} {base B : Nat} {lv : Value} {at_ bad : Int} {a : Av} (h : RS w base B lv at_ bad a) (at2 : Int) (n : Nat) : RS ((w.drewN n).setCell ⟨B, 1, none⟩ (.int .i64 at2)) base B lv at2 bad a ∧ FrT TR base w ((w.drewN n).setCell ⟨B, 1, none⟩ (.int .i64 at2)) := by
  have hw := h.lt
  obtain ⟨sv, h1, h2, h3⟩ := h.to (below_drewN (Below.refl _ _) n)
  have kk := RS.set (at' := at2) (bad' := bad) (a' := a) h1 h2 h3 1 (.int .i64 at2) rfl rfl
  exact ⟨⟨sv, kk.1, kk.2.1, h3⟩, (FrT.ofBelow TR (below_drewN (Below.refl _ _) n) hw).trans kk.2.2⟩

set_option maxRecDepth 8000 in
set_option maxHeartbeats 12800000 in
theorem letters_any (base B i : Nat) (lo : Option Addr) (lcap : Nat) (l : List ByteArray) (a : Av) (s : ByteArray) (w : World) (hs1 : 1 ≤ s.size) (hs2 : s.size ≤ 9223372036854775807) (h : RS w base B (.slice lo l.length lcap) (i : Int) (-1) a) (hl : a.scr.length ≤ 100000) (hm : ∀ W, Below base w W → Tx W (.slice lo l.length lcap) l) (hi : i < l.length) (hll : l.length ≤ 65536) :
    Calls Try.prog 38 #[.pointer (some ⟨B, 0, none⟩), .string s] w (LetPost w base B (.slice lo l.length lcap) l i (shortF (tail1 s) (l.drop (i + 1)) (tail1 s).size a)) := by
  have HM := Lib.hid hm
  have hbw := h.lt
  obtain ⟨sv, h1, h2, h3⟩ := h
  obtain ⟨z1, f1⟩ := blk_at h1 1 (v := .int .i64 i) rfl
  have k1 := RS.set (at' := (i : Int) + 1) (bad' := -1) (a' := a) h1 h2 h3 1 (.int .i64 ((i : Int) + 1)) rfl rfl
  have gw := wrap_in ((i : Int) + 1) (by omega) (by omega)
  have HI : Hid (LI w base B (.slice lo l.length lcap) s (l.drop (i + 1)) i (shortF (tail1 s) (l.drop (i + 1)) (tail1 s).size a) 1 (w.setCell ⟨B, 1, none⟩ (.int .i64 ((i : Int) + 1)))) := LI.good (by omega) hs1 k1.2.2 ⟨sv, k1.1, k1.2.1, h3⟩ hl rfl
  clear hm h1 h2 k1 hl
  generalize shortF (tail1 s) (l.drop (i + 1)) (tail1 s).size a = R at *
  go_enter Try.func38, Try.ntmps38
  go_wp2_with fail
  go_loopw [5] (fun s5 wr => ∃ j : Nat, s5 = .int .i64 j ∧ LI w base B (.slice lo l.length lcap) s (l.drop (i + 1)) i R j wr) (fun s5 _ => s.size - (intOf s5).toNat)
  case atStart => exact ⟨1, rfl, HI.out⟩
  case round =>
    clear HI
    obtain ⟨j, rfl, hj1, hj2, hf, hor⟩ := hrel
    have HF := Lib.hid hf
    clear hf
    rcases hor with ⟨a, hr, hl, hR⟩ | ⟨hR, a, hr⟩
    · by_cases hlt : j < s.size
      · have hts := tail1_size s
        have hjt : j - 1 < (tail1 s).size := by omega
        rw [shortF_at (tail1 s) (l.drop (i + 1)) (j - 1) a hjt, tail1_get s j hj1 hlt hjt, behind_tail s j hj1 hlt] at hR
        have HNX : Hid ((tail1 s).size - (j - 1 + 1) = (tail1 s).size - (j + 1 - 1)) := by show _ = _; omega
        rw [HNX.out] at hR
        obtain ⟨x, hx⟩ : ∃ x, s[j] = x := ⟨_, rfl⟩
        obtain ⟨rs, hrs⟩ : ∃ rs, s.extract (j + 1) s.size = rs := ⟨_, rfl⟩
        rw [hx, hrs] at hR
        obtain ⟨o, ho⟩ : ∃ o, optOf (isLetter x) = o := ⟨_, rfl⟩
        rw [ho] at hR
        have HRR := Lib.hid hR
        have HRX := Lib.hid hrs
        have HR := Lib.hid hr
        obtain ⟨sv, h1, h2, h3⟩ := hr
        have b2 := (blk_at h1 2 (v := .int .i64 (-1)) rfl).1
        have H1 := Lib.hid h1
        have H2 := Lib.hid h2
        have g0 : (0 : Int) ≤ (j : Int) := by omega
        have g1 : (j : Int) < (s.size : Int) := by omega
        have g1d : decide ((j : Int) < (s.size : Int)) = true := decide_eq_true g1
        have g2 := wrap_in ((j : Int) + 1) (by omega) (by omega)
        have g3 : (0 : Int) ≤ (j : Int) + 1 := by omega
        have g4 : (j : Int) + 1 ≤ (s.size : Int) := by omega
        have g5 : ((j : Int) + 1).toNat = j + 1 := by omega
        clear hR h1 h2 hts hjt
        cases o with
        | none =>
          obtain ⟨n1, n2, n3, n4, n5, n6, n7⟩ := letter_none ho
          have HRE : Hid (R.2.1 = false) := by have := HRR.out; show R.2.1 = false; rw [← this]
          clear ho hrs
          go_wp2_with fail
          refine (fail_any (i : Int) HR.out).mono ?_
          rintro e w5 ⟨rfl, hr5, hf5⟩
          rw [badOf_neg] at hr5
          have HN : Hid (LI w base B (.slice lo l.length lcap) s (l.drop (i + 1)) i R (j + 1) w5) := LI.bad (by omega) (by omega) (HF.out.trans hf5) HRE.out hr5
          clear hr5 hf5
          go_wp2_with fail
          go_roundw
          case rel => exact ⟨j + 1, by go_num, HN.out⟩
          case measure => simp [intOf]; omega
        | some k =>
          have hls := letter_some ho
          clear ho
          rcases hls with ⟨rfl, rfl⟩ | ⟨rfl, hh⟩ | ⟨rfl, rfl⟩ | ⟨rfl, rfl⟩ | ⟨rfl, rfl⟩ | ⟨rfl, rfl⟩
          · have HE : Hid (shortF (tail1 s) (l.drop (i + 1)) ((tail1 s).size - (j + 1 - 1)) (doOpt a ⟨#[]⟩ 0) = R) := HRR.out
            obtain ⟨z3, f3⟩ := blk_at H1.out 3 (v := .bool a.q) rfl
            have kk := RS.set (at' := (i : Int) + 1) (bad' := -1) (a' := doOpt a ⟨#[]⟩ 0) H1.out H2.out h3 3 (.bool true) rfl rfl
            have HN : Hid (LI w base B (.slice lo l.length lcap) s (l.drop (i + 1)) i R (j + 1) (wr.setCell ⟨B, 3, none⟩ (.bool true))) := LI.good (by omega) (by omega) (HF.out.trans kk.2.2) ⟨sv, kk.1, kk.2.1, h3⟩ (by rw [doOpt_scr _ _ _ (by omega)]; exact hl) HE.out
            clear kk hrs
            go_wp2_with fail
            go_roundw
            case rel => exact ⟨j + 1, by go_num, HN.out⟩
            case measure => simp [intOf]; omega
          · rcases hh with rfl | rfl
            all_goals
              have HE : Hid (shortF (tail1 s) (l.drop (i + 1)) ((tail1 s).size - (j + 1 - 1)) (doOpt a ⟨#[]⟩ 1) = R) := HRR.out
              obtain ⟨z3, f3⟩ := blk_at H1.out 4 (v := .bool a.e) rfl
              have kk := RS.set (at' := (i : Int) + 1) (bad' := -1) (a' := doOpt a ⟨#[]⟩ 1) H1.out H2.out h3 4 (.bool true) rfl rfl
              have HN : Hid (LI w base B (.slice lo l.length lcap) s (l.drop (i + 1)) i R (j + 1) (wr.setCell ⟨B, 4, none⟩ (.bool true))) := LI.good (by omega) (by omega) (HF.out.trans kk.2.2) ⟨sv, kk.1, kk.2.1, h3⟩ (by rw [doOpt_scr _ _ _ (by omega)]; exact hl) HE.out
              clear kk hrs
              go_wp2_with fail
              go_roundw
              case rel => exact ⟨j + 1, by go_num, HN.out⟩
              case measure => simp [intOf]; omega
          · have HE : Hid (shortF (tail1 s) (l.drop (i + 1)) ((tail1 s).size - (j + 1 - 1)) (doOpt a ⟨#[]⟩ 2) = R) := HRR.out
            obtain ⟨z3, f3⟩ := blk_at H1.out 5 (v := .bool a.s) rfl
            have kk := RS.set (at' := (i : Int) + 1) (bad' := -1) (a' := doOpt a ⟨#[]⟩ 2) H1.out H2.out h3 5 (.bool true) rfl rfl
            have HN : Hid (LI w base B (.slice lo l.length lcap) s (l.drop (i + 1)) i R (j + 1) (wr.setCell ⟨B, 5, none⟩ (.bool true))) := LI.good (by omega) (by omega) (HF.out.trans kk.2.2) ⟨sv, kk.1, kk.2.1, h3⟩ (by rw [doOpt_scr _ _ _ (by omega)]; exact hl) HE.out
            clear kk hrs
            go_wp2_with fail
            go_roundw
            case rel => exact ⟨j + 1, by go_num, HN.out⟩
            case measure => simp [intOf]; omega
          · have HV : Hid (valF (l.drop (i + 1)) rs a 3 = R) := HRR.out
            by_cases hz : rs.size = 0
            · obtain rfl : rs = ⟨#[]⟩ := by apply ba_ext; have : rs.data.toList.length = 0 := by simpa using hz
                                            rw [List.length_eq_zero_iff.1 this]
              have b1 := (blk_at H1.out 1 (v := .int .i64 ((i : Int) + 1)) rfl).1
              have b0 := (blk_at H1.out 0 (v := .slice lo l.length lcap) rfl).1
              have e1 : ((⟨#[]⟩ : ByteArray).toList == []) = true := by rw [emp_toList]; rfl
              by_cases hend : i + 1 < l.length
              · obtain ⟨_, _, ee, hc1⟩ := HM.out wr HF.out.below
                simp only [Value.slice.injEq, true_and] at ee
                obtain ⟨rfl, rfl⟩ := ee
                obtain ⟨mb, moff, rfl, hmb, hmc⟩ := hc1 (by omega)
                have d0 := hmc (i + 1) hend
                obtain ⟨m, hmm⟩ : ∃ m, l[i + 1] = m := ⟨_, rfl⟩
                rw [hmm] at d0
                have hdr : l.drop (i + 1) = m :: l.drop (i + 1 + 1) := by rw [List.drop_eq_getElem_cons hend, hmm]
                have HE : Hid (R = (1, true, doOpt a m 3)) := HV.out.symm.trans (by rw [hdr]; exact valF_cons hz _ _ a 3)
                have q0 : (0 : Int) ≤ (i : Int) + 1 := by omega
                have q1 : (i : Int) + 1 < (l.length : Int) := by omega
                have q2 : ((i : Int) + 1).toNat = i + 1 := by omega
                have q3 := wrap_in ((i : Int) + 1 + 1) (by omega) (by omega)
                obtain ⟨z1', f1'⟩ := blk_at H1.out 1 (v := .int .i64 ((i : Int) + 1)) rfl
                have kk := RS.set (at' := (i : Int) + 1 + 1) (bad' := -1) (a' := a) H1.out H2.out h3 1 (.int .i64 ((i : Int) + 1 + 1)) rfl rfl
                have HKK : Hid (RS (wr.setCell ⟨B, 1, none⟩ (.int .i64 ((i : Int) + 1 + 1))) base B (.slice (some ⟨mb, moff, none⟩) l.length lcap) ((i : Int) + 1 + 1) (-1) a ∧ FrT TR base w (wr.setCell ⟨B, 1, none⟩ (.int .i64 ((i : Int) + 1 + 1)))) := ⟨⟨sv, kk.1, kk.2.1, h3⟩, HF.out.trans kk.2.2⟩
                have q4 : ¬ (l.length : Int) ≤ (i : Int) + 1 := by omega
                clear hz hdr kk hmc hc1 hmm
                go_wp2_with fail
                go_quiet (fail)
                go_wp2_with fail
                go_quiet (fail)
                go_wp2_with fail
                have hput := HR.out.put ((i : Int) + 1 + 1)
                refine (piece_any false (hput _).1 (by omega)).mono ?_
                rintro e w5 ⟨rfl, hr5, hf5⟩
                have HP : Hid (LetPost w base B (.slice (some ⟨mb, moff, none⟩) l.length lcap) l i R (.returned (.tuple #[])) w5) := ⟨rfl, (HF.out.trans (hput _).2).trans hf5, by rw [HE.out]; exact .inr (.inr ⟨rfl, by show (0 : Int) ≤ 1; omega, by simpa [doOpt] using hr5⟩)⟩
                clear hr5 hf5 hput
                go_wp2_with fail
                go_end0
                exact HP.out
              · have hdr : l.drop (i + 1) = [] := List.drop_of_length_le (by omega)
                have HE : Hid (R = (-1, true, a)) := HV.out.symm.trans (by rw [hdr]; exact valF_nil hz a 3)
                have q0 : (l.length : Int) ≤ (i : Int) + 1 := by omega
                clear hz hdr
                go_wp2_with fail
                go_quiet (fail)
                go_wp2_with fail
                refine (fail_any (l.length : Int) (HR.out.to (below_drewN (Below.refl _ _) _))).mono ?_
                rintro e w5 ⟨rfl, hr5, hf5⟩
                rw [badOf_neg] at hr5
                have HP : Hid (LetPost w base B (.slice lo l.length lcap) l i R (.returned (.tuple #[])) w5) := ⟨rfl, (HF.out.trans (FrT.ofBelow TR (below_drewN (Below.refl _ _) _) HR.out.lt)).trans hf5, by rw [HE.out]; exact .inr (.inl ⟨rfl, by show (-1 : Int) < 0; omega, _, _, hr5⟩)⟩
                clear hr5 hf5
                go_wp2_with fail
                go_end0
                exact HP.out
            · obtain ⟨ne1, ne2⟩ : rs.toList.isEmpty = false ∧ (rs.toList == []) = false := by rw [emp_toList2, emp_toList, decide_eq_false hz]; exact ⟨rfl, rfl⟩
              have HE : Hid (R = (0, true, doOpt a rs 3)) := HV.out.symm.trans (valF_rest _ hz a 3)
              clear hz
              go_wp2_with fail
              refine (piece_any false HR.out (by omega)).mono ?_
              rintro e w5 ⟨rfl, hr5, hf5⟩
              have HP : Hid (LetPost w base B (.slice lo l.length lcap) l i R (.returned (.tuple #[])) w5) := ⟨rfl, HF.out.trans hf5, by rw [HE.out]; exact .inr (.inr ⟨rfl, Int.le_refl _, by simpa [doOpt] using hr5⟩)⟩
              clear hr5 hf5
              go_wp2_with fail
              go_end0
              exact HP.out
          · have HV : Hid (valF (l.drop (i + 1)) rs a 4 = R) := HRR.out
            by_cases hz : rs.size = 0
            · obtain rfl : rs = ⟨#[]⟩ := by apply ba_ext; have : rs.data.toList.length = 0 := by simpa using hz
                                            rw [List.length_eq_zero_iff.1 this]
              have b1 := (blk_at H1.out 1 (v := .int .i64 ((i : Int) + 1)) rfl).1
              have b0 := (blk_at H1.out 0 (v := .slice lo l.length lcap) rfl).1
              have e1 : ((⟨#[]⟩ : ByteArray).toList == []) = true := by rw [emp_toList]; rfl
              by_cases hend : i + 1 < l.length
              · obtain ⟨_, _, ee, hc1⟩ := HM.out wr HF.out.below
                simp only [Value.slice.injEq, true_and] at ee
                obtain ⟨rfl, rfl⟩ := ee
                obtain ⟨mb, moff, rfl, hmb, hmc⟩ := hc1 (by omega)
                have d0 := hmc (i + 1) hend
                obtain ⟨m, hmm⟩ : ∃ m, l[i + 1] = m := ⟨_, rfl⟩
                rw [hmm] at d0
                have hdr : l.drop (i + 1) = m :: l.drop (i + 1 + 1) := by rw [List.drop_eq_getElem_cons hend, hmm]
                have HE : Hid (R = (1, true, doOpt a m 4)) := HV.out.symm.trans (by rw [hdr]; exact valF_cons hz _ _ a 4)
                have q0 : (0 : Int) ≤ (i : Int) + 1 := by omega
                have q1 : (i : Int) + 1 < (l.length : Int) := by omega
                have q2 : ((i : Int) + 1).toNat = i + 1 := by omega
                have q3 := wrap_in ((i : Int) + 1 + 1) (by omega) (by omega)
                obtain ⟨z1', f1'⟩ := blk_at H1.out 1 (v := .int .i64 ((i : Int) + 1)) rfl
                have kk := RS.set (at' := (i : Int) + 1 + 1) (bad' := -1) (a' := a) H1.out H2.out h3 1 (.int .i64 ((i : Int) + 1 + 1)) rfl rfl
                have HKK : Hid (RS (wr.setCell ⟨B, 1, none⟩ (.int .i64 ((i : Int) + 1 + 1))) base B (.slice (some ⟨mb, moff, none⟩) l.length lcap) ((i : Int) + 1 + 1) (-1) a ∧ FrT TR base w (wr.setCell ⟨B, 1, none⟩ (.int .i64 ((i : Int) + 1 + 1)))) := ⟨⟨sv, kk.1, kk.2.1, h3⟩, HF.out.trans kk.2.2⟩
                have q4 : ¬ (l.length : Int) ≤ (i : Int) + 1 := by omega
                clear hz hdr kk hmc hc1 hmm
                go_wp2_with fail
                go_quiet (fail)
                go_wp2_with fail
                go_quiet (fail)
                go_wp2_with fail
                have hput := HR.out.put ((i : Int) + 1 + 1)
                refine (piece_any true (hput _).1 (by omega)).mono ?_
                rintro e w5 ⟨rfl, hr5, hf5⟩
                have HP : Hid (LetPost w base B (.slice (some ⟨mb, moff, none⟩) l.length lcap) l i R (.returned (.tuple #[])) w5) := ⟨rfl, (HF.out.trans (hput _).2).trans hf5, by rw [HE.out]; exact .inr (.inr ⟨rfl, by show (0 : Int) ≤ 1; omega, by simpa [doOpt] using hr5⟩)⟩
                clear hr5 hf5 hput
                go_wp2_with fail
                go_end0
                exact HP.out
              · have hdr : l.drop (i + 1) = [] := List.drop_of_length_le (by omega)
                have HE : Hid (R = (-1, true, a)) := HV.out.symm.trans (by rw [hdr]; exact valF_nil hz a 4)
                have q0 : (l.length : Int) ≤ (i : Int) + 1 := by omega
                clear hz hdr
                go_wp2_with fail
                go_quiet (fail)
                go_wp2_with fail
                refine (fail_any (l.length : Int) (HR.out.to (below_drewN (Below.refl _ _) _))).mono ?_
                rintro e w5 ⟨rfl, hr5, hf5⟩
                rw [badOf_neg] at hr5
                have HP : Hid (LetPost w base B (.slice lo l.length lcap) l i R (.returned (.tuple #[])) w5) := ⟨rfl, (HF.out.trans (FrT.ofBelow TR (below_drewN (Below.refl _ _) _) HR.out.lt)).trans hf5, by rw [HE.out]; exact .inr (.inl ⟨rfl, by show (-1 : Int) < 0; omega, _, _, hr5⟩)⟩
                clear hr5 hf5
                go_wp2_with fail
                go_end0
                exact HP.out
            · obtain ⟨ne1, ne2⟩ : rs.toList.isEmpty = false ∧ (rs.toList == []) = false := by rw [emp_toList2, emp_toList, decide_eq_false hz]; exact ⟨rfl, rfl⟩
              have HE : Hid (R = (0, true, doOpt a rs 4)) := HV.out.symm.trans (valF_rest _ hz a 4)
              clear hz
              go_wp2_with fail
              refine (piece_any true HR.out (by omega)).mono ?_
              rintro e w5 ⟨rfl, hr5, hf5⟩
              have HP : Hid (LetPost w base B (.slice lo l.length lcap) l i R (.returned (.tuple #[])) w5) := ⟨rfl, HF.out.trans hf5, by rw [HE.out]; exact .inr (.inr ⟨rfl, Int.le_refl _, by simpa [doOpt] using hr5⟩)⟩
              clear hr5 hf5
              go_wp2_with fail
              go_end0
              exact HP.out
          · have HV : Hid ((if sufOk rs = true then ((0 : Int), true, doOpt a rs 5) else (0, false, a)) = R) := HRR.out
            go_wp2_with fail
            refine (inplace_any (i : Int) HR.out).mono ?_
            rintro e w5 ⟨rfl, hr5, hf5⟩
            have HP : Hid (LetPost w base B (.slice lo l.length lcap) l i R (.returned (.tuple #[])) w5) := by
              refine ⟨rfl, HF.out.trans hf5, ?_⟩
              rw [← HV.out]
              unfold inBad at hr5
              cases hsr : sufOk rs
              · rw [hsr, if_neg (by simp), badOf_neg] at hr5
                rw [if_neg (by simp)]
                exact .inl ⟨rfl, _, _, hr5⟩
              · rw [hsr, if_pos rfl] at hr5
                rw [if_pos rfl]
                exact .inr (.inr ⟨rfl, Int.le_refl _, by simpa using hr5⟩)
            clear hr5 hf5
            go_wp2_with fail
            go_end0
            exact HP.out
      · have hj : j = s.size := by omega
        have hz : (tail1 s).size - (j - 1) = 0 := by rw [tail1_size]; omega
        rw [hz] at hR
        have HE : Hid (R = (0, true, a)) := hR.symm
        have g1 : ¬ (j : Int) < (s.size : Int) := by omega
        have g1d : decide ((j : Int) < (s.size : Int)) = false := decide_eq_false g1
        have HP : Hid (LetPost w base B (.slice lo l.length lcap) l i R (.returned (.tuple #[])) wr) := ⟨rfl, HF.out, by rw [HE.out]; exact .inr (.inr ⟨rfl, Int.le_refl _, by simpa using hr⟩)⟩
        clear hj hz hR hr hlt
        go_wp2_with fail
        go_end0
        exact HP.out
    · have HP : Hid (LetPost w base B (.slice lo l.length lcap) l i R (.returned (.tuple #[])) wr) := ⟨rfl, HF.out, .inl ⟨hR, _, _, hr⟩⟩
      obtain ⟨sv, h1, h2, h3⟩ := hr
      have b2 := (blk_at h1 2 (v := .int .i64 i) rfl).1
      have q0 : ¬ (i : Int) < 0 := by omega
      clear h1 h2 hR
      by_cases hlt : j < s.size
      · have g1 : (j : Int) < (s.size : Int) := by omega
        have g1d : decide ((j : Int) < (s.size : Int)) = true := decide_eq_true g1
        clear hlt
        go_wp2_with fail
        go_end0
        exact HP.out
      · have g1 : ¬ (j : Int) < (s.size : Int) := by omega
        have g1d : decide ((j : Int) < (s.size : Int)) = false := decide_eq_false g1
        clear hlt
        go_wp2_with fail
        go_end0
        exact HP.out
end Go.Proofs.Ytbigolappdlhcaa
