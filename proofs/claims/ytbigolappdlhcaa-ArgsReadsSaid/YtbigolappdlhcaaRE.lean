/- The walk of the reference's long options. -/
import Derived.Test.YtbigolappdlhcaaRD
namespace Go.Proofs.Ytbigolappdlhcaa
set_option linter.unusedSimpArgs false
set_option linter.unusedVariables false
open Go.RowKit

theorem long_no {w : World} {base B i : Nat} {lv : Value} {l : List ByteArray} {a : Av} {t : ByteArray} {w' : World} {at' : Int} {a' : Av} (h : longL a t = none) (hf : FrT TR base w w') (hr : RS w' base B lv at' (i : Int) a') : LetPost w base B lv l i (longR a t) (.returned (.tuple #[])) w' := by
  refine ⟨rfl, hf, .inl ⟨?_, _, _, hr⟩⟩
  unfold longR; rw [h]
theorem long_yes {w : World} {base B i : Nat} {lv : Value} {l : List ByteArray} {a : Av} {t : ByteArray} {w' : World} {a' : Av} (h : longL a t = some a') (hf : FrT TR base w w') (hr : RS w' base B lv ((i : Int) + 1) (-1) a') : LetPost w base B lv l i (longR a t) (.returned (.tuple #[])) w' := by
  have h2 : longR a t = (0, true, a') := by unfold longR; rw [h]
  rw [h2]
  exact ⟨rfl, hf, .inr (.inr ⟨rfl, Int.le_refl _, by simpa using hr⟩)⟩

set_option maxRecDepth 8000 in
set_option maxHeartbeats 12800000 in
theorem rlong_any (base B i : Nat) (lv : Value) (l : List ByteArray) (a : Av) (s t : ByteArray) (w : World) (hs2 : s.size ≤ 9223372036854775807) (ht : lead s t) (h : RS w base B lv (i : Int) (-1) a) (hl : a.scr.length ≤ 100000) (hi : i < 65536) :
    Calls Try.prog 37 #[.pointer (some ⟨B, 0, none⟩), .string s] w (LetPost w base B lv l i (longR a t)) := by
  have hnm := lead_nm ht
  have HEQ := Lib.hid (lead_eqIs ht)
  have HVL := Lib.hid (lead_val ht)
  obtain ⟨o, ho⟩ : ∃ o, optOf (isName (nmOf t)) = o := ⟨_, rfl⟩
  have HO := Lib.hid ho
  have HCN : Hid (o = none → Cmp (nmOf s) 7) := fun e => cmp_none hnm (by rw [ho, e])
  have HCS : Hid (∀ k, o = some k → _) := fun k e => cmp_some hnm (show optOf (isName (nmOf t)) = some k by rw [ho, e])
  have hle := eqAt_le s
  obtain ⟨sv, h1, h2, h3⟩ := h
  obtain ⟨z1, f1⟩ := blk_at h1 1 (v := .int .i64 i) rfl
  have k1 := RS.set (at' := (i : Int) + 1) (bad' := -1) (a' := a) h1 h2 h3 1 (.int .i64 ((i : Int) + 1)) rfl rfl
  have gw := wrap_in ((i : Int) + 1) (by omega) (by omega)
  have HK1 := Lib.hid k1.1
  have HK2 := Lib.hid k1.2.1
  have HKF := Lib.hid k1.2.2
  clear k1 h1 h2 ho hnm
  go_enter Try.func37, Try.ntmps37
  go_wp2_with fail
  go_loopw [5] (fun s5 wr => ∃ k : Nat, s5 = .int .i64 k ∧ k ≤ eqAt s ∧ wr = w.setCell ⟨B, 1, none⟩ (.int .i64 ((i : Int) + 1))) (fun s5 _ => s.size - (intOf s5).toNat)
  case atStart => exact ⟨0, rfl, Nat.zero_le _, rfl⟩
  case round =>
    clear z1 f1
    obtain ⟨k, rfl, hk, rfl⟩ := hrel
    have g0 : (0 : Int) ≤ (k : Int) := by omega
    by_cases hke : k = eqAt s
    · clear hk hle
      obtain ⟨g, hg⟩ : ∃ g, eqIs s = g := ⟨_, rfl⟩
      have HNM : Hid (nmOf s = s.extract 0 k) := by show _ = _; rw [hke]; rfl
      have HLN : Hid (o = none → longL a t = none) := fun e => by unfold longL; rw [HO.out, e]
      have HLS : Hid (∀ k', o = some k' → longL a t = if (if sufx k' then sufOk (valOf s) else (valued k' == g)) then some (doOpt a (valOf s) k') else none) := fun k' e => by
        unfold longL; rw [HO.out, e]; show (if longOk k' t then some (doOpt a (valOf t) k') else none) = _
        unfold longOk; rw [← HVL.out, ← HEQ.out, hg]
      have HIN : Hid (∀ w5, RS w5 base B lv ((i : Int) + 1) (inBad (valOf s) (-1) (i : Int)) (doOpt a (valOf s) 5) → FrT TR base w w5 → o = some 5 → LetPost w base B lv l i (longR a t) (.returned (.tuple #[])) w5) := by
        intro w5 hr hf e
        have hl := HLS.out 5 e
        rw [if_pos (show sufx 5 = true from rfl)] at hl
        unfold inBad at hr
        cases hsr : sufOk (valOf s)
        · rw [hsr, if_neg (by simp)] at hl hr
          rw [badOf_neg] at hr
          exact long_no hl hf hr
        · rw [hsr, if_pos rfl] at hl hr
          exact long_yes hl hf hr
      have HKR : Hid (RS (w.setCell ⟨B, 1, none⟩ (.int .i64 ((i : Int) + 1))) base B lv ((i : Int) + 1) (-1) a) := ⟨sv, HK1.out, HK2.out, h3⟩
      rw [HNM.out] at HCN HCS
      have q1 : ((k : Int)).toNat = k := by omega
      cases g
      · have hn : ¬ k < s.size := by have := hg; unfold eqIs at this; rw [hke]; exact of_decide_eq_false this
        have hv : valOf s = ⟨#[]⟩ := by unfold valOf; rw [if_neg (by rw [← hke]; exact hn)]
        have hkz : k = s.size := by have := eqAt_le s; omega
        have g1 : ¬ (k : Int) < (s.size : Int) := by omega
        have g1d : decide ((k : Int) < (s.size : Int)) = false := decide_eq_false g1
        have g3 : (k : Int) ≤ (s.size : Int) := by omega
        rw [hv] at HIN HLS
        clear hn hkz hg hke HNM
        cases o with
        | none =>
          have hc := HCN.out rfl
          obtain ⟨(c0 : _ = false), (c1 : _ = false), (c2 : _ = false), (c3 : _ = false), (c4 : _ = false), (c5 : _ = false), (c6 : _ = false)⟩ := hc
          have HLNo := Lib.hid (HLN.out rfl)
          go_wp2_with fail
          refine (fail_any (i : Int) HKR.out).mono ?_
          rintro e w5 ⟨rfl, hr5, hf5⟩
          rw [badOf_neg] at hr5
          have HP := Lib.hid (long_no (l := l) (show longL a t = none from HLNo.out) (HKF.out.trans hf5) hr5)
          clear hr5 hf5
          go_wp2_with fail
          go_end0
          exact HP.out
        | some ko =>
          have hcs := HCS.out ko rfl
          rcases hcs with ⟨rfl, hc | hc⟩ | ⟨rfl, hc⟩ | ⟨rfl, hc⟩ | ⟨rfl, hc⟩ | ⟨rfl, hc⟩ | ⟨rfl, hc⟩
          · obtain ⟨(c0 : _ = true), (c1 : _ = false), (c2 : _ = false), (c3 : _ = false), (c4 : _ = false), (c5 : _ = false), (c6 : _ = false)⟩ := hc
            have HL := Lib.hid (HLS.out 0 rfl)
            obtain ⟨z3, f3⟩ := blk_at HK1.out 3 (v := .bool a.q) rfl
            have kk := RS.set (at' := (i : Int) + 1) (bad' := -1) (a' := doOpt a ⟨#[]⟩ 0) HK1.out HK2.out h3 3 (.bool true) rfl rfl
            have HN := Lib.hid kk
            clear kk
            go_wp2_with fail
            go_end0
            exact long_yes (show longL a t = some (doOpt a ⟨#[]⟩ 0) from HL.out) (HKF.out.trans HN.out.2.2) ⟨sv, HN.out.1, HN.out.2.1, h3⟩
          · obtain ⟨(c0 : _ = false), (c1 : _ = true), (c2 : _ = false), (c3 : _ = false), (c4 : _ = false), (c5 : _ = false), (c6 : _ = false)⟩ := hc
            have HL := Lib.hid (HLS.out 0 rfl)
            obtain ⟨z3, f3⟩ := blk_at HK1.out 3 (v := .bool a.q) rfl
            have kk := RS.set (at' := (i : Int) + 1) (bad' := -1) (a' := doOpt a ⟨#[]⟩ 0) HK1.out HK2.out h3 3 (.bool true) rfl rfl
            have HN := Lib.hid kk
            clear kk
            go_wp2_with fail
            go_end0
            exact long_yes (show longL a t = some (doOpt a ⟨#[]⟩ 0) from HL.out) (HKF.out.trans HN.out.2.2) ⟨sv, HN.out.1, HN.out.2.1, h3⟩
          · obtain ⟨(c0 : _ = false), (c1 : _ = false), (c2 : _ = true), (c3 : _ = false), (c4 : _ = false), (c5 : _ = false), (c6 : _ = false)⟩ := hc
            have HL := Lib.hid (HLS.out 1 rfl)
            obtain ⟨z3, f3⟩ := blk_at HK1.out 4 (v := .bool a.e) rfl
            have kk := RS.set (at' := (i : Int) + 1) (bad' := -1) (a' := doOpt a ⟨#[]⟩ 1) HK1.out HK2.out h3 4 (.bool true) rfl rfl
            have HN := Lib.hid kk
            clear kk
            go_wp2_with fail
            go_end0
            exact long_yes (show longL a t = some (doOpt a ⟨#[]⟩ 1) from HL.out) (HKF.out.trans HN.out.2.2) ⟨sv, HN.out.1, HN.out.2.1, h3⟩
          · obtain ⟨(c0 : _ = false), (c1 : _ = false), (c2 : _ = false), (c3 : _ = true), (c4 : _ = false), (c5 : _ = false), (c6 : _ = false)⟩ := hc
            have HL := Lib.hid (HLS.out 2 rfl)
            obtain ⟨z3, f3⟩ := blk_at HK1.out 5 (v := .bool a.s) rfl
            have kk := RS.set (at' := (i : Int) + 1) (bad' := -1) (a' := doOpt a ⟨#[]⟩ 2) HK1.out HK2.out h3 5 (.bool true) rfl rfl
            have HN := Lib.hid kk
            clear kk
            go_wp2_with fail
            go_end0
            exact long_yes (show longL a t = some (doOpt a ⟨#[]⟩ 2) from HL.out) (HKF.out.trans HN.out.2.2) ⟨sv, HN.out.1, HN.out.2.1, h3⟩
          · obtain ⟨(c0 : _ = false), (c1 : _ = false), (c2 : _ = false), (c3 : _ = false), (c4 : _ = false), (c5 : _ = true), (c6 : _ = false)⟩ := hc
            have HL := Lib.hid (HLS.out 3 rfl)
            go_wp2_with fail
            refine (fail_any (i : Int) HKR.out).mono ?_
            rintro e w6 ⟨rfl, hr6, hf6⟩
            rw [badOf_neg] at hr6
            have HR6 := Lib.hid hr6
            have HF6 := Lib.hid (HKF.out.trans hf6)
            clear hr6 hf6
            go_wp2_with fail
            refine (piece_any false HR6.out (by omega)).mono ?_
            rintro e w5 ⟨rfl, hr5, hf5⟩
            have HP := Lib.hid (long_no (l := l) (show longL a t = none from HL.out) (HF6.out.trans hf5) hr5)
            clear hr5 hf5
            go_wp2_with fail
            go_end0
            exact HP.out
          · obtain ⟨(c0 : _ = false), (c1 : _ = false), (c2 : _ = false), (c3 : _ = false), (c4 : _ = false), (c5 : _ = false), (c6 : _ = true)⟩ := hc
            have HL := Lib.hid (HLS.out 4 rfl)
            go_wp2_with fail
            refine (fail_any (i : Int) HKR.out).mono ?_
            rintro e w6 ⟨rfl, hr6, hf6⟩
            rw [badOf_neg] at hr6
            have HR6 := Lib.hid hr6
            have HF6 := Lib.hid (HKF.out.trans hf6)
            clear hr6 hf6
            go_wp2_with fail
            refine (piece_any true HR6.out (by omega)).mono ?_
            rintro e w5 ⟨rfl, hr5, hf5⟩
            have HP := Lib.hid (long_no (l := l) (show longL a t = none from HL.out) (HF6.out.trans hf5) hr5)
            clear hr5 hf5
            go_wp2_with fail
            go_end0
            exact HP.out
          · obtain ⟨(c0 : _ = false), (c1 : _ = false), (c2 : _ = false), (c3 : _ = false), (c4 : _ = true), (c5 : _ = false), (c6 : _ = false)⟩ := hc
            go_wp2_with fail
            refine (inplace_any (i : Int) HKR.out).mono ?_
            rintro e w5 ⟨rfl, hr5, hf5⟩
            have HP := Lib.hid (HIN.out w5 hr5 (HKF.out.trans hf5) (by first | rfl | trivial))
            clear hr5 hf5
            go_wp2_with fail
            go_end0
            exact HP.out
      · have hn : k < s.size := by have := hg; unfold eqIs at this; rw [hke]; exact of_decide_eq_true this
        have hv : valOf s = s.extract (k + 1) s.size := by unfold valOf; rw [if_pos (by rw [← hke]; exact hn), ← hke]
        have g1 : (k : Int) < (s.size : Int) := by omega
        have g1d : decide ((k : Int) < (s.size : Int)) = true := decide_eq_true g1
        have g2 := eqAt_is hke hn
        have g3 : (k : Int) ≤ (s.size : Int) := by omega
        have g4 := wrap_in ((k : Int) + 1) (by omega) (by omega)
        have g5 : (0 : Int) ≤ (k : Int) + 1 := by omega
        have g6 : (k : Int) + 1 ≤ (s.size : Int) := by omega
        have g7 : ((k : Int) + 1).toNat = k + 1 := by omega
        rw [hv] at HIN HLS
        clear hg hke HNM
        cases o with
        | none =>
          have hc := HCN.out rfl
          obtain ⟨(c0 : _ = false), (c1 : _ = false), (c2 : _ = false), (c3 : _ = false), (c4 : _ = false), (c5 : _ = false), (c6 : _ = false)⟩ := hc
          have HLNo := Lib.hid (HLN.out rfl)
          go_wp2_with fail
          refine (fail_any (i : Int) HKR.out).mono ?_
          rintro e w5 ⟨rfl, hr5, hf5⟩
          rw [badOf_neg] at hr5
          have HR5 := Lib.hid hr5
          have HF5 := Lib.hid (HKF.out.trans hf5)
          clear hr5 hf5
          go_wp2_with fail
          refine (fail_any (i : Int) HR5.out).mono ?_
          rintro e w6 ⟨rfl, hr6, hf6⟩
          rw [badOf_pos (by omega)] at hr6
          have HP := Lib.hid (long_no (l := l) (show longL a t = none from HLNo.out) (HF5.out.trans hf6) hr6)
          clear hr6 hf6
          go_wp2_with fail
          go_end0
          exact HP.out
        | some ko =>
          have hcs := HCS.out ko rfl
          rcases hcs with ⟨rfl, hc | hc⟩ | ⟨rfl, hc⟩ | ⟨rfl, hc⟩ | ⟨rfl, hc⟩ | ⟨rfl, hc⟩ | ⟨rfl, hc⟩
          · obtain ⟨(c0 : _ = true), (c1 : _ = false), (c2 : _ = false), (c3 : _ = false), (c4 : _ = false), (c5 : _ = false), (c6 : _ = false)⟩ := hc
            have HL := Lib.hid (HLS.out 0 rfl)
            obtain ⟨z3, f3⟩ := blk_at HK1.out 3 (v := .bool a.q) rfl
            have kk := RS.set (at' := (i : Int) + 1) (bad' := -1) (a' := doOpt a (s.extract (k + 1) s.size) 0) HK1.out HK2.out h3 3 (.bool true) rfl rfl
            have HN := Lib.hid kk
            clear kk
            go_wp2_with fail
            refine (fail_any (i : Int) ⟨sv, HN.out.1, HN.out.2.1, h3⟩).mono ?_
            rintro e w6 ⟨rfl, hr6, hf6⟩
            rw [badOf_neg] at hr6
            have HP := Lib.hid (long_no (l := l) (show longL a t = none from HL.out) ((HKF.out.trans HN.out.2.2).trans hf6) hr6)
            clear hr6 hf6
            go_wp2_with fail
            go_end0
            exact HP.out
          · obtain ⟨(c0 : _ = false), (c1 : _ = true), (c2 : _ = false), (c3 : _ = false), (c4 : _ = false), (c5 : _ = false), (c6 : _ = false)⟩ := hc
            have HL := Lib.hid (HLS.out 0 rfl)
            obtain ⟨z3, f3⟩ := blk_at HK1.out 3 (v := .bool a.q) rfl
            have kk := RS.set (at' := (i : Int) + 1) (bad' := -1) (a' := doOpt a (s.extract (k + 1) s.size) 0) HK1.out HK2.out h3 3 (.bool true) rfl rfl
            have HN := Lib.hid kk
            clear kk
            go_wp2_with fail
            refine (fail_any (i : Int) ⟨sv, HN.out.1, HN.out.2.1, h3⟩).mono ?_
            rintro e w6 ⟨rfl, hr6, hf6⟩
            rw [badOf_neg] at hr6
            have HP := Lib.hid (long_no (l := l) (show longL a t = none from HL.out) ((HKF.out.trans HN.out.2.2).trans hf6) hr6)
            clear hr6 hf6
            go_wp2_with fail
            go_end0
            exact HP.out
          · obtain ⟨(c0 : _ = false), (c1 : _ = false), (c2 : _ = true), (c3 : _ = false), (c4 : _ = false), (c5 : _ = false), (c6 : _ = false)⟩ := hc
            have HL := Lib.hid (HLS.out 1 rfl)
            obtain ⟨z3, f3⟩ := blk_at HK1.out 4 (v := .bool a.e) rfl
            have kk := RS.set (at' := (i : Int) + 1) (bad' := -1) (a' := doOpt a (s.extract (k + 1) s.size) 1) HK1.out HK2.out h3 4 (.bool true) rfl rfl
            have HN := Lib.hid kk
            clear kk
            go_wp2_with fail
            refine (fail_any (i : Int) ⟨sv, HN.out.1, HN.out.2.1, h3⟩).mono ?_
            rintro e w6 ⟨rfl, hr6, hf6⟩
            rw [badOf_neg] at hr6
            have HP := Lib.hid (long_no (l := l) (show longL a t = none from HL.out) ((HKF.out.trans HN.out.2.2).trans hf6) hr6)
            clear hr6 hf6
            go_wp2_with fail
            go_end0
            exact HP.out
          · obtain ⟨(c0 : _ = false), (c1 : _ = false), (c2 : _ = false), (c3 : _ = true), (c4 : _ = false), (c5 : _ = false), (c6 : _ = false)⟩ := hc
            have HL := Lib.hid (HLS.out 2 rfl)
            obtain ⟨z3, f3⟩ := blk_at HK1.out 5 (v := .bool a.s) rfl
            have kk := RS.set (at' := (i : Int) + 1) (bad' := -1) (a' := doOpt a (s.extract (k + 1) s.size) 2) HK1.out HK2.out h3 5 (.bool true) rfl rfl
            have HN := Lib.hid kk
            clear kk
            go_wp2_with fail
            refine (fail_any (i : Int) ⟨sv, HN.out.1, HN.out.2.1, h3⟩).mono ?_
            rintro e w6 ⟨rfl, hr6, hf6⟩
            rw [badOf_neg] at hr6
            have HP := Lib.hid (long_no (l := l) (show longL a t = none from HL.out) ((HKF.out.trans HN.out.2.2).trans hf6) hr6)
            clear hr6 hf6
            go_wp2_with fail
            go_end0
            exact HP.out
          · obtain ⟨(c0 : _ = false), (c1 : _ = false), (c2 : _ = false), (c3 : _ = false), (c4 : _ = false), (c5 : _ = true), (c6 : _ = false)⟩ := hc
            have HL := Lib.hid (HLS.out 3 rfl)
            go_wp2_with fail
            refine (piece_any false HKR.out (by omega)).mono ?_
            rintro e w5 ⟨rfl, hr5, hf5⟩
            have HP := Lib.hid (long_yes (l := l) (show longL a t = some (doOpt a (s.extract (k + 1) s.size) 3) from HL.out) (HKF.out.trans hf5) hr5)
            clear hr5 hf5
            go_wp2_with fail
            go_end0
            exact HP.out
          · obtain ⟨(c0 : _ = false), (c1 : _ = false), (c2 : _ = false), (c3 : _ = false), (c4 : _ = false), (c5 : _ = false), (c6 : _ = true)⟩ := hc
            have HL := Lib.hid (HLS.out 4 rfl)
            go_wp2_with fail
            refine (piece_any true HKR.out (by omega)).mono ?_
            rintro e w5 ⟨rfl, hr5, hf5⟩
            have HP := Lib.hid (long_yes (l := l) (show longL a t = some (doOpt a (s.extract (k + 1) s.size) 4) from HL.out) (HKF.out.trans hf5) hr5)
            clear hr5 hf5
            go_wp2_with fail
            go_end0
            exact HP.out
          · obtain ⟨(c0 : _ = false), (c1 : _ = false), (c2 : _ = false), (c3 : _ = false), (c4 : _ = true), (c5 : _ = false), (c6 : _ = false)⟩ := hc
            go_wp2_with fail
            refine (inplace_any (i : Int) HKR.out).mono ?_
            rintro e w5 ⟨rfl, hr5, hf5⟩
            have HP := Lib.hid (HIN.out w5 hr5 (HKF.out.trans hf5) (by first | rfl | trivial))
            clear hr5 hf5
            go_wp2_with fail
            go_end0
            exact HP.out
    · have hn : k < s.size := by omega
      have g1 : (k : Int) < (s.size : Int) := by omega
      have g1d : decide ((k : Int) < (s.size : Int)) = true := decide_eq_true g1
      have g2 := eqAt_ne (s := s) (k := k) (by omega) hn
      have g4 := wrap_in ((k : Int) + 1) (by omega) (by omega)
      have hk1 : k + 1 ≤ eqAt s := by omega
      clear hke
      go_wp2_with fail
      go_roundw
      case rel => exact ⟨k + 1, by go_num, hk1, by first | rfl | trivial⟩
      case measure => simp [intOf]; omega
end Go.Proofs.Ytbigolappdlhcaa
