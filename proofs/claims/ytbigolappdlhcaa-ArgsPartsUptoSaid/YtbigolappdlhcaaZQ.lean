/- The walk of the reference's Script; ArgsScripts. -/
import Derived.Test.YtbigolappdlhcaaZP
namespace Go.Proofs.Ytbigolappdlhcaa
set_option linter.unusedSimpArgs false
set_option linter.unusedVariables false
open Go.RowKit

theorem sumS_take (ts : List ByteArray) (k : Nat) : sumS (ts.take k) ≤ sumS ts := by
  have := sumS_append (ts.take k) (ts.drop k)
  rw [List.take_append_drop] at this
  omega

set_option maxRecDepth 100000 in
set_option maxHeartbeats 6400000 in
theorem rscript_any (u v : Value) (l : List Pc) (fs : List ByteArray) (w : World) (hu : Sx w u l) (hv : Tz w v fs) (hs : sumP l + sumS fs ≤ 2097152) : Calls Try.prog 26 #[u, v] w (ScrPost w l fs) := by
  have hl := (sumP_len l).1
  have hf := (sumS_len fs).1
  have HS := Lib.hid hu
  have HV := Lib.hid hv
  have HSUM : Hid (∀ ts, scrT l fs = some ts → sumS ts ≤ 4194304) := fun ts h => by have := (scrT_sum l fs ts h).1; omega
  have HC := Lib.hid (scrT_count l fs)
  obtain ⟨ua, uc, rfl, _⟩ := id hu
  obtain ⟨va, vc, rfl, _⟩ := id hv.tx
  have hl2 : l.length ≤ 2097152 := by omega
  have hf2 : fs.length ≤ 2097152 := by omega
  have HRR : Hid (scrR l fs = scrA (scrT l fs)) := rfl
  clear hu hv hs hl hf
  go_enter Try.func26, Try.ntmps26
  go_wp2_with fail
  go_loop [6, 7] (fun s6 s7 => ∃ k : Nat, k ≤ l.length ∧ s7 = .int .i64 k ∧ s6 = .int .i64 (cntF (l.take k))) (fun _ s7 => l.length - (intOf s7).toNat)
  case atStart => exact ⟨0, Nat.zero_le _, rfl, rfl⟩
  case round =>
    obtain ⟨k, hk, rfl, rfl⟩ := hrel
    have hcl := cntF_le (l.take k)
    have hcl2 : (l.take k).length ≤ k := List.length_take_le _ _
    by_cases hlt : k < l.length
    · obtain ⟨_, _, e1, hc1⟩ := HS.out
      simp only [Value.slice.injEq, true_and] at e1
      obtain ⟨rfl, rfl⟩ := e1
      obtain ⟨b, off, rfl, hbl, hc⟩ := hc1 (by omega)
      obtain ⟨d0, d1⟩ := hc k hlt
      have HT : Hid (cntF (l.take (k + 1)) = cntF (l.take k) + (if l[k].1 then 1 else 0)) := by show _ = _; rw [List.take_succ_eq_append_getElem hlt, cntF_snoc]
      obtain ⟨p, hp⟩ : ∃ p, l[k] = p := ⟨_, rfl⟩
      rw [hp] at d0 d1 HT
      obtain ⟨pb, pt⟩ := p
      simp only at d0 d1
      obtain ⟨c, hcc⟩ : ∃ c, cntF (l.take k) = c := ⟨_, rfl⟩
      rw [hcc] at hcl HT ⊢
      have hk1 : (k : Int) < (l.length : Int) := by omega
      have hc0 : (0 : Int) ≤ (c : Int) := by omega
      have hc2 : (c : Int) ≤ 2097152 := by omega
      clear hc1 hc hp hcc
      cases pb with
      | false =>
        go_wp2_with fail
        go_round
        case rel => exact ⟨k + 1, by omega, by go_num, by rw [HT.out]; rfl⟩
        case measure => simp [intOf]; omega
      | true =>
        go_wp2_with fail
        go_round
        case rel => exact ⟨k + 1, by omega, by go_num, by rw [HT.out]; rfl⟩
        case measure => simp [intOf]; omega
    · obtain rfl : k = l.length := by omega
      rw [List.take_of_length_le (Nat.le_refl _)] at hcl ⊢
      have hx1 : ¬ (l.length : Int) < (l.length : Int) := by omega
      obtain ⟨c, hcc⟩ : ∃ c, cntF l = c := ⟨_, rfl⟩
      rw [hcc] at hcl HC ⊢
      rcases HC.out with ⟨h1, ts, h2⟩ | ⟨h1, h2⟩
      · subst h1
        have z0 : (((fs.length : Int)) != (fs.length : Int)) = false := by simp
        have HTS := Lib.hid h2
        have HSM := Lib.hid (HSUM.out ts h2)
        have htl := (scrT_sum l fs ts h2).2
        have HTL := Lib.hid htl
        have HAT := Lib.hid (scrT_at l fs ts h2)
        clear h2 HC hcc htl hcl hcl2 hk hlt
        go_wp2_with fail
        go_loop [6, 8, 9] (fun s6 s8 s9 => ∃ k : Nat, k ≤ l.length ∧ s9 = .int .i64 k ∧ s6 = .int .i64 (cntF (l.take k)) ∧ s8 = .string (joinT (ts.take k))) (fun _ _ s9 => l.length - (intOf s9).toNat)
        case atStart => exact ⟨0, Nat.zero_le _, rfl, rfl, rfl⟩
        case round =>
          obtain ⟨k, hk, rfl, rfl, rfl⟩ := hrel
          have hcl := cntF_le (l.take k)
          have hcl2 : (l.take k).length ≤ k := List.length_take_le _ _
          by_cases hlt : k < l.length
          · obtain ⟨_, _, e1, hc1⟩ := HS.out
            simp only [Value.slice.injEq, true_and] at e1
            obtain ⟨rfl, rfl⟩ := e1
            obtain ⟨b, off, rfl, hbl, hc⟩ := hc1 (by omega)
            obtain ⟨d0, d1⟩ := hc k hlt
            have HT : Hid (cntF (l.take (k + 1)) = cntF (l.take k) + (if l[k].1 then 1 else 0)) := by show _ = _; rw [List.take_succ_eq_append_getElem hlt, cntF_snoc]
            have hat := HAT.out k hlt
            obtain ⟨p, hp⟩ : ∃ p, l[k] = p := ⟨_, rfl⟩
            rw [hp] at d0 d1 HT hat
            obtain ⟨pb, pt⟩ := p
            simp only at d0 d1 hat
            obtain ⟨c, hcc⟩ : ∃ c, cntF (l.take k) = c := ⟨_, rfl⟩
            rw [hcc] at hcl HT
            have hkt : k < ts.length := by rw [HTL.out]; exact hlt
            obtain ⟨s, hs⟩ : ∃ s, joinT (ts.take k) = s := ⟨_, rfl⟩
            have hsz : s.size ≤ 4194304 := by rw [← hs]; exact Nat.le_trans (joinT_size _) (Nat.le_trans (sumS_take ts k) HSM.out)
            have HTT : Hid (∀ t, ts[k]? = some t → t.size ≤ 4194304 ∧ (k = 0 → joinT (ts.take (k + 1)) = s ++ t) ∧ (k ≠ 0 → joinT (ts.take (k + 1)) = (s ++ ⟨#[10]⟩) ++ t)) := by
              intro t ht
              have hm : t ∈ ts := List.mem_of_getElem? ht
              refine ⟨Nat.le_trans ((sumS_len ts).2 t hm) HSM.out, fun h0 => ?_, fun h0 => ?_⟩
              · subst h0
                rw [List.take_add_one, ht, ← hs]
                show joinT [t] = joinT [] ++ t
                rw [joinT_one]
                apply ba_ext; rw [ba_append]; rfl
              · rw [List.take_add_one, ht, ← hs]
                exact joinT_snoc _ t (fun e => by have := congrArg List.length e; rw [List.length_take, List.length_nil] at this; omega)
            rw [hs]
            have hk1 : (k : Int) < (l.length : Int) := by omega
            have hc0 : (0 : Int) ≤ (c : Int) := by omega
            have hc2 : (c : Int) ≤ 2097152 := by omega
            rw [hcc] at hat
            clear hc1 hc hp hs
            rcases hat with ⟨hpb, ht⟩ | ⟨hpb, hcf, ht⟩
            · obtain ⟨t1, t2, t3⟩ := HTT.out _ ht
              subst hpb
              have T2 := Lib.hid t2
              have T3 := Lib.hid t3
              clear t2 t3 ht HTT
              by_cases hk0 : k = 0
              · have q0 : ¬ (0 : Int) < (k : Int) := by omega
                have T4 := Lib.hid (T2.out hk0)
                have K0 := Lib.hid hk0
                clear hk0
                rw [hcc]
                go_wp2_with fail
                go_round
                case rel => exact ⟨k + 1, by omega, by go_num, by rw [HT.out]; rfl, by rw [T4.out]⟩
                case measure => simp [intOf]; omega
              · have q0 : (0 : Int) < (k : Int) := by omega
                have T4 := Lib.hid (T3.out hk0)
                clear hk0
                rw [hcc]
                go_wp2_with fail
                go_round
                case rel => exact ⟨k + 1, by omega, by go_num, by rw [HT.out]; rfl, by rw [T4.out]⟩
                case measure => simp [intOf]; omega
            · obtain ⟨t1, t2, t3⟩ := HTT.out _ ht
              subst hpb
              obtain ⟨_, _, e1, hv1⟩ := HV.out.tx
              simp only [Value.slice.injEq, true_and] at e1
              obtain ⟨rfl, rfl⟩ := e1
              obtain ⟨b2, off2, rfl, hbl2, hvc⟩ := hv1 (by omega)
              have d2 := hvc c hcf
              obtain ⟨t, htt⟩ : ∃ t, fs[c] = t := ⟨_, rfl⟩
              rw [htt] at d2 t1 t2 t3
              have T2 := Lib.hid t2
              have T3 := Lib.hid t3
              have hci : (c : Int) < (fs.length : Int) := by omega
              clear t2 t3 ht HTT hv1 hvc htt
              by_cases hk0 : k = 0
              · have q0 : ¬ (0 : Int) < (k : Int) := by omega
                have T4 := Lib.hid (T2.out hk0)
                have K0 := Lib.hid hk0
                clear hk0
                rw [hcc]
                go_wp2_with fail
                go_round
                case rel => exact ⟨k + 1, by omega, by go_num, by rw [HT.out]; rfl, by rw [T4.out]⟩
                case measure => simp [intOf]; omega
              · have q0 : (0 : Int) < (k : Int) := by omega
                have T4 := Lib.hid (T3.out hk0)
                clear hk0
                rw [hcc]
                go_wp2_with fail
                go_round
                case rel => exact ⟨k + 1, by omega, by go_num, by rw [HT.out]; rfl, by rw [T4.out]⟩
                case measure => simp [intOf]; omega
          · obtain rfl : k = l.length := by omega
            have HE : Hid (ts.take l.length = ts) := by show _ = _; rw [← HTL.out]; exact List.take_of_length_le (Nat.le_refl _)
            rw [HE.out]
            have hx1 : ¬ (l.length : Int) < (l.length : Int) := by omega
            go_wp2_with fail
            go_ret2
            exact ⟨by rw [HRR.out, HTS.out]; rfl, Below.refl _ _⟩
      · have z0 : ((c : Int) != (fs.length : Int)) = true := by simp; omega
        have HTS := Lib.hid h2
        clear h2 HC hcc
        go_wp2_with fail
        go_ret2
        exact ⟨by rw [HRR.out, HTS.out]; rfl, Below.refl _ _⟩

set_option maxRecDepth 100000 in
set_option maxHeartbeats 3200000 in
theorem scripts_any (u v : Value) (l : List Pc) (fs : List ByteArray) (w : World) (hu : Sx w u l) (hv : Tz w v fs) (hs : sumP l + sumS fs ≤ 2097152) : Calls Try.prog 10 #[u, v] w fun e w' => e = .returned (.bool true) ∧ Below w.heap.size w w' := by
  have HC := Lib.hid (script_any u v l fs w hu hv hs)
  have HD := Lib.hid (fun W (hb : Below w.heap.size w W) => rscript_any u v l fs W (hu.to hb) (hv.to hb) hs)
  obtain ⟨ua, uc, rfl, _⟩ := id hu
  obtain ⟨va, vc, rfl, _⟩ := id hv.tx
  obtain ⟨⟨t, c⟩, hR⟩ : ∃ x, scrR l fs = x := ⟨_, rfl⟩
  unfold ScrPost at HC HD
  rw [hR] at HC HD
  clear hu hv hR hs
  go_enter Try.func10, Try.ntmps10
  go_wp2_with fail
  refine HC.out.mono ?_
  rintro e w1 ⟨rfl, hb1⟩
  have HB1 := Lib.hid hb1
  clear hb1
  go_wp2_with fail
  refine (HD.out _ HB1.out).mono ?_
  rintro e w2 ⟨rfl, hb2⟩
  have HB2 := Lib.hid (bl_to HB1.out hb2)
  clear hb2
  go_wp2_with fail
  refine (begins_any _).mono ?_
  rintro e w3 ⟨rfl, hb3⟩
  have HB3 := Lib.hid (bl_to HB2.out hb3)
  clear hb3
  go_wp2_with fail
  go_ret
  exact ⟨rfl, HB3.out⟩
end Go.Proofs.Ytbigolappdlhcaa
