/- The walk of Script. -/
import Derived.Test.YtbigolappdlhcaaZO
import Derived.Test.YtbigolappdlhcaaShelfJ
namespace Go.Proofs.Ytbigolappdlhcaa
set_option linter.unusedSimpArgs false
set_option linter.unusedVariables false
open Go.RowKit

theorem join_any (base : Nat) (v : Value) (ts : List ByteArray) (w : World) (h : Out w base v ts) (hs : sumS ts ≤ 4194304) :
    Calls Try.prog 40 #[v, .string ⟨#[10]⟩] w fun e w' => e = .returned (.string (joinT ts)) ∧ Below w.heap.size w w' := by
  have hl := (sumS_len ts).1
  have hj := joinT_len ts
  obtain ⟨ao, cap, rfl, hc⟩ := Tx.ofOwn h
  have hfit := ((Tz.ofOwn h).le _ _ _ rfl).1
  by_cases h0 : ts = []
  · subst h0
    exact (Try.strings_Join_none ao cap ⟨#[10]⟩ w).mono fun e w' ⟨h1, h2⟩ => ⟨h1, by rw [h2]; exact Below.refl _ _⟩
  · obtain ⟨b, off, rfl, hb, hcc⟩ := hc (List.length_pos_iff.2 h0)
    exact Try.strings_Join b off cap ts ⟨#[10]⟩ w (fun j x hx => by
      obtain ⟨hj, rfl⟩ := List.getElem?_eq_some_iff.1 hx
      exact hcc j hj) hb (by omega) hfit (by show (Lib.join _ [10]).length ≤ _; omega)

def ScrPost (w : World) (l : List Pc) (fs : List ByteArray) (e : Ending) (w' : World) : Prop := e = .returned (.tuple #[.string (scrR l fs).1, .int .i64 (scrR l fs).2]) ∧ Below w.heap.size w w'

/-- The state at the head of the loop. -/
def SJ (w : World) (l : List Pc) (n : Nat) (R : Option (List ByteArray)) (k : Nat) (s1 s6 : Value) (wr : World) : Prop :=
  ∃ dn fs', Out wr w.heap.size s6 dn ∧ Tz w s1 fs' ∧ (scrT (l.drop k) fs').map (dn ++ ·) = R ∧ dn.length ≤ k ∧ fs'.length ≤ n ∧ Below w.heap.size w wr

theorem drop_cons {α : Type} (l : List α) (k : Nat) (h : k < l.length) : l.drop k = l[k] :: l.drop (k + 1) := List.drop_eq_getElem_cons h

set_option maxRecDepth 100000 in
set_option maxHeartbeats 6400000 in
theorem script_any (u v : Value) (l : List Pc) (fs : List ByteArray) (w : World) (hu : Sx w u l) (hv : Tz w v fs) (hs : sumP l + sumS fs ≤ 2097152) : Calls Try.prog 25 #[u, v] w (ScrPost w l fs) := by
  have hl := (sumP_len l).1
  have hf := (sumS_len fs).1
  obtain ⟨R, hR⟩ : ∃ R, scrT l fs = R := ⟨_, rfl⟩
  have HSUM : Hid (∀ ts, R = some ts → sumS ts ≤ 4194304) := fun ts h => by have := (scrT_sum l fs ts (by rw [hR, h])).1; omega
  have HRR : Hid (scrR l fs = scrA R) := by show scrR l fs = _; unfold scrR; rw [hR]
  have HS := Lib.hid hu
  have H0 : Hid (SJ w l fs.length R 0 v (.slice none 0 0) w) := ⟨[], fs, Out.nil _ _, hv, by rw [List.drop_zero, hR]; cases R <;> simp, Nat.le_refl _, Nat.le_refl _, Below.refl _ _⟩
  obtain ⟨ua, uc, rfl, _⟩ := id hu
  obtain ⟨va, vc, rfl, _⟩ := id hv.tx
  have hl2 : l.length ≤ 2097152 := by omega
  have hf2 : fs.length ≤ 2097152 := by omega
  obtain ⟨i9, hi9, hz90, hz91, hz92⟩ := info_parts info9
  clear hR hu hv hs hl hf
  go_enter Try.func25, Try.ntmps25
  go_wp2_with fail
  go_loopw [1, 6, 11] (fun s1 s6 s11 wr => ∃ k : Nat, k ≤ l.length ∧ s11 = .int .i64 k ∧ SJ w l fs.length R k s1 s6 wr) (fun _ _ s11 _ => l.length - (intOf s11).toNat)
  case atStart => exact ⟨0, Nat.zero_le _, rfl, H0.out⟩
  case round =>
    clear H0
    obtain ⟨k, hk, rfl, dn, fs', h1, h2, h3, h4, h5, h6⟩ := hrel
    have HO := Lib.hid h1
    have HF := Lib.hid h2
    have HW := Lib.hid h6
    obtain ⟨fa, fc, rfl, _⟩ := id h2.tx
    have hbs := h6.size
    by_cases hlt : k < l.length
    · obtain ⟨_, _, e1, hc1⟩ := HS.out.to h6
      simp only [Value.slice.injEq, true_and] at e1
      obtain ⟨rfl, rfl⟩ := e1
      obtain ⟨b, off, rfl, hbl, hc⟩ := hc1 (by omega)
      obtain ⟨d0, d1⟩ := hc k hlt
      rw [drop_cons l k hlt] at h3
      obtain ⟨p, hp⟩ : ∃ p, l[k] = p := ⟨_, rfl⟩
      rw [hp] at d0 d1 h3
      obtain ⟨pb, pt⟩ := p
      simp only at d0 d1
      have hk1 : (k : Int) < (l.length : Int) := by omega
      have hW1 := bl_to h6 (bl_alloc wr (.cells #[.bool pb, .string pt] 45))
      cases pb with
      | false =>
        have HR3 : Hid ((scrT (l.drop (k + 1)) fs').map ((dn ++ [pt]) ++ ·) = R) := by
          show _ = R
          rw [← h3]
          simp only [scrT]
          cases scrT (l.drop (k + 1)) fs' <;> simp
        have hW2 := bl_to (bl_alloc wr (.cells #[.bool false, .string pt] 45)) (bl_alloc _ (.cells #[.string pt] 9))
        have HW2 := Lib.hid hW2
        have HO2 := Lib.hid (HO.out.to hW2)
        have h63 : dn.length + 1 ≤ maxLen := by unfold maxLen; omega
        have hby : (dn.length + 1) * 16 ≤ 140737488355328 := by omega
        clear hc1 hc h1 h2 h3 h6 hp hW1 hW2
        go_wp2_with (at_builtin; go_must (refine wpList_append_own _ rfl (.tmp 18) (.tmp 21) 25 rfl w.heap.size 9 i9 (.string ⟨#[]⟩) 1 16 Try.underlying25 hi9 hz90 hz91 hz92 rfl (by decide) _ dn.length (dn.map Value.string) rfl HO2.out ⟨wr.heap.size + 1, 0, none⟩ 1 1 [.string pt] rfl rfl (by have := cells_one (wr.alloc (.cells #[.bool false, .string pt] 45)) (.string pt) 9; simpa using this) (by intro u hu; simp at hu; subst hu; rfl) h63 hby (by simp; omega) ?_))
        intro nv w3 hown hgrow hiff
        have hown' : w3.ownsRow w.heap.size 9 1 nv (dn.length + 1) (dn.map Value.string ++ [pt].map Value.string) := hown
        have hg : PO w (dn ++ [pt]) nv w3 := PO.grow (n := dn.length + 1) (m := [pt]) ⟨HO.out, HW.out⟩ (by rw [List.length_append]; rfl) HW2.out hgrow hown'
        have HQ : Hid (SJ w l fs.length R (k + 1) (.slice fa fs'.length fc) nv w3) := ⟨dn ++ [pt], fs', hg.1, HF.out, HR3.out, by simp; omega, h5, hg.2⟩
        clear hown hown' hgrow hiff hg
        go_wp2_with fail
        go_roundw
        case rel => exact ⟨k + 1, by omega, by go_num, HQ.out⟩
        case measure => simp [intOf]; omega
      | true =>
        cases fs' with
        | nil =>
          have HR3 : Hid (scrR l fs = scrA none) := by
            show _ = _
            rw [HRR.out, ← h3]
            rfl
          have HW1 := Lib.hid hW1
          clear hc1 hc h1 h2 h3 h6 hp hW1
          go_wp2_with fail
          go_ret2
          exact ⟨by rw [HR3.out]; rfl, HW1.out⟩
        | cons f fr =>
          have HR3 : Hid ((scrT (l.drop (k + 1)) fr).map ((dn ++ [f]) ++ ·) = R) := by
            show _ = R
            rw [← h3]
            simp only [scrT]
            cases scrT (l.drop (k + 1)) fr <;> simp
          have hfit := h2.le _ _ _ rfl
          obtain ⟨_, _, e1, hc2⟩ := h2.tx
          simp only [Value.slice.injEq] at e1
          obtain ⟨rfl, hkill, rfl⟩ := e1
          clear hkill
          obtain ⟨b2, off2, rfl, hbl2, hcc⟩ := hc2 (by simp)
          have d2 : (wr.alloc (.cells #[.bool true, .string pt] 45)).cell? ⟨b2, off2, none⟩ = some (.string f) := (hW1.cell (p := ⟨b2, off2, none⟩) hbl2).trans (hcc 0 (by simp))
          have hW2 := bl_to (bl_alloc wr (.cells #[.bool true, .string pt] 45)) (bl_alloc _ (.cells #[.string f] 9))
          have HW2 := Lib.hid hW2
          have HO2 := Lib.hid (HO.out.to hW2)
          have h63 : dn.length + 1 ≤ maxLen := by unfold maxLen; omega
          have hby : (dn.length + 1) * 16 ≤ 140737488355328 := by omega
          have hfl : fr.length + 1 ≤ fc := by simpa using hfit.1
          have g0 : (0 : Int) < (fr.length : Int) + 1 := by omega
          have g1 : (1 : Int) ≤ (fr.length : Int) + 1 := by omega
          have g2 : ((fr.length : Int) + 1 == 0) = false := by simp; omega
          have HT5 : Hid (∀ ao' c', (ao' = (some (⟨b2, off2, none⟩ : Addr)).map (·.add 1) ∨ fr.length = 0) → fr.length ≤ c' → (ao' = none → c' = 0) → Tz w (.slice ao' fr.length c') fr) := fun ao' c' ha h1 h2' => by
            refine ⟨cutTx (l := f :: fr) (i := 1) (m := fr.length) (by simp; omega) (by show Tx _ (.slice _ (1 + fr.length) _) _; rw [Nat.add_comm 1 fr.length]; exact HF.out.tx) ao' c' ha, fun ao n c e => ?_⟩
            simp only [Value.slice.injEq] at e
            obtain ⟨rfl, rfl, rfl⟩ := e
            exact ⟨h1, h2'⟩
          have h5' : fr.length ≤ fs.length := by simp at h5; omega
          clear hc1 hc h1 h2 h3 h6 hp hW1 hW2 hc2 hcc hfit h5
          rcases (show fc = 1 ∨ (¬ fc = 1 ∧ ¬ 1 = fc) by omega) with hcp | ⟨hcp, hcp2⟩
          · obtain rfl : fr = [] := List.length_eq_zero_iff.1 (by omega)
            subst hcp
            have HF0 := Lib.hid (HT5.out (some ⟨b2, off2, none⟩) 0 (.inr rfl) (Nat.le_refl _) (fun e => by cases e))
            clear HT5
            go_wp2_with (at_builtin; go_must (refine wpList_append_own _ rfl (.tmp 26) (.tmp 30) 25 rfl w.heap.size 9 i9 (.string ⟨#[]⟩) 1 16 Try.underlying25 hi9 hz90 hz91 hz92 rfl (by decide) _ dn.length (dn.map Value.string) rfl HO2.out ⟨wr.heap.size + 1, 0, none⟩ 1 1 [.string f] rfl rfl (by have := cells_one (wr.alloc (.cells #[.bool true, .string pt] 45)) (.string f) 9; simpa using this) (by intro u hu; simp at hu; subst hu; rfl) h63 hby (by simp; omega) ?_))
            intro nv w3 hown hgrow hiff
            have hown' : w3.ownsRow w.heap.size 9 1 nv (dn.length + 1) (dn.map Value.string ++ [f].map Value.string) := hown
            have hg : PO w (dn ++ [f]) nv w3 := PO.grow (n := dn.length + 1) (m := [f]) ⟨HO.out, HW.out⟩ (by rw [List.length_append]; rfl) HW2.out hgrow hown'
            have HQ : Hid (SJ w l fs.length R (k + 1) (.slice (some ⟨b2, off2, none⟩) 0 0) nv w3) := ⟨dn ++ [f], [], hg.1, HF0.out, HR3.out, by simp; omega, h5', hg.2⟩
            clear hown hown' hgrow hiff hg
            go_wp2_with fail
            go_roundw
            case rel => exact ⟨k + 1, by omega, by go_num, HQ.out⟩
            case measure => simp [intOf]; omega
          · have HF0 := Lib.hid (HT5.out (some ⟨b2, off2 + 1, none⟩) (fc - 1) (.inl (by simp [Addr.add])) (by omega) (fun e => by cases e))
            clear HT5
            go_wp2_with (at_builtin; go_must (refine wpList_append_own _ rfl (.tmp 26) (.tmp 30) 25 rfl w.heap.size 9 i9 (.string ⟨#[]⟩) 1 16 Try.underlying25 hi9 hz90 hz91 hz92 rfl (by decide) _ dn.length (dn.map Value.string) rfl HO2.out ⟨wr.heap.size + 1, 0, none⟩ 1 1 [.string f] rfl rfl (by have := cells_one (wr.alloc (.cells #[.bool true, .string pt] 45)) (.string f) 9; simpa using this) (by intro u hu; simp at hu; subst hu; rfl) h63 hby (by simp; omega) ?_))
            intro nv w3 hown hgrow hiff
            have hown' : w3.ownsRow w.heap.size 9 1 nv (dn.length + 1) (dn.map Value.string ++ [f].map Value.string) := hown
            have hg : PO w (dn ++ [f]) nv w3 := PO.grow (n := dn.length + 1) (m := [f]) ⟨HO.out, HW.out⟩ (by rw [List.length_append]; rfl) HW2.out hgrow hown'
            have HQ : Hid (SJ w l fs.length R (k + 1) (.slice (some ⟨b2, off2 + 1, none⟩) fr.length (fc - 1)) nv w3) := ⟨dn ++ [f], fr, hg.1, HF0.out, HR3.out, by simp; omega, h5', hg.2⟩
            clear hown hown' hgrow hiff hg
            go_wp2_with fail
            go_roundw
            case rel => exact ⟨k + 1, by omega, by go_num, HQ.out⟩
            case measure => simp [intOf]; omega
    · obtain rfl : k = l.length := by omega
      rw [List.drop_of_length_le (Nat.le_refl _)] at h3
      have hx1 : ¬ (l.length : Int) < (l.length : Int) := by omega
      cases fs' with
      | nil =>
        have HR3 : Hid (R = some dn) := by
          show _ = _
          rw [← h3]
          simp [scrT]
        have HJ := Lib.hid (join_any w.heap.size _ dn wr h1 (HSUM.out dn HR3.out))
        clear h1 h2 h3 h6
        go_wp2_with fail
        refine HJ.out.mono ?_
        rintro e w4 ⟨rfl, hb4⟩
        have HB4 := Lib.hid (bl_to HW.out hb4)
        clear hb4
        go_wp2_with fail
        go_ret2
        exact ⟨by rw [HRR.out, HR3.out]; rfl, HB4.out⟩
      | cons f fr =>
        have HR3 : Hid (R = none) := by
          show _ = _
          rw [← h3]
          simp [scrT]
        have g0 : (0 : Int) < (fr.length : Int) + 1 := by omega
        clear h1 h2 h3 h6
        go_wp2_with fail
        go_ret2
        exact ⟨by rw [HRR.out, HR3.out]; rfl, HW.out⟩
end Go.Proofs.Ytbigolappdlhcaa
