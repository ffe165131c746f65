/- The reference's lines. -/
import Derived.Test.YtlckloeeimilhaaD
namespace Go.Proofs.Ytlckloeeimilhaa
set_option linter.unusedSimpArgs false
set_option linter.unusedVariables false
open Go.RowKit

theorem findIdx_app (p r : List UInt8) (h : ∀ x ∈ p, x ≠ 10) : (p ++ 10 :: r).findIdx (· == 10) = p.length := by
  induction p with
  | nil => rfl
  | cons x p ih =>
    have hx : (x == 10) = false := by simpa using h x (by simp)
    rw [List.cons_append, List.findIdx_cons, hx]
    simp only [cond_false, List.length_cons]
    rw [ih (fun y hy => h y (by simp [hy]))]
theorem findIdx_none (p : List UInt8) (h : ∀ x ∈ p, x ≠ 10) : p.findIdx (· == 10) = p.length := by
  induction p with
  | nil => rfl
  | cons x p ih =>
    have hx : (x == 10) = false := by simpa using h x (by simp)
    rw [List.findIdx_cons, hx]
    simp only [cond_false, List.length_cons]
    rw [ih (fun y hy => h y (by simp [hy]))]

def behindB (s : ByteArray) (f : Nat) : ByteArray := s.extract f s.size
/-- No line feed from f on, ahead of i. -/
def noNl (s : ByteArray) (f i : Nat) : Prop := ∀ j (h : j < s.size), f ≤ j → j < i → s[j] ≠ 10
theorem behind_data (s : ByteArray) (f : Nat) : (behindB s f).data.toList = s.data.toList.drop f := by
  unfold behindB
  rw [ba_extract, List.take_of_length_le (by simp)]
theorem get_data (s : ByteArray) (j : Nat) (h : j < s.size) : s[j] = s.data.toList[j]'(by simpa using h) := rfl
theorem noNl_mem {s : ByteArray} {f i : Nat} (h : noNl s f i) (hi : i ≤ s.size) : ∀ x ∈ (s.data.toList.take i).drop f, x ≠ 10 := by
  intro x hx
  obtain ⟨j, hj, rfl⟩ := List.mem_iff_getElem.1 hx
  rw [List.length_drop, List.length_take] at hj
  have hj2 : f + j < s.size := by have : s.data.toList.length = s.size := by simp
                                  omega
  have := h (f + j) hj2 (by omega) (by omega)
  rw [get_data] at this
  simpa using this

theorem split_at {s : ByteArray} {f i : Nat} (hf : f ≤ i) (hi : i < s.size) (hn : noNl s f i) (h10 : s[i] = 10) : splitL (behindB s f) = (s.extract f i, true) :: splitL (behindB s (i + 1)) := by
  have hL : s.data.toList.length = s.size := by simp
  have hd : s.data.toList.drop f = (s.data.toList.take i).drop f ++ 10 :: s.data.toList.drop (i + 1) := by
    have e1 : s.data.toList.drop i = 10 :: s.data.toList.drop (i + 1) := by
      rw [List.drop_eq_getElem_cons (by omega), ← get_data s i hi, h10]
    conv => lhs; rw [← List.take_append_drop i s.data.toList, List.drop_append, List.length_take, e1]
    rw [show f - min i s.data.toList.length = 0 by omega, List.drop_zero]
  have hpl : ((s.data.toList.take i).drop f).length = i - f := by rw [List.length_drop, List.length_take]; omega
  have hat : nlAt (behindB s f) = i - f := by
    unfold nlAt
    rw [behind_data, hd, findIdx_app _ _ (noNl_mem hn (by omega)), hpl]
  have hsz : (behindB s f).size = s.size - f := by unfold behindB; rw [ByteArray.size_extract]; omega
  rw [splitL_cons (by rw [hsz]; omega)]
  have e1 : line (behindB s f) = s.extract f i := by
    unfold line
    rw [hat]
    apply ba_ext
    rw [ba_extract, behind_data, ba_extract, List.drop_zero, hd, List.take_append_of_le_length (by omega), List.take_of_length_le (by omega)]
  have e2 : nlIs (behindB s f) = true := by unfold nlIs; rw [hat, hsz]; exact decide_eq_true (by omega)
  have e3 : rest (behindB s f) = behindB s (i + 1) := by
    unfold rest
    rw [hat, if_pos (by rw [hsz]; omega)]
    apply ba_ext
    rw [ba_extract, List.take_of_length_le (by simp), behind_data, behind_data, List.drop_drop]
    congr 1; omega
  rw [e1, e2, e3]
theorem split_last {s : ByteArray} {f : Nat} (hf : f < s.size) (hn : noNl s f s.size) : splitL (behindB s f) = [(behindB s f, false)] := by
  have hL : s.data.toList.length = s.size := by simp
  have hsz : (behindB s f).size = s.size - f := by unfold behindB; rw [ByteArray.size_extract]; omega
  have hat : nlAt (behindB s f) = s.size - f := by
    unfold nlAt
    have := noNl_mem hn (Nat.le_refl _)
    rw [List.take_of_length_le (by omega)] at this
    rw [behind_data, findIdx_none _ this, List.length_drop, hL]
  rw [splitL_cons (by rw [hsz]; omega)]
  have e1 : line (behindB s f) = behindB s f := by
    unfold line
    apply ba_ext
    rw [ba_extract, hat, List.drop_zero, List.take_of_length_le (by rw [behind_data, List.length_drop]; omega)]
  have e2 : nlIs (behindB s f) = false := by unfold nlIs; rw [hat, hsz]; exact decide_eq_false (by omega)
  have e3 : rest (behindB s f) = ⟨#[]⟩ := by unfold rest; rw [hat, if_neg (by rw [hsz]; omega)]
  rw [e1, e2, e3, splitL_nil rfl]
theorem split_none {s : ByteArray} {f : Nat} (hf : s.size ≤ f) : splitL (behindB s f) = [] := by
  apply splitL_nil
  unfold behindB; rw [ByteArray.size_extract]; omega
theorem behind_zero (s : ByteArray) : behindB s 0 = s := by apply ba_ext; rw [behind_data, List.drop_zero]

set_option maxRecDepth 8000 in
set_option maxHeartbeats 3200000 in
theorem rsplit_any (s : ByteArray) (w : World) (hs : s.size ≤ 4194304) :
    Calls Try.prog 28 #[.string s] w fun e w' => ∃ v, e = .returned v ∧ Ls w' w.heap.size v (splitL s) ∧ Below w.heap.size w w' := by
  obtain ⟨i0, hi0, hz0, hz1, hz2⟩ := info_parts info37
  go_enter Try.func28, Try.ntmps28
  go_wp2_with fail
  go_loopw [3, 4, 5] (fun s3 s4 s5 wr => ∃ (f i : Nat) (done : List Ln), s5 = .int .i64 i ∧ s4 = .int .i64 f ∧ f ≤ i ∧ i ≤ s.size ∧ noNl s f i ∧ done ++ splitL (behindB s f) = splitL s ∧ done.length ≤ f ∧ Ls wr w.heap.size s3 done ∧ Below w.heap.size w wr) (fun _ _ s5 _ => s.size - (intOf s5).toNat)
  case atStart => exact ⟨0, 0, [], rfl, rfl, Nat.le_refl _, Nat.zero_le _, fun j _ _ h => by omega, by rw [behind_zero]; rfl, Nat.le_refl _, World.ownsRow_nil _ _ _ _, Below.refl _ _⟩
  case round =>
    obtain ⟨f, i, done, rfl, rfl, hfi, hi, hn, hd, hdl, g1, g2⟩ := hrel
    have HO := Lib.hid g1
    have HW := Lib.hid g2
    have HN := Lib.hid hn
    have HD := Lib.hid hd
    have hbs := g2.size
    by_cases hlt : i < s.size
    · have hi1 : (i : Int) < (s.size : Int) := by omega
      by_cases h10 : s[i] = 10
      · have hb : ((s[i].toNat : Int) == 10) = true := by rw [h10]; rfl
        have HS : Hid ((done ++ [(s.extract f i, true)]) ++ splitL (behindB s (i + 1)) = splitL s) := by show _ = _; rw [← hd, split_at hfi hlt hn h10, List.append_assoc]; rfl
        have h63 : done.length + 1 ≤ maxLen := by unfold maxLen; omega
        have hby : (done.length + 1) * 24 ≤ 140737488355328 := by omega
        have k1 : (f : Int) ≤ (i : Int) := by omega
        clear g1 g2 hn hd h10
        go_wp2_with (at_builtin; go_must (refine wpList_append_own _ rfl (.tmp 16) (.tmp 22) 29 rfl w.heap.size 37 i0 (.agg #[(.string ⟨#[]⟩), (.bool false)]) 2 24 Try.underlying29 hi0 hz0 hz1 hz2 rfl (by decide) _ done.length (lcells done) rfl (row_to (bl_alloc wr _) HO.out) ⟨wr.heap.size, 0, none⟩ 1 1 [.string (s.extract f i), .bool true] rfl rfl (cells_two wr _ _ _) (by intro u hu; simp at hu; rcases hu with rfl | rfl <;> rfl) h63 hby (by simp; omega) ?_))
        intro nv w3 hown hgrow hiff
        have hf3 : Fr (fun j => Value.ownBlock u3 = some j) wr w3 := ((Fr.refl _ wr).alloc _).trans (Fr.ofGrown hgrow) (fun i _ hi => hi)
        have HW3 := Lib.hid (HW.out.trans (hf3.toBelow hbs (fun i _ hi => (World.ownsRow.lt HO.out i hi).1)))
        have HO3 : Hid (Ls w3 w.heap.size nv (done ++ [(s.extract f i, true)])) := Ls.snoc rfl hown
        clear hown hgrow hiff hf3
        go_wp2_with fail
        go_roundw
        case rel => exact ⟨i + 1, i + 1, _, by go_num, by go_num, Nat.le_refl _, by omega, fun j _ h1 h2 => by omega, HS.out, by simp; omega, HO3.out, HW3.out⟩
        case measure => simp [intOf]; omega
      · have hb : ((s[i].toNat : Int) == 10) = false := by
          simp only [beq_eq_false_iff_ne, ne_eq]
          intro e
          exact h10 (UInt8.toNat_inj.1 (by show s[i].toNat = 10; omega))
        have HN2 : Hid (noNl s f (i + 1)) := fun j hj h1 h2 => by
          by_cases e : j = i
          · subst e; exact h10
          · exact hn j hj h1 (by omega)
        clear g1 g2 hn hd h10
        go_wp2_with fail
        go_roundw
        case rel => exact ⟨f, i + 1, done, by go_num, rfl, by omega, by omega, HN2.out, HD.out, hdl, HO.out, HW.out⟩
        case measure => simp [intOf]; omega
    · obtain rfl : i = s.size := by omega
      have hx1 : ¬ (s.size : Int) < (s.size : Int) := by omega
      by_cases hfs : f < s.size
      · have hf1 : (f : Int) < (s.size : Int) := by omega
        have HS : Hid (done ++ [(behindB s f, false)] = splitL s) := by show _ = _; rw [← hd, split_last hfs hn]
        have h63 : done.length + 1 ≤ maxLen := by unfold maxLen; omega
        have hby : (done.length + 1) * 24 ≤ 140737488355328 := by omega
        clear g1 g2 hn hd
        unfold behindB at HS
        go_wp2_with (at_builtin; go_must (refine wpList_append_own _ rfl (.tmp 30) (.tmp 35) 29 rfl w.heap.size 37 i0 (.agg #[(.string ⟨#[]⟩), (.bool false)]) 2 24 Try.underlying29 hi0 hz0 hz1 hz2 rfl (by decide) _ done.length (lcells done) rfl (row_to (bl_alloc wr _) HO.out) ⟨wr.heap.size, 0, none⟩ 1 1 [.string (s.extract f s.size), .bool false] rfl rfl (cells_two wr _ _ _) (by intro u hu; simp at hu; rcases hu with rfl | rfl <;> rfl) h63 hby (by simp; omega) ?_))
        intro nv w3 hown hgrow hiff
        have hf3 : Fr (fun j => Value.ownBlock u3 = some j) wr w3 := ((Fr.refl _ wr).alloc _).trans (Fr.ofGrown hgrow) (fun i _ hi => hi)
        have HW3 := Lib.hid (HW.out.trans (hf3.toBelow hbs (fun i _ hi => (World.ownsRow.lt HO.out i hi).1)))
        have HO3 : Hid (Ls w3 w.heap.size nv (splitL s)) := by show Ls _ _ _ _; rw [← HS.out]; exact Ls.snoc rfl hown
        clear hown hgrow hiff hf3
        go_wp2_with fail
        go_ret
        exact ⟨_, rfl, HO3.out, HW3.out⟩
      · have hf1 : ¬ (f : Int) < (s.size : Int) := by omega
        have HO3 : Hid (Ls wr w.heap.size u3 (splitL s)) := by show Ls _ _ _ _; rw [← hd, split_none (by omega), List.append_nil]; exact g1
        clear g1 g2 hn hd
        go_wp2_with fail
        go_ret
        exact ⟨_, rfl, HO3.out, HW.out⟩
end Go.Proofs.Ytlckloeeimilhaa
