/- Paths; size; Right. -/
import Derived.Test.YtnfnjobgkpefdaaDoorO
namespace Go.Proofs.YtnfnjobgkpefdaaDoor
set_option linter.unusedSimpArgs false
set_option linter.unusedVariables false
open Go.RowKit

/-- v shows the texts l. -/
def Tx (w : World) (v : Value) (l : List ByteArray) : Prop := ∃ ao cap, v = .slice ao l.length cap ∧ l.length ≤ cap ∧ (0 < l.length → ∃ b off, ao = some ⟨b, off, none⟩ ∧ b < w.heap.size ∧ ∀ i (hi : i < l.length), w.cell? ⟨b, off + i, none⟩ = some (.string l[i]))

theorem Tx.to {w w' : World} {v : Value} {l : List ByteArray} (h : Tx w v l) (hb : Below w.heap.size w w') : Tx w' v l := by
  obtain ⟨ao, cap, rfl, hcap, h2⟩ := h
  refine ⟨ao, cap, rfl, hcap, fun hn => ?_⟩
  obtain ⟨b, off, rfl, hl, hc⟩ := h2 hn
  exact ⟨b, off, rfl, Nat.lt_of_lt_of_le hl hb.size, fun i hi => (hb.cell (p := ⟨b, off + i, none⟩) hl).trans (hc i hi)⟩
theorem Tx.ofRd {w : World} {v : Value} {l : List ByteArray} (h : Rd w v l.length 1 (l.map Value.string)) : Tx w v l := by
  obtain ⟨_, ao, cap, rfl, hcap, h2⟩ := h
  refine ⟨ao, cap, rfl, hcap, fun hn => ?_⟩
  obtain ⟨b, off, rfl, hl, hc⟩ := h2 hn
  exact ⟨b, off, rfl, hl, fun i hi => hc i _ (by simp [hi])⟩
theorem Tx.ofOwn {w : World} {base : Nat} {v : Value} {l : List ByteArray} {e : TypeId} (h : w.ownsRow base e 1 v l.length (l.map Value.string)) : Tx w v l := by
  rcases h.2 with ⟨rfl, h0⟩ | ⟨g, cap, cur, rfl, hb, hgg, hcap, rest⟩
  · exact ⟨none, 0, by rw [h0], by omega, fun h => by omega⟩
  · refine ⟨_, cap, rfl, hcap, fun _ => ⟨g, 0, rfl, lt_blk hgg, fun i hi => ?_⟩⟩
    have hc := World.ownsRow.cells h (g := g) rfl i (.string l[i]) (by simp [hi])
    have ea : (⟨g, 0, none⟩ : Addr).add i = ⟨g, 0 + i, none⟩ := by unfold Addr.add; split <;> simp_all
    rwa [ea] at hc


def sumL (l : List ByteArray) : Nat := (l.map (fun s => 1 + s.size)).sum
theorem sumL_succ (l : List ByteArray) (j : Nat) (h : j < l.length) : sumL (l.take (j + 1)) = sumL (l.take j) + (1 + l[j].size) := by
  unfold sumL
  rw [List.take_succ_eq_append_getElem h, List.map_append, List.sum_append]
  simp
theorem sumL_mono (l : List ByteArray) (j : Nat) : sumL (l.take j) ≤ sumL l := by
  have : sumL l = sumL (l.take j) + sumL (l.drop j) := by
    unfold sumL
    rw [← List.sum_append, ← List.map_append, List.take_append_drop]
  omega
theorem sumL_len (l : List ByteArray) : l.length ≤ sumL l := by
  unfold sumL
  induction l with
  | nil => simp
  | cons a r ih => rw [List.map_cons, List.sum_cons, List.length_cons]; omega

set_option maxRecDepth 8000 in
set_option maxHeartbeats 3200000 in
theorem size_any (v : Value) (l : List ByteArray) (w : World) (ht : Tx w v l) (hsz : sumL l ≤ 4611686018427387904) :
    Calls Tryd.prog 13 #[v] w fun e w' => e = .returned (.int .i64 ((max (sumL l) 1 : Nat) : Int)) ∧ w = w' := by
  obtain ⟨ao, cap, rfl, -, hT⟩ := ht
  have HT := Lib.hid hT
  have hlen := sumL_len l
  clear hT
  go_enter Tryd.func13, Tryd.ntmps13
  go_wp2_with fail
  go_loopw [3, 8] (fun s3 s8 wr => ∃ j : Nat, j ≤ l.length ∧ s3 = .int .i64 (sumL (l.take j) : Nat) ∧ s8 = .int .i64 j ∧ w = wr) (fun _ s8 _ => l.length - (intOf s8).toNat)
  case atStart => exact ⟨0, Nat.zero_le _, rfl, rfl, rfl⟩
  case round =>
    obtain ⟨j, hj, rfl, rfl, rfl⟩ := hrel
    have hm := sumL_mono l j
    by_cases hlt : j < l.length
    · obtain ⟨b, off, rfl, hbl, hc⟩ := HT.out (by omega)
      have hcj := hc j hlt
      have hsu := sumL_succ l j hlt
      have hm2 := sumL_mono l (j + 1)
      obtain ⟨x, hx⟩ : ∃ x, l[j] = x := ⟨_, rfl⟩
      rw [hx] at hcj hsu
      obtain ⟨a, ha⟩ : ∃ a, sumL (l.take j) = a := ⟨_, rfl⟩
      obtain ⟨c, hcc⟩ : ∃ c, sumL (l.take (j + 1)) = c := ⟨_, rfl⟩
      rw [ha, hcc] at hsu
      rw [ha] at hm
      rw [hcc] at hm2
      rw [ha]
      have HCC := Lib.hid hcc
      have g1 : (j : Int) < (l.length : Int) := by omega
      have d1 : decide ((j : Int) < (l.length : Int)) = true := decide_eq_true g1
      have w1 : IntKind.i64.wrap (1 + (x.size : Int)) = 1 + (x.size : Int) := wrap_in _ (by omega) (by omega)
      have w2 : IntKind.i64.wrap ((a : Int) + (1 + (x.size : Int))) = (c : Int) := by rw [show (a : Int) + (1 + (x.size : Int)) = (c : Int) by omega]; exact wrap_in _ (by omega) (by omega)
      have w3 : IntKind.i64.wrap ((j : Int) + 1) = (j : Int) + 1 := wrap_in _ (by omega) (by omega)
      clear hc hsu hx ha hcc HT
      go_wp2_with fail
      go_roundw
      case rel => exact ⟨j + 1, by omega, by rw [HCC.out], by go_num, by first | rfl | trivial⟩
      case measure => simp [intOf]; omega
    · obtain rfl : j = l.length := by omega
      have d1 : decide ((l.length : Int) < (l.length : Int)) = false := decide_eq_false (by omega)
      rw [List.take_length] at hm ⊢
      go_wp2_with fail
      go_ret
      exact ⟨ret_int (by omega), rfl⟩

set_option maxRecDepth 8000 in
set_option maxHeartbeats 3200000 in
/-- Whatever the sum: some number. -/
theorem size_some (v : Value) (l : List ByteArray) (w : World) (ht : Tx w v l) (hlen : l.length ≤ 4611686018427387904) (hx : ∀ s ∈ l, s.size ≤ 4611686018427387904) :
    Calls Tryd.prog 13 #[v] w fun e w' => (∃ n : Int, e = .returned (.int .i64 n)) ∧ w = w' := by
  obtain ⟨ao, cap, rfl, -, hT⟩ := ht
  have HT := Lib.hid hT
  have HX := Lib.hid hx
  clear hT hx
  go_enter Tryd.func13, Tryd.ntmps13
  go_wp2_with fail
  go_loopw [3, 8] (fun s3 s8 wr => ∃ (j : Nat) (a : Int), j ≤ l.length ∧ s3 = .int .i64 a ∧ s8 = .int .i64 j ∧ w = wr) (fun _ s8 _ => l.length - (intOf s8).toNat)
  case atStart => exact ⟨0, 0, Nat.zero_le _, rfl, rfl, rfl⟩
  case round =>
    obtain ⟨j, a, hj, rfl, rfl, rfl⟩ := hrel
    by_cases hlt : j < l.length
    · obtain ⟨b, off, rfl, hbl, hc⟩ := HT.out (by omega)
      have hcj := hc j hlt
      have hxj := HX.out _ (List.getElem_mem hlt)
      obtain ⟨x, hx⟩ : ∃ x, l[j] = x := ⟨_, rfl⟩
      rw [hx] at hcj hxj
      obtain ⟨c, hcc⟩ : ∃ c, IntKind.i64.wrap (a + (1 + (x.size : Int))) = c := ⟨_, rfl⟩
      have g1 : (j : Int) < (l.length : Int) := by omega
      have d1 : decide ((j : Int) < (l.length : Int)) = true := decide_eq_true g1
      have w1 : IntKind.i64.wrap (1 + (x.size : Int)) = 1 + (x.size : Int) := wrap_in _ (by omega) (by omega)
      have w3 : IntKind.i64.wrap ((j : Int) + 1) = (j : Int) + 1 := wrap_in _ (by omega) (by omega)
      clear hc hx HT hxj
      go_wp2_with fail
      go_roundw
      case rel => exact ⟨j + 1, c, by omega, rfl, by go_num, by first | rfl | trivial⟩
      case measure => simp [intOf]; omega
    · obtain rfl : j = l.length := by omega
      have d1 : decide ((l.length : Int) < (l.length : Int)) = false := decide_eq_false (by omega)
      go_wp2_with fail
      go_ret
      exact ⟨⟨_, rfl⟩, rfl⟩

theorem cf15 : ∀ args w, (callFunc 15 args).run Tryd.prog w = .ok (.enter 15 args) w := enters_of Tryd.func15 (by kernel_rfl) rfl

theorem f15_any (s : ByteArray) (w : World) :
    Calls Tryd.prog 15 #[.string s] w fun e w' => e = .returned (.bool (!nameL s.data.toList)) ∧ Below w.heap.size w w' := by
  have HC := Lib.hid (Name_any s w)
  go_enter Tryd.func15, Tryd.ntmps15
  go_wp2_with fail
  refine HC.out.mono ?_
  rintro e w' ⟨rfl, hb⟩
  have HB := Lib.hid hb
  clear hb
  go_wp2_with fail
  go_ret
  exact ⟨rfl, HB.out⟩

/-- All names may be. -/
def namesL (l : List ByteArray) : Bool := l.all (fun s => nameL s.data.toList)
theorem namesL_hit {l : List ByteArray} {j : Nat} (h : j < l.length) (hn : nameL l[j].data.toList = false) : namesL l = false := by
  unfold namesL
  rw [List.all_eq_false]
  exact ⟨l[j], List.getElem_mem h, by rw [hn]; decide⟩

set_option maxRecDepth 8000 in
set_option maxHeartbeats 3200000 in
theorem f27_any (v : Value) (l : List ByteArray) (w : World) (ht : Tx w v l) (hsz : l.length ≤ 4611686018427387904) :
    Calls Tryd.prog 27 #[v, .func (.func 15) #[] #[]] w fun e w' => (∃ n : Int, e = .returned (.int .i64 n) ∧ decide (0 ≤ n) = !namesL l) ∧ Below w.heap.size w w' := by
  have HTT := Lib.hid ht
  obtain ⟨ao, cap, rfl, -, hT⟩ := ht
  clear hT
  go_enter Tryd.func27, Tryd.ntmps27
  go_wp2_with fail
  go_loopw [8] (fun s8 wr => ∃ j : Nat, j ≤ l.length ∧ s8 = .int .i64 j ∧ Below w.heap.size w wr ∧ ∀ k (hk : k < l.length), k < j → nameL l[k].data.toList = true) (fun s8 _ => l.length - (intOf s8).toNat)
  case atStart => exact ⟨0, Nat.zero_le _, rfl, Below.refl _ _, fun k hk h => by omega⟩
  case round =>
    obtain ⟨j, hj, rfl, hb, hall⟩ := hrel
    have HB := Lib.hid hb
    have HA := Lib.hid hall
    clear hb hall
    by_cases hlt : j < l.length
    · obtain ⟨ao', cap', hv, -, hT⟩ := HTT.out.to HB.out
      obtain ⟨b, off, rfl, hbl, hc⟩ := hT (by omega)
      injection hv with hv1 hv2 hv3
      subst hv1
      have hcj := hc j hlt
      obtain ⟨x, hx⟩ : ∃ x, l[j] = x := ⟨_, rfl⟩
      have HX := Lib.hid hx
      rw [hx] at hcj
      have g1 : (j : Int) < (l.length : Int) := by omega
      have d1 : decide ((j : Int) < (l.length : Int)) = true := decide_eq_true g1
      have w3 : IntKind.i64.wrap ((j : Int) + 1) = (j : Int) + 1 := wrap_in _ (by omega) (by omega)
      have HC := Lib.hid (f15_any x wr)
      obtain ⟨q, hq⟩ : ∃ q, nameL x.data.toList = q := ⟨_, rfl⟩
      have HQ := Lib.hid hq
      rw [hq] at HC
      have hcf := cf15
      clear hc hx hq hT hv2 hv3
      go_wp2_with fail
      refine HC.out.mono ?_
      rintro e w2 ⟨rfl, hb2⟩
      have HB2 := Lib.hid (bl_to HB.out hb2)
      clear hb2
      cases q
      · go_wp2_with fail
        go_ret
        exact ⟨⟨_, rfl, by rw [namesL_hit hlt (by rw [HX.out, HQ.out])]; exact decide_eq_true (by omega)⟩, HB2.out⟩
      · go_wp2_with fail
        go_roundw
        case rel => exact ⟨j + 1, by omega, by go_num, HB2.out, fun k hk h => by
          rcases Nat.lt_or_ge k j with h' | h'
          · exact HA.out k hk h'
          · obtain rfl : k = j := by omega
            rw [HX.out, HQ.out]⟩
        case measure => simp [intOf]; omega
    · obtain rfl : j = l.length := by omega
      have d1 : decide ((l.length : Int) < (l.length : Int)) = false := decide_eq_false (by omega)
      go_wp2_with fail
      go_ret
      exact ⟨⟨_, rfl, by
        have : namesL l = true := by
          unfold namesL
          rw [List.all_eq_true]
          intro s hs
          obtain ⟨k, hk, rfl⟩ := List.mem_iff_getElem.1 hs
          exact HA.out k hk hk
        rw [this]; rfl⟩, HB.out⟩

set_option maxRecDepth 8000 in
set_option maxHeartbeats 3200000 in
theorem f14_any (v : Value) (l : List ByteArray) (w : World) (ht : Tx w v l) (hsz : l.length ≤ 4611686018427387904) :
    Calls Tryd.prog 14 #[v, .func (.func 15) #[] #[]] w fun e w' => e = .returned (.bool (!namesL l)) ∧ Below w.heap.size w w' := by
  have HC := Lib.hid (f27_any v l w ht hsz)
  clear ht
  go_enter Tryd.func14, Tryd.ntmps14
  go_wp2_with fail
  refine HC.out.mono ?_
  rintro e w' ⟨⟨n, rfl, hn⟩, hb⟩
  have HB := Lib.hid hb
  clear hb
  go_wp2_with fail
  go_ret
  exact ⟨rfl, HB.out⟩

/-- May a path be? -/
def rightL (l : List ByteArray) : Bool := decide (max (sumL l) 1 ≤ 1024) && namesL l

set_option maxRecDepth 8000 in
set_option maxHeartbeats 3200000 in
theorem Right_any (v : Value) (l : List ByteArray) (w : World) (ht : Tx w v l) (hsz : sumL l ≤ 4611686018427387904) :
    Calls Tryd.prog 6 #[v] w fun e w' => e = .returned (.bool (rightL l)) ∧ Below w.heap.size w w' := by
  have HS := Lib.hid (size_any v l w ht hsz)
  have HF := Lib.hid (f14_any v l w ht (Nat.le_trans (sumL_len l) hsz))
  obtain ⟨m, hm⟩ : ∃ m, max (sumL l) 1 = m := ⟨_, rfl⟩
  have HR := Lib.hid (show rightL l = (decide (m ≤ 1024) && namesL l) by rw [← hm]; rfl)
  rw [hm] at HS
  clear ht hm
  go_enter Tryd.func6, Tryd.ntmps6
  go_wp2_with fail
  refine HS.out.mono ?_
  rintro e w' ⟨rfl, rfl⟩
  by_cases h : m ≤ 1024
  · have d1 : decide ((m : Int) ≤ 1024) = true := decide_eq_true (by omega)
    have d2 : (m : Int) ≤ 1024 := by omega
    go_wp2_with fail
    refine HF.out.mono ?_
    rintro e w' ⟨rfl, hb⟩
    have HB := Lib.hid hb
    clear hb
    go_wp2_with fail
    go_ret
    exact ⟨by rw [HR.out, decide_eq_true h]; simp, HB.out⟩
  · have d1 : decide ((m : Int) ≤ 1024) = false := decide_eq_false (by omega)
    have d2 : ¬ (m : Int) ≤ 1024 := by omega
    go_wp2_with fail
    go_ret
    exact ⟨by rw [HR.out, decide_eq_false h]; rfl, Below.refl _ _⟩

theorem sumL_names : ∀ {l : List ByteArray}, namesL l = true → sumL l ≤ 256 * l.length := by
  intro l
  induction l with
  | nil => intro _; simp [sumL]
  | cons a r ih =>
    intro h
    unfold namesL at h
    rw [List.all_cons, Bool.and_eq_true] at h
    have h1 := (nameL_ne h.1).2.1
    have h2 := ih h.2
    have h3 : a.data.toList.length = a.size := (Lib.size_eq a).symm
    unfold sumL at h2 ⊢
    rw [List.map_cons, List.sum_cons, List.length_cons]
    omega

set_option maxRecDepth 8000 in
set_option maxHeartbeats 3200000 in
theorem Right_all (v : Value) (l : List ByteArray) (w : World) (ht : Tx w v l) (hlen : l.length ≤ 17592186044416) (hx : ∀ s ∈ l, s.size ≤ 4611686018427387904) :
    Calls Tryd.prog 6 #[v] w fun e w' => e = .returned (.bool (rightL l)) ∧ Below w.heap.size w w' := by
  by_cases hsz : sumL l ≤ 4611686018427387904
  · exact Right_any v l w ht hsz
  have hn : namesL l = false := by
    cases h : namesL l with
    | false => rfl
    | true => have := sumL_names h; omega
  have HR := Lib.hid (show rightL l = false by unfold rightL; rw [hn]; exact Bool.and_false _)
  have HS := Lib.hid (size_some v l w ht (by omega) hx)
  have HF := Lib.hid (f14_any v l w ht (by omega))
  rw [hn] at HF
  clear ht hn hsz hx
  go_enter Tryd.func6, Tryd.ntmps6
  go_wp2_with fail
  refine HS.out.mono ?_
  rintro e w' ⟨⟨m, rfl⟩, rfl⟩
  by_cases h : m ≤ 1024
  · have d1 : decide (m ≤ 1024) = true := decide_eq_true h
    go_wp2_with fail
    refine HF.out.mono ?_
    rintro e w' ⟨rfl, hb⟩
    have HB := Lib.hid hb
    clear hb
    go_wp2_with fail
    go_ret
    exact ⟨by rw [HR.out]; rfl, HB.out⟩
  · have d1 : decide (m ≤ 1024) = false := decide_eq_false h
    go_wp2_with fail
    go_ret
    exact ⟨by rw [HR.out]; rfl, Below.refl _ _⟩
end Go.Proofs.YtnfnjobgkpefdaaDoor
