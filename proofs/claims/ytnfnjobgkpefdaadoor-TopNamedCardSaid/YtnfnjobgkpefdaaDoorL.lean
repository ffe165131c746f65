/- one and Unquote: what is quoted is read back. -/
import Derived.Test.YtnfnjobgkpefdaaDoorK
namespace Go.Proofs.YtnfnjobgkpefdaaDoor
set_option linter.unusedSimpArgs false
set_option linter.unusedVariables false
open Go.RowKit

theorem at_drop {s : ByteArray} {i : Nat} {l r : Bs} (h : s.data.toList.drop i = l ++ r) : i + l.length + r.length = s.size ∨ (i > s.size ∧ l = [] ∧ r = []) := by
  have := congrArg List.length h
  rw [List.length_drop, List.length_append] at this
  have e : s.data.toList.length = s.size := by simp
  rw [e] at this
  by_cases hi : i ≤ s.size
  · left; omega
  · right
    have h1 : l.length = 0 := by omega
    have h2 : r.length = 0 := by omega
    exact ⟨by omega, List.eq_nil_of_length_eq_zero h1, List.eq_nil_of_length_eq_zero h2⟩
theorem at_get {s : ByteArray} {i j : Nat} {l r : Bs} (h : s.data.toList.drop i = l ++ r) (hj : j < l.length) (hs : i + j < s.size) : s[i + j]'hs = l[j] := by
  have h1 : (s.data.toList.drop i)[j]? = some l[j] := by rw [h, List.getElem?_append_left hj]; simp
  rw [List.getElem?_drop] at h1
  have h2 : s.data.toList[i + j]? = some (s[i + j]'hs) := by
    rw [List.getElem?_eq_getElem (by simpa using hs)]
    simp
    rfl
  rw [h2] at h1
  exact Option.some.inj h1

theorem one_any (s : ByteArray) (i : Nat) (c : UInt8) (r : Bs) (w : World) (h : s.data.toList.drop i = quoB c ++ r) (hsz : s.size ≤ 4611686018427387904) (hs : Sh w) :
    Calls Tryd.prog 17 #[.string s, .int .i64 (i : Int), .bool true] w fun e w' => e = .returned (.tuple #[.int .u8 (c.toNat : Int), .int .i64 ((i : Int) + ((quoB c).length : Nat)), .int .i64 (-1)]) ∧ Below w.heap.size w w' := by
  have hp := quoB_pos c
  have hl : i + (quoB c).length + r.length = s.size := (at_drop h).resolve_right (fun h => by rw [h.2.1] at hp; simp at hp)
  have hc := c.toNat_lt
  have l32 : c < 32 ↔ c.toNat < 32 := by rw [UInt8.lt_iff_toNat_lt]; rfl
  have l127 : 127 ≤ c ↔ 127 ≤ c.toNat := by rw [UInt8.le_iff_toNat_le]; rfl
  by_cases h34 : c = 34
  · subst h34
    have e : quoB 34 = [92, 34] := rfl
    rw [e] at h hl
    simp only [List.length_cons, List.length_nil] at hl
    exact (one_esc s i 34 w (by omega) (at_get h (j := 0) (by simp) (by omega)) (at_get h (j := 1) (by simp) (by omega)) hsz (.inr rfl)).mono fun _ _ h => h
  · have hq : quoB c = toldB c := by unfold quoB; rw [if_neg h34]
    have h34' : c.toNat ≠ 34 := fun e => h34 (by rw [← UInt8.toNat_inj]; exact e)
    rw [hq] at h hl
    rw [hq]
    by_cases h92 : c = 92
    · subst h92
      have e : toldB 92 = [92, 92] := rfl
      rw [e] at h hl
      simp only [List.length_cons, List.length_nil] at hl
      exact (one_esc s i 92 w (by omega) (at_get h (j := 0) (by simp) (by omega)) (at_get h (j := 1) (by simp) (by omega)) hsz (.inl rfl)).mono fun _ _ h => h
    · have h92' : c.toNat ≠ 92 := fun e => h92 (by rw [← UInt8.toNat_inj]; exact e)
      by_cases hsh : shortB c.toNat = 0
      · by_cases h4 : c.toNat < 32 ∨ 127 ≤ c.toNat
        · have e : toldB c = ([92, (48 : UInt8) + (c >>> 6), (48 : UInt8) + ((c >>> 3) &&& 7), (48 : UInt8) + (c &&& 7)] : List UInt8) := by
            unfold toldB; rw [if_neg h92, if_neg (by simp [hsh]), if_pos (by rw [l32, l127]; exact h4)]
          have hlen : (toldB c).length = 4 := by rw [e]; rfl
          rw [e] at h hl
          simp only [List.length_cons, List.length_nil] at hl
          have o0 := oct0 c
          have o1 := oct1 c
          have o2 := oct2 c
          have hd : ∀ k (hk : k < 3), (s[i + 1 + k]'(by omega)).toNat = 48 + octD c.toNat k := by
            intro k hk
            match k, hk with
            | 0, _ => rw [show (s[i + 1 + 0]'(by omega)) = (48 : UInt8) + (c >>> 6) from at_get h (j := 1) (by simp) (by omega)]; unfold octD; simp only [if_true]; omega
            | 1, _ => rw [show (s[i + 1 + 1]'(by omega)) = (48 : UInt8) + ((c >>> 3) &&& 7) from at_get h (j := 2) (by simp) (by omega)]; unfold octD; simp only [if_true]; simp only [Nat.one_ne_zero, if_false]; omega
            | 2, _ => rw [show (s[i + 1 + 2]'(by omega)) = (48 : UInt8) + (c &&& 7) from at_get h (j := 3) (by simp) (by omega)]; unfold octD; rw [if_neg (by decide), if_neg (by decide)]; omega
          rw [hlen]
          exact (one_oct s i c w (by omega) (at_get h (j := 0) (by simp) (by omega)) hd hlen hsz hs).mono fun _ _ h => h
        · have e : toldB c = [c] := by
            unfold toldB; rw [if_neg h92, if_neg (by simp [hsh]), if_neg (by rw [l32, l127]; exact h4)]
          rw [e] at h hl
          simp only [List.length_cons, List.length_nil] at hl
          rw [e]
          exact (one_plain s i c w (by omega) (at_get h (j := 0) (by simp) (by omega)) hsz h92' (by omega) (by omega) h34').mono fun _ _ h => h
      · have e : toldB c = [92, shortB c.toNat] := by unfold toldB; rw [if_neg h92, if_pos hsh]
        rw [e] at h hl
        simp only [List.length_cons, List.length_nil] at hl
        rw [e]
        exact (one_short s i c.toNat w (by omega) (at_get h (j := 0) (by simp) (by omega)) (at_get h (j := 1) (by simp) (by omega)) hsh hsz hs).mono fun _ _ h => h

/-- A row of bytes of one's own, as a text. -/
theorem conv_row {w : World} {B n : Nat} {v : Value} {l : Bs} (h : w.ownsRow B 5 1 v n (Lib.byteCells l)) : (convert 40 9 v).run Tryd.prog w = .ok (.string ⟨l.toArray⟩) w := by
  obtain ⟨hl, h | ⟨g, cap, cur, rfl, hb, hg, hn, hc, hs, ht⟩⟩ := h
  · obtain ⟨rfl, rfl⟩ := h
    rw [Lib.byteCells_length] at hl
    have : l = [] := List.eq_nil_of_length_eq_zero (by omega)
    subst this
    exact run_convert_bytes_nil (w := w) 40 5 Tryd.underlying40 Tryd.underlying5 0 0 9 Tryd.underlying9
  · rw [Lib.byteCells_length] at hl
    have hnl : n = l.length := by omega
    subst hnl
    refine run_convert_bytes_back w 40 9 5 ⟨g, 0, none⟩ cap l Tryd.underlying40 Tryd.underlying5 Tryd.underlying9 (fun j hj => ?_)
    have e : (⟨g, 0, none⟩ : Addr).add j = ⟨g, j, none⟩ := by unfold Addr.add; split <;> simp_all
    rw [e]
    have h1 : (Lib.byteCells l)[j]? = some (.int .u8 (l[j].toNat : Int)) := by simp [Lib.byteCells, hj]
    rw [← ht, List.getElem?_take] at h1
    split at h1
    · simp [World.cell?, hg]
      simpa using h1
    · cases h1

theorem quoB_head (c : UInt8) : ∃ x r, quoB c = x :: r ∧ x ≠ 34 := by
  unfold quoB toldB
  by_cases h34 : c = 34
  · exact ⟨92, [34], by simp [h34], by decide⟩
  · rw [if_neg h34]
    repeat' split
    all_goals first | exact ⟨_, _, rfl, by decide⟩ | exact ⟨_, _, rfl, h34⟩

theorem emp_toList (s : ByteArray) : (s.toList == ([] : List UInt8)) = decide (s.size = 0) := by
  rw [ByteArray.toList_eq]
  have : s.size = s.data.toList.length := by simp
  rw [this]
  cases s.data.toList <;> simp
theorem emp_toList2 (s : ByteArray) : s.toList.isEmpty = decide (s.size = 0) := by
  rw [← emp_toList]
  cases s.toList <;> rfl

theorem row_shape {w : World} {B n sz : Nat} {e : TypeId} {v : Value} {xs : List Value} (h : w.ownsRow B e sz v n xs) : ∃ ao cap, v = .slice ao n cap := by
  obtain ⟨_, h | ⟨g, cap, cur, rfl, _⟩⟩ := h
  · obtain ⟨rfl, rfl⟩ := h; exact ⟨_, _, rfl⟩
  · exact ⟨_, _, rfl⟩
theorem flat_ge (t : Bs) : t.length ≤ (t.flatMap quoB).length := by
  induction t with
  | nil => simp
  | cons a r ih => rw [List.flatMap_cons, List.length_append, List.length_cons]; have := quoB_pos a; omega

set_option maxRecDepth 8000 in
set_option maxHeartbeats 3200000 in
theorem Unquote_any (s : ByteArray) (t b : Bs) (w : World) (h : s.data.toList = quote t ++ b) (hsz : s.size ≤ 281474976710656) (hqz : (quote t).length ≤ 16777216) (hs : Sh w) :
    Calls Tryd.prog 7 #[.string s] w fun e w' => e = .returned (.tuple #[.string ⟨t.toArray⟩, .int .i64 ((quote t).length : Nat), .int .i64 0, .int .i64 0]) ∧ Below w.heap.size w w' := by
  obtain ⟨i0, hi0, hz0, hz1, hz2⟩ := info_parts info5
  have hd1 : s.data.toList.drop 0 = [34] ++ (t.flatMap quoB ++ 34 :: b) := by
    rw [List.drop_zero, h]; simp [quote]
  have hl : 0 + [(34 : UInt8)].length + (t.flatMap quoB ++ 34 :: b).length = s.size := (at_drop hd1).resolve_right (fun h => by cases h.2.1)
  simp only [List.length_cons, List.length_nil, List.length_append] at hl
  have s0 : 0 < s.size := by omega
  have hf : s[0]'s0 = 34 := at_get hd1 (j := 0) (by simp) s0
  obtain ⟨ne1, ne2⟩ : s.toList.isEmpty = false ∧ (s.toList == []) = false := by rw [emp_toList2, emp_toList, decide_eq_false (by omega)]; exact ⟨rfl, rfl⟩
  have hne : ¬ s = ⟨#[]⟩ := by intro e; subst e; exact absurd s0 (by decide)
  have hQL : (quote t).length = (t.flatMap quoB).length + 2 := by simp [quote]
  have HA := Lib.hid (show s.data.toList.drop 1 = t.flatMap quoB ++ 34 :: b by rw [h]; simp [quote])
  have HQ := Lib.hid hQL
  have HS := Lib.hid hs
  clear hQL h hd1 hs
  go_enter Tryd.func7, Tryd.ntmps7
  go_wp2_with fail
  go_loopw [6, 7] (fun s6 s7 wr => ∃ (t1 t2 : Bs) (i : Nat), t = t1 ++ t2 ∧ i = 1 + (t1.flatMap quoB).length ∧ s7 = .int .i64 (i : Int) ∧ wr.ownsRow w.heap.size 5 1 s6 t1.length (Lib.byteCells t1) ∧ s.data.toList.drop i = t2.flatMap quoB ++ 34 :: b ∧ Below w.heap.size w wr) (fun _ s7 _ => s.size - (intOf s7).toNat)
  case atStart => exact ⟨[], t, 1, rfl, rfl, rfl, ⟨rfl, .inl ⟨rfl, rfl⟩⟩, HA.out, Below.refl _ _⟩
  case round =>
    obtain ⟨t1, t2, i, ht, hi, rfl, hrow, hdr, hb⟩ := hrel
    have HB := Lib.hid hb
    have HR := Lib.hid hrow
    have HD := Lib.hid hdr
    clear hb hrow
    rcases t2 with _ | ⟨c, t3⟩
    · rw [List.append_nil] at ht
      subst ht
      have hil : i + [(34 : UInt8)].length + b.length = s.size := (at_drop (l := [34]) (by simpa using hdr)).resolve_right (fun h => by cases h.2.1)
      simp only [List.length_cons, List.length_nil] at hil
      have si : i < s.size := by omega
      have i1 : (i : Int) < (s.size : Int) := by omega
      have d1 : decide ((i : Int) < (s.size : Int)) = true := decide_eq_true i1
      have i2 : (0 : Int) ≤ (i : Int) ∧ (i : Int) < (s.size : Int) := by omega
      have hfi : s[i]'si = 34 := at_get (l := [34]) (r := b) (i := i) (j := 0) (by simpa using hdr) (by simp) si
      have wi : IntKind.i64.wrap ((i : Int) + 1) = (i : Int) + 1 := wrap_in _ (by omega) (by omega)
      have hcv := conv_row HR.out
      have hql : ((quote t).length : Int) = (i : Int) + 1 := by rw [HQ.out]; omega
      have HQL := Lib.hid hql
      clear hdr hl hi hql hil
      go_wp2_with fail
      refine bodyPost_ret (v := .tuple #[.string ⟨t.toArray⟩, .int .i64 ((i : Int) + 1), .int .i64 0, .int .i64 0]) (by simp [results, Tryd.results7, go_sem]) rfl ?_
      exact ⟨by rw [HQL.out], HB.out⟩
    · obtain ⟨x, r, hqc, hx⟩ := quoB_head c
      have hil : i + (quoB c).length + (t3.flatMap quoB ++ 34 :: b).length = s.size := (at_drop (l := quoB c) (by simpa using hdr)).resolve_right (fun h => by rw [hqc] at h; cases h.2.1)
      have hpos := quoB_pos c
      have si : i < s.size := by omega
      have i1 : (i : Int) < (s.size : Int) := by omega
      have d1 : decide ((i : Int) < (s.size : Int)) = true := decide_eq_true i1
      have i2 : (0 : Int) ≤ (i : Int) ∧ (i : Int) < (s.size : Int) := by omega
      have hfi : s[i]'si = x := by
        have := at_get (s := s) (l := quoB c) (r := t3.flatMap quoB ++ 34 :: b) (i := i) (j := 0) (by simpa using hdr) (by omega) si
        rw [show (s[i]'si) = s[i + 0]'si from rfl, this]
        simp [hqc]
      have nx : ¬ (x.toNat : Int) = 34 := fun e => hx (by rw [← UInt8.toNat_inj]; simp; omega)
      have ex : ((x.toNat : Int) == 34) = false := by simpa using nx
      obtain ⟨m, hm⟩ : ∃ m, (quoB c).length = m := ⟨_, rfl⟩
      have HO := Lib.hid (one_any s i c _ wr (by simpa using hdr) (by omega) (HS.out.to HB.out))
      have HT := Lib.hid ht
      have HD2 : Hid (s.data.toList.drop (i + m) = t3.flatMap quoB ++ 34 :: b) := by
        show _ = _
        have hdr2 : s.data.toList.drop i = quoB c ++ (t3.flatMap quoB ++ 34 :: b) := by simpa using hdr
        rw [← List.drop_drop, hdr2, ← hm, List.drop_left]
      rw [hm] at HO hil hpos
      have hge := flat_ge t1
      have ht1 : t1.length ≤ 16777216 := by
        have h1 := flat_ge t
        have h2 := HQ.out
        have h3 : t1.length ≤ t.length := by rw [HT.out]; simp
        omega
      have HI := Lib.hid (show i + m = 1 + ((t1 ++ [c]).flatMap quoB).length by simp [hi, hm]; omega)
      clear hdr hl hi ht hge
      go_wp2_with fail
      refine HO.out.mono ?_
      rintro e w2 ⟨rfl, hb2⟩
      have HB2 := Lib.hid (bl_to HB.out hb2)
      have hs2 := HB2.out.size
      have hR2 := row_to hb2 HR.out
      clear hb2
      go_wp2_with (at_builtin; go_must (refine wpList_append_own _ rfl (.tmp 40) (.tmp 42) 40 rfl w.heap.size 5 i0 (.int .u8 0) 1 1 Tryd.underlying40 hi0 hz0 hz1 hz2 rfl (by decide) _ _ _ rfl (hR2.alloc _) ⟨w2.heap.size, 0, none⟩ 1 1 [.int .u8 c.toNat] rfl rfl (by intro j u hj; rcases j with _ | j <;> simp_all [Addr.add]) (by intro u hu; simp at hu; subst hu; rfl) (by unfold maxLen; omega) (by omega) (by simp; omega) ?_))
      intro v' w3 hown' hgrow _
      have HG := Lib.hid (Below.grown (HB2.out.alloc hs2 (.cells #[.int .u8 c.toNat] 5)) hgrow (by simp; omega) (fun k hk => (hR2.alloc (.cells #[.int .u8 c.toNat] 5)).lt k hk |>.1))
      have HO2 := Lib.hid hown'
      clear hown' hgrow
      go_wp2_with fail
      go_roundw
      case rel => exact ⟨t1 ++ [c], t3, i + m, by rw [HT.out]; simp, HI.out, by go_num, by simpa [Lib.byteCells] using HO2.out, HD2.out, HG.out⟩
      case measure => simp [intOf]; omega
end Go.Proofs.YtnfnjobgkpefdaaDoor
