/- Texts of one chain, merged by a small program (ZB, ZC, ZD, ZF). -/
import Derived.Test.YtlhppbendpnkeaaGreatDoorZA
/- sets: Bracket reads back what Print writes. -/
namespace Go.Proofs.YtlhppbendpnkeaaGreatDoor
set_option linter.unusedSimpArgs false
set_option linter.unusedVariables false
open Go.RowKit

theorem setV_inj {f g : Nat → Bool} (h : setV f = setV g) : ∀ c, c < 256 → f c = g c := by
  intro c hc
  obtain ⟨i, k, hi, hk, rfl⟩ := byte_split hc
  have e : sW f i = sW g i := by
    unfold setV setC at h
    simp only [Value.agg.injEq, Array.mk.injEq, List.cons.injEq, Value.int.injEq, true_and, and_true] at h
    obtain ⟨h0, h1, h2, h3⟩ := h
    obtain rfl | rfl | rfl | rfl : i = 0 ∨ i = 1 ∨ i = 2 ∨ i = 3 := by omega
    all_goals omega
  have h1 := sW_has f i k hk
  have h2 := sW_has g i k hk
  rw [e, h2] at h1
  cases hf : f (64 * i + k) <;> cases hg : g (64 * i + k) <;> simp_all
theorem Bracket_print (f : Nat → Bool) (rest : Bs) (s : ByteArray) (w : World) (hs : s.data.toList = printS f ++ rest) (hsz : s.size ≤ 65536) :
    Calls Tryz.prog 73 #[.string s] w fun e w' => e = .returned (.tuple #[setV f, .int .i64 ((printS f).length : Int), .int .i64 0, .int .i64 0]) ∧ Below w.heap.size w w' := by
  obtain ⟨b, g, ps, hp, hne, hok, hset, hg⟩ := print_shape f
  have h := Bracket_any s b ps rest w hsz (by rw [hs, hp]; simp) hne hok
  have e1 : setV (if b then fun c => !inR ps c else inR ps) = setV f := by
    cases b with
    | false => subst hg; exact hset
    | true =>
      subst hg
      refine setV_congr (fun c hc => ?_)
      have := setV_inj hset c hc
      simp only [if_true] at this ⊢
      rw [this]; cases f c <;> rfl
  have e2 : s.size - rest.length = (printS f).length := by
    have := congrArg List.length hs
    rw [List.length_append] at this
    have e : s.data.toList.length = s.size := by simp
    omega
  rw [e1, e2] at h
  exact h
end Go.Proofs.YtlhppbendpnkeaaGreatDoor
/- syntax: the parser's words; sign. -/
namespace Go.Proofs.YtlhppbendpnkeaaGreatDoor
set_option linter.unusedSimpArgs false
set_option linter.unusedVariables false
open Go.RowKit

/-- The parser at a place: x: extended; g, o: groups, open; m: the map's value. -/
def paC (s : ByteArray) (i : Nat) (x : Bool) (g : Nat) (m : Value) (o : Nat) : Array Value := #[.string s, .int .i64 (i : Int), .bool x, .int .i64 (g : Int), m, .int .i64 (o : Int)]
def Pa (w : World) (R : Nat) (s : ByteArray) (i : Nat) (x : Bool) (g : Nat) (m : Value) (o : Nat) : Prop := w.heap[R]? = some (.cells (paC s i x g m o) 53 (0, 0))
section
variable {w w' : World} {R : Nat} {s : ByteArray} {i : Nat} {x : Bool} {g : Nat} {m : Value} {o : Nat}
theorem Pa.to (h : Pa w R s i x g m o) (hb : Below w.heap.size w w') : Pa w' R s i x g m o := blk_below h hb (blk_lt h)
theorem Pa.c0 (h : Pa w R s i x g m o) : w.cell? ⟨R, 0, none⟩ = some (.string s) := (blk_at h 0 rfl).1
theorem Pa.c1 (h : Pa w R s i x g m o) : w.cell? ⟨R, 1, none⟩ = some (.int .i64 (i : Int)) ∧ w.frozen? ⟨R, 1, none⟩ = false := blk_at h 1 rfl
theorem Pa.c2 (h : Pa w R s i x g m o) : w.cell? ⟨R, 2, none⟩ = some (.bool x) := (blk_at h 2 rfl).1
end
/-- Does a sign of the syntax stand at the head of a text? -/
def signB (x : Bool) (t : Bs) (c : UInt8) : Bool := if x then (match t with | a :: _ => a == c | [] => false) else (match t with | a :: b :: _ => a == 92 && b == c | _ => false)
theorem eq_byte (a c : UInt8) : ((a.toNat : Int) == (c.toNat : Int)) = (a == c) := by
  rw [Bool.eq_iff_iff]
  simp only [beq_iff_eq]
  rw [← UInt8.toNat_inj]
  omega

set_option maxRecDepth 8000 in
set_option maxHeartbeats 1600000 in
theorem sign_any (R : Nat) (s : ByteArray) (i : Nat) (x : Bool) (g : Nat) (m : Value) (o : Nat) (c : UInt8) (w : World) (hp : Pa w R s i x g m o) (hi : i ≤ s.size) (hsz : s.size ≤ 65536) :
    Calls Tryz.prog 33 #[.pointer (some ⟨R, 0, none⟩), .int .u8 (c.toNat : Int)] w fun e w' => e = .returned (.bool (signB x (s.data.toList.drop i) c)) ∧ Below w.heap.size w w' := by
  have C0 : ∀ k : Bel w, k.val.cell? ⟨R, 0, none⟩ = some (.string s) := fun k => (hp.to k.below).c0
  have C1 : ∀ k : Bel w, k.val.cell? ⟨R, 1, none⟩ = some (.int .i64 (i : Int)) := fun k => (hp.to k.below).c1.1
  have c2 := hp.c2
  have z0 : (0 : Int) ≤ (i : Int) := by omega
  clear hp
  cases x with
  | true =>
    by_cases h1 : i < s.size
    · obtain ⟨a, ha⟩ : ∃ a, s[i]'h1 = a := ⟨_, rfl⟩
      have hv : signB true (s.data.toList.drop i) c = (a == c) := by
        have h2 : i < s.data.toList.length := by simpa using h1
        rw [List.drop_eq_getElem_cons h2]
        have e : s.data.toList[i] = a := by rw [← ha]; rfl
        rw [e]; rfl
      rw [hv]
      have q := eq_byte a c
      rw [← ha] at q
      have l1 : (i : Int) < (s.size : Int) := by omega
      have l2 : decide ((i : Int) < (s.size : Int)) = true := decide_eq_true l1
      obtain ⟨b, hb⟩ : ∃ b, (s[i]'h1 == c) = b := ⟨_, rfl⟩
      rw [hb] at q
      rw [← ha, hb]
      clear hv ha hb
      go_enter Tryz.func33, Tryz.ntmps33
      go_wp2_with fail
      refine region_bel w (Below.refl _ _) (by kernel_rfl) (by kernel_rfl) ?_
      repeat (go_big_quiet_step (fail))
      refine wpQuiet_nil ?_
      intro k
      go_wp2_with fail
      go_ret
      exact ⟨by first | rfl | simp_all, k.below⟩
    · have hv : signB true (s.data.toList.drop i) c = false := by
        rw [List.drop_eq_nil_of_le (by simp; omega)]; rfl
      rw [hv]
      have l1 : ¬ (i : Int) < (s.size : Int) := by omega
      have l2 : decide ((i : Int) < (s.size : Int)) = false := decide_eq_false l1
      clear hv
      go_enter Tryz.func33, Tryz.ntmps33
      go_wp2_with fail
      refine region_bel w (Below.refl _ _) (by kernel_rfl) (by kernel_rfl) ?_
      repeat (go_big_quiet_step (fail))
      refine wpQuiet_nil ?_
      intro k
      go_wp2_with fail
      go_ret
      exact ⟨by first | rfl | simp_all, k.below⟩
  | false =>
    have y1 : IntKind.i64.wrap ((i : Int) + 1) = (i : Int) + 1 := wrap_in _ (by omega) (by omega)
    have z1 : (0 : Int) ≤ (i : Int) + 1 := by omega
    by_cases h1 : i + 1 < s.size
    · have h0 : i < s.size := by omega
      have hv : signB false (s.data.toList.drop i) c = ((s[i]'h0 == 92) && (s[i + 1]'h1 == c)) := by
        have h2 : i < s.data.toList.length := by simpa using h0
        have h3 : i + 1 < s.data.toList.length := by simpa using h1
        rw [List.drop_eq_getElem_cons h2, List.drop_eq_getElem_cons h3]
        rfl
      rw [hv]
      have q1 := eq_byte (s[i]'h0) 92
      have q2 := eq_byte (s[i + 1]'h1) c
      change ((((s[i]'h0).toNat : Nat) : Int) == 92) = _ at q1
      have l0 : (i : Int) < (s.size : Int) := by omega
      have l1 : (i : Int) + 1 < (s.size : Int) := by omega
      have l2 : decide ((i : Int) + 1 < (s.size : Int)) = true := decide_eq_true l1
      obtain ⟨b1, hb1⟩ : ∃ b, (s[i]'h0 == 92) = b := ⟨_, rfl⟩
      obtain ⟨b2, hb2⟩ : ∃ b, (s[i + 1]'h1 == c) = b := ⟨_, rfl⟩
      rw [hb1] at q1 ⊢
      rw [hb2] at q2 ⊢
      clear hv hb1 hb2
      cases b1
      all_goals
        go_enter Tryz.func33, Tryz.ntmps33
        go_wp2_with fail
        refine region_bel w (Below.refl _ _) (by kernel_rfl) (by kernel_rfl) ?_
        repeat (go_big_quiet_step (fail))
        refine wpQuiet_nil ?_
        intro k
        go_wp2_with fail
        go_ret
        exact ⟨by first | rfl | simp_all, k.below⟩
    · have hv : signB false (s.data.toList.drop i) c = false := by
        have hl : (s.data.toList.drop i).length ≤ 1 := by rw [List.length_drop]; have : s.data.toList.length = s.size := by simp
                                                          omega
        generalize s.data.toList.drop i = t at hl
        match t, hl with
        | [], _ => rfl
        | [a], _ => rfl
        | a :: b :: r, hl => simp at hl
      rw [hv]
      have l1 : ¬ (i : Int) + 1 < (s.size : Int) := by omega
      have l2 : decide ((i : Int) + 1 < (s.size : Int)) = false := decide_eq_false l1
      clear hv
      go_enter Tryz.func33, Tryz.ntmps33
      go_wp2_with fail
      refine region_bel w (Below.refl _ _) (by kernel_rfl) (by kernel_rfl) ?_
      repeat (go_big_quiet_step (fail))
      refine wpQuiet_nil ?_
      intro k
      go_wp2_with fail
      go_ret
      exact ⟨by first | rfl | simp_all, k.below⟩
end Go.Proofs.YtlhppbendpnkeaaGreatDoor
/- syntax: skip, over. -/
namespace Go.Proofs.YtlhppbendpnkeaaGreatDoor
set_option linter.unusedSimpArgs false
set_option linter.unusedVariables false
open Go.RowKit

theorem Pa.set {w : World} {R : Nat} {s : ByteArray} {i : Nat} {x : Bool} {g : Nat} {m : Value} {o : Nat} (h : Pa w R s i x g m o) (j : Nat) : Pa (w.setCell ⟨R, 1, none⟩ (.int .i64 (j : Int))) R s j x g m o := by
  unfold Pa at *
  simp [World.setCell, Array.getElem?_modify, h, paC]
/-- How long a sign is. -/
def sgn (x : Bool) : Nat := if x then 1 else 2

set_option maxRecDepth 8000 in
set_option maxHeartbeats 1600000 in
theorem skip_any (R : Nat) (s : ByteArray) (i : Nat) (x : Bool) (g : Nat) (m : Value) (o : Nat) (w : World) (hp : Pa w R s i x g m o) (hi : i ≤ 65536) :
    Calls Tryz.prog 34 #[.pointer (some ⟨R, 0, none⟩)] w fun e w' => e = .returned (.tuple #[]) ∧ (Pa w' R s (i + sgn x) x g m o ∧ Ex R w w') := by
  have HP := Lib.hid hp
  obtain ⟨c1, f1⟩ := hp.c1
  have c2 := hp.c2
  have y1 : IntKind.i64.wrap ((i : Int) + 1) = ((i + 1 : Nat) : Int) := by rw [wrap_in _ (by omega) (by omega)]; push_cast; rfl
  have y2 : IntKind.i64.wrap (((i + 1 : Nat) : Int) + 1) = ((i + 2 : Nat) : Int) := by rw [wrap_in _ (by omega) (by omega)]; push_cast; omega
  clear hp
  cases x with
  | false =>
    go_enter Tryz.func34, Tryz.ntmps34
    go_wp2_with fail
    go_end0
    have h := (HP.out.set (i + 1)).set (i + 2)
    rw [show ((i + 1 : Nat) : Int) = (i : Int) + 1 by omega, show ((i + 2 : Nat) : Int) = (i : Int) + 1 + 1 by omega] at h
    exact ⟨rfl, h, ((Ex.refl R w).set 1 _).set 1 _⟩
  | true =>
    go_enter Tryz.func34, Tryz.ntmps34
    go_wp2_with fail
    go_end0
    have h := HP.out.set (i + 1)
    rw [show ((i + 1 : Nat) : Int) = (i : Int) + 1 by omega] at h
    exact ⟨rfl, h, (Ex.refl R w).set 1 _⟩
/-- Is a branch over at the head of a text? -/
def overB (x : Bool) (t : Bs) : Bool := t.isEmpty || signB x t 124 || signB x t 41

set_option maxRecDepth 8000 in
set_option maxHeartbeats 1600000 in
theorem over_any (R : Nat) (s : ByteArray) (i : Nat) (x : Bool) (g : Nat) (m : Value) (o : Nat) (w : World) (hp : Pa w R s i x g m o) (hi : i ≤ s.size) (hsz : s.size ≤ 65536) :
    Calls Tryz.prog 43 #[.pointer (some ⟨R, 0, none⟩)] w fun e w' => e = .returned (.bool (overB x (s.data.toList.drop i))) ∧ Below w.heap.size w w' := by
  have C0 : ∀ k : Bel w, k.val.cell? ⟨R, 0, none⟩ = some (.string s) := fun k => (hp.to k.below).c0
  have C1 : ∀ k : Bel w, k.val.cell? ⟨R, 1, none⟩ = some (.int .i64 (i : Int)) := fun k => (hp.to k.below).c1.1
  have SA := Lib.hid (fun k : Bel w => calls_bel k (sign_any R s i x g m o 124 k.val (hp.to k.below) hi hsz))
  have SB := Lib.hid (fun k : Bel w => calls_bel k (sign_any R s i x g m o 41 k.val (hp.to k.below) hi hsz))
  have he : (s.data.toList.drop i).isEmpty = decide (s.size ≤ i) := by
    have e : s.data.toList.length = s.size := by simp
    by_cases h : s.size ≤ i
    · rw [List.drop_eq_nil_of_le (by omega), decide_eq_true h]; rfl
    · rw [decide_eq_false h, List.drop_eq_getElem_cons (by omega)]; rfl
  unfold overB
  rw [he]
  obtain ⟨b1, hb1⟩ : ∃ b, signB x (s.data.toList.drop i) 124 = b := ⟨_, rfl⟩
  obtain ⟨b2, hb2⟩ : ∃ b, signB x (s.data.toList.drop i) 41 = b := ⟨_, rfl⟩
  rw [hb1] at SA ⊢
  rw [hb2] at SB ⊢
  change Hid (∀ k : Bel w, Calls Tryz.prog 33 #[.pointer (some ⟨R, 0, none⟩), .int .u8 124] k.val _) at SA
  change Hid (∀ k : Bel w, Calls Tryz.prog 33 #[.pointer (some ⟨R, 0, none⟩), .int .u8 41] k.val _) at SB
  clear hp hb1 hb2 he
  by_cases h1 : s.size ≤ i
  · have l1 : (s.size : Int) ≤ (i : Int) := by omega
    have l2 : decide ((s.size : Int) ≤ (i : Int)) = true := decide_eq_true l1
    rw [decide_eq_true h1, Bool.true_or, Bool.true_or]
    go_enter Tryz.func43, Tryz.ntmps43
    go_wp2_with fail
    refine region_bel w (Below.refl _ _) (by kernel_rfl) (by kernel_rfl) ?_
    repeat (go_big_quiet_step ((first | with_reducible exact SA.out _ | with_reducible exact SB.out _)))
    refine wpQuiet_nil ?_
    intro k
    go_wp2_with fail
    go_ret
    exact ⟨rfl, k.below⟩
  · have l1 : ¬ (s.size : Int) ≤ (i : Int) := by omega
    have l2 : decide ((s.size : Int) ≤ (i : Int)) = false := decide_eq_false l1
    rw [decide_eq_false h1, Bool.false_or]
    cases b1
    all_goals
      go_enter Tryz.func43, Tryz.ntmps43
      go_wp2_with fail
      refine region_bel w (Below.refl _ _) (by kernel_rfl) (by kernel_rfl) ?_
      repeat (go_big_quiet_step ((first | with_reducible exact SA.out _ | with_reducible exact SB.out _)))
      refine wpQuiet_nil ?_
      intro k
      go_wp2_with fail
      go_ret
      exact ⟨rfl, k.below⟩
end Go.Proofs.YtlhppbendpnkeaaGreatDoor
/- syntax: repeated at a star. -/
namespace Go.Proofs.YtlhppbendpnkeaaGreatDoor
set_option linter.unusedSimpArgs false
set_option linter.unusedVariables false
open Go.RowKit

theorem nine_row {w : World} {b : Nat} {a0 a1 a2 a3 a4 a5 a6 a7 a8 : Value} {t : TypeId} (h : w.heap[b]? = some (.cells #[a0, a1, a2, a3, a4, a5, a6, a7, a8] t (0, 0))) (v0 v1 v2 v3 v4 v5 v6 v7 v8 : Value) :
    ((((((((w.setCell ⟨b, 0, none⟩ v0).setCell ⟨b, 1, none⟩ v1).setCell ⟨b, 2, none⟩ v2).setCell ⟨b, 3, none⟩ v3).setCell ⟨b, 4, none⟩ v4).setCell ⟨b, 5, none⟩ v5).setCell ⟨b, 6, none⟩ v6).setCell ⟨b, 7, none⟩ v7).setCell ⟨b, 8, none⟩ v8 = w.setRow b #[v0, v1, v2, v3, v4, v5, v6, v7, v8] := by
  rw [setCell_eq_setRow w b 0 _ t _ v0 h]
  rw [setCell_eq_setRow _ b 1 _ t _ v1 (setRow_heap _ _ _ _ _ _ h), setRow_setRow]
  rw [setCell_eq_setRow _ b 2 _ t _ v2 (setRow_heap _ _ _ _ _ _ h), setRow_setRow]
  rw [setCell_eq_setRow _ b 3 _ t _ v3 (setRow_heap _ _ _ _ _ _ h), setRow_setRow]
  rw [setCell_eq_setRow _ b 4 _ t _ v4 (setRow_heap _ _ _ _ _ _ h), setRow_setRow]
  rw [setCell_eq_setRow _ b 5 _ t _ v5 (setRow_heap _ _ _ _ _ _ h), setRow_setRow]
  rw [setCell_eq_setRow _ b 6 _ t _ v6 (setRow_heap _ _ _ _ _ _ h), setRow_setRow]
  rw [setCell_eq_setRow _ b 7 _ t _ v7 (setRow_heap _ _ _ _ _ _ h), setRow_setRow]
  rw [setCell_eq_setRow _ b 8 _ t _ v8 (setRow_heap _ _ _ _ _ _ h), setRow_setRow]
  simp only [List.setIfInBounds_toArray, List.set_cons_zero, List.set_cons_succ]
theorem info30 : (Tryz.prog.info? 30).map (·.size) = some 9 := by kernel_rfl
/-- A node. -/
def ndC (k : Nat) (f : Nat → Bool) (mn mx : Int) (g : Nat) (kids : Value) : Array Value := #[.int .u8 (k : Int), .int .u64 (sW f 0 : Nat), .int .u64 (sW f 1 : Nat), .int .u64 (sW f 2 : Nat), .int .u64 (sW f 3 : Nat), .int .i64 mn, .int .i64 mx, .int .i64 (g : Int), kids]
def zeroC : Array Value := #[.int .u8 0, .int .u64 0, .int .u64 0, .int .u64 0, .int .u64 0, .int .i64 0, .int .i64 0, .int .i64 0, .slice none 0 0]
end Go.Proofs.YtlhppbendpnkeaaGreatDoor
