/- strings.IndexRune of a rune that is no ASCII byte, in the text of a slash and a nul. -/
import Derived.Test.YtnfnjobgkpefdaaDoorL
import Derived.Test.YtnfnjobgkpefdaaDoorShelf
import Derived.Laws.RangeAny
import Derived.Laws.RangeString
import Derived.WalkMore
namespace Go.Proofs.YtnfnjobgkpefdaaDoor
set_option linter.unusedSimpArgs false
set_option linter.unusedVariables false
open Go.RowKit

structure Bel (W0 : World) where
  val : World
  below : Below W0.heap.size W0 val
instance (W0 : World) : Nonempty (Bel W0) := ⟨⟨W0, Below.refl _ _⟩⟩
/-- A region all of whose operations and callees leave what there was as it was: walked once, in the text's order. -/
theorem region_bel {id : Nat} {Q : Exit → Act → World → Prop} {a : Act} {w : World} {l : List Oper} (W0 : World) (hw : Below W0.heap.size W0 w) (hm : Tryd.prog.follows .mixedOrders = true) (hB : Region.lexB .any l.toArray = true)
    (h : wpQuiet Tryd.prog l.toArray (fun w' => ∃ m : Bel W0, w' = m.val) (fun a' => ∀ m : Bel W0, Q .normal a' m.val) l a) : (Code.region id l.toArray true).wp Tryd.prog Q a w := by
  refine wp_region_quiet (C := fun w' => ∃ m : Bel W0, w' = m.val) hm hB ⟨⟨_, hw.drew⟩, rfl⟩ ?_
  have e : (fun a' => ∀ w', (∃ m : Bel W0, w' = m.val) → Q .normal a' w') = fun a' => ∀ m : Bel W0, Q .normal a' m.val := by
    funext a'
    exact propext ⟨fun h m => h _ ⟨m, rfl⟩, fun h w' ⟨m, hm⟩ => by rw [hm]; exact h m⟩
  rw [e]
  exact h
theorem calls_bel {f : FuncId} {args : Array Value} {v : Value} {W0 : World} (m : Bel W0) (h : Calls Tryd.prog f args m.val fun e w' => e = .returned v ∧ Below m.val.heap.size m.val w') : Calls Tryd.prog f args m.val fun e w' => e = .returned v ∧ ∃ m' : Bel W0, w' = m'.val :=
  h.mono fun _ w' hp => ⟨hp.1, ⟨w', bl_to m.below hp.2⟩, rfl⟩
/-- A slash and a nul. -/
abbrev sn : ByteArray := ⟨#[47, 0]⟩

theorem bl_iter (w : World) (s : ByteArray) (i : Nat) : Below w.heap.size w (w.iter s i) := (Below.refl _ _).alloc (Nat.le_refl _) _

set_option maxRecDepth 8000 in
set_option maxHeartbeats 3200000 in
theorem rune_err (w : World) :
    Calls Tryd.prog 40 #[.string sn, .int .i32 65533] w fun e w' => e = .returned (.int .i64 (-1)) ∧ Below w.heap.size w w' := by
  go_enter Tryd.func40, Tryd.ntmps40
  go_wp2_with fail
  go_loopg [5, 6] 2 (fun g _ _ wx => ∃ i : Nat, i + g = 2 ∧ wx = w.iter sn i)
  case atStart => exact ⟨0, rfl, rfl⟩
  case round =>
    obtain ⟨i, hig, rfl⟩ := hrel
    cases gk with
    | zero =>
      obtain rfl : i = 2 := by omega
      have hnx := fun ty => run_next_end (P := Tryd.prog) w sn 2 ty (by decide)
      go_wp2_with fail
      go_ret
      exact ⟨rfl, bl_iter _ _ _⟩
    | succ g =>
      have hi2 : i < 2 := by omega
      obtain ⟨x, hx, hx1, hnx⟩ : ∃ x : Nat, x < 128 ∧ ¬ (x : Int) = 65533 ∧ ∀ ty, (Instr.next (.pointer (some ⟨w.heap.size, 0, none⟩)) true ty).run Tryd.prog (w.iter sn i) = .ok (.tuple #[.bool true, .int .i64 i, .int .i32 (x : Nat)]) (w.iter sn (i + 1)) := by
        rcases i with _ | _ | i
        · exact ⟨47, by decide, by decide, fun ty => run_next_ascii (P := Tryd.prog) w sn 0 ty (by decide) (by decide)⟩
        · exact ⟨0, by decide, by decide, fun ty => run_next_ascii (P := Tryd.prog) w sn 1 ty (by decide) (by decide)⟩
        · omega
      have hb : ((x : Int) == 65533) = false := by simpa using hx1
      go_wp2_with fail
      go_roundg g
      case measure => omega
      case rel => exact ⟨i + 1, by omega, rfl⟩

set_option maxRecDepth 8000 in
set_option maxHeartbeats 3200000 in
theorem rune_bad (r : Int) (w : World) (h0 : 128 ≤ r) (h1 : r ≠ 65533) (hv : Lib.validRune r = false) :
    Calls Tryd.prog 40 #[.string sn, .int .i32 r] w fun e w' => e = .returned (.int .i64 (-1)) ∧ Below w.heap.size w w' := by
  have d1 : decide (0 ≤ r) = true := decide_eq_true (by omega)
  have d2 : decide (r < 128) = false := decide_eq_false (by omega)
  have d3 : (r == 65533) = false := by simpa using h1
  go_enter Tryd.func40, Tryd.ntmps40
  go_wp2_with (go_at_call 51; refine (Tryd.utf8_ValidRune _ _).mono ?_; rintro e w' ⟨rfl, hw⟩; rw [hw, hv])
  go_ret
  exact ⟨rfl, Below.refl _ _⟩

theorem enc_cases (r : Int) (h0 : 128 ≤ r) : (∃ a b : UInt8, Utf8.encode r = ⟨#[a, b]⟩ ∧ 128 ≤ b.toNat) ∨ ∃ rs : ByteArray, Utf8.encode r = rs ∧ 3 ≤ rs.size ∧ rs.size ≤ 4 := by
  unfold Utf8.encode
  simp only
  generalize hc : (if Utf8.valid r = true then r.toNat else Utf8.runeError) = c
  have hc1 : 128 ≤ c := by
    rw [← hc]; split
    · omega
    · decide
  rw [if_neg (by omega)]
  split
  · exact .inl ⟨_, _, rfl, by simp; omega⟩
  · right
    split
    · exact ⟨_, rfl, by show 3 ≤ 3; omega, by show 3 ≤ 4; omega⟩
    · exact ⟨_, rfl, by show 3 ≤ 4; omega, by show 4 ≤ 4; omega⟩

set_option maxRecDepth 8000 in
set_option maxHeartbeats 3200000 in
theorem rune_good (s : ByteArray) (hs : s = sn) (r : Int) (w : World) (h0 : 128 ≤ r) (h1 : r ≠ 65533) (hv : Lib.validRune r = true) :
    Calls Tryd.prog 40 #[.string s, .int .i32 r] w fun e w' => e = .returned (.int .i64 (-1)) ∧ Below w.heap.size w w' := by
  have d1 : decide (0 ≤ r) = true := decide_eq_true (by omega)
  have d2 : decide (r < 128) = false := decide_eq_false (by omega)
  have d3 : (r == 65533) = false := by simpa using h1
  have hcv := run_convert_int_string (P := Tryd.prog) w 21 9 .i32 r (by kernel_rfl) Tryd.underlying9
  have hsz : s.size = 2 := by subst hs; rfl
  rcases enc_cases r h0 with ⟨a, b, he, hb⟩ | ⟨rs, he, hs3, hs4⟩
  · rw [he] at hcv
    have nb : ¬ (0 : Int) = (b.toNat : Int) := by omega
    have eb : ((0 : Int) != (b.toNat : Int)) = true := by simpa using nb
    have s1 : 1 < s.size := by omega
    have hs1 : s[1]'s1 = 0 := by subst hs; rfl
    have l1 : (1 : Int) < (s.size : Int) := by omega
    have d4 : decide ((1 : Int) < (s.size : Int)) = true := decide_eq_true l1
    have l2 : (2 : Int) ≤ (s.size : Int) := by omega
    have x4 : ∀ c : UInt8, Lib.indexByte (s.data.toList.drop 2) c = -1 := fun c => by subst hs; rfl
    have x5 : ∀ c : UInt8, Lib.indexByte (s.extract 2 s.size).data.toList c = -1 := fun c => by subst hs; rfl
    have x2 : ∀ W : World, (Instr.index 9 (.string ⟨#[a, b]⟩) (.int .i64 1)).run Tryd.prog W = .ok (.int .u8 b.toNat) W := fun W => by
      rw [run_index_string W 9 _ _ _ Tryd.underlying9]; rfl
    clear he hs hsz
    go_enter Tryd.func40, Tryd.ntmps40
    go_wp2_with (go_at_call 51; refine (Tryd.utf8_ValidRune _ _).mono ?_; rintro e w' ⟨rfl, hw⟩; rw [hw, hv])
    go_step3
    go_wp2_with fail
    go_loopw [9] (fun s9 wr => s9 = .int .i64 1 ∧ w = wr) (fun _ _ => 0)
    case atStart => exact ⟨rfl, rfl⟩
    case round =>
      obtain ⟨rfl, rfl⟩ := hrel
      go_wp2_with fail
      go_step3
      go_wp2_with fail
      go_region
      go_wp2_with fail
      have HIB := Lib.hid (fun m : Bel w => (Tryd.strings_IndexByte (s.extract 2 s.size) (b.toNat : Int) m.val).mono (R' := fun e w' => e = .returned (.int .i64 (-1)) ∧ ∃ m' : Bel w, w' = m'.val) (fun e w' h => ⟨by rw [h.1, x5], m, h.2⟩))
      refine region_bel w (by exact (Below.refl _ _).drew) (by kernel_rfl) (by kernel_rfl) ?_
      repeat (go_big_quiet_step (exact HIB.out _))
      refine wpQuiet_nil ?_
      intro m
      go_wp2_with fail
      show bodyPost Tryd.prog Tryd.f40 (fun e w' => e = Ending.returned (.int .i64 (-1)) ∧ Below w.heap.size w w') .ret _ _
      go_ret
      exact ⟨rfl, m.below⟩
  · rw [he] at hcv
    clear he
    have ws : IntKind.i64.wrap ((rs.size : Int) - 1) = (rs.size : Int) - 1 := wrap_in _ (by omega) (by omega)
    have dl : decide ((rs.size : Int) - 1 < (s.size : Int)) = false := decide_eq_false (by omega)
    clear hs hsz
    go_enter Tryd.func40, Tryd.ntmps40
    go_wp2_with (go_at_call 51; refine (Tryd.utf8_ValidRune _ _).mono ?_; rintro e w' ⟨rfl, hw⟩; rw [hw, hv])
    go_step3
    go_wp2_with fail
    go_loopw [9] (fun s9 wr => s9 = .int .i64 ((rs.size : Int) - 1) ∧ w = wr) (fun _ _ => 0)
    case atStart => exact ⟨rfl, rfl⟩
    case round =>
      obtain ⟨rfl, rfl⟩ := hrel
      go_wp2_with fail
      rw [Exit.noGoto_ret]
      go_ret
      exact ⟨rfl, Below.refl _ _⟩
end Go.Proofs.YtnfnjobgkpefdaaDoor
