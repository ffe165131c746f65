/- long. -/
import Derived.Test.YtbigolappdlhcaaS
namespace Go.Proofs.Ytbigolappdlhcaa
set_option linter.unusedSimpArgs false
set_option linter.unusedVariables false
open Go.RowKit

def valued (k : Nat) : Bool := k == 3 || k == 4
def sufx (k : Nat) : Bool := k == 5
/-- May the option k be written so? -/
def longOk (k : Nat) (s : ByteArray) : Bool := if sufx k then sufOk (valOf s) else (valued k == eqIs s)
/-- A long option. -/
def longL (a : Av) (s : ByteArray) : Option Av :=
  match optOf (isName (nmOf s)) with
  | none => none
  | some k => if longOk k s then some (doOpt a (valOf s) k) else none

def LongPost (w : World) (base X : Nat) (a : Av) (s : ByteArray) (e : Ending) (w' : World) : Prop :=
  (longL a s = none → e = .returned (.bool false) ∧ Below w.heap.size w w') ∧ (∀ a', longL a s = some a' → e = .returned (.bool true) ∧ XS w' base X a' ∧ FrT TX base w w')

theorem enter46 (args : Array Value) (w : World) : (callFunc 46 args).run Try.prog w = .ok (.enter 46 args) w := by kernel_rfl
theorem enter48 (args : Array Value) (w : World) : (callFunc 48 args).run Try.prog w = .ok (.enter 48 args) w := by kernel_rfl

set_option maxRecDepth 8000 in
set_option maxHeartbeats 6400000 in
theorem long_any (base X : Nat) (a : Av) (s : ByteArray) (w : World) (h : XS w base X a) (hl : a.scr.length ≤ 100000) (hs : s.size ≤ 9223372036854775806) : Calls Try.prog 34 #[.pointer (some ⟨X, 0, none⟩), .string s] w (LongPost w base X a s) := by
  have HX := Lib.hid h
  clear h
  go_enter Try.func34, Try.ntmps34
  go_wp2_with fail
  refine (Cut_eq s _ hs).mono ?_
  rintro e w1 ⟨rfl, hb1⟩
  have HB1 := Lib.hid (bl_to hb1 (bl_alloc w1 (.cells #[.string (nmOf s)] 9)))
  have HN : Hid ((w1.alloc (.cells #[.string (nmOf s)] 9)).cell? ⟨w1.heap.size, 0, none⟩ = some (.string (nmOf s))) := (blk_at (heap_alloc_new w1 (.cells #[.string (nmOf s)] 9)) 0 rfl).1
  clear hb1
  go_wp2_with fail
  generalize hw2 : (w1.alloc (.cells #[.string (nmOf s)] 9)) = w2 at *
  refine (find_any 46 #[.pointer (some ⟨w1.heap.size, 0, none⟩)] (isName (nmOf s)) w2 enter46 (fun h k hk W hb ho => name_is (nmOf s) w1.heap.size h k hk W ho (bl_cell hb HN.out))).mono ?_
  rintro e w3 ⟨h, rfl, hb3⟩
  clear hw2
  have HB3 := Lib.hid (bl_to HB1.out hb3)
  clear hb3
  have HXW : Hid (∀ x, XS (w3.alloc x) base X a ∧ FrT TX base w (w3.alloc x) ∧ Below w.heap.size w (w3.alloc x)) := fun x => ⟨HX.out.to (bl_to HB3.out (bl_alloc w3 x)), FrT.ofBelow TX (bl_to HB3.out (bl_alloc w3 x)) HX.out.lt, bl_to HB3.out (bl_alloc w3 x)⟩
  obtain ⟨g, hg⟩ : ∃ g, eqIs s = g := ⟨_, rfl⟩
  obtain ⟨vs, hvs⟩ : ∃ vs, valOf s = vs := ⟨_, rfl⟩
  obtain ⟨o, ho⟩ : ∃ o, optOf (isName (nmOf s)) = o := ⟨_, rfl⟩
  have HO := Lib.hid ho
  have HLT : Hid (∀ k, o = some k → k < 6) := fun k hk => (optOf_lt (by rw [ho, hk])).1
  have HG := Lib.hid hg
  have HV := Lib.hid hvs
  rw [ho, hg, hvs]
  clear ho hg hvs
  cases o with
  | none =>
    have HP : Hid (longL a s = none) := by show longL a s = none; unfold longL; rw [HO.out]
    simp only [findV, Option.isSome]
    go_wp2_with fail
    go_ret
    exact ⟨fun _ => ⟨rfl, (HXW.out _).2.2⟩, fun a' h => by rw [HP.out] at h; exact absurd h (by simp)⟩
  | some k =>
    have hk := HLT.out k rfl
    have HP : Hid (longL a s = if longOk k s then some (doOpt a vs k) else none) := by show longL a s = _; unfold longL; rw [HO.out, HV.out]
    have HL : Hid (longOk k s = if sufx k then sufOk vs else (valued k == g)) := by show longOk k s = _; unfold longOk; rw [HV.out, HG.out]
    simp only [findV, Option.isSome]
    rcases (show k = 0 ∨ k = 1 ∨ k = 2 ∨ k = 3 ∨ k = 4 ∨ k = 5 by omega) with rfl | rfl | rfl | rfl | rfl | rfl
    · cases g
      · have HQ : Hid (longL a s = some (doOpt a vs 0)) := by show longL a s = _; rw [HP.out, HL.out]; rfl
        simp only [optV]
        go_wp2_with fail
        refine (do0 (HXW.out _).1).mono ?_
        rintro e w5 ⟨rfl, hx5, hf5⟩
        have HX5 := Lib.hid hx5
        have HF5 := Lib.hid ((HXW.out _).2.1.trans hf5)
        clear hx5 hf5
        go_wp2_with fail
        go_ret
        exact ⟨fun h => (by rw [HQ.out] at h; exact absurd h (by simp)), fun a' h => (by rw [HQ.out] at h; simp only [Option.some.injEq] at h; subst h; exact ⟨rfl, HX5.out, HF5.out⟩)⟩
      · have HQ : Hid (longL a s = none) := by show longL a s = _; rw [HP.out, HL.out]; rfl
        simp only [optV]
        go_wp2_with fail
        go_ret
        exact ⟨fun _ => ⟨rfl, (HXW.out _).2.2⟩, fun a' h => (by rw [HQ.out] at h; exact absurd h (by simp))⟩
    · cases g
      · have HQ : Hid (longL a s = some (doOpt a vs 1)) := by show longL a s = _; rw [HP.out, HL.out]; rfl
        simp only [optV]
        go_wp2_with fail
        refine (do1 (HXW.out _).1).mono ?_
        rintro e w5 ⟨rfl, hx5, hf5⟩
        have HX5 := Lib.hid hx5
        have HF5 := Lib.hid ((HXW.out _).2.1.trans hf5)
        clear hx5 hf5
        go_wp2_with fail
        go_ret
        exact ⟨fun h => (by rw [HQ.out] at h; exact absurd h (by simp)), fun a' h => (by rw [HQ.out] at h; simp only [Option.some.injEq] at h; subst h; exact ⟨rfl, HX5.out, HF5.out⟩)⟩
      · have HQ : Hid (longL a s = none) := by show longL a s = _; rw [HP.out, HL.out]; rfl
        simp only [optV]
        go_wp2_with fail
        go_ret
        exact ⟨fun _ => ⟨rfl, (HXW.out _).2.2⟩, fun a' h => (by rw [HQ.out] at h; exact absurd h (by simp))⟩
    · cases g
      · have HQ : Hid (longL a s = some (doOpt a vs 2)) := by show longL a s = _; rw [HP.out, HL.out]; rfl
        simp only [optV]
        go_wp2_with fail
        refine (do2 (HXW.out _).1).mono ?_
        rintro e w5 ⟨rfl, hx5, hf5⟩
        have HX5 := Lib.hid hx5
        have HF5 := Lib.hid ((HXW.out _).2.1.trans hf5)
        clear hx5 hf5
        go_wp2_with fail
        go_ret
        exact ⟨fun h => (by rw [HQ.out] at h; exact absurd h (by simp)), fun a' h => (by rw [HQ.out] at h; simp only [Option.some.injEq] at h; subst h; exact ⟨rfl, HX5.out, HF5.out⟩)⟩
      · have HQ : Hid (longL a s = none) := by show longL a s = _; rw [HP.out, HL.out]; rfl
        simp only [optV]
        go_wp2_with fail
        go_ret
        exact ⟨fun _ => ⟨rfl, (HXW.out _).2.2⟩, fun a' h => (by rw [HQ.out] at h; exact absurd h (by simp))⟩
    · cases g
      · have HQ : Hid (longL a s = none) := by show longL a s = _; rw [HP.out, HL.out]; rfl
        simp only [optV]
        go_wp2_with fail
        go_ret
        exact ⟨fun _ => ⟨rfl, (HXW.out _).2.2⟩, fun a' h => (by rw [HQ.out] at h; exact absurd h (by simp))⟩
      · have HQ : Hid (longL a s = some (doOpt a vs 3)) := by show longL a s = _; rw [HP.out, HL.out]; rfl
        simp only [optV]
        go_wp2_with fail
        refine (do3 (HXW.out _).1 (by omega)).mono ?_
        rintro e w5 ⟨rfl, hx5, hf5⟩
        have HX5 := Lib.hid hx5
        have HF5 := Lib.hid ((HXW.out _).2.1.trans hf5)
        clear hx5 hf5
        go_wp2_with fail
        go_ret
        exact ⟨fun h => (by rw [HQ.out] at h; exact absurd h (by simp)), fun a' h => (by rw [HQ.out] at h; simp only [Option.some.injEq] at h; subst h; exact ⟨rfl, HX5.out, HF5.out⟩)⟩
    · cases g
      · have HQ : Hid (longL a s = none) := by show longL a s = _; rw [HP.out, HL.out]; rfl
        simp only [optV]
        go_wp2_with fail
        go_ret
        exact ⟨fun _ => ⟨rfl, (HXW.out _).2.2⟩, fun a' h => (by rw [HQ.out] at h; exact absurd h (by simp))⟩
      · have HQ : Hid (longL a s = some (doOpt a vs 4)) := by show longL a s = _; rw [HP.out, HL.out]; rfl
        simp only [optV]
        go_wp2_with fail
        refine (do4 (HXW.out _).1 (by omega)).mono ?_
        rintro e w5 ⟨rfl, hx5, hf5⟩
        have HX5 := Lib.hid hx5
        have HF5 := Lib.hid ((HXW.out _).2.1.trans hf5)
        clear hx5 hf5
        go_wp2_with fail
        go_ret
        exact ⟨fun h => (by rw [HQ.out] at h; exact absurd h (by simp)), fun a' h => (by rw [HQ.out] at h; simp only [Option.some.injEq] at h; subst h; exact ⟨rfl, HX5.out, HF5.out⟩)⟩
    · obtain ⟨b, hb⟩ : ∃ b, sufOk vs = b := ⟨_, rfl⟩
      have HS := suffixed_any vs
      rw [hb] at HS HL
      have HS := Lib.hid HS
      clear hb
      cases b
      · have HQ : Hid (longL a s = none) := by show longL a s = _; rw [HP.out, HL.out]; rfl
        simp only [optV]
        cases g
        all_goals
          go_wp2_with fail
          refine (HS.out _).mono ?_
          rintro e w5 ⟨rfl, hb5⟩
          have HB5 := Lib.hid (bl_to (HXW.out _).2.2 hb5)
          clear hb5
          go_wp2_with fail
          go_ret
          exact ⟨fun _ => ⟨rfl, HB5.out⟩, fun a' h => (by rw [HQ.out] at h; exact absurd h (by simp))⟩
      · have HQ : Hid (longL a s = some (doOpt a vs 5)) := by show longL a s = _; rw [HP.out, HL.out]; rfl
        simp only [optV]
        cases g
        all_goals
          go_wp2_with fail
          refine (HS.out _).mono ?_
          rintro e w5 ⟨rfl, hb5⟩
          have b4 := hb5.cell (p := ⟨w3.heap.size, 4, none⟩) (by simp)
          have HX5 := Lib.hid ((HXW.out _).1.to hb5)
          have HF5 := Lib.hid ((HXW.out _).2.1.trans (FrT.ofBelow TX hb5 (HXW.out _).1.lt))
          clear hb5
          go_wp2_with fail
          refine (do5 HX5.out).mono ?_
          rintro e w6 ⟨rfl, hx6, hf6⟩
          have HX6 := Lib.hid hx6
          have HF6 := Lib.hid (HF5.out.trans hf6)
          clear hx6 hf6
          go_wp2_with fail
          go_ret
          exact ⟨fun h => (by rw [HQ.out] at h; exact absurd h (by simp)), fun a' h => (by rw [HQ.out] at h; simp only [Option.some.injEq] at h; subst h; exact ⟨rfl, HX6.out, HF6.out⟩)⟩
end Go.Proofs.Ytbigolappdlhcaa
