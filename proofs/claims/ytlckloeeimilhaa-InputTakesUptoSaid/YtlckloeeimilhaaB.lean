/- lines.Split. -/
import Derived.Test.YtlckloeeimilhaaC
namespace Go.Proofs.Ytlckloeeimilhaa
set_option linter.unusedSimpArgs false
set_option linter.unusedVariables false
open Go.RowKit

/-- A line: its text, and whether it is whole. -/
abbrev Ln := ByteArray × Bool
def lcells : List Ln → List Value
  | [] => []
  | (t, b) :: r => .string t :: .bool b :: lcells r
theorem lcells_length (l : List Ln) : (lcells l).length = l.length * 2 := by
  induction l with
  | nil => rfl
  | cons x r ih => obtain ⟨k, t⟩ := x; simp only [lcells, List.length_cons, ih]; omega
theorem lcells_append (a b : List Ln) : lcells (a ++ b) = lcells a ++ lcells b := by
  induction a with
  | nil => rfl
  | cons x r ih => obtain ⟨k, t⟩ := x; simp [lcells, ih]
theorem lcells_get (l : List Ln) : ∀ (i : Nat) (hi : i < l.length), (lcells l)[i * 2]? = some (.string l[i].1) ∧ (lcells l)[i * 2 + 1]? = some (.bool l[i].2) := by
  induction l with
  | nil => intro i hi; simp at hi
  | cons x r ih =>
    obtain ⟨k, t⟩ := x
    intro i hi
    cases i with
    | zero => exact ⟨rfl, rfl⟩
    | succ i =>
      have h := ih i (by simpa using hi)
      rw [show (i + 1) * 2 = i * 2 + 1 + 1 from by omega, show i * 2 + 1 + 1 + 1 = (i * 2 + 1) + 1 + 1 from rfl]
      simpa [lcells] using h

theorem rest_lt (s : ByteArray) (h : s.size ≠ 0) : (rest s).size < s.size := by
  unfold rest
  split
  · rw [ByteArray.size_extract]; omega
  · show (⟨#[]⟩ : ByteArray).size < _
    have : (⟨#[]⟩ : ByteArray).size = 0 := rfl
    omega

/-- The lines of a text. -/
def splitL (s : ByteArray) : List Ln := if h : s.size = 0 then [] else (line s, nlIs s) :: splitL (rest s)
termination_by s.size
decreasing_by exact rest_lt s h

theorem splitL_nil {s : ByteArray} (h : s.size = 0) : splitL s = [] := by rw [splitL, dif_pos h]
theorem splitL_cons {s : ByteArray} (h : s.size ≠ 0) : splitL s = (line s, nlIs s) :: splitL (rest s) := by conv => lhs; rw [splitL, dif_neg h]

theorem splitL_length (s : ByteArray) : (splitL s).length ≤ s.size := by
  induction hn : s.size using Nat.strongRecOn generalizing s with
  | _ n ih =>
    by_cases h : s.size = 0
    · rw [splitL_nil h]; simp
    · rw [splitL_cons h]
      have hr := rest_lt s h
      have := ih _ (by omega) (rest s) rfl
      simp; omega

/-- A row of lines. -/
def Ls (w : World) (base : Nat) (v : Value) (l : List Ln) : Prop := w.ownsRow base 37 2 v l.length (lcells l)

theorem Ls.snoc {w : World} {base : Nat} {q : Value} {l : List Ln} {n : Nat} {t : ByteArray} {b : Bool} (hn : n = l.length + 1) (h : w.ownsRow base 37 2 q n (lcells l ++ [.string t, .bool b])) : Ls w base q (l ++ [(t, b)]) := by
  subst hn
  unfold Ls
  rw [lcells_append, List.length_append]
  exact h
theorem Ls.lt {w : World} {base : Nat} {v : Value} {l : List Ln} (h : Ls w base v l) {g : Nat} (hg : v.ownBlock = some g) : base ≤ g ∧ g < w.heap.size := World.ownsRow.lt h g hg
theorem row_to {w w1 : World} {base sz n : Nat} {e : TypeId} {v : Value} {xs : List Value} (hb : Below w.heap.size w w1) (hs : w.ownsRow base e sz v n xs) : w1.ownsRow base e sz v n xs :=
  World.ownsRow.kept (row := none) hs ⟨hb.os, hb.tape, hb.output, hb.size, fun k hk _ => hb.block k hk⟩ (by cases v.ownBlock <;> simp)
theorem Ls.to {w w1 : World} {base : Nat} {v : Value} {l : List Ln} (h : Ls w base v l) (hb : Below w.heap.size w w1) : Ls w1 base v l := row_to hb h

theorem info37 : (Try.prog.info? 37).map (fun i => (i.zero, i.size, i.bytes)) = some (some (.agg #[(.string ⟨#[]⟩), (.bool false)]), 2, 24) := by kernel_rfl
theorem info32 : (Try.prog.info? 32).map (fun i => (i.zero, i.size, i.bytes)) = some (some (.agg #[(.string ⟨#[]⟩), (.int .i64 0)]), 2, 24) := by kernel_rfl
theorem info3 : (Try.prog.info? 3).map (fun i => (i.zero, i.size, i.bytes)) = some (some (.int .i64 0), 1, 8) := by kernel_rfl

theorem ne_toList {t : ByteArray} (h : t.size ≠ 0) : (!t.toList.isEmpty) = true := by
  rw [ByteArray.toList_eq]
  cases h' : t.data.toList with
  | nil => exfalso; apply h; have : t.data.toList.length = 0 := by rw [h']; rfl
           simpa using this
  | cons a r => rfl
theorem bl_alloc (w : World) (o : Obj) : Below w.heap.size w (w.alloc o) := (Below.refl _ _).alloc (Nat.le_refl _) o

def szOf : Value → Nat
  | .string b => b.size
  | _ => 0

set_option maxHeartbeats 1600000 in
theorem Split_any (s : ByteArray) (w : World) (hs : s.size ≤ 5864062014804) :
    Calls Try.prog 7 #[.string s] w fun e w' => ∃ v, e = .returned v ∧ Ls w' w.heap.size v (splitL s) ∧ Below w.heap.size w w' := by
  obtain ⟨i0, hi, hz0, hz1, hz2⟩ := info_parts info37
  go_enter Try.func7, Try.ntmps7
  go_wp2
  go_loopw [0, 3] (fun sv ov wr => ∃ (t : ByteArray) (out : Value) (done : List Ln), out = ov ∧ sv = .string t ∧ done ++ splitL t = splitL s ∧ done.length + t.size ≤ s.size ∧ Ls wr w.heap.size out done ∧ Below w.heap.size w wr) (fun sv _ _ => szOf sv)
  case atStart => exact ⟨s, _, [], rfl, rfl, rfl, by simp, World.ownsRow_nil _ _ _ _, Below.refl _ _⟩
  case round =>
    obtain ⟨t, out, done, rfl, rfl, hd, hlen, hout, hbel⟩ := hrel
    by_cases h0 : t.size = 0
    · obtain rfl : t = ⟨#[]⟩ := by apply ba_ext; have : t.data.toList.length = 0 := by simpa using h0
                                   rw [List.length_eq_zero_iff.1 this]
      have HL : Hid (Ls wr w.heap.size out (splitL s)) := by show Ls _ _ _ _; rw [← hd, splitL_nil rfl, List.append_nil]; exact hout
      clear hd hout
      go_wp2
      go_ret
      exact ⟨_, rfl, HL.out, hbel⟩
    · have hne := ne_toList h0
      have hr := rest_lt t h0
      rw [splitL_cons h0] at hd
      have HD := Lib.hid hd
      have HO := Lib.hid hout
      have HB := Lib.hid hbel
      clear hd hout hbel
      have h63 : done.length + 1 ≤ maxLen := by unfold maxLen; omega
      have hby : (done.length + 1) * 24 ≤ 140737488355328 := by omega
      go_wp2_with (first
        | (go_at_call 24; refine (Cut_nl t _ (by omega)).mono ?_; rintro e w1 ⟨rfl, hb1⟩; have HB1 := Lib.hid (bl_to HB.out hb1); have HO1 := Lib.hid (HO.out.to hb1); have hws := HB1.out.size)
        | (at_builtin; go_must (refine wpList_append_lies _ rfl (.tmp 15) (.tmp 19) 29 rfl w.heap.size 37 i0 (.agg #[(.string ⟨#[]⟩), (.bool false)]) 2 24 Try.underlying29 hi hz0 hz1 hz2 rfl (by decide) out done.length (lcells done) rfl (row_to (bl_alloc w1 _) HO1.out) ⟨w1.heap.size, 0, none⟩ 1 1 [.string (line t), .bool (nlIs t)] rfl rfl (cells_two w1 _ _ 37) (by intro u hu; simp at hu; rcases hu with rfl | rfl <;> rfl) (by omega) h63 hby (by simp; omega) (w1.heap.size + 1) (by simp) ?_)))
      intro g2 cap2 w2 hown hgrow hat hlt2
      have hf2 : Fr (fun i => out.ownBlock = some i) w1 w2 := ((Fr.refl _ w1).alloc _).trans (Fr.ofGrown hgrow) (fun i _ hi => hi)
      have HB2 := Lib.hid (HB1.out.trans (hf2.toBelow hws (fun i _ hi => (HO1.out.lt hi).1)))
      have HQ2 := Lib.hid (Ls.snoc rfl hown)
      clear hown hgrow hat hlt2 hf2 hb1
      go_wp2
      go_roundw
      case rel => exact ⟨rest t, _, done ++ [(line t, nlIs t)], rfl, rfl, by rw [List.append_assoc]; exact HD.out, by simp; omega, HQ2.out, HB2.out⟩
      case measure => simp [szOf]; omega
end Go.Proofs.Ytlckloeeimilhaa
