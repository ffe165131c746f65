/- New, and what an input tells. -/
import Derived.Test.YtlckloeeimilhaaE
namespace Go.Proofs.Ytlckloeeimilhaa
set_option linter.unusedSimpArgs false
set_option linter.unusedVariables false
open Go.RowKit

def is0 (n : Nat) (sep : Bool) : IS := ⟨n, sep, 0, ⟨#[]⟩, [], 0, ⟨#[]⟩, false, 0, 0, false, 0, false, ⟨#[]⟩, false, 0, 0, 0, false, ⟨#[]⟩⟩
def look0 (tl : List Tl) (sep : Bool) : IS := lookL tl (is0 tl.length sep)

def NewPost (w : World) (base S : Nat) (tv : Value) (tl : List Tl) (sep : Bool) (e : Ending) (w' : World) : Prop :=
  e = .returned (.pointer (some ⟨w.heap.size, 0, none⟩)) ∧ LP w w' base w.heap.size S (.slice none 0 0) tv tl (look0 tl sep)

set_option maxHeartbeats 3200000 in
theorem New_yes (base S : Nat) (tv av : Value) (tl : List Tl) (sep : Bool) (n : Nat) (hn : n = tl.length) (w : World) (hs : Src w base S tv av tl []) (hle : tl.length ≤ 1024) (hsz : ∀ d ∈ tl, d.1.size ≤ 5864062014804) (hbase : base ≤ w.heap.size) :
    Calls Try.prog 8 #[.iface 24 (.pointer (some ⟨S, 0, none⟩)), .int .i64 n, .bool sep] w (NewPost w base S tv tl sep) := by
  subst hn
  have hn0 : ¬ ((tl.length : Int) < 0) := by omega
  have hn1 : ¬ ((1024 : Int) < (tl.length : Int)) := by omega
  have hblk : (w.alloc (.cells ((is0 tl.length sep).cells S (.slice none 0 0)) 62)).heap[w.heap.size]? = some (.cells ((is0 tl.length sep).cells S (.slice none 0 0)) 62 (0, 0)) := heap_alloc_new w _
  have hI : Inp (w.alloc (.cells ((is0 tl.length sep).cells S (.slice none 0 0)) 62)) base w.heap.size S (.slice none 0 0) (is0 tl.length sep) := ⟨hblk, Lv.nil 0 rfl, hbase⟩
  have HI := Lib.hid hI
  have HS := Lib.hid (hs.to (bl_alloc w (.cells ((is0 tl.length sep).cells S (.slice none 0 0)) 62)))
  have HT : Hid (FrT base w (w.alloc (.cells ((is0 tl.length sep).cells S (.slice none 0 0)) 62))) := FrT.ofBelow (bl_alloc w _) hbase
  clear hs hblk hI
  simp only [IS.cells, is0] at HI HS HT
  go_enter Try.func8, Try.ntmps8
  go_wp2_with fail
  refine (look_any base w.heap.size S _ tv av tl _ _ HI.out HS.out rfl (Nat.zero_le _) (by omega) hsz (Nat.zero_le _) (by simp; omega)).mono ?_
  rintro e w2 ⟨rfl, lv, av2, h1, h2, h3, h4⟩
  have HP : Hid (LP w w2 base w.heap.size S (.slice none 0 0) tv tl (look0 tl sep)) := ⟨lv, av2, h1, h2, HT.out.trans h3, fun z hz => (h4 z hz).imp id (fun h => Nat.le_trans (bl_alloc w _).size h)⟩
  clear h1 h2 h3 h4
  go_wp2_with fail
  go_ret
  exact ⟨rfl, HP.out⟩

theorem New_no (S : Nat) (n : Int) (sep : Bool) (w : World) (h : n < 0 ∨ 1024 < n) :
    Calls Try.prog 8 #[.iface 24 (.pointer (some ⟨S, 0, none⟩)), .int .i64 n, .bool sep] w fun e w' => e = .returned (.pointer none) ∧ w = w' := by
  rcases h with h | h
  · go_enter Try.func8, Try.ntmps8
    go_wp2_with fail
    go_ret
    exact ⟨rfl, rfl⟩
  · have h0 : ¬ n < 0 := by omega
    go_enter Try.func8, Try.ntmps8
    go_wp2_with fail
    go_ret
    exact ⟨rfl, rfl⟩
theorem New_nil (n : Int) (sep : Bool) (w : World) :
    Calls Try.prog 8 #[.nilIface, .int .i64 n, .bool sep] w fun e w' => e = .returned (.pointer none) ∧ w = w' := by
  go_enter Try.func8, Try.ntmps8
  go_wp2_with fail
  go_ret
  exact ⟨rfl, rfl⟩

section
variable {base X S : Nat} {lv : Value} {x : IS} {w : World}

theorem At_any (hx : Inp w base X S lv x) : Calls Try.prog 10 #[.pointer (some ⟨X, 0, none⟩)] w fun e w' => e = .returned (.int .i64 (if x.taken = 0 then 0 else x.ci)) ∧ w = w' := by
  have d0 := (blk_at hx.blk 18 (v := .int .i64 x.taken) rfl).1
  have d1 := (blk_at hx.blk 16 (v := .int .i64 x.ci) rfl).1
  clear hx
  by_cases h : x.taken = 0
  · rw [if_pos h]
    rw [h] at d0
    go_enter Try.func10, Try.ntmps10
    go_wp2_with fail
    go_ret
    exact ⟨rfl, rfl⟩
  · rw [if_neg h]
    have hn : ((x.taken : Int) == 0) = false := by simp; omega
    clear h
    go_enter Try.func10, Try.ntmps10
    go_wp2_with fail
    go_ret
    exact ⟨rfl, rfl⟩
theorem Number_any (hx : Inp w base X S lv x) : Calls Try.prog 11 #[.pointer (some ⟨X, 0, none⟩)] w fun e w' => e = .returned (.int .i64 (if x.taken = 0 then 0 else if x.sep then x.cn else (x.taken : Int))) ∧ w = w' := by
  have d0 := (blk_at hx.blk 18 (v := .int .i64 x.taken) rfl).1
  have d1 := (blk_at hx.blk 17 (v := .int .i64 x.cn) rfl).1
  have d2 := (blk_at hx.blk 2 (v := .bool x.sep) rfl).1
  clear hx
  by_cases h : x.taken = 0
  · rw [if_pos h]
    rw [h] at d0
    go_enter Try.func11, Try.ntmps11
    go_wp2_with fail
    go_ret
    exact ⟨rfl, rfl⟩
  · rw [if_neg h]
    have hn : ((x.taken : Int) == 0) = false := by simp; omega
    clear h
    rcases Bool.eq_false_or_eq_true x.sep with hs | hs
    all_goals
      rw [hs] at d2 ⊢
      go_enter Try.func11, Try.ntmps11
      go_wp2_with fail
      go_ret
      exact ⟨rfl, rfl⟩
theorem Fresh_any (hx : Inp w base X S lv x) : Calls Try.prog 12 #[.pointer (some ⟨X, 0, none⟩)] w fun e w' => e = .returned (.bool (decide (0 < x.taken) && x.fresh)) ∧ w = w' := by
  have d0 := (blk_at hx.blk 18 (v := .int .i64 x.taken) rfl).1
  have d1 := (blk_at hx.blk 19 (v := .bool x.fresh) rfl).1
  clear hx
  by_cases h : 0 < x.taken
  · have hn : (0 : Int) < (x.taken : Int) := by omega
    rw [decide_eq_true h]
    clear h
    go_enter Try.func12, Try.ntmps12
    go_wp2_with fail
    go_ret
    exact ⟨by simp, rfl⟩
  · rw [show x.taken = 0 by omega] at d0 ⊢
    clear h
    go_enter Try.func12, Try.ntmps12
    go_wp2_with fail
    go_ret
    exact ⟨by simp, rfl⟩
theorem Passed_any (hx : Inp w base X S lv x) : Calls Try.prog 17 #[.pointer (some ⟨X, 0, none⟩)] w fun e w' => e = .returned (.bool x.passed) ∧ w = w' := by
  have d0 := (blk_at hx.blk 13 (v := .bool x.passed) rfl).1
  clear hx
  go_enter Try.func17, Try.ntmps17
  go_wp2_with fail
  go_ret
  exact ⟨rfl, rfl⟩
theorem Data_any (hx : Inp w base X S lv x) : Calls Try.prog 13 #[.pointer (some ⟨X, 0, none⟩)] w fun e w' => e = .returned (.string (if x.taken = 0 then ⟨#[]⟩ else x.nowd)) ∧ w = w' := by
  have d0 := (blk_at hx.blk 18 (v := .int .i64 x.taken) rfl).1
  have d1 := (blk_at hx.blk 20 (v := .string x.nowd) rfl).1
  clear hx
  by_cases h : x.taken = 0
  · rw [if_pos h]
    rw [h] at d0
    go_enter Try.func13, Try.ntmps13
    go_wp2_with fail
    go_ret
    exact ⟨rfl, rfl⟩
  · rw [if_neg h]
    have hn : ((x.taken : Int) == 0) = false := by simp; omega
    clear h
    go_enter Try.func13, Try.ntmps13
    go_wp2_with fail
    go_ret
    exact ⟨rfl, rfl⟩
theorem Err_any (hx : Inp w base X S lv x) : Calls Try.prog 21 #[.pointer (some ⟨X, 0, none⟩)] w fun e w' => e = .returned (.int .i64 x.err) ∧ w = w' := by
  have d0 := (blk_at hx.blk 12 (v := .int .i64 x.err) rfl).1
  clear hx
  go_enter Try.func21, Try.ntmps21
  go_wp2_with fail
  go_ret
  exact ⟨rfl, rfl⟩
set_option maxHeartbeats 1600000 in
theorem Last_any (hx : Inp w base X S lv x) : Calls Try.prog 14 #[.pointer (some ⟨X, 0, none⟩)] w fun e w' => e = .returned (.bool (decide (0 < x.taken) && (!x.has || (x.sep && (x.ni != x.ci))))) ∧ Below w.heap.size w w' := by
  have d0 := (blk_at hx.blk 18 (v := .int .i64 x.taken) rfl).1
  have d1 := (blk_at hx.blk 11 (v := .bool x.has) rfl).1
  have d2 := (blk_at hx.blk 2 (v := .bool x.sep) rfl).1
  have d3 := (blk_at hx.blk 9 (v := .int .i64 x.ni) rfl).1
  have d4 := (blk_at hx.blk 16 (v := .int .i64 x.ci) rfl).1
  have HB : Hid (∀ n, Below w.heap.size w (w.drewN n)) := fun n => below_drewN (Below.refl _ _) n
  clear hx
  by_cases h : 0 < x.taken
  · have hn : decide ((0 : Int) < (x.taken : Int)) = true := by simpa using h
    rw [decide_eq_true h]
    have hn2 : decide (0 < x.taken) = true := decide_eq_true h
    have hn3 : (0 : Int) < (x.taken : Int) := by omega
    rcases Bool.eq_false_or_eq_true x.has with hh | hh
    · rcases Bool.eq_false_or_eq_true x.sep with hs | hs
      all_goals
        rw [hh] at d1 ⊢
        rw [hs] at d2 ⊢
        go_enter Try.func14, Try.ntmps14
        go_wp2_with fail
        go_quiet (fail)
        go_wp2_with fail
        go_ret
        exact ⟨by simp, HB.out _⟩
    · rw [hh] at d1 ⊢
      go_enter Try.func14, Try.ntmps14
      go_wp2_with fail
      go_quiet (fail)
      go_wp2_with fail
      go_ret
      exact ⟨by simp, HB.out _⟩
  · rw [show x.taken = 0 by omega] at d0 ⊢
    clear h
    go_enter Try.func14, Try.ntmps14
    go_wp2_with fail
    go_quiet (fail)
    go_wp2_with fail
    go_ret
    exact ⟨by simp, HB.out _⟩
end
end Go.Proofs.Ytlckloeeimilhaa
