/- First, Drop, Push, Take, Queue, Clone, New. -/
import Derived.Test.YtbhepdlcnfcfgaaC
import Derived.Lib.SliceRun
namespace Go.Proofs.Ytbhepdlcnfcfgaa
set_option linter.unusedSimpArgs false
set_option linter.unusedVariables false
open Go.RowKit

set_option maxHeartbeats 800000 in
theorem First_st (b base : Nat) (p h : ByteArray) (q : Value) (k : Int) (l : List It) (w : World) (s : St w b base p h q k l) :
    Calls Try.prog 25 #[.pointer (some ⟨b, 0, none⟩)] w fun e w' => e = .returned (.tuple #[.string (line p), .bool (nlIs p)]) ∧ Below w.heap.size w w' := by
  have hs : p.size ≤ 9223372036854775806 := by have := s.inv; have := s.kle; omega
  have HS := Lib.hid s
  clear s
  go_enter Try.func25, Try.ntmps25
  go_wp2_with (first
    | (go_at_call 16; refine (Pattern_any b p h q k _ HS.out.sp).mono ?_; rintro e w' ⟨rfl, rfl⟩)
    | (go_at_call 42; refine (Cut_nl p _ hs).mono ?_; rintro e w' ⟨rfl, hb⟩))
  go_ret2
  exact ⟨rfl, hb⟩

/-- What Drop answers and leaves. -/
def DropPost (w : World) (b base : Nat) (q : Value) (k : Int) (l : List It) (p h : ByteArray) (e : Ending) (w' : World) : Prop :=
  e = .returned (.tuple #[.bool (nlIs p), .int .i64 0]) ∧ Fr (fun i => i = b) w w' ∧ St w' b base (rest p) h q k l

theorem rest_le (p : ByteArray) : (rest p).size ≤ p.size := by
  unfold rest
  split
  · rw [ByteArray.size_extract]; omega
  · exact Nat.zero_le _

/-- What Push answers and leaves. -/
def PushC (w : World) (b base : Nat) (p h : ByteArray) (q : Value) (k : Int) (l : List It) (xk : Int) (xt : ByteArray) (c : Int) (w' : World) : Prop :=
  (¬ (1 ≤ xk ∧ xk ≤ 3) ∧ c = 2 ∧ Below w.heap.size w w') ∨
  ((1 ≤ xk ∧ xk ≤ 3) ∧ k < ((p.size + h.size + tot l + xt.size : Nat) : Int) ∧ c = 180 ∧ Below w.heap.size w w') ∨
  ((1 ≤ xk ∧ xk ≤ 3) ∧ ((p.size + h.size + tot l + xt.size : Nat) : Int) ≤ k ∧ c = 0 ∧ ∃ q', St w' b base p h q' k (l ++ [(xk, xt)]) ∧ Fr (fun i => i = b ∨ q.ownBlock = some i) w w' ∧ (q'.ownBlock = q.ownBlock ∨ ∃ g, q'.ownBlock = some g ∧ w.heap.size ≤ g))
def PushPost (w : World) (b base : Nat) (p h : ByteArray) (q : Value) (k : Int) (l : List It) (xk : Int) (xt : ByteArray) (e : Ending) (w' : World) : Prop :=
  ∃ c, e = .returned (.int .i64 c) ∧ PushC w b base p h q k l xk xt c w'

/-- turn at Push's closure. -/
theorem turn_push (c b base : Nat) (p h : ByteArray) (q : Value) (k : Int) (l : List It) (xk : Int) (xt : ByteArray) (w : World) (s : St w b base p h q k l) (hx : 1 ≤ xk ∧ xk ≤ 3) (hbase : base ≤ w.heap.size) (hn : l.length + 1 ≤ 5864062014805) (ht : xt.size ≤ 140737488355328)
    (hc0 : w.cell? ⟨c, 0, none⟩ = some (.int .u8 xk)) (hc1 : w.cell? ⟨c, 1, none⟩ = some (.string xt)) :
    Calls Try.prog 32 #[.pointer (some ⟨b, 0, none⟩), .int .i64 (xt.size : Int), .func (.func 38) #[] #[.pointer (some ⟨c, 0, none⟩)]] w (PushPost w b base p h q k l xk xt) := by
  have i1 := s.inv
  have i2 := s.kle
  have i3 := s.len
  have htot : tot (l ++ [(xk, xt)]) = tot l + xt.size := by rw [tot_append]; simp [tot]
  by_cases hf : ((p.size + h.size + tot l + xt.size : Nat) : Int) ≤ k
  · refine (turn_yes 38 #[.pointer (some ⟨c, 0, none⟩)] b base p h q k _ l w (fun w' => ∃ w1, Below w.heap.size w w1 ∧ Pushed w1 w' b base p h q k (l ++ [(xk, xt)])) cf38 s.sp s.qu (by omega) (by omega) (by omega) (by omega) (by omega) ?_).mono ?_
    · intro w1 h1
      refine (push1 b c base p h q k l xk xt w1 (bl_sp h1 s.sp) (bl_qu h1 s.qu) (Nat.le_trans hbase h1.size) (by omega) (own_ne s.sp s.qu) (bl_cell h1 hc0) (bl_cell h1 hc1)).mono ?_
      intro e w' ⟨he, hd⟩
      exact ⟨he, w1, h1, hd⟩
    · intro e w' ⟨he, w1, h1, q', hsp, hqu, hfr, hat⟩
      refine ⟨0, he, .inr (.inr ⟨hx, hf, rfl, q', ⟨hsp, hqu, by rw [htot]; omega, i2, by simp; omega⟩, (Fr.ofBelow (fun i => i = b ∨ q.ownBlock = some i) h1).trans hfr (fun _ _ hi => hi), ?_⟩)⟩
      rcases hat with hat | ⟨g, hg, hge⟩
      · exact .inl hat
      · exact .inr ⟨g, hg, Nat.le_trans h1.size hge⟩
  · refine (turn_no 38 #[.pointer (some ⟨c, 0, none⟩)] b base p h q k _ l w s.sp s.qu (by omega) (by omega) (by omega) (by omega) (by omega)).mono ?_
    intro e w' ⟨he, hb⟩
    exact ⟨180, he, .inr (.inl ⟨hx, by omega, rfl, hb⟩)⟩

theorem PushC.from {w W : World} {b base : Nat} {p h : ByteArray} {q : Value} {k : Int} {l : List It} {xk : Int} {xt : ByteArray} {c : Int} {w' : World} (hb : Below w.heap.size w W) (hp : PushC W b base p h q k l xk xt c w') : PushC w b base p h q k l xk xt c w' := by
  rcases hp with ⟨h1, h2, h3⟩ | ⟨h1, h2, h3, h4⟩ | ⟨h1, h2, h3, q', h4, h5, h6⟩
  · exact .inl ⟨h1, h2, bl_to hb h3⟩
  · exact .inr (.inl ⟨h1, h2, h3, bl_to hb h4⟩)
  · refine .inr (.inr ⟨h1, h2, h3, q', h4, (Fr.ofBelow (fun i => i = b ∨ q.ownBlock = some i) hb).trans h5 (fun _ _ e => e), ?_⟩)
    rcases h6 with h6 | ⟨g, hg, hge⟩
    · exact .inl h6
    · exact .inr ⟨g, hg, Nat.le_trans hb.size hge⟩

set_option maxHeartbeats 800000 in
theorem Push_st (b base : Nat) (p h : ByteArray) (q : Value) (k : Int) (l : List It) (xk : Int) (xt : ByteArray) (w : World) (s : St w b base p h q k l) (hbase : base ≤ w.heap.size) (hn : l.length + 1 ≤ 5864062014805) (ht : xt.size ≤ 140737488355328) :
    Calls Try.prog 18 #[.pointer (some ⟨b, 0, none⟩), .agg #[.int .u8 xk, .string xt]] w (PushPost w b base p h q k l xk xt) := by
  have HS := Lib.hid s
  clear s
  have hW : Below w.heap.size w (w.alloc (.cells #[.int .u8 xk, .string xt] 35)) := (Below.refl _ _).alloc (Nat.le_refl _) _
  have HC0 := Lib.hid (show (w.alloc (.cells #[.int .u8 xk, .string xt] 35)).cell? ⟨w.heap.size, 0, none⟩ = some (.int .u8 xk) by simp [World.cell?_alloc_new])
  have HC1 := Lib.hid (show (w.alloc (.cells #[.int .u8 xk, .string xt] 35)).cell? ⟨w.heap.size, 1, none⟩ = some (.string xt) by simp [World.cell?_alloc_new])
  have HSW := Lib.hid (HS.out.to hW)
  have HW := Lib.hid hW
  clear hW
  by_cases hx : 1 ≤ xk ∧ xk ≤ 3
  · have hbase' : base ≤ w.heap.size + 1 := by omega
    rcases (show xk = 1 ∨ xk = 2 ∨ xk = 3 by omega) with rfl | rfl | rfl
    all_goals
      go_enter Try.func18, Try.ntmps18
      go_wp2_with (first
        | (go_at_call 32; refine (turn_push w.heap.size b base p h q k l _ xt _ HSW.out (by omega) (by simpa using hbase') hn ht HC0.out HC1.out).mono ?_; rintro e w1 ⟨c, rfl, hp⟩; have hp := hp.from HW.out))
      go_ret
      exact ⟨c, rfl, hp⟩
  · have h1 : (xk != 1) = true := by simp; omega
    have h2 : (xk != 2) = true := by simp; omega
    have h3 : (xk != 3) = true := by simp; omega
    go_enter Try.func18, Try.ntmps18
    go_wp2_with fail
    go_ret
    exact ⟨2, rfl, .inl ⟨hx, rfl, HW.out⟩⟩

set_option maxHeartbeats 800000 in
theorem Take_st (b base : Nat) (p h : ByteArray) (q : Value) (k : Int) (l : List It) (w : World) (s : St w b base p h q k l) :
    Calls Try.prog 22 #[.pointer (some ⟨b, 0, none⟩)] w fun e w' => e = .returned (.tuple #[q, .int .i64 0]) ∧ Sp w' b p h (.slice none 0 0) k ∧ Fr (fun i => i = b) w w' := by
  have HS := Lib.hid s.sp
  have h2 := s.sp.c2
  have f2 := s.sp.fr 2
  clear s
  go_enter Try.func22, Try.ntmps22
  go_wp2
  go_ret2
  exact ⟨rfl, sp_set2 HS.out _, Fr.setCell (S := fun i => i = b) (Fr.refl _ _) rfl _⟩

theorem icells_one (l : List It) : ∀ u ∈ icells l, u.oneCell' = true := by
  induction l with
  | nil => intro u hu; simp [icells] at hu
  | cons x r ih =>
    obtain ⟨k, t⟩ := x
    intro u hu
    simp only [icells, List.mem_cons] at hu
    rcases hu with rfl | rfl | hu
    · rfl
    · rfl
    · exact ih u hu

/-- A clone: a slice of the same items in a block of its own. -/
def Cloned (w : World) (l : List It) (e : Ending) (w' : World) : Prop :=
  ∃ v, e = .returned v ∧ Qu w' w.heap.size v l ∧ Below w.heap.size w w'

set_option maxHeartbeats 800000 in
theorem Clone_any (base : Nat) (q : Value) (l : List It) (w : World) (hq : Qu w base q l) (hn : l.length ≤ 5864062014805) :
    Calls Try.prog 39 #[q] w (Cloned w l) := by
  have qT : ∀ (w : World) (a : Option Addr) (n c n' c' : Nat), (binOp .eql 31 (.slice a n c) (.slice none n' c')).run Try.prog w = .ok (.bool a.isNone) w := fun w a n c n' c' => Lib.run_eql_slice_nil w _ _ a n c n' c' Try.underlying31
  obtain ⟨i0, hi, hz0, hz1, hz2⟩ := info_parts Try.info35
  rcases hq.2 with ⟨rfl, h0⟩ | ⟨g, cap, cur, rfl, hgb, hg, r⟩
  · have hl : l = [] := List.eq_nil_of_length_eq_zero h0
    subst hl
    clear hq
    go_enter Try.func39, Try.ntmps39
    go_wp2
    go_ret
    exact ⟨_, rfl, World.ownsRow_nil _ _ _ _, Below.refl _ _⟩
  · have HQ := Lib.hid hq
    clear hq hg r
    have hal : Below w.heap.size w (w.alloc (.cells #[] 35)) := (Below.refl _ _).alloc (Nat.le_refl _) _
    have hmade : (w.alloc (.cells #[] 35)).ownsRow w.heap.size 35 2 (.slice (some ⟨w.heap.size, 0, none⟩) 0 0) 0 [] := World.ownsRow_made w #[] 0 (Nat.le_refl _) (Nat.zero_le _) rfl
    have HAL := Lib.hid hal
    have HM := Lib.hid hmade
    have HN : Hid (∀ j u, (icells l)[j]? = some u → (w.alloc (.cells #[] 35)).cell? ((⟨g, 0, none⟩ : Addr).add j) = some u) := fun j u hj => bl_cell hal (World.ownsRow.cells HQ.out rfl j u hj)
    clear hal hmade
    have h63 : 0 + l.length ≤ maxLen := by unfold maxLen; omega
    have hby : (0 + l.length) * 24 ≤ 140737488355328 := by omega
    go_enter Try.func39, Try.ntmps39
    go_wp2_with (at_builtin; refine wpList_append_own _ rfl (.tmp 5) (.tmp 6) 31 rfl w.heap.size 35 i0 (.agg #[.int .u8 0, .string ⟨#[]⟩]) 2 24 Try.underlying31 hi hz0 hz1 hz2 rfl (by decide) (.slice (some ⟨w.heap.size, 0, none⟩) 0 0) 0 [] rfl HM.out ⟨g, 0, none⟩ l.length cap (icells l) rfl (icells_length l) HN.out (icells_one l) h63 hby (by simp) ?_)
    intro v' w1 hown hgrow _
    have hb1 : Below w.heap.size w w1 := HAL.out.grown hgrow (by simp) (fun k hk => by simp [Value.ownBlock] at hk; omega)
    have hq1 : Qu w1 w.heap.size v' l := by simpa [Qu] using hown
    clear hown hgrow
    go_wp2
    go_ret
    exact ⟨_, rfl, hq1, hb1⟩

set_option maxHeartbeats 800000 in
theorem Queue_st (b base : Nat) (p h : ByteArray) (q : Value) (k : Int) (l : List It) (w : World) (s : St w b base p h q k l) :
    Calls Try.prog 20 #[.pointer (some ⟨b, 0, none⟩)] w (Cloned w l) := by
  have HS := Lib.hid s
  have h2 := s.sp.c2
  clear s
  go_enter Try.func20, Try.ntmps20
  go_wp2_with (go_at_call 39; refine (Clone_any base q l _ HS.out.qu HS.out.len).mono ?_; rintro e w1 ⟨v, rfl, hq, hb⟩)
  go_ret
  exact ⟨_, rfl, hq, hb⟩

set_option maxHeartbeats 800000 in
theorem New_yes (k : Int) (w : World) (h0 : 0 ≤ k) (h1 : k ≤ 1073741824) :
    Calls Try.prog 10 #[.int .i64 k] w fun e w' => e = .returned (.tuple #[.pointer (some ⟨w.heap.size, 0, none⟩), .int .i64 0]) ∧ St w' w.heap.size w.heap.size ⟨#[]⟩ ⟨#[]⟩ (.slice none 0 0) k [] ∧ Below w.heap.size w w' := by
  go_enter Try.func10, Try.ntmps10
  go_wp2
  go_ret2
  refine ⟨rfl, ⟨heap_alloc_new w _, World.ownsRow_nil _ _ _ _, by simpa [tot, ByteArray.size] using h0, h1, by simp⟩, (Below.refl _ _).alloc (Nat.le_refl _) _⟩

set_option maxHeartbeats 800000 in
theorem New_no (k : Int) (w : World) (h : k < 0 ∨ 1073741824 < k) :
    Calls Try.prog 10 #[.int .i64 k] w fun e w' => e = .returned (.tuple #[.pointer none, .int .i64 2]) ∧ w = w' := by
  rcases h with h | h
  · go_enter Try.func10, Try.ntmps10
    go_wp2
    go_ret2
    exact ⟨rfl, rfl⟩
  · have h' : ¬ k < 0 := by omega
    go_enter Try.func10, Try.ntmps10
    go_wp2
    go_ret2
    exact ⟨rfl, rfl⟩

end Go.Proofs.Ytbhepdlcnfcfgaa
