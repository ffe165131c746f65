/- The methods that turn the texts. -/
import Derived.Test.YtbhepdlcnfcfgaaP
import Derived.StillTailTactics
namespace Go.Proofs.Ytbhepdlcnfcfgaa
set_option linter.unusedSimpArgs false
set_option linter.unusedVariables false
open Go.RowKit

/-- The state of a space in block b: its texts, its queue, its quota; what is used is within the quota. -/
structure St (w : World) (b base : Nat) (p h : ByteArray) (q : Value) (k : Int) (l : List It) : Prop where
  sp : Sp w b p h q k
  qu : Qu w base q l
  inv : ((p.size + h.size + tot l : Nat) : Int) ≤ k
  kle : k ≤ 1073741824
  len : l.length ≤ 5864062014805

theorem St.to {w w' : World} {b base : Nat} {p h : ByteArray} {q : Value} {k : Int} {l : List It} (s : St w b base p h q k l) (hb : Below w.heap.size w w') : St w' b base p h q k l :=
  ⟨bl_sp hb s.sp, bl_qu hb s.qu, s.inv, s.kle, s.len⟩

/-- What a method that turns the texts leaves, its answer being c: the texts p and h, if they fit; else p0 and h0, as they were. -/
def PostC (w : World) (b base : Nat) (q : Value) (k : Int) (l : List It) (p0 h0 p h : ByteArray) (c : Int) (w' : World) : Prop :=
  Fr (fun i => i = b) w w' ∧
  ((((p.size + h.size + tot l : Nat) : Int) ≤ k ∧ c = 0 ∧ St w' b base p h q k l) ∨
   (k < ((p.size + h.size + tot l : Nat) : Int) ∧ c = 180 ∧ St w' b base p0 h0 q k l))
def Post (w : World) (b base : Nat) (q : Value) (k : Int) (l : List It) (p0 h0 p h : ByteArray) (e : Ending) (w' : World) : Prop :=
  ∃ c, e = .returned (.int .i64 c) ∧ PostC w b base q k l p0 h0 p h c w'

theorem PostC.from {w W : World} {b base : Nat} {q : Value} {k : Int} {l : List It} {p0 h0 p h : ByteArray} {c : Int} {w' : World} (hb : Below w.heap.size w W) (hp : PostC W b base q k l p0 h0 p h c w') : PostC w b base q k l p0 h0 p h c w' :=
  ⟨(Fr.ofBelow (fun i => i = b) hb).trans hp.1 (fun _ _ e => e), hp.2⟩

theorem turn_any (f : Nat) (caps : Array Value) (b base : Nat) (p0 h0 p h : ByteArray) (q : Value) (k more : Int) (l : List It) (w : World)
    (hcf : ∀ args w, (callFunc f args).run Try.prog w = .ok (.enter f args) w)
    (s : St w b base p0 h0 q k l) (hm : more = ((p.size + h.size : Nat) : Int) - ((p0.size + h0.size : Nat) : Int))
    (H : ∀ w1, Below w.heap.size w w1 → Calls Try.prog f (#[.pointer (some ⟨b, 0, none⟩)] ++ caps) w1 fun e w' => e = .returned (.tuple #[]) ∧ Did w1 w' b p h q k) :
    Calls Try.prog 32 #[.pointer (some ⟨b, 0, none⟩), .int .i64 more, .func (.func f) #[] caps] w (Post w b base q k l p0 h0 p h) := by
  have i1 := s.inv
  have i2 := s.kle
  have i3 := s.len
  by_cases hf : ((p.size + h.size + tot l : Nat) : Int) ≤ k
  · refine (turn_yes f caps b base p0 h0 q k more l w (fun w' => Fr (fun i => i = b) w w' ∧ St w' b base p h q k l) hcf s.sp s.qu (by omega) (by omega) (by omega) (by omega) (by omega) ?_).mono ?_
    · intro w1 h1
      refine (H w1 h1).mono ?_
      intro e w' ⟨he, hd⟩
      have hfr : Fr (fun i => i = b) w w' := (Fr.ofBelow (fun i => i = b) h1).trans hd.2 (fun _ _ e => e)
      exact ⟨he, hfr, hd.1, hfr.qu s.qu (fun i hi e => own_ne s.sp s.qu (by rw [hi, e])), hf, i2, i3⟩
    · intro e w' ⟨he, hfr, hs⟩
      exact ⟨0, he, hfr, .inl ⟨hf, rfl, hs⟩⟩
  · refine (turn_no f caps b base p0 h0 q k more l w s.sp s.qu (by omega) (by omega) (by omega) (by omega) (by omega)).mono ?_
    intro e w' ⟨he, hb⟩
    exact ⟨180, he, Fr.ofBelow _ hb, .inr ⟨by omega, rfl, s.to hb⟩⟩

theorem cf33 (args : Array Value) (w : World) : (callFunc 33 args).run Try.prog w = .ok (.enter 33 args) w := by kernel_rfl
theorem cf34 (args : Array Value) (w : World) : (callFunc 34 args).run Try.prog w = .ok (.enter 34 args) w := by kernel_rfl
theorem cf35 (args : Array Value) (w : World) : (callFunc 35 args).run Try.prog w = .ok (.enter 35 args) w := by kernel_rfl
theorem cf36 (args : Array Value) (w : World) : (callFunc 36 args).run Try.prog w = .ok (.enter 36 args) w := by kernel_rfl
theorem cf37 (args : Array Value) (w : World) : (callFunc 37 args).run Try.prog w = .ok (.enter 37 args) w := by kernel_rfl
theorem cf38 (args : Array Value) (w : World) : (callFunc 38 args).run Try.prog w = .ok (.enter 38 args) w := by kernel_rfl
theorem cf40 (args : Array Value) (w : World) : (callFunc 40 args).run Try.prog w = .ok (.enter 40 args) w := by kernel_rfl
theorem cf41 (args : Array Value) (w : World) : (callFunc 41 args).run Try.prog w = .ok (.enter 41 args) w := by kernel_rfl
theorem cf43 (args : Array Value) (w : World) : (callFunc 43 args).run Try.prog w = .ok (.enter 43 args) w := by kernel_rfl

/-- A region that draws, all of whose operations but the last ones only read: walked once, in the text's order, in a world that is a letter. -/
theorem region_tail {id : Nat} {Q : Exit → Act → World → Prop} {a : Act} {w : World} {l : List Oper} (n : Nat) (hm : Try.prog.follows .mixedOrders = true) (hB : Region.lexTailB .any l.toArray n = true)
    (h : ∀ W : World, Below w.heap.size w W → wpStill Try.prog l.toArray W (fun a' => wpList Try.prog l.toArray Q (l.drop n) a' W) (l.take n) a) : (Code.region id l.toArray true).wp Try.prog Q a w :=
  wp_region_still_tail n hm hB (h _ ((Below.refl _ _).drew))

theorem Pattern_st {w : World} {b base : Nat} {p h : ByteArray} {q : Value} {k : Int} {l : List It} (s : St w b base p h q k l) :
    Calls Try.prog 16 #[.pointer (some ⟨b, 0, none⟩)] w fun e w' => e = .returned (.string p) ∧ w' = w := (Pattern_any b p h q k w s.sp).mono fun _ _ hd => ⟨hd.1, hd.2.symm⟩
theorem Hold_st {w : World} {b base : Nat} {p h : ByteArray} {q : Value} {k : Int} {l : List It} (s : St w b base p h q k l) :
    Calls Try.prog 15 #[.pointer (some ⟨b, 0, none⟩)] w fun e w' => e = .returned (.string h) ∧ w' = w := (Hold_any b p h q k w s.sp).mono fun _ _ hd => ⟨hd.1, hd.2.symm⟩

set_option maxHeartbeats 800000 in
theorem Set_st (b base : Nat) (p h t : ByteArray) (q : Value) (k : Int) (l : List It) (w : World) (s : St w b base p h q k l) (ht : t.size ≤ 140737488355328) :
    Calls Try.prog 11 #[.pointer (some ⟨b, 0, none⟩), .string t] w (Post w b base q k l p h t h) := by
  have i1 := s.inv
  have i2 := s.kle
  have HS := Lib.hid s
  have hw := wrap_in ((t.size : Int) - p.size) (by omega) (by omega)
  clear s
  go_enter Try.func11, Try.ntmps11
  go_wp2
  refine region_tail 8 (by kernel_rfl) (by kernel_rfl) (fun W hW0 => ?_)
  have hW : Below w.heap.size w W := bl_to ((Below.refl _ _).alloc (Nat.le_refl _) _) hW0
  have hc1 : W.cell? ⟨w.heap.size, 0, none⟩ = some (.string t) := bl_cell hW0 (by simp [World.cell?_alloc_new])
  have HW := Lib.hid hW
  have HSW := Lib.hid (HS.out.to hW)
  clear hW hW0
  simp only [List.take_succ_cons, List.take_zero, List.drop_succ_cons, List.drop_zero]
  repeat (first | still_step | still_call (Pattern_st HSW.out))
  refine wpStill_nil ?_
  have HC1 := Lib.hid hc1
  clear hw hc1
  go_wp2_with (go_at_call 32; refine (turn_any 33 #[.pointer (some ⟨w.heap.size, 0, none⟩)] b base p h t h q k _ l _ cf33 HSW.out (by omega) (fun w1 h1 => set1 b w.heap.size p h t q k w1 (bl_sp h1 HSW.out.sp) (bl_cell h1 HC1.out))).mono ?_; rintro e w1 ⟨c, rfl, hp⟩; have hp := hp.from HW.out)
  go_ret
  exact ⟨c, rfl, hp⟩

set_option maxHeartbeats 800000 in
theorem Put_st (b base : Nat) (p h : ByteArray) (q : Value) (k : Int) (l : List It) (w : World) (s : St w b base p h q k l) :
    Calls Try.prog 12 #[.pointer (some ⟨b, 0, none⟩)] w (Post w b base q k l p h p p) := by
  have i1 := s.inv
  have i2 := s.kle
  have HS := Lib.hid s
  have hw := wrap_in ((p.size : Int) - h.size) (by omega) (by omega)
  clear s
  go_enter Try.func12, Try.ntmps12
  go_wp2_with (first
    | (go_at_call 16; refine (Pattern_st HS.out).mono ?_; rintro e w' ⟨rfl, rfl⟩)
    | (go_at_call 15; refine (Hold_st HS.out).mono ?_; rintro e w' ⟨rfl, rfl⟩)
    | (go_at_call 32; refine (turn_any 34 #[] b base p h p p q k _ l _ cf34 HS.out (by omega) (fun w1 h1 => put1 b p h q k w1 (bl_sp h1 HS.out.sp))).mono ?_; rintro e w1 ⟨c, rfl, hp⟩))
  go_ret
  exact ⟨c, rfl, hp⟩

set_option maxHeartbeats 800000 in
theorem Get_st (b base : Nat) (p h : ByteArray) (q : Value) (k : Int) (l : List It) (w : World) (s : St w b base p h q k l) :
    Calls Try.prog 24 #[.pointer (some ⟨b, 0, none⟩)] w (Post w b base q k l p h h h) := by
  have i1 := s.inv
  have i2 := s.kle
  have HS := Lib.hid s
  have hw := wrap_in ((h.size : Int) - p.size) (by omega) (by omega)
  clear s
  go_enter Try.func24, Try.ntmps24
  go_wp2_with (first
    | (go_at_call 16; refine (Pattern_st HS.out).mono ?_; rintro e w' ⟨rfl, rfl⟩)
    | (go_at_call 15; refine (Hold_st HS.out).mono ?_; rintro e w' ⟨rfl, rfl⟩)
    | (go_at_call 32; refine (turn_any 41 #[] b base p h h h q k _ l _ cf41 HS.out (by omega) (fun w1 h1 => get1 b p h q k w1 (bl_sp h1 HS.out.sp))).mono ?_; rintro e w1 ⟨c, rfl, hp⟩))
  go_ret
  exact ⟨c, rfl, hp⟩

set_option maxHeartbeats 800000 in
theorem Swap_st (b base : Nat) (p h : ByteArray) (q : Value) (k : Int) (l : List It) (w : World) (s : St w b base p h q k l) :
    Calls Try.prog 23 #[.pointer (some ⟨b, 0, none⟩)] w (Post w b base q k l p h h p) := by
  have i1 := s.inv
  have i2 := s.kle
  have HS := Lib.hid s
  clear s
  go_enter Try.func23, Try.ntmps23
  go_wp2_with (first
    | (go_at_call 16; refine (Pattern_st HS.out).mono ?_; rintro e w' ⟨rfl, rfl⟩)
    | (go_at_call 15; refine (Hold_st HS.out).mono ?_; rintro e w' ⟨rfl, rfl⟩)
    | (go_at_call 32; refine (turn_any 40 #[] b base p h h p q k _ l _ cf40 HS.out (by omega) (fun w1 h1 => swap1 b p h q k w1 (bl_sp h1 HS.out.sp))).mono ?_; rintro e w1 ⟨c, rfl, hp⟩))
  go_ret
  exact ⟨c, rfl, hp⟩

set_option maxHeartbeats 800000 in
theorem PutMore_st (b base : Nat) (p h : ByteArray) (q : Value) (k : Int) (l : List It) (w : World) (s : St w b base p h q k l) :
    Calls Try.prog 13 #[.pointer (some ⟨b, 0, none⟩)] w (Post w b base q k l p h p (joined h p)) := by
  have i1 := s.inv
  have i2 := s.kle
  have HS := Lib.hid s
  clear s
  go_enter Try.func13, Try.ntmps13
  go_wp2_with (first
    | (go_at_call 16; refine (Pattern_st HS.out).mono ?_; rintro e w' ⟨rfl, rfl⟩)
    | (go_at_call 15; refine (Hold_st HS.out).mono ?_; rintro e w' ⟨rfl, rfl⟩)
    | (go_at_call 32; refine (turn_any 35 #[] b base p h p (joined h p) q k _ l _ cf35 HS.out (by rw [joined_size]; omega) (fun w1 h1 => putMore1 b p h q k w1 (bl_sp h1 HS.out.sp) (by omega))).mono ?_; rintro e w1 ⟨c, rfl, hp⟩))
  go_ret
  exact ⟨c, rfl, hp⟩

set_option maxHeartbeats 800000 in
theorem GetMore_st (b base : Nat) (p h : ByteArray) (q : Value) (k : Int) (l : List It) (w : World) (s : St w b base p h q k l) :
    Calls Try.prog 14 #[.pointer (some ⟨b, 0, none⟩)] w (Post w b base q k l p h (joined p h) h) := by
  have i1 := s.inv
  have i2 := s.kle
  have HS := Lib.hid s
  clear s
  go_enter Try.func14, Try.ntmps14
  go_wp2_with (first
    | (go_at_call 16; refine (Pattern_st HS.out).mono ?_; rintro e w' ⟨rfl, rfl⟩)
    | (go_at_call 15; refine (Hold_st HS.out).mono ?_; rintro e w' ⟨rfl, rfl⟩)
    | (go_at_call 32; refine (turn_any 36 #[] b base p h (joined p h) h q k _ l _ cf36 HS.out (by rw [joined_size]; omega) (fun w1 h1 => getMore1 b p h q k w1 (bl_sp h1 HS.out.sp) (by omega))).mono ?_; rintro e w1 ⟨c, rfl, hp⟩))
  go_ret
  exact ⟨c, rfl, hp⟩

set_option maxHeartbeats 800000 in
theorem Join_st (b base : Nat) (p h t : ByteArray) (q : Value) (k : Int) (l : List It) (w : World) (s : St w b base p h q k l) (ht : t.size ≤ 140737488355328) :
    Calls Try.prog 17 #[.pointer (some ⟨b, 0, none⟩), .string t] w (Post w b base q k l p h (joined p t) h) := by
  have i1 := s.inv
  have i2 := s.kle
  have HS := Lib.hid s
  clear s
  have hW : Below w.heap.size w (w.alloc (.cells #[.string t] 9)) := (Below.refl _ _).alloc (Nat.le_refl _) _
  have HC1 := Lib.hid (show (w.alloc (.cells #[.string t] 9)).cell? ⟨w.heap.size, 0, none⟩ = some (.string t) by simp [World.cell?_alloc_new])
  have HSW := Lib.hid (HS.out.to hW)
  have HW := Lib.hid hW
  clear hW
  go_enter Try.func17, Try.ntmps17
  go_wp2_with (first
    | (go_at_call 32; refine (turn_any 37 #[.pointer (some ⟨w.heap.size, 0, none⟩)] b base p h (joined p t) h q k _ l _ cf37 HSW.out (by rw [joined_size]; omega) (fun w1 h1 => join1 b w.heap.size p h t q k w1 (bl_sp h1 HSW.out.sp) (by omega) (bl_cell h1 HC1.out))).mono ?_; rintro e w1 ⟨c, rfl, hp⟩; have hp := hp.from HW.out))
  go_ret
  exact ⟨c, rfl, hp⟩

end Go.Proofs.Ytbhepdlcnfcfgaa
