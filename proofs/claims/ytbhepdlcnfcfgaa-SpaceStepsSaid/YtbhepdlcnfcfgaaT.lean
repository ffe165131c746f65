/- turn: at whatever function value. -/
import Derived.Test.YtbhepdlcnfcfgaaA
namespace Go.Proofs.Ytbhepdlcnfcfgaa
set_option linter.unusedSimpArgs false
set_option linter.unusedVariables false
open Go.RowKit

theorem bl_to {w0 W w1 : World} (h : Below w0.heap.size w0 W) (hb : Below W.heap.size W w1) : Below w0.heap.size w0 w1 := h.trans (hb.mono h.size)
theorem bl_cell {W w1 : World} {a : Addr} {v : Value} (hb : Below W.heap.size W w1) (hc : W.cell? a = some v) : w1.cell? a = some v := (hb.cell (World.block_lt_of_cell? W a hc)).trans hc
theorem bl_sp {W w1 : World} {b p h q k} (hb : Below W.heap.size W w1) (hs : Sp W b p h q k) : Sp w1 b p h q k := (hb.block b hs.lt).trans hs
theorem bl_qu {W w1 : World} {base q l} (hb : Below W.heap.size W w1) (hs : Qu W base q l) : Qu w1 base q l :=
  World.ownsRow.kept (row := none) hs ⟨hb.os, hb.tape, hb.output, hb.size, fun k hk _ => hb.block k hk⟩ (by cases q.ownBlock <;> simp)
theorem S_next {w0 W w1 : World} {a : Addr} {v : Value} (h : W.cell? a = some v ∧ Below w0.heap.size w0 W) (hb : Below W.heap.size W w1) : w1.cell? a = some v ∧ Below w0.heap.size w0 w1 :=
  ⟨bl_cell hb h.1, bl_to h.2 hb⟩

theorem wrap_in (n : Int) (h1 : -9223372036854775808 ≤ n) (h2 : n ≤ 9223372036854775807) : IntKind.i64.wrap n = n := IntWalk.i64_in n ⟨h1, h2⟩

set_option maxHeartbeats 800000 in
theorem turn_yes (f : Nat) (caps : Array Value) (b base : Nat) (p h : ByteArray) (q : Value) (k more : Int) (l : List It) (w : World) (R : World → Prop)
    (hcf : ∀ args w, (callFunc f args).run Try.prog w = .ok (.enter f args) w)
    (hb : Sp w b p h q k) (hq : Qu w base q l) (hsum : (p.size + h.size + tot l : Nat) ≤ 4611686018427387904) (hl : l.length ≤ 4611686018427387904) (hk : 0 ≤ k) (hk' : k ≤ 4611686018427387904)
    (hm : more ≤ k - (p.size + h.size + tot l : Nat))
    (H : ∀ w1, Below w.heap.size w w1 → Calls Try.prog f (#[.pointer (some ⟨b, 0, none⟩)] ++ caps) w1 fun e w' => e = .returned (.tuple #[]) ∧ R w') :
    Calls Try.prog 32 #[.pointer (some ⟨b, 0, none⟩), .int .i64 more, .func (.func f) #[] caps] w fun e w' => e = .returned (.int .i64 0) ∧ R w' := by
  have c3 := hb.c3
  have HB := Lib.hid hb
  have HQ := Lib.hid hq
  have hw := wrap_in (k - (p.size + h.size + tot l)) (by omega) (by omega)
  clear hb hq
  go_enter Try.func32, Try.ntmps32
  go_wp2
  go_region_held3 (fun w' => w'.cell? ⟨b, 3, none⟩ = some (.int .i64 k) ∧ Below w.heap.size w w') (first | exact ⟨by simpa using c3, (Below.refl _ _).drew⟩ | exact S_next (by assumption) hb1)
    (first | (go_at_call 19; (refine (Used_any b base p h q k l _ ?_ ?_ hsum hl).mono ?_); (exact bl_sp (And.right (by assumption)) HB.out); (exact bl_qu (And.right (by assumption)) HQ.out); rintro e w1 ⟨rfl, hb1⟩))
  have hbw := And.right (‹w1.cell? ⟨b, 3, none⟩ = some (.int .i64 k) ∧ Below w.heap.size w w1›)
  have HH := H w1 hbw
  clear hw
  go_wp2_with fail
  refine HH.mono ?_
  rintro e w' ⟨rfl, hr⟩
  go_wp2
  go_ret
  exact ⟨rfl, hr⟩

set_option maxHeartbeats 800000 in
theorem turn_no (f : Nat) (caps : Array Value) (b base : Nat) (p h : ByteArray) (q : Value) (k more : Int) (l : List It) (w : World)
    (hb : Sp w b p h q k) (hq : Qu w base q l) (hsum : (p.size + h.size + tot l : Nat) ≤ 4611686018427387904) (hl : l.length ≤ 4611686018427387904) (hk : 0 ≤ k) (hk' : k ≤ 4611686018427387904)
    (hm : k - (p.size + h.size + tot l : Nat) < more) :
    Calls Try.prog 32 #[.pointer (some ⟨b, 0, none⟩), .int .i64 more, .func (.func f) #[] caps] w fun e w' => e = .returned (.int .i64 180) ∧ Below w.heap.size w w' := by
  have c3 := hb.c3
  have HB := Lib.hid hb
  have HQ := Lib.hid hq
  have hw := wrap_in (k - (p.size + h.size + tot l)) (by omega) (by omega)
  clear hb hq
  go_enter Try.func32, Try.ntmps32
  go_wp2
  go_region_held3 (fun w' => w'.cell? ⟨b, 3, none⟩ = some (.int .i64 k) ∧ Below w.heap.size w w') (first | exact ⟨by simpa using c3, (Below.refl _ _).drew⟩ | exact S_next (by assumption) hb1)
    (first | (go_at_call 19; (refine (Used_any b base p h q k l _ ?_ ?_ hsum hl).mono ?_); (exact bl_sp (And.right (by assumption)) HB.out); (exact bl_qu (And.right (by assumption)) HQ.out); rintro e w1 ⟨rfl, hb1⟩))
  have hbw := And.right (‹w1.cell? ⟨b, 3, none⟩ = some (.int .i64 k) ∧ Below w.heap.size w w1›)
  clear hw
  go_wp2_with fail
  go_ret
  exact ⟨rfl, hbw⟩

theorem turn_nil (v f : Value) (w : World) :
    Calls Try.prog 32 #[.pointer none, v, f] w fun e w' => e = .returned (.int .i64 1) ∧ w = w' := by
  go_enter Try.func32, Try.ntmps32
  go_wp2
  go_ret
  exact ⟨rfl, rfl⟩
end Go.Proofs.Ytbhepdlcnfcfgaa
