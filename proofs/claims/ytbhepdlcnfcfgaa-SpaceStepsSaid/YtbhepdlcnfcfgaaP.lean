/- Push's closure. -/
import Derived.Test.YtbhepdlcnfcfgaaB
import Derived.Deep.AppendLies
import Derived.Deep.RegionLaw
namespace Go.Proofs.Ytbhepdlcnfcfgaa
set_option linter.unusedSimpArgs false
set_option linter.unusedVariables false
open Go.RowKit

theorem Try.info35 : (Try.prog.info? 35).map (fun i => (i.zero, i.size, i.bytes)) = some (some (.agg #[.int .u8 0, .string ⟨#[]⟩]), 2, 24) := by kernel_rfl

theorem Qu.drew {w : World} {base q l} (h : Qu w base q l) : Qu w.drew base q l := h
theorem Qu.alloc {w : World} {base q l} (h : Qu w base q l) (o : Obj) : Qu (w.alloc o) base q l := World.ownsRow.alloc h o
theorem Qu.snoc {w : World} {base : Nat} {q : Value} {l : List It} {n : Nat} {k : Int} {t : ByteArray} (hn : n = l.length + 1) (h : w.ownsRow base 35 2 q n (icells l ++ [.int .u8 k, .string t])) : Qu w base q (l ++ [(k, t)]) := by
  subst hn
  unfold Qu
  rw [icells_append, List.length_append]
  exact h

/-- What Push's closure leaves. -/
def Pushed (w w' : World) (b base : Nat) (p h : ByteArray) (q : Value) (k : Int) (l : List It) : Prop :=
  ∃ q', Sp w' b p h q' k ∧ Qu w' base q' l ∧ Fr (fun i => i = b ∨ q.ownBlock = some i) w w' ∧ (q'.ownBlock = q.ownBlock ∨ ∃ g, q'.ownBlock = some g ∧ w.heap.size ≤ g)

theorem Fr.ofGrown {w w' : World} {row : Option Nat} (h : w.grownBy w' row) : Fr (fun i => row = some i) w w' := ⟨h.os, h.tape, h.output, h.size, fun k hk hn => h.block k hk (fun e => hn e.symm)⟩
theorem cells_two (w : World) (x y : Value) (t : TypeId) : ∀ j u, [x, y][j]? = some u → (w.alloc (.cells #[x, y] t)).cell? ((⟨w.heap.size, 0, none⟩ : Addr).add j) = some u := fun j u hu => by
  have hb : (w.alloc (.cells #[x, y] t)).heap[w.heap.size]? = some (.cells #[x, y] t (0, 0)) := heap_alloc_new w _
  exact World.news_of_block hb j u hu

theorem own_ne {w : World} {b base : Nat} {p h : ByteArray} {q : Value} {k : Int} {v : Value} {n : Nat} {xs : List Value} (s : Sp w b p h q k) (ho : w.ownsRow base 35 2 v n xs) : v.ownBlock ≠ some b := by
  rcases ho.2 with ⟨rfl, _⟩ | ⟨g, cap, cur, rfl, _, hg, _⟩
  · simp [Value.ownBlock]
  · intro e
    simp only [Value.ownBlock, Option.some.injEq] at e
    subst e
    simp only [Sp] at s
    rw [s] at hg
    simp at hg

theorem push_close {w w1 : World} {b base g cap : Nat} {p h : ByteArray} {q : Value} {k : Int} {l : List It} {xk : Int} {xt : ByteArray} (hs : Sp w1 b p h q k)
    (ho : w1.ownsRow base 35 2 (.slice (some ⟨g, 0, none⟩) (l.length + 1) cap) (l.length + 1) (icells l ++ [.int .u8 xk, .string xt])) (hat : q.ownBlock = some g ∨ g = w.heap.size + 1) (hf : Fr (fun i => q.ownBlock = some i) w w1) :
    Pushed w (w1.setCell ⟨b, 2, none⟩ (.slice (some ⟨g, 0, none⟩) (l.length + 1) cap)) b base p h q k (l ++ [(xk, xt)]) := by
  refine ⟨_, sp_set2 hs _, Qu.snoc rfl (ownsRow_setCell_other ho (own_ne hs ho) _), ?_, ?_⟩
  · exact Fr.setCell (S := fun i => i = b ∨ q.ownBlock = some i) (hf.mono fun i _ hi => .inr hi) (.inl rfl) _
  · rcases hat with hat | hat
    · exact .inl (by rw [hat]; rfl)
    · exact .inr ⟨g, rfl, by omega⟩

set_option maxHeartbeats 800000 in
theorem push1 (b c base : Nat) (p h : ByteArray) (q : Value) (k : Int) (l : List It) (xk : Int) (xt : ByteArray) (w : World) (hb : Sp w b p h q k) (hq : Qu w base q l) (hbase : base ≤ w.heap.size) (hn : (l.length + 1) * 24 ≤ 140737488355328)
    (hbq : q.ownBlock ≠ some b) (hc0 : w.cell? ⟨c, 0, none⟩ = some (.int .u8 xk)) (hc1 : w.cell? ⟨c, 1, none⟩ = some (.string xt)) :
    Calls Try.prog 38 #[.pointer (some ⟨b, 0, none⟩), .pointer (some ⟨c, 0, none⟩)] w fun e w' => e = .returned (.tuple #[]) ∧ Pushed w w' b base p h q k (l ++ [(xk, xt)]) := by
  have h2 := hb.c2
  have f2 := hb.fr 2
  have h2a : ∀ o, (w.alloc o).cell? ⟨b, 2, none⟩ = some q := fun o => by rw [World.cell?_alloc_past _ _ _ hb.lt]; exact h2
  have HB := Lib.hid hb
  have HQ := Lib.hid hq
  have HBQ := Lib.hid hbq
  clear hb hq hbq
  obtain ⟨i0, hi, hz0, hz1, hz2⟩ := info_parts Try.info35
  have hl63 : l.length + 1 ≤ maxLen := by unfold maxLen; omega
  go_enter Try.func38, Try.ntmps38
  go_wp2
  go_region_law (refine step_append_lies _ rfl (.tmp 7) (.tmp 9) 31 rfl base 35 i0 (.agg #[.int .u8 0, .string ⟨#[]⟩]) 2 24 Try.underlying31 hi hz0 hz1 hz2 rfl (by decide) q l.length (icells l) (by simp [Act.eval, Act.put]) (Qu.alloc HQ.out _) ⟨w.heap.size, 0, none⟩ 1 1 [.int .u8 xk, .string xt] (by simp [Act.eval, Act.put]) rfl (cells_two w.drew _ _ 35) (by intro u hu; simp at hu; rcases hu with rfl | rfl <;> rfl) (by omega) hl63 hn (by simp; omega) (w.heap.size + 1) (by simp) (fun g cap w1 hown hgrow hat hlt => ?_); have hfr := (((Fr.refl (fun i => q.ownBlock = some i) w).drew).alloc _).trans (Fr.ofGrown hgrow) (fun i _ hi => hi); have hs1 := hfr.sp HB.out HBQ.out; have k2 := hs1.c2; have k3 := hs1.fr 2; have HS1 := Lib.hid hs1; clear hs1; have HOWN := Lib.hid hown; clear hown; have HAT := Lib.hid hat; clear hat; have HFR := Lib.hid hfr; clear hfr hgrow)
  all_goals (go_end0; exact ⟨rfl, push_close HS1.out HOWN.out HAT.out HFR.out⟩)

end Go.Proofs.Ytbhepdlcnfcfgaa
