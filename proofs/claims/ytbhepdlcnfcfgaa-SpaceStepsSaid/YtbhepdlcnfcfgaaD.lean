/- Drop. -/
import Derived.Test.YtbhepdlcnfcfgaaQ
import Derived.Deep.RegionWith
namespace Go.Proofs.Ytbhepdlcnfcfgaa
set_option linter.unusedSimpArgs false
set_option linter.unusedVariables false
open Go.RowKit

set_option maxHeartbeats 800000 in
theorem Drop_st (b base : Nat) (p h : ByteArray) (q : Value) (k : Int) (l : List It) (w : World) (s : St w b base p h q k l) :
    Calls Try.prog 26 #[.pointer (some ⟨b, 0, none⟩)] w (DropPost w b base q k l p h) := by
  have i1 := s.inv
  have i2 := s.kle
  have hs : p.size ≤ 9223372036854775806 := by omega
  have hrl := rest_le p
  have HS := Lib.hid s
  have hw := wrap_in (((rest p).size : Int) - p.size) (by omega) (by omega)
  clear s
  go_enter Try.func26, Try.ntmps26
  go_wp2_with (first
    | (go_at_call 16; refine (Pattern_any b p h q k _ HS.out.sp).mono ?_; rintro e w' ⟨rfl, rfl⟩)
    | (go_at_call 42; refine (Cut_nl p _ hs).mono ?_; rintro e w1 ⟨rfl, hb⟩))
  have hW : Below w.heap.size w (w1.alloc (.cells #[.string (rest p)] 9)).drew := (bl_to hb ((Below.refl _ _).alloc (Nat.le_refl _) _)).drew
  have hc1 : (w1.alloc (.cells #[.string (rest p)] 9)).drew.cell? ⟨w1.heap.size, 0, none⟩ = some (.string (rest p)) := by simp [World.cell?_alloc_new]
  have HW := Lib.hid hW
  have HSW := Lib.hid (HS.out.to hW)
  have HC1 := Lib.hid hc1
  clear hW hb hc1
  go_region_with (first
    | (go_at_call 16; refine (Pattern_any b p h q k _ HSW.out.sp).mono ?_; rintro e w' ⟨rfl, rfl⟩)
    | (go_at_call 32; refine (turn_any 43 #[.pointer (some ⟨w1.heap.size, 0, none⟩)] b base p h (rest p) h q k _ l _ cf43 HSW.out (by omega) (fun w2 h1 => drop1 b w1.heap.size p h (rest p) q k w2 (bl_sp h1 HSW.out.sp) (bl_cell h1 HC1.out))).mono ?_; rintro e w2 ⟨c, rfl, hp⟩; have hp := hp.from HW.out))
  all_goals
    go_wp2
    go_ret2
    obtain ⟨hf, ⟨_, rfl, hst⟩ | ⟨hno, _, _⟩⟩ := hp
    · exact ⟨rfl, hf, hst⟩
    · omega

end Go.Proofs.Ytbhepdlcnfcfgaa
