/- ArgsLetters: every input. -/
import Derived.Test.YtbigolappdlhcaaZK
namespace Go.Proofs.Ytbigolappdlhcaa
set_option linter.unusedSimpArgs false
set_option linter.unusedVariables false
open Go.RowKit Go.Deep Go.ChangeShapes Go.WideShapes

set_option maxRecDepth 100000 in
set_option maxHeartbeats 3200000 in
theorem letters_any (bs : List UInt8) (yv : Value) (v : Value) (l : List ByteArray) (w : World) (hy : Yx w yv bs) (hyl : bs.length ≤ 140737488355000) (hl : Ls w v l) : Calls Try.prog 6 #[yv, v] w fun e w' => e = .returned (.bool true) ∧ Below w.heap.size w w' := by
  by_cases hne : bs = []
  · subst hne
    obtain ⟨la, lcap, rfl, _⟩ := id hl.tz.tx
    obtain ⟨ya, ycap, rfl, hyc, _⟩ := id hy
    clear hy hl
    go_enter Try.func6, Try.ntmps6
    go_wp2_with fail
    refine (begins_any _).mono ?_
    rintro e w1 ⟨rfl, hb1⟩
    go_wp2_with fail
    go_ret
    exact ⟨rfl, hb1⟩
  · by_cases hsm : bs.length + l.length ≤ 65536
    · exact letters_core bs yv v l w hy hl hne hsm
    · obtain ⟨la, lcap, rfl, _⟩ := id hl.tz.tx
      obtain ⟨ya, ycap, rfl, hyc, _⟩ := id hy
      have hln := hl.ln
      have hn0 : 0 < bs.length := List.length_pos_iff.2 hne
      have z0 : ((bs.length : Int) == 0) = false := by simp; omega
      have hw := wrap_in ((bs.length : Int) + (l.length : Int)) (by omega) (by omega)
      have z1 : decide ((65536 : Int) < (bs.length : Int) + (l.length : Int)) = true := decide_eq_true (by omega)
      clear hy hl hsm hne
      go_enter Try.func6, Try.ntmps6
      go_wp2_with fail
      refine (begins_any _).mono ?_
      rintro e w1 ⟨rfl, hb1⟩
      go_wp2_with fail
      go_ret
      exact ⟨rfl, hb1⟩

section
variable {H : Type} {enc : TypeId × Value → H} {w : World} {base : Nat} {spare : Nat → Bool} {held : Bool}
theorem c5 : Try.prog.cellsOf 5 = 1 := by kernel_rfl
theorem b5 : Try.prog.bytesOf 5 = 1 := by kernel_rfl
def byteDat {H : Type} (b : UInt8) : DataW H := .lit (.int .u8 b.toNat)
theorem byte_el (n : Nat) (cs : List Value) (x : DataW H × List MemPlace) (h : DataW.trod enc Try.prog w base spare held n 5 cs = some x) :
    ∃ b : UInt8, cs = [Value.int .u8 b.toNat] ∧ x.1 = byteDat b ∧ True := by
  obtain ⟨m, e, rfl, hw⟩ := DataW.trod_int Try.underlying5 h
  have h1 : 0 ≤ m ∧ m ≤ 255 := by
    simp [Lit.wf, IntKind.min, IntKind.max, IntKind.bits, IntKind.signed] at hw
    omega
  obtain ⟨k, rfl⟩ : ∃ k : Nat, m = (k : Int) := ⟨m.toNat, by omega⟩
  have hk : (UInt8.ofNat k).toNat = k := by simp; omega
  exact ⟨UInt8.ofNat k, by rw [hk]; exact e, by unfold byteDat; rw [hk], trivial⟩
theorem flat_bytes (l : List UInt8) : l.flatMap (fun t => [Value.int .u8 t.toNat]) = l.map (fun t => Value.int .u8 t.toNat) := by
  induction l with
  | nil => rfl
  | cons a r ih => rw [List.flatMap_cons, ih]; rfl
theorem open_bytes {v : Value} {d : DataW H} {p : List MemPlace} (h : DataW.Trod enc Try.prog w base spare held 41 v d p) (hsz : ∀ n ∈ d.weights Try.prog 41, n ≤ reachBytes) (hv : ∃ a0 len cap, v = .slice a0 len cap) :
    ∃ l : List UInt8, Yx w v l ∧ l.length ≤ 140737488355000 := by
  obtain ⟨a0, len, cap, rfl⟩ := hv
  have hfit : len ≤ cap := by
    obtain ⟨fuel, hf⟩ := h
    rcases open_slice Try.underlying41 hf with ⟨hcs, hx⟩ | ⟨a, len, cap, m, n, D, Pl, hcs, hb, hl, hm, hmm, hx, hall⟩
    · simp [Value.cells] at hcs
      obtain ⟨rfl, rfl, rfl⟩ := hcs
      exact Nat.le_refl _
    · simp [Value.cells] at hcs
      obtain ⟨rfl, rfl, rfl⟩ := hcs
      exact hl
  obtain ⟨l, hr, hall, hd⟩ := rd_of_trod (v := .slice a0 len cap) (d := d) (p := p) Try.underlying41 c5 (by omega) (fun t : UInt8 => [Value.int .u8 t.toNat]) byteDat (fun _ => True) (fun _ => rfl) byte_el ⟨_, _, _, rfl⟩ h
  rw [flat_bytes] at hr
  have h2 : reachBytes = 140737488351232 := rfl
  rw [h2] at hsz
  refine ⟨l, ?_, ?_⟩
  · obtain ⟨_, ao, cap', e, hc⟩ := hr
    simp only [Value.slice.injEq] at e
    obtain ⟨rfl, rfl, rfl⟩ := e
    refine ⟨_, _, rfl, hfit, fun hn => ?_⟩
    obtain ⟨b, off, rfl, hbl, hcc⟩ := hc hn
    exact ⟨b, off, rfl, hbl, fun i hi => hcc i _ (by simp [hi])⟩
  · rcases hd with ⟨_, rfl⟩ | ⟨sp, rfl⟩
    · simp
    · have := hsz (((l.map (byteDat (H := H))).length + sp.length) * Try.prog.bytesOf 5) (by simp [DataW.weights, Try.underlying41])
      rw [b5, List.length_map] at this
      omega
end
end Go.Proofs.Ytbigolappdlhcaa
