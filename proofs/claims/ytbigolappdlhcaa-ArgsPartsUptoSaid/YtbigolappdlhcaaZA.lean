/- A list of arguments that came in; copied. -/
import Derived.Test.YtbigolappdlhcaaW
import Derived.Test.YtbigolappdlhcaaN
import Derived.Test.YtbigolappdlhcaaY
namespace Go.Proofs.Ytbigolappdlhcaa
set_option linter.unusedSimpArgs false
set_option linter.unusedVariables false
open Go.RowKit Go.Deep Go.ChangeShapes Go.WideShapes

/-- What is known of a list of arguments. -/
structure Ls (w : World) (v : Value) (l : List ByteArray) : Prop where
  tz : Tz w v l
  sz : ∀ s ∈ l, s.size ≤ 140737488351232
  ln : l.length * 16 ≤ 140737488355000
theorem Tz.to {w w' : World} {v : Value} {l : List ByteArray} (h : Tz w v l) (hb : Below w.heap.size w w') : Tz w' v l := ⟨h.tx.to hb, h.le⟩
theorem Ls.to {w w' : World} {v : Value} {l : List ByteArray} (h : Ls w v l) (hb : Below w.heap.size w w') : Ls w' v l := ⟨h.tz.to hb, h.sz, h.ln⟩

section
variable {H : Type} {enc : TypeId × Value → H} {w : World} {base : Nat} {spare : Nat → Bool} {held : Bool}
theorem weights_str (l : List ByteArray) : ∀ (t : ByteArray), t ∈ l → t.size ∈ DataW.weightsAll Try.prog 9 (l.map (strDat (H := H))) := by
  induction l with
  | nil => intro t ht; simp at ht
  | cons a r ih =>
    intro t ht
    rw [List.map_cons, DataW.weightsAll]
    rcases List.mem_cons.1 ht with rfl | ht
    · refine List.mem_append_left _ ?_
      simp [strDat, DataW.weights]
    · exact List.mem_append_right _ (ih t ht)
theorem open_list {v : Value} {d : DataW H} {p : List MemPlace} (h : DataW.Trod enc Try.prog w base spare held 25 v d p) (hsz : ∀ n ∈ d.weights Try.prog 25, n ≤ reachBytes) (hv : ∃ a0 len cap, v = .slice a0 len cap) :
    ∃ l : List ByteArray, Ls w v l := by
  obtain ⟨a0, len, cap, rfl⟩ := hv
  have hfit : ∀ ao n c, Value.slice a0 len cap = .slice ao n c → n ≤ c ∧ (ao = none → c = 0) := by
    obtain ⟨fuel, hf⟩ := h
    rcases open_slice Try.underlying25 hf with ⟨hcs, hx⟩ | ⟨a, len, cap, m, n, D, Pl, hcs, hb, hl, hm, hmm, hx, hall⟩
    · simp [Value.cells] at hcs
      obtain ⟨rfl, rfl, rfl⟩ := hcs
      intro ao n c e; simp only [Value.slice.injEq] at e; obtain ⟨rfl, rfl, rfl⟩ := e; exact ⟨Nat.le_refl _, fun _ => rfl⟩
    · simp [Value.cells] at hcs
      obtain ⟨rfl, rfl, rfl⟩ := hcs
      intro ao n c e; simp only [Value.slice.injEq] at e; obtain ⟨rfl, rfl, rfl⟩ := e; exact ⟨hl, fun e => by cases e⟩
  obtain ⟨l, hr, hall, hd⟩ := rd_of_trod (v := .slice a0 len cap) (d := d) (p := p) Try.underlying25 c9 (by omega) (fun t => [Value.string t]) strDat (fun t => t.size ≤ maxLen) (fun _ => rfl) str_el ⟨_, _, _, rfl⟩ h
  rw [flat_strs] at hr
  have h2 : reachBytes = 140737488351232 := rfl
  rw [h2] at hsz
  refine ⟨l, ⟨⟨Tx.ofRd hr, ?_⟩, ?_, ?_⟩⟩
  · exact hfit
  · rcases hd with ⟨_, rfl⟩ | ⟨sp, rfl⟩
    · simp
    · intro s hs
      refine hsz _ ?_
      have := weights_str (H := H) l s hs
      simp only [DataW.weights, Try.underlying25]
      simp [this]
  · rcases hd with ⟨_, rfl⟩ | ⟨sp, rfl⟩
    · simp
    · have := hsz (((l.map (strDat (H := H))).length + sp.length) * Try.prog.bytesOf 9) (by simp [DataW.weights, Try.underlying25])
      rw [b9, List.length_map] at this
      omega
end

/-- A row of one's own is a list of arguments. -/
theorem Tz.ofOwn {w : World} {base : Nat} {v : Value} {l : List ByteArray} (h : Out w base v l) : Tz w v l := by
  refine ⟨Tx.ofOwn h, ?_⟩
  rcases h.2 with ⟨rfl, h0⟩ | ⟨g, cap, cur, rfl, hb, hgg, hle, rest⟩
  · intro ao n c e; simp only [Value.slice.injEq] at e; obtain ⟨rfl, rfl, rfl⟩ := e; exact ⟨by omega, fun _ => rfl⟩
  · intro ao n c e; simp only [Value.slice.injEq] at e; obtain ⟨rfl, rfl, rfl⟩ := e; exact ⟨hle, fun e => by cases e⟩

def CopPost (w : World) (l : List ByteArray) (e : Ending) (w' : World) : Prop := ∃ v, e = .returned v ∧ Out w' w.heap.size v l ∧ Below w.heap.size w w'

set_option maxRecDepth 8000 in
set_option maxHeartbeats 3200000 in
theorem copied_any (v : Value) (l : List ByteArray) (w : World) (h : Ls w v l) : Calls Try.prog 20 #[v] w (CopPost w l) := by
  have HS := Lib.hid h.tz.tx
  have hln := h.ln
  obtain ⟨ao, cap, rfl, hc⟩ := h.tz.tx
  clear hc h
  obtain ⟨i9, hi9, hz90, hz91, hz92⟩ := info_parts info9
  go_enter Try.func20, Try.ntmps20
  go_wp2_with fail
  go_loopw [3, 4] (fun s3 s4 wr => ∃ k : Nat, k ≤ l.length ∧ s4 = .int .i64 k ∧ Out wr w.heap.size s3 (l.take k) ∧ Below w.heap.size w wr) (fun _ s4 _ => l.length - (intOf s4).toNat)
  case atStart => exact ⟨0, Nat.zero_le _, rfl, Out.nil _ _, Below.refl _ _⟩
  case round =>
    obtain ⟨k, hk, rfl, g1, g2⟩ := hrel
    by_cases hlt : k < l.length
    · obtain ⟨_, _, e1, hc1⟩ := HS.out.to g2
      simp only [Value.slice.injEq, true_and] at e1
      obtain ⟨rfl, rfl⟩ := e1
      obtain ⟨b, off, rfl, hbl, hc⟩ := hc1 (by omega)
      have d0 := hc k hlt
      obtain ⟨t, ht⟩ : ∃ t, l[k] = t := ⟨_, rfl⟩
      rw [ht] at d0
      have hlen : (l.take k).length = k := by rw [List.length_take]; omega
      have HTK : Hid (l.take (k + 1) = l.take k ++ [t]) := by show _ = _; rw [take_snoc _ _ hlt, ht]
      have HO := Lib.hid g1
      have HW := Lib.hid g2
      have HL := Lib.hid hlen
      have hk1 : (k : Int) < (l.length : Int) := by omega
      have h63 : (l.take k).length + 1 ≤ maxLen := by rw [hlen]; unfold maxLen; omega
      have hby : ((l.take k).length + 1) * 16 ≤ 140737488355328 := by rw [hlen]; omega
      have hbs := g2.size
      clear hc1 hc ht g1 g2 hlen
      go_wp2_with (at_builtin; go_must (refine wpList_append_own _ rfl (.tmp 11) (.tmp 16) 25 rfl w.heap.size 9 i9 (.string ⟨#[]⟩) 1 16 Try.underlying25 hi9 hz90 hz91 hz92 rfl (by decide) _ (l.take k).length ((l.take k).map Value.string) rfl (HO.out.to (bl_alloc _ _)) ⟨wr.heap.size, 0, none⟩ 1 1 [.string t] rfl rfl (cells_one wr (.string t) 9) (by intro u hu; simp at hu; subst hu; rfl) h63 hby (by simp; omega) ?_))
      intro nv w2 hown hgrow hiff
      have hown' : w2.ownsRow w.heap.size 9 1 nv (k + 1) ((l.take k).map Value.string ++ [t].map Value.string) := by rw [List.map_take]; exact hown
      have hg : PO w (l.take k ++ [t]) nv w2 := PO.grow (n := k + 1) (m := [t]) ⟨HO.out, HW.out⟩ (by rw [List.length_append, HL.out]; rfl) (bl_alloc wr _) hgrow hown'
      have HG := Lib.hid hg
      clear hown hown' hgrow hiff hg
      go_wp2_with fail
      go_roundw
      case rel => exact ⟨k + 1, by omega, by go_num, by rw [HTK.out]; exact HG.out.1, HG.out.2⟩
      case measure => simp [intOf]; omega
    · obtain rfl : k = l.length := by omega
      rw [List.take_of_length_le (Nat.le_refl _)] at g1
      have h1 : ¬ (l.length : Int) < (l.length : Int) := by omega
      have HO := Lib.hid g1
      have HW := Lib.hid g2
      clear g1 g2
      go_wp2_with fail
      go_ret
      exact ⟨_, rfl, HO.out, HW.out⟩
end Go.Proofs.Ytbigolappdlhcaa
