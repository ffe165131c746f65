/- Arguments put together; the plain laws of names and values. -/
import Derived.Test.YtbigolappdlhcaaZE
namespace Go.Proofs.Ytbigolappdlhcaa
set_option linter.unusedSimpArgs false
set_option linter.unusedVariables false
open Go.RowKit

theorem out_block {w : World} {base b n : Nat} {l : List ByteArray} (hn : n = l.length) (hb : base ≤ b) (hm : n ≤ 200000) (h : w.heap[b]? = some (.cells (l.map Value.string).toArray 9 (0, 0))) : Out w base (.slice (some ⟨b, 0, none⟩) n n) l := by
  subst hn
  refine ⟨by simp, .inr ⟨b, l.length, _, rfl, hb, h, Nat.le_refl _, by unfold maxLen; omega, by simp, ?_⟩⟩
  rw [List.take_of_length_le (by simp)]

/-- Texts behind a row of one's own. -/
theorem wpList_append_texts {w : World} {ops : Array Oper} {rest : List Oper} {o : Oper} {a : Act} {Q : Exit → Act → World → Prop} (hgd : o.guard = none) (s x : Operand)
    (ho : o.op = .call { callee := .builtin .append, args := #[s, x], argTypes := #[25, 25] }) (base : Nat) (v : Value) (l : List ByteArray) (hs : a.eval s = v) (hown : Out w base v l)
    (xv : Value) (m : List ByteArray) (hx : a.eval x = xv) (hT : Tz w xv m) (hl : l.length ≤ 200000) (hm : m.length ≤ 200000) (hbase : base ≤ w.heap.size)
    (h : ∀ v' w', Out w' base v' (l ++ m) → Below base w w' → wpList Try.prog ops Q rest (a.put o.dst v') w') : wpList Try.prog ops Q (o :: rest) a w := by
  obtain ⟨i9, hi9, hz90, hz91, hz92⟩ := info_parts info9
  obtain ⟨ao, cap, rfl, hc⟩ := hT.tx
  have hfit := hT.le _ _ _ rfl
  cases ao with
  | none =>
    have h0 := hfit.2 rfl
    have hm0 : m = [] := List.length_eq_zero_iff.1 (by omega)
    subst h0 hm0
    refine wpList_append_own_none hgd s x 25 ho base 9 i9 1 Try.underlying25 hi9 v l.length (l.map Value.string) hs hown hx (h v w ?_ (Below.refl _ _))
    rw [List.append_nil]; exact hown
  | some ad =>
    refine wpList_append_own _ hgd s x 25 ho base 9 i9 (.string ⟨#[]⟩) 1 16 Try.underlying25 hi9 hz90 hz91 hz92 rfl (by decide) v l.length (l.map Value.string) hs hown ad m.length cap (m.map Value.string) hx (by simp) ?_ (by intro u hu; simp at hu; obtain ⟨x, _, rfl⟩ := hu; rfl) (by unfold maxLen; omega) (by omega) hbase ?_
    · intro j u hu
      have hj : j < m.length := by
        have := (List.getElem?_eq_some_iff.1 hu).1
        simpa using this
      obtain ⟨b, off, hh, hbl, hcc⟩ := hc (by omega)
      simp only [Option.some.injEq] at hh
      subst hh
      have hadd : (⟨b, off, none⟩ : Addr).add j = ⟨b, off + j, none⟩ := by unfold Addr.add; split <;> simp_all
      rw [hadd, hcc j hj, ← hu]
      simp [hj]
    · intro v' w' h1 h2 _
      refine h v' w' (Out.more (by simp) h1) ?_
      exact (Fr.ofGrown h2).toBelow hbase (fun i _ hi => (World.ownsRow.lt hown i hi).1)

/-- The command line of one piece, and names. -/
def oneA (b : Bool) (t : ByteArray) (names : List ByteArray) : Av := ⟨false, false, false, false, ⟨#[]⟩, [(b, t)], names⟩
theorem read_names1 (t : ByteArray) (names : List ByteArray) (h : names.length + 3 ≤ 65536) : readL ([⟨#[45, 101]⟩, t, ⟨#[45, 45]⟩] ++ names) = (some (oneA false t names), 0, 0) := by
  unfold readL
  rw [if_neg (by simp; omega)]
  have h1 : readW ([⟨#[45, 101]⟩, t, ⟨#[45, 45]⟩] ++ names) 0 zeroAv = .inr (3, doOpt zeroAv t 3) := by
    show readW (⟨#[45, 101]⟩ :: t :: (dashes :: names)) 0 zeroAv = _
    rw [read_val 101 3 (by decide) (by decide) rfl rfl, readW_dashes]
    rfl
  rw [h1]
  rfl
theorem read_names2 (t : ByteArray) (names : List ByteArray) (h : names.length + 3 ≤ 65536) : readL ([⟨#[45, 45]⟩, t] ++ names) = (some (oneA false t names), 0, 0) := by
  unfold readL
  rw [if_neg (by simp; omega)]
  have h1 : readW ([⟨#[45, 45]⟩, t] ++ names) 0 zeroAv = .inr (1, zeroAv) := by
    show readW (dashes :: (t :: names)) 0 zeroAv = _
    rw [readW_dashes]
  rw [h1]
  rfl

/-- A long name with a value. -/
theorem findIdx_app (p r : List UInt8) (h : ∀ x ∈ p, (x == 61) = false) : (p ++ 61 :: r).findIdx (· == 61) = p.length := by
  induction p with
  | nil => rfl
  | cons x p ih =>
    rw [List.cons_append, List.findIdx_cons, h x (by simp)]
    simp only [cond_false, List.length_cons]
    rw [ih (fun y hy => h y (by simp [hy]))]
theorem cut_app (p r : List UInt8) (h : ∀ x ∈ p, (x == 61) = false) : nmOf ⟨(p ++ 61 :: r).toArray⟩ = ⟨p.toArray⟩ ∧ valOf ⟨(p ++ 61 :: r).toArray⟩ = ⟨r.toArray⟩ ∧ eqIs ⟨(p ++ 61 :: r).toArray⟩ = true := by
  have he : eqAt ⟨(p ++ 61 :: r).toArray⟩ = p.length := findIdx_app p r h
  have hz : (⟨(p ++ 61 :: r).toArray⟩ : ByteArray).size = p.length + (r.length + 1) := by rw [size_mk]; simp
  refine ⟨?_, ?_, ?_⟩
  · unfold nmOf
    rw [he]
    apply ba_ext
    rw [ba_extract]
    simp
  · unfold valOf
    rw [he, if_pos (by rw [hz]; omega), hz]
    apply ba_ext
    rw [ba_extract]
    show ((p ++ 61 :: r).take (p.length + (r.length + 1))).drop (p.length + 1) = r
    rw [List.take_of_length_le (by simp), ← List.drop_drop]
    simp
  · unfold eqIs
    rw [he, hz]
    exact decide_eq_true (by omega)
theorem tail2_mk (r : List UInt8) : tail2 ⟨(45 :: 45 :: r).toArray⟩ = ⟨r.toArray⟩ := by
  unfold tail2 Lib.trimPrefix
  rw [if_pos (by simp [Lib.hasPrefix, List.isPrefixOf])]
  rfl
theorem read_long_val (p : List UInt8) (k : Nat) (hne : p ≠ []) (hp : ∀ x ∈ p, (x == 61) = false) (ho : optOf (isName ⟨p.toArray⟩) = some k) (hs : sufx k = false) (hv : valued k = true) (v : ByteArray) (r : List ByteArray) (a : Av) :
    readW ((⟨(45 :: 45 :: (p ++ [61])).toArray⟩ ++ v) :: r) 0 a = mapR 1 (readW r 0 (doOpt a v k)) := by
  have e : (⟨(45 :: 45 :: (p ++ [61])).toArray⟩ ++ v : ByteArray) = ⟨(45 :: 45 :: (p ++ 61 :: v.data.toList)).toArray⟩ := by apply ba_ext; rw [ba_append]; simp
  obtain ⟨z, q, rfl⟩ := List.exists_cons_of_ne_nil hne
  rw [e]
  refine readW_long (kind_long (z := z) (r := q ++ 61 :: v.data.toList) rfl) ?_
  rw [tail2_mk]
  obtain ⟨h1, h2, h3⟩ := cut_app (z :: q) v.data.toList hp
  unfold longL
  rw [h1, ho]
  show (if longOk k _ then _ else none) = _
  unfold longOk
  rw [hs, hv, h2, h3, ← ba_mk v]
  rfl

/-- The letter, and the long name, of a value. -/
def letT (f : Bool) : ByteArray := if f then ⟨#[45, 102]⟩ else ⟨#[45, 101]⟩
def namT (f : Bool) : ByteArray := if f then ⟨#[45, 45, 102, 105, 108, 101, 61]⟩ else ⟨#[45, 45, 101, 120, 112, 114, 101, 115, 115, 105, 111, 110, 61]⟩
theorem readL_of {p r : List ByteArray} {a : Av} (h : readW (p ++ r) 0 zeroAv = mapR p.length (readW r 0 a)) (hl : (p ++ r).length ≤ 65536) : readL (p ++ r) = shiftE p.length (endW r (readW r 0 a)) := by
  unfold readL
  rw [if_neg (by omega), h, endW_shift]
theorem read_v1 (f : Bool) (v : ByteArray) (r : List ByteArray) (h : r.length + 2 ≤ 65536) : readL ([letT f, v] ++ r) = shiftE 2 (endW r (readW r 0 (doOpt zeroAv v (if f then 4 else 3)))) := by
  refine readL_of (p := [letT f, v]) ?_ (by simp; omega)
  cases f
  · exact read_val 101 3 (by decide) (by decide) rfl rfl v r zeroAv
  · exact read_val 102 4 (by decide) (by decide) rfl rfl v r zeroAv
theorem read_v2 (f : Bool) (v : ByteArray) (r : List ByteArray) (h : r.length + 2 ≤ 65536) : readL ([namT f ++ v] ++ r) = shiftE 1 (endW r (readW r 0 (doOpt zeroAv v (if f then 4 else 3)))) := by
  refine readL_of (p := [namT f ++ v]) ?_ (by simp; omega)
  cases f
  · exact read_long_val [101, 120, 112, 114, 101, 115, 115, 105, 111, 110] 3 (by simp) (by decide) (by decide) rfl rfl v r zeroAv
  · exact read_long_val [102, 105, 108, 101] 4 (by simp) (by decide) (by decide) rfl rfl v r zeroAv
theorem read_v3 (f : Bool) (v : ByteArray) (hv : v.size ≠ 0) (r : List ByteArray) (h : r.length + 2 ≤ 65536) : readL ([letT f ++ v] ++ r) = shiftE 1 (endW r (readW r 0 (doOpt zeroAv v (if f then 4 else 3)))) := by
  refine readL_of (p := [letT f ++ v]) ?_ (by simp; omega)
  cases f
  · exact read_stuck 101 3 (by decide) (by decide) rfl rfl v hv r zeroAv
  · exact read_stuck 102 4 (by decide) (by decide) rfl rfl v hv r zeroAv
end Go.Proofs.Ytbigolappdlhcaa
