/- Plain laws of reading. -/
import Derived.Test.YtbigolappdlhcaaV
import Derived.Test.YtbigolappdlhcaaJ
namespace Go.Proofs.Ytbigolappdlhcaa
set_option linter.unusedSimpArgs false
set_option linter.unusedVariables false
open Go.RowKit

def mapR (p : Nat) : Sum Nat (Nat × Av) → Sum Nat (Nat × Av)
  | .inl k => .inl (k + p)
  | .inr (i, a) => .inr (i + p, a)
theorem mapR_mapR (m n : Nat) (R : Sum Nat (Nat × Av)) : mapR m (mapR n R) = mapR (n + m) R := by
  rcases R with k | ⟨i, a⟩ <;> simp [mapR, Nat.add_assoc]
theorem mapR_zero (R : Sum Nat (Nat × Av)) : mapR 0 R = R := by rcases R with k | ⟨i, a⟩ <;> rfl

theorem readW_eq (l : List ByteArray) (i : Nat) (a : Av) : readW l i a = if h : i < l.length then
    (if kind l[i] = 0 then .inr (i + 1, a)
    else if kind l[i] = 1 then .inr (i, a)
    else if kind l[i] = 2 then (match longL a (tail2 l[i]) with | none => .inl i | some a' => readW l (i + 1) a')
    else if (shortF (tail1 l[i]) (l.drop (i + 1)) (tail1 l[i]).size a).2.1 = false then .inl i
    else if (shortF (tail1 l[i]) (l.drop (i + 1)) (tail1 l[i]).size a).1 < 0 then .inl l.length
    else readW l (i + 1 + (shortF (tail1 l[i]) (l.drop (i + 1)) (tail1 l[i]).size a).1.toNat) (shortF (tail1 l[i]) (l.drop (i + 1)) (tail1 l[i]).size a).2.2)
  else .inr (i, a) := by
  rw [readW]
  rfl
/-- What stands ahead only moves the places. -/
theorem readW_shift (p r : List ByteArray) : ∀ (n i : Nat) (a : Av), r.length - i ≤ n → readW (p ++ r) (p.length + i) a = mapR p.length (readW r i a) := by
  intro n
  induction n with
  | zero =>
    intro i a hn
    have h1 : ¬ p.length + i < (p ++ r).length := by rw [List.length_append]; omega
    have h2 : ¬ i < r.length := by omega
    rw [readW_eq (p ++ r), readW_eq r]
    rw [dif_neg h1, dif_neg h2]
    simp [mapR, Nat.add_comm]
  | succ n ih =>
    intro i a hn
    rw [readW_eq (p ++ r), readW_eq r]
    by_cases hi : i < r.length
    · have hp : p.length + i < (p ++ r).length := by rw [List.length_append]; omega
      rw [dif_pos hp, dif_pos hi]
      have e : (p ++ r)[p.length + i] = r[i] := by
        rw [List.getElem_append_right (by omega)]
        congr 1; omega
      have d : (p ++ r).drop (p.length + i + 1) = r.drop (i + 1) := by
        rw [Nat.add_assoc, List.drop_append]
        simp
      rw [e, d]
      by_cases k0 : kind r[i] = 0
      · rw [if_pos k0, if_pos k0]; simp [mapR]; omega
      rw [if_neg k0, if_neg k0]
      by_cases k1 : kind r[i] = 1
      · rw [if_pos k1, if_pos k1]; simp [mapR]; omega
      rw [if_neg k1, if_neg k1]
      by_cases k2 : kind r[i] = 2
      · rw [if_pos k2, if_pos k2]
        cases longL a (tail2 r[i]) with
        | none => simp [mapR]; omega
        | some a' => exact ih (i + 1) a' (by omega)
      rw [if_neg k2, if_neg k2]
      by_cases k3 : (shortF (tail1 r[i]) (r.drop (i + 1)) (tail1 r[i]).size a).2.1 = false
      · rw [if_pos k3, if_pos k3]; simp [mapR]; omega
      rw [if_neg k3, if_neg k3]
      by_cases k4 : (shortF (tail1 r[i]) (r.drop (i + 1)) (tail1 r[i]).size a).1 < 0
      · rw [if_pos k4, if_pos k4]; simp [mapR]; omega
      rw [if_neg k4, if_neg k4]
      have := ih (i + 1 + (shortF (tail1 r[i]) (r.drop (i + 1)) (tail1 r[i]).size a).1.toNat) (shortF (tail1 r[i]) (r.drop (i + 1)) (tail1 r[i]).size a).2.2 (by omega)
      rw [← this]
      congr 1
      omega
    · have h1 : ¬ p.length + i < (p ++ r).length := by rw [List.length_append]; omega
      rw [dif_neg h1, dif_neg hi]
      simp [mapR, Nat.add_comm]
theorem readW_behind (p r : List ByteArray) (a : Av) : readW (p ++ r) p.length a = mapR p.length (readW r 0 a) := readW_shift p r r.length 0 a (by omega)

def shiftE (n : Nat) (x : Option Av × Int × Nat) : Option Av × Int × Nat :=
  match x with
  | (none, c, k) => (none, c, k + n)
  | (some a, c, k) => (some a, c, k)
theorem endW_shift (p r : List ByteArray) (R : Sum Nat (Nat × Av)) : endW (p ++ r) (mapR p.length R) = shiftE p.length (endW r R) := by
  rcases R with k | ⟨i, a⟩
  · rfl
  · have d : (p ++ r).drop (i + p.length) = r.drop i := by
      rw [Nat.add_comm, List.drop_append]; simp
    show (if a.scr = [] then (match (p ++ r).drop (i + p.length) with | [] => _ | t :: q => _) else _) = shiftE p.length (if a.scr = [] then _ else _)
    rw [d]
    by_cases h : a.scr = []
    · rw [if_pos h, if_pos h]
      cases r.drop i with
      | nil => simp [shiftE]; omega
      | cons t q => rfl
    · rw [if_neg h, if_neg h]; rfl

/-- What Read answers is a fault, or a command line. -/
theorem endW_or (l : List ByteArray) (R : Sum Nat (Nat × Av)) : (∃ k, endW l R = (none, 260, k)) ∨ (∃ a, endW l R = (some a, 0, 0)) := by
  rcases R with k | ⟨i, a⟩
  · exact .inl ⟨k, rfl⟩
  · by_cases h : a.scr = []
    · cases hd : l.drop i with
      | nil => exact .inl ⟨l.length, by show (if a.scr = [] then _ else _) = _; rw [if_pos h, hd]⟩
      | cons t q => exact .inr ⟨_, by show (if a.scr = [] then _ else _) = _; rw [if_pos h, hd]⟩
    · exact .inr ⟨_, by show (if a.scr = [] then _ else _) = _; rw [if_neg h]⟩
theorem readL_or (l : List ByteArray) : (∃ c k, readL l = (none, c, k) ∧ c ≠ 0) ∨ (∃ a, readL l = (some a, 0, 0)) := by
  unfold readL
  split
  · exact .inl ⟨3, 0, rfl, by decide⟩
  · rcases endW_or l (readW l 0 zeroAv) with ⟨k, h⟩ | ⟨a, h⟩
    · exact .inl ⟨260, k, h, by decide⟩
    · exact .inr ⟨a, h⟩

theorem kind_letters {s : ByteArray} {y : UInt8} {r : List UInt8} (h : s.data.toList = 45 :: y :: r) (hy : y ≠ 45) : kind s = 3 := by
  obtain ⟨⟨L⟩⟩ := s
  have h' : L = 45 :: y :: r := h
  subst h'
  unfold kind
  rw [if_neg (fun e => by have := congrArg (fun s : ByteArray => s.data.toList) e; simp [hy] at this), if_neg (fun e => by have := congrArg (fun s : ByteArray => s.data.toList) e; simp at this), if_neg (by simp [Lib.hasPrefix]), if_neg (by simp [Lib.hasPrefix, List.isPrefixOf, hy, Ne.symm hy])]
theorem kind_long {s : ByteArray} {z : UInt8} {r : List UInt8} (h : s.data.toList = 45 :: 45 :: z :: r) : kind s = 2 := by
  obtain ⟨⟨L⟩⟩ := s
  have h' : L = 45 :: 45 :: z :: r := h
  subst h'
  unfold kind
  rw [if_neg (fun e => by have := congrArg (fun s : ByteArray => s.data.toList) e; simp at this), if_neg (fun e => by have := congrArg (fun s : ByteArray => s.data.toList) e; simp at this), if_neg (by simp [Lib.hasPrefix]), if_pos (by simp [Lib.hasPrefix, List.isPrefixOf])]

theorem readW_opt {x : ByteArray} {r : List ByteArray} {a a' : Av} (hk : kind x = 3) (h : shortF (tail1 x) r (tail1 x).size a = (0, true, a')) : readW (x :: r) 0 a = mapR 1 (readW r 0 a') := by
  rw [readW, dif_pos (by simp)]
  have e : (x :: r)[0] = x := rfl
  have d : (x :: r).drop (0 + 1) = r := rfl
  rw [e, d, h, hk]
  exact readW_behind [x] r a'
theorem readW_val {x v : ByteArray} {r : List ByteArray} {a a' : Av} (hk : kind x = 3) (h : shortF (tail1 x) (v :: r) (tail1 x).size a = (1, true, a')) : readW (x :: v :: r) 0 a = mapR 2 (readW r 0 a') := by
  rw [readW, dif_pos (by simp)]
  have e : (x :: v :: r)[0] = x := rfl
  have d : (x :: v :: r).drop (0 + 1) = v :: r := rfl
  rw [e, d, h, hk]
  exact readW_behind [x, v] r a'
theorem readW_long {x : ByteArray} {r : List ByteArray} {a a' : Av} (hk : kind x = 2) (h : longL a (tail2 x) = some a') : readW (x :: r) 0 a = mapR 1 (readW r 0 a') := by
  rw [readW, dif_pos (by simp)]
  have e : (x :: r)[0] = x := rfl
  rw [e, h, hk]
  exact readW_behind [x] r a'
theorem readW_dashes (r : List ByteArray) (a : Av) : readW (dashes :: r) 0 a = .inr (1, a) := by
  rw [readW, dif_pos (by simp)]
  rfl

theorem ba_mk (s : ByteArray) : s = ⟨s.data.toList.toArray⟩ := by obtain ⟨⟨L⟩⟩ := s; rfl
theorem tail1_mk (x : UInt8) (r : List UInt8) : tail1 ⟨(x :: r).toArray⟩ = ⟨r.toArray⟩ := by
  apply ba_ext
  unfold tail1
  rw [ba_extract]
  have hz : (⟨(x :: r).toArray⟩ : ByteArray).size = r.length + 1 := by simp [ByteArray.size]
  rw [hz]
  simp
theorem behind_mk (x : UInt8) (r : List UInt8) : behind ⟨(x :: r).toArray⟩ 0 = ⟨r.toArray⟩ := by
  apply ba_ext
  unfold behind
  rw [ba_extract]
  have hz : (⟨(x :: r).toArray⟩ : ByteArray).size = r.length + 1 := by simp [ByteArray.size]
  rw [hz]
  simp
theorem size_mk (l : List UInt8) : (⟨l.toArray⟩ : ByteArray).size = l.length := by simp [ByteArray.size]

/-- The first letter decides. -/
theorem shortF_head (y : UInt8) (r : List UInt8) (more : List ByteArray) (a : Av) : shortF ⟨(y :: r).toArray⟩ more (⟨(y :: r).toArray⟩ : ByteArray).size a =
    match optOf (isLetter y) with
    | none => (0, false, a)
    | some k =>
      if sufx k then (if sufOk ⟨r.toArray⟩ then (0, true, doOpt a ⟨r.toArray⟩ k) else (0, false, a))
      else if valued k then valF more ⟨r.toArray⟩ a k
      else shortF ⟨(y :: r).toArray⟩ more r.length (doOpt a ⟨#[]⟩ k) := by
  rw [size_mk, List.length_cons, shortF]
  have e0 : (⟨(y :: r).toArray⟩ : ByteArray).size - (r.length + 1) = 0 := by rw [size_mk]; simp
  rw [e0, behind_mk]
  rfl

theorem read_opt1 (y : UInt8) (k : Nat) (hy : y ≠ 45) (ho : optOf (isLetter y) = some k) (hk : k < 3) (r : List ByteArray) (a : Av) :
    readW (⟨#[45, y]⟩ :: r) 0 a = mapR 1 (readW r 0 (doOpt a ⟨#[]⟩ k)) := by
  refine readW_opt (kind_letters (y := y) (r := []) rfl hy) ?_
  show shortF (tail1 ⟨([45, y] : List UInt8).toArray⟩) _ (tail1 ⟨([45, y] : List UInt8).toArray⟩).size _ = _
  rw [tail1_mk, shortF_head, ho]
  rcases (show k = 0 ∨ k = 1 ∨ k = 2 by omega) with rfl | rfl | rfl <;> rfl
/-- A value in the next argument. -/
theorem read_val (y : UInt8) (k : Nat) (hy : y ≠ 45) (ho : optOf (isLetter y) = some k) (hs : sufx k = false) (hv : valued k = true) (v : ByteArray) (r : List ByteArray) (a : Av) :
    readW (⟨#[45, y]⟩ :: v :: r) 0 a = mapR 2 (readW r 0 (doOpt a v k)) := by
  refine readW_val (kind_letters (y := y) (r := []) rfl hy) ?_
  show shortF (tail1 ⟨([45, y] : List UInt8).toArray⟩) _ (tail1 ⟨([45, y] : List UInt8).toArray⟩).size _ = _
  rw [tail1_mk, shortF_head, ho]
  show (if sufx k then _ else if valued k then _ else _) = _
  rw [hs, hv]
  exact valF_cons (rs := ⟨#[]⟩) rfl v r a k
/-- A value right behind its letter. -/
theorem read_stuck (y : UInt8) (k : Nat) (hy : y ≠ 45) (ho : optOf (isLetter y) = some k) (hs : sufx k = false) (hv : valued k = true) (v : ByteArray) (hne : v.size ≠ 0) (r : List ByteArray) (a : Av) :
    readW ((⟨#[45, y]⟩ ++ v) :: r) 0 a = mapR 1 (readW r 0 (doOpt a v k)) := by
  have e : (⟨#[45, y]⟩ ++ v : ByteArray) = ⟨(45 :: y :: v.data.toList).toArray⟩ := by apply ba_ext; rw [ba_append]; rfl
  rw [e]
  refine readW_opt (kind_letters (y := y) (r := v.data.toList) rfl hy) ?_
  rw [tail1_mk, shortF_head, ho]
  show (if sufx k then _ else if valued k then _ else _) = _
  rw [hs, hv, ← ba_mk v]
  exact valF_rest r hne a k
theorem read_suffix (v : ByteArray) (hok : sufOk v = true) (r : List ByteArray) (a : Av) :
    readW ((⟨#[45, 105]⟩ ++ v) :: r) 0 a = mapR 1 (readW r 0 (doOpt a v 5)) := by
  have e : (⟨#[45, 105]⟩ ++ v : ByteArray) = ⟨(45 :: 105 :: v.data.toList).toArray⟩ := by apply ba_ext; rw [ba_append]; rfl
  rw [e]
  refine readW_opt (kind_letters (y := 105) (r := v.data.toList) rfl (by decide)) ?_
  rw [tail1_mk, shortF_head, show optOf (isLetter 105) = some 5 from by decide]
  show (if sufOk ⟨v.data.toList.toArray⟩ then _ else _) = _
  rw [← ba_mk v, if_pos hok]

theorem read_pieces (nam : List ByteArray) : ∀ (c : List Pc) (a : Av), readW (pieceL c ++ dashes :: nam) 0 a = .inr (2 * c.length + 1, { a with scr := a.scr ++ c }) := by
  intro c
  induction c with
  | nil => intro a; rw [show pieceL [] ++ dashes :: nam = dashes :: nam from rfl, readW_dashes]; simp
  | cons x c ih =>
    intro a
    obtain ⟨b, t⟩ := x
    cases b with
    | false =>
      rw [show pieceL ((false, t) :: c) ++ dashes :: nam = ⟨#[45, 101]⟩ :: t :: (pieceL c ++ dashes :: nam) from rfl, read_val 101 3 (by decide) (by decide) rfl rfl, ih]
      simp [mapR, doOpt]; omega
    | true =>
      rw [show pieceL ((true, t) :: c) ++ dashes :: nam = ⟨#[45, 102]⟩ :: t :: (pieceL c ++ dashes :: nam) from rfl, read_val 102 4 (by decide) (by decide) rfl rfl, ih]
      simp [mapR, doOpt]; omega

theorem read_opts (q e si i : Bool) (suf : ByteArray) (hok : sufOk suf = true) (hs : i = false → suf.size = 0) (rest : List ByteArray) :
    readW (optL q e si i suf ++ rest) 0 zeroAv = mapR (optL q e si i suf).length (readW rest 0 ⟨q, e, si || i, i, suf, [], []⟩) := by
  have o0 : ∀ r a, readW (⟨#[45, 110]⟩ :: r) 0 a = mapR 1 (readW r 0 (doOpt a ⟨#[]⟩ 0)) := read_opt1 110 0 (by decide) (by decide) (by decide)
  have o1 : ∀ r a, readW (⟨#[45, 69]⟩ :: r) 0 a = mapR 1 (readW r 0 (doOpt a ⟨#[]⟩ 1)) := read_opt1 69 1 (by decide) (by decide) (by decide)
  have o2 : ∀ r a, readW (⟨#[45, 115]⟩ :: r) 0 a = mapR 1 (readW r 0 (doOpt a ⟨#[]⟩ 2)) := read_opt1 115 2 (by decide) (by decide) (by decide)
  have o5 := fun r a => read_suffix suf hok r a
  have hz : i = false → suf = ⟨#[]⟩ := fun h => ba_ext (by
    have := hs h
    have e : suf.data.toList.length = 0 := by simpa using this
    exact List.length_eq_zero_iff.1 e)
  unfold optL
  cases i with
  | false =>
    rw [hz rfl]
    cases q <;> cases e <;> cases si <;> simp [o0, o1, o2, mapR_mapR, doOpt, zeroAv, mapR_zero]
  | true =>
    cases q <;> cases e <;> cases si <;> simp [o0, o1, o2, o5, mapR_mapR, doOpt, zeroAv, mapR_zero]

/-- What is written is read as it was. -/
theorem read_print (a : Av) (hr : rightB a = true) (hl : (printL a).length ≤ 65536) : readL (printL a) = (some a, 0, 0) := by
  obtain ⟨q, e, s, i, suf, c, n⟩ := a
  simp only [rightB, Bool.and_eq_true, decide_eq_true_eq, Bool.or_eq_true] at hr
  obtain ⟨⟨⟨h1, h2⟩, h3⟩, h4⟩ := hr
  have hz : i = false → suf.size = 0 := fun h => by rcases h3 with h3 | h3; (rw [h] at h3; cases h3); exact h3
  unfold readL
  rw [if_neg (by omega)]
  have hw : readW (printL ⟨q, e, s, i, suf, c, n⟩) 0 zeroAv = .inr (2 * c.length + 1 + (optL q e (s && !i) i suf).length, ⟨q, e, s && !i || i, i, suf, c, []⟩) := by
    unfold printL
    rw [read_opts _ _ _ _ _ h2 hz, read_pieces]
    rfl
  rw [hw]
  have hs : (s && !i || i) = s := by
    cases s <;> cases i <;> simp at h4 ⊢
  rw [hs]
  have hd : (printL ⟨q, e, s, i, suf, c, n⟩).drop (2 * c.length + 1 + (optL q e (s && !i) i suf).length) = n := by
    have e1 : printL ⟨q, e, s, i, suf, c, n⟩ = (optL q e (s && !i) i suf ++ (pieceL c ++ [dashes])) ++ n := by unfold printL; simp
    have e2 : 2 * c.length + 1 + (optL q e (s && !i) i suf).length = (optL q e (s && !i) i suf ++ (pieceL c ++ [dashes])).length := by
      simp only [List.length_append, pieceL_length, List.length_cons, List.length_nil]; omega
    rw [e1, e2, List.drop_left]
  have hne : c ≠ [] := fun h => by subst h; simp at h1
  show (if c = [] then _ else _) = _
  rw [if_neg hne, hd]

/-- A command line that is being read may be so. -/
def goodA (a : Av) : Prop := sufOk a.suf = true ∧ (a.i = false → a.suf.size = 0) ∧ (a.i = true → a.s = true)
theorem goodA_do {a : Av} (h : goodA a) (s : ByteArray) (k : Nat) (hk : k < 6) (hs : k = 5 → sufOk s = true) : goodA (doOpt a s k) := by
  obtain ⟨h1, h2, h3⟩ := h
  rcases (show k = 0 ∨ k = 1 ∨ k = 2 ∨ k = 3 ∨ k = 4 ∨ k = 5 by omega) with rfl | rfl | rfl | rfl | rfl | rfl
  · exact ⟨h1, h2, h3⟩
  · exact ⟨h1, h2, h3⟩
  · exact ⟨h1, h2, fun _ => rfl⟩
  · exact ⟨h1, h2, h3⟩
  · exact ⟨h1, h2, h3⟩
  · exact ⟨hs rfl, fun h => by simp [doOpt] at h, fun _ => rfl⟩
theorem goodA_long {a a' : Av} {s : ByteArray} (h : goodA a) (hl : longL a s = some a') : goodA a' := by
  unfold longL at hl
  split at hl
  · cases hl
  · rename_i k hk
    have hlt := (optOf_lt hk).1
    split at hl
    · rename_i hok
      simp only [Option.some.injEq] at hl
      subst hl
      refine goodA_do h _ _ hlt (fun e => ?_)
      subst e
      simpa [longOk, sufx] using hok
    · cases hl
theorem goodA_short (s : ByteArray) (more : List ByteArray) : ∀ (n : Nat) (a : Av), goodA a → goodA (shortF s more n a).2.2 := by
  intro n
  induction n with
  | zero => intro a h; exact h
  | succ n ih =>
    intro a h
    rw [shortF]
    split
    · exact h
    · rename_i k hk
      have hlt := (optOf_lt hk).1
      split
      · split
        · rename_i hok; exact goodA_do h _ _ hlt (fun _ => hok)
        · exact h
      · rename_i hx
        have h5 : k ≠ 5 := fun e => hx (by rw [e]; rfl)
        split
        · unfold valF
          split
          · cases more with
            | nil => exact h
            | cons m r => exact goodA_do h _ _ hlt (fun e => absurd e h5)
          · exact goodA_do h _ _ hlt (fun e => absurd e h5)
        · exact ih _ (goodA_do h _ _ hlt (fun e => absurd e h5))
theorem goodA_read (l : List ByteArray) : ∀ (n i : Nat) (a : Av), l.length - i ≤ n → goodA a → ∀ j b, readW l i a = .inr (j, b) → goodA b := by
  intro n
  induction n with
  | zero =>
    intro i a hn h j b hr
    rw [readW, dif_neg (by omega)] at hr
    simp only [Sum.inr.injEq, Prod.mk.injEq] at hr
    obtain ⟨-, rfl⟩ := hr
    exact h
  | succ n ih =>
    intro i a hn h j b hr
    rw [readW] at hr
    by_cases hi : i < l.length
    · rw [dif_pos hi] at hr
      split at hr
      · simp only [Sum.inr.injEq, Prod.mk.injEq] at hr
        obtain ⟨-, rfl⟩ := hr
        exact h
      split at hr
      · simp only [Sum.inr.injEq, Prod.mk.injEq] at hr
        obtain ⟨-, rfl⟩ := hr
        exact h
      split at hr
      · split at hr
        · cases hr
        · rename_i a' ha'
          exact ih _ _ (by omega) (goodA_long h ha') _ _ hr
      split at hr
      · cases hr
      split at hr
      · cases hr
      exact ih _ _ (by omega) (goodA_short _ _ _ _ h) _ _ hr
    · rw [dif_neg hi] at hr
      simp only [Sum.inr.injEq, Prod.mk.injEq] at hr
      obtain ⟨-, rfl⟩ := hr
      exact h

/-- What is read is right. -/
theorem read_right {l : List ByteArray} {a : Av} {c : Int} {k : Nat} (h : readL l = (some a, c, k)) : rightB a = true := by
  unfold readL at h
  split at h
  · cases h
  · cases hR : readW l 0 zeroAv with
    | inl j => rw [hR] at h; cases h
    | inr x =>
      obtain ⟨j, b⟩ := x
      have hg : goodA b := goodA_read l l.length 0 zeroAv (by omega) ⟨by decide, fun _ => rfl, fun h => by cases h⟩ j b hR
      rw [hR] at h
      have key : ∀ scr nam, 0 < scr.length → rightB { b with scr := scr, nam := nam } = true := fun scr nam hs => by
        obtain ⟨h1, h2, h3⟩ := hg
        simp only [rightB, Bool.and_eq_true, decide_eq_true_eq, Bool.or_eq_true]
        refine ⟨⟨⟨hs, h1⟩, ?_⟩, ?_⟩
        · cases hi : b.i with
          | false => exact .inr (h2 hi)
          | true => exact .inl rfl
        · cases hi : b.i with
          | false => exact .inr rfl
          | true => exact .inl (h3 hi)
      have h' : (if b.scr = [] then (match l.drop j with | [] => (none, 260, l.length) | t :: r => (some { b with scr := [(false, t)], nam := r }, 0, 0)) else (some { b with nam := l.drop j }, (0 : Int), (0 : Nat))) = (some a, c, k) := h
      by_cases hs : b.scr = []
      · rw [if_pos hs] at h'
        cases hd : l.drop j with
        | nil => rw [hd] at h'; simp at h'
        | cons t r =>
          rw [hd] at h'
          simp only [Prod.mk.injEq, Option.some.injEq] at h'
          rw [← h'.1]
          exact key _ _ (by simp)
      · rw [if_neg hs] at h'
        simp only [Prod.mk.injEq, Option.some.injEq] at h'
        rw [← h'.1]
        exact key b.scr _ (List.length_pos_iff.2 hs)
end Go.Proofs.Ytbigolappdlhcaa
