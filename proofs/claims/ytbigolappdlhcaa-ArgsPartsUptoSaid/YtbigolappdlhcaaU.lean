/- short. -/
import Derived.Test.YtbigolappdlhcaaT
namespace Go.Proofs.Ytbigolappdlhcaa
set_option linter.unusedSimpArgs false
set_option linter.unusedVariables false
open Go.RowKit

/-- What stands behind the byte i. -/
def behind (s : ByteArray) (i : Nat) : ByteArray := s.extract (i + 1) s.size
/-- An option that takes a value. -/
def valF (more : List ByteArray) (rs : ByteArray) (a : Av) (k : Nat) : Int × Bool × Av :=
  if rs.size = 0 then (match more with | [] => (-1, true, a) | m :: _ => (1, true, doOpt a m k)) else (0, true, doOpt a rs k)
theorem valF_nil {rs : ByteArray} (h : rs.size = 0) (a : Av) (k : Nat) : valF [] rs a k = (-1, true, a) := by unfold valF; rw [if_pos h]
theorem valF_cons {rs : ByteArray} (h : rs.size = 0) (m : ByteArray) (r : List ByteArray) (a : Av) (k : Nat) : valF (m :: r) rs a k = (1, true, doOpt a m k) := by unfold valF; rw [if_pos h]
theorem valF_rest (more : List ByteArray) {rs : ByteArray} (h : ¬ rs.size = 0) (a : Av) (k : Nat) : valF more rs a k = (0, true, doOpt a rs k) := by unfold valF; rw [if_neg h]
/-- Letters: how many of the arguments behind were values (-1: one lacks), may they be, the command line; n bytes are left. -/
def shortF (s : ByteArray) (more : List ByteArray) : Nat → Av → Int × Bool × Av
  | 0, a => (0, true, a)
  | n + 1, a =>
    match optOf (isLetter (s.get! (s.size - (n + 1)))) with
    | none => (0, false, a)
    | some k =>
      if sufx k then (if sufOk (behind s (s.size - (n + 1))) then (0, true, doOpt a (behind s (s.size - (n + 1))) k) else (0, false, a))
      else if valued k then valF more (behind s (s.size - (n + 1))) a k
      else shortF s more n (doOpt a ⟨#[]⟩ k)

def ShortPost (w : World) (base X : Nat) (r : Int × Bool × Av) (e : Ending) (w' : World) : Prop := e = .returned (.tuple #[.int .i64 r.1, .bool r.2.1]) ∧ XS w' base X r.2.2 ∧ FrT TX base w w'

/-- The state at the head of short's loop. -/
def SI (w : World) (base X : Nat) (s : ByteArray) (more : List ByteArray) (R : Int × Bool × Av) (i : Nat) (wr : World) : Prop :=
  ∃ a, XS wr base X a ∧ a.scr.length ≤ 100000 ∧ FrT TX base w wr ∧ wr.heap[w.heap.size]? = some (.cells #[.string s] 9 (0, 0)) ∧ shortF s more (s.size - i) a = R

theorem doOpt_scr (a : Av) (s : ByteArray) (k : Nat) (h : k < 3) : (doOpt a s k).scr = a.scr := by
  rcases (show k = 0 ∨ k = 1 ∨ k = 2 by omega) with rfl | rfl | rfl <;> rfl

theorem shortF_at (s : ByteArray) (more : List ByteArray) (i : Nat) (a : Av) (hi : i < s.size) : shortF s more (s.size - i) a =
    match optOf (isLetter s[i]) with
    | none => (0, false, a)
    | some k =>
      if sufx k then (if sufOk (behind s i) then (0, true, doOpt a (behind s i) k) else (0, false, a))
      else if valued k then valF more (behind s i) a k
      else shortF s more (s.size - (i + 1)) (doOpt a ⟨#[]⟩ k) := by
  obtain ⟨n, hn⟩ : ∃ n, s.size - i = n + 1 := ⟨s.size - i - 1, by omega⟩
  have h1 : s.size - (n + 1) = i := by omega
  have h2 : s.size - (i + 1) = n := by omega
  rw [hn, shortF, h1, h2, get_is s i hi]

set_option maxRecDepth 8000 in
set_option maxHeartbeats 12800000 in
theorem short_any (base X : Nat) (a : Av) (s : ByteArray) (mv : Value) (more : List ByteArray) (w : World) (h : XS w base X a) (hl : a.scr.length ≤ 100000) (hs : s.size ≤ 9223372036854775806) (hm : ∀ W, Below base w W → Tx W mv more) (hmore : more.length ≤ 4611686018427387904) :
    Calls Try.prog 35 #[.pointer (some ⟨X, 0, none⟩), .string s, mv] w (ShortPost w base X (shortF s more s.size a)) := by
  obtain ⟨ma, mc, hmv⟩ : ∃ ma mc, mv = .slice ma more.length mc := by obtain ⟨ma, mc, h, _⟩ := hm w (Below.refl _ _); exact ⟨ma, mc, h⟩
  subst hmv
  have HM := Lib.hid hm
  clear hm
  have hbase := h.lt
  have hb0 := bl_alloc w (.cells #[.string s] 9)
  have HI : Hid (SI w base X s more (shortF s more s.size a) 0 (w.alloc (.cells #[.string s] 9))) := ⟨a, h.to hb0, hl, FrT.ofBelow TX hb0 hbase, heap_alloc_new w _, rfl⟩
  clear h hb0 hl
  generalize shortF s more s.size a = R at *
  go_enter Try.func35, Try.ntmps35
  go_wp2_with fail
  generalize (w.alloc (.cells #[.string s] 9)) = w0 at *
  go_loopw [8, 14] (fun _ i wr => ∃ j : Nat, j ≤ s.size ∧ i = .int .i64 j ∧ SI w base X s more R j wr) (fun _ i _ => s.size - (intOf i).toNat)
  case atStart => exact ⟨0, Nat.zero_le _, rfl, HI.out⟩
  case round =>
    clear HI
    obtain ⟨i, hi, rfl, a, hx, hl, hf, hsb, hR⟩ := hrel
    by_cases hlt : i < s.size
    · rw [shortF_at s more i a hlt] at hR
      have HX := Lib.hid hx
      have HF := Lib.hid hf
      have HSB := Lib.hid hsb
      have HR := Lib.hid hR
      have hblt := hx.lt
      clear hx hf hsb hR
      go_wp2_with fail
      have hba := bl_alloc wr (.cells #[.int .i64 i] 3)
      have HIC : Hid ((wr.alloc (.cells #[.int .i64 i] 3)).heap[wr.heap.size]? = some (.cells #[.int .i64 i] 3 (0, 0))) := heap_alloc_new wr _
      have HSC : Hid ((wr.alloc (.cells #[.int .i64 i] 3)).heap[w.heap.size]? = some (.cells #[.string s] 9 (0, 0))) := (hba.block _ (lt_of_block HSB.out)).trans HSB.out
      have HXA := Lib.hid (HX.out.to hba)
      have HFA := Lib.hid (HF.out.trans (FrT.ofBelow TX hba hblt))
      generalize (wr.alloc (.cells #[.int .i64 i] 3)) = w1 at *
      clear hba
      refine (find_any 48 #[.pointer (some ⟨w.heap.size, 0, none⟩), .pointer (some ⟨wr.heap.size, 0, none⟩)] (isLetter s[i]) w1 enter48 (fun h k hk W hb ho => letter_is s i w.heap.size wr.heap.size h k hk hlt W (bl_cell hb (blk_at HSC.out 0 rfl).1) (bl_cell hb (blk_at HIC.out 0 rfl).1))).mono ?_
      rintro e w3 ⟨h, rfl, hb3⟩
      have HB3 := Lib.hid hb3
      have hs3 := (hb3.block _ (lt_of_block HSC.out)).trans HSC.out
      have hi3 := (hb3.block _ (lt_of_block HIC.out)).trans HIC.out
      have s3 : ∀ x, (w3.alloc x).cell? ⟨w.heap.size, 0, none⟩ = some (.string s) := fun x => bl_cell (bl_alloc w3 x) (blk_at hs3 0 rfl).1
      have i3 : ∀ x, (w3.alloc x).cell? ⟨wr.heap.size, 0, none⟩ = some (.int .i64 i) := fun x => bl_cell (bl_alloc w3 x) (blk_at hi3 0 rfl).1
      have HXW : Hid (∀ x, XS (w3.alloc x) base X a ∧ FrT TX base w (w3.alloc x) ∧ (w3.alloc x).heap[w.heap.size]? = some (.cells #[.string s] 9 (0, 0))) := fun x => ⟨HXA.out.to (bl_to HB3.out (bl_alloc w3 x)), HFA.out.trans (FrT.ofBelow TX (bl_to HB3.out (bl_alloc w3 x)) HXA.out.lt), ((bl_alloc w3 x).block _ (lt_of_block hs3)).trans hs3⟩
      have hw1 := wrap_in ((i : Int) + 1) (by omega) (by omega)
      have g0 : (0 : Int) ≤ (i : Int) + 1 := by omega
      have g1 : (i : Int) + 1 ≤ (s.size : Int) := by omega
      have g2 : ((i : Int) + 1).toNat = i + 1 := by omega
      obtain ⟨rs, hrs⟩ : ∃ rs, s.extract (i + 1) s.size = rs := ⟨_, rfl⟩
      have HRS : Hid (behind s i = rs) := hrs
      have HRX := Lib.hid hrs
      obtain ⟨o, ho⟩ : ∃ o, optOf (isLetter s[i]) = o := ⟨_, rfl⟩
      have HLT : Hid (∀ k, o = some k → k < 6) := fun k hk => (optOf_lt (by rw [ho, hk])).1
      rw [HRS.out, ho] at HR
      rw [ho]
      clear ho hb3 hs3 hi3 HIC HSC HXA HFA HSB HX HF
      cases o with
      | none =>
        simp only [findV, Option.isSome]
        have HE : Hid (R = (0, false, a)) := HR.out.symm
        go_wp2_with fail
        go_ret2
        refine ⟨by rw [HE.out]; rfl, by rw [HE.out]; exact (HXW.out _).1, (HXW.out _).2.1⟩
      | some k =>
        have hk := HLT.out k rfl
        simp only [findV, Option.isSome]
        rcases (show k = 0 ∨ k = 1 ∨ k = 2 ∨ k = 3 ∨ k = 4 ∨ k = 5 by omega) with rfl | rfl | rfl | rfl | rfl | rfl
        · have HE : Hid (shortF s more (s.size - (i + 1)) (doOpt a ⟨#[]⟩ 0) = R) := HR.out
          simp only [optV]
          go_wp2_with fail
          refine (do0 (HXW.out _).1).mono ?_
          rintro e w5 ⟨rfl, hx5, hf5⟩
          have HN : Hid (SI w base X s more R (i + 1) w5) := ⟨_, hx5, by rw [doOpt_scr _ _ _ (by omega)]; exact hl, (HXW.out _).2.1.trans hf5, hf5.keep _ _ _ _ (HXW.out _).2.2 (by simp [TX]), HE.out⟩
          clear hx5 hf5
          go_wp2_with fail
          go_roundw
          case rel => exact ⟨i + 1, by omega, by go_num, HN.out⟩
          case measure => simp [intOf]; omega
        · have HE : Hid (shortF s more (s.size - (i + 1)) (doOpt a ⟨#[]⟩ 1) = R) := HR.out
          simp only [optV]
          go_wp2_with fail
          refine (do1 (HXW.out _).1).mono ?_
          rintro e w5 ⟨rfl, hx5, hf5⟩
          have HN : Hid (SI w base X s more R (i + 1) w5) := ⟨_, hx5, by rw [doOpt_scr _ _ _ (by omega)]; exact hl, (HXW.out _).2.1.trans hf5, hf5.keep _ _ _ _ (HXW.out _).2.2 (by simp [TX]), HE.out⟩
          clear hx5 hf5
          go_wp2_with fail
          go_roundw
          case rel => exact ⟨i + 1, by omega, by go_num, HN.out⟩
          case measure => simp [intOf]; omega
        · have HE : Hid (shortF s more (s.size - (i + 1)) (doOpt a ⟨#[]⟩ 2) = R) := HR.out
          simp only [optV]
          go_wp2_with fail
          refine (do2 (HXW.out _).1).mono ?_
          rintro e w5 ⟨rfl, hx5, hf5⟩
          have HN : Hid (SI w base X s more R (i + 1) w5) := ⟨_, hx5, by rw [doOpt_scr _ _ _ (by omega)]; exact hl, (HXW.out _).2.1.trans hf5, hf5.keep _ _ _ _ (HXW.out _).2.2 (by simp [TX]), HE.out⟩
          clear hx5 hf5
          go_wp2_with fail
          go_roundw
          case rel => exact ⟨i + 1, by omega, by go_num, HN.out⟩
          case measure => simp [intOf]; omega
        · have HV : Hid (valF more rs a 3 = R) := HR.out
          by_cases hz : rs.size = 0
          · obtain rfl : rs = ⟨#[]⟩ := by apply ba_ext; have : rs.data.toList.length = 0 := by simpa using hz
                                          rw [List.length_eq_zero_iff.1 this]
            simp only [optV]
            cases more with
            | nil =>
              have HE : Hid (R = (-1, true, a)) := HV.out.symm.trans (valF_nil hz a 3)
              clear hz
              go_wp2_with fail
              go_ret2
              refine ⟨by rw [HE.out]; rfl, by rw [HE.out]; exact (HXW.out _).1, (HXW.out _).2.1⟩
            | cons m r =>
              have HE : Hid (R = (1, true, doOpt a m 3)) := HV.out.symm.trans (valF_cons hz m r a 3)
              have hml0 : (m :: r).length = r.length + 1 := rfl
              rw [hml0]
              have hml : ((r.length : Int) + 1 == 0) = false := by simp; omega
              have hm0 : (0 : Int) < (r.length : Int) + 1 := by omega
              clear hz hml0
              go_wp2_with fail
              have HX4 := Lib.hid (HXW.out (.cells #[.string ⟨#[101]⟩, .slice (some ⟨h + 1 + 1 + 1, 0, none⟩) 1 1, .bool true, .bool false, .func (.func 71) #[] #[]] 73))
              have hz4 := (blk_at (heap_alloc_new w3 (.cells #[.string ⟨#[101]⟩, .slice (some ⟨h + 1 + 1 + 1, 0, none⟩) 1 1, .bool true, .bool false, .func (.func 71) #[] #[]] 73)) 4 (v := .func (.func 71) #[] #[]) rfl).1
              generalize (w3.alloc (.cells #[.string ⟨#[101]⟩, .slice (some ⟨h + 1 + 1 + 1, 0, none⟩) 1 1, .bool true, .bool false, .func (.func 71) #[] #[]] 73)) = w4 at *
              obtain ⟨_, _, e1, hc1⟩ := HM.out w4 HX4.out.2.1.below
              simp only [Value.slice.injEq, true_and] at e1
              obtain ⟨rfl, rfl⟩ := e1
              obtain ⟨mb, moff, rfl, hmb, hmc⟩ := hc1 (by simp)
              have hmc0 : w4.cell? ⟨mb, moff, none⟩ = some (.string m) := hmc 0 (by simp)
              clear hmc hc1 s3 i3
              refine region_tail 6 (by kernel_rfl) (by kernel_rfl) (fun W hW => ?_)
              have z4 := bl_cell hW hz4
              have m4 := bl_cell hW hmc0
              have HW := Lib.hid hW
              clear hW hz4 hmc0
              simp only [List.take_succ_cons, List.take_zero, List.drop_succ_cons, List.drop_zero]
              iterate 6 still_step
              refine wpStill_nil ?_
              go_wp2_with fail
              refine (do3 (HX4.out.1.to HW.out) (by omega)).mono ?_
              rintro e w5 ⟨rfl, hx5, hf5⟩
              have HX5 := Lib.hid hx5
              have HF5 := Lib.hid ((HX4.out.2.1.trans (FrT.ofBelow TX HW.out HX4.out.1.lt)).trans hf5)
              clear hx5 hf5 z4 m4
              go_wp2_with fail
              go_ret2
              refine ⟨by rw [HE.out]; rfl, by rw [HE.out]; exact HX5.out, HF5.out⟩
          · obtain ⟨ne1, ne2⟩ : rs.toList.isEmpty = false ∧ (rs.toList == []) = false := by rw [emp_toList2, emp_toList, decide_eq_false hz]; exact ⟨rfl, rfl⟩
            have HE : Hid (R = (0, true, doOpt a rs 3)) := HV.out.symm.trans (valF_rest more hz a 3)
            simp only [optV]
            clear hz
            go_wp2_with fail
            refine (do3 (HXW.out _).1 (by omega)).mono ?_
            rintro e w5 ⟨rfl, hx5, hf5⟩
            have HX5 := Lib.hid hx5
            have HF5 := Lib.hid ((HXW.out _).2.1.trans hf5)
            clear hx5 hf5
            go_wp2_with fail
            go_ret2
            refine ⟨by rw [HE.out]; rfl, by rw [HE.out]; exact HX5.out, HF5.out⟩
        · have HV : Hid (valF more rs a 4 = R) := HR.out
          by_cases hz : rs.size = 0
          · obtain rfl : rs = ⟨#[]⟩ := by apply ba_ext; have : rs.data.toList.length = 0 := by simpa using hz
                                          rw [List.length_eq_zero_iff.1 this]
            simp only [optV]
            cases more with
            | nil =>
              have HE : Hid (R = (-1, true, a)) := HV.out.symm.trans (valF_nil hz a 4)
              clear hz
              go_wp2_with fail
              go_ret2
              refine ⟨by rw [HE.out]; rfl, by rw [HE.out]; exact (HXW.out _).1, (HXW.out _).2.1⟩
            | cons m r =>
              have HE : Hid (R = (1, true, doOpt a m 4)) := HV.out.symm.trans (valF_cons hz m r a 4)
              have hml0 : (m :: r).length = r.length + 1 := rfl
              rw [hml0]
              have hml : ((r.length : Int) + 1 == 0) = false := by simp; omega
              have hm0 : (0 : Int) < (r.length : Int) + 1 := by omega
              clear hz hml0
              go_wp2_with fail
              have HX4 := Lib.hid (HXW.out (.cells #[.string ⟨#[102]⟩, .slice (some ⟨h + 1 + 1 + 1 + 1, 0, none⟩) 1 1, .bool true, .bool false, .func (.func 72) #[] #[]] 73))
              have hz4 := (blk_at (heap_alloc_new w3 (.cells #[.string ⟨#[102]⟩, .slice (some ⟨h + 1 + 1 + 1 + 1, 0, none⟩) 1 1, .bool true, .bool false, .func (.func 72) #[] #[]] 73)) 4 (v := .func (.func 72) #[] #[]) rfl).1
              generalize (w3.alloc (.cells #[.string ⟨#[102]⟩, .slice (some ⟨h + 1 + 1 + 1 + 1, 0, none⟩) 1 1, .bool true, .bool false, .func (.func 72) #[] #[]] 73)) = w4 at *
              obtain ⟨_, _, e1, hc1⟩ := HM.out w4 HX4.out.2.1.below
              simp only [Value.slice.injEq, true_and] at e1
              obtain ⟨rfl, rfl⟩ := e1
              obtain ⟨mb, moff, rfl, hmb, hmc⟩ := hc1 (by simp)
              have hmc0 : w4.cell? ⟨mb, moff, none⟩ = some (.string m) := hmc 0 (by simp)
              clear hmc hc1 s3 i3
              refine region_tail 6 (by kernel_rfl) (by kernel_rfl) (fun W hW => ?_)
              have z4 := bl_cell hW hz4
              have m4 := bl_cell hW hmc0
              have HW := Lib.hid hW
              clear hW hz4 hmc0
              simp only [List.take_succ_cons, List.take_zero, List.drop_succ_cons, List.drop_zero]
              iterate 6 still_step
              refine wpStill_nil ?_
              go_wp2_with fail
              refine (do4 (HX4.out.1.to HW.out) (by omega)).mono ?_
              rintro e w5 ⟨rfl, hx5, hf5⟩
              have HX5 := Lib.hid hx5
              have HF5 := Lib.hid ((HX4.out.2.1.trans (FrT.ofBelow TX HW.out HX4.out.1.lt)).trans hf5)
              clear hx5 hf5 z4 m4
              go_wp2_with fail
              go_ret2
              refine ⟨by rw [HE.out]; rfl, by rw [HE.out]; exact HX5.out, HF5.out⟩
          · obtain ⟨ne1, ne2⟩ : rs.toList.isEmpty = false ∧ (rs.toList == []) = false := by rw [emp_toList2, emp_toList, decide_eq_false hz]; exact ⟨rfl, rfl⟩
            have HE : Hid (R = (0, true, doOpt a rs 4)) := HV.out.symm.trans (valF_rest more hz a 4)
            simp only [optV]
            clear hz
            go_wp2_with fail
            refine (do4 (HXW.out _).1 (by omega)).mono ?_
            rintro e w5 ⟨rfl, hx5, hf5⟩
            have HX5 := Lib.hid hx5
            have HF5 := Lib.hid ((HXW.out _).2.1.trans hf5)
            clear hx5 hf5
            go_wp2_with fail
            go_ret2
            refine ⟨by rw [HE.out]; rfl, by rw [HE.out]; exact HX5.out, HF5.out⟩
        · obtain ⟨b, hb⟩ : ∃ b, sufOk rs = b := ⟨_, rfl⟩
          have HS := suffixed_any rs
          have hE : (if sufOk rs = true then ((0 : Int), true, doOpt a rs 5) else (0, false, a)) = R := HR.out
          rw [hb] at HS hE
          have HS := Lib.hid HS
          have HE0 := Lib.hid hE
          clear hb hE HR
          simp only [optV]
          cases b
          · have HE : Hid (R = (0, false, a)) := HE0.out.symm
            go_wp2_with fail
            refine (HS.out _).mono ?_
            rintro e w5 ⟨rfl, hb5⟩
            have HX5 := Lib.hid ((HXW.out _).1.to hb5)
            have HF5 := Lib.hid ((HXW.out _).2.1.trans (FrT.ofBelow TX hb5 (HXW.out _).1.lt))
            clear hb5
            go_wp2_with fail
            go_ret2
            refine ⟨by rw [HE.out]; rfl, by rw [HE.out]; exact HX5.out, HF5.out⟩
          · have HE : Hid (R = (0, true, doOpt a rs 5)) := HE0.out.symm
            go_wp2_with fail
            refine (HS.out _).mono ?_
            rintro e w5 ⟨rfl, hb5⟩
            have b3 := hb5.cell (p := ⟨w3.heap.size, 3, none⟩) (by simp)
            have b4 := hb5.cell (p := ⟨w3.heap.size, 4, none⟩) (by simp)
            have HX5 := Lib.hid ((HXW.out _).1.to hb5)
            have HF5 := Lib.hid ((HXW.out _).2.1.trans (FrT.ofBelow TX hb5 (HXW.out _).1.lt))
            clear hb5
            go_wp2_with fail
            refine (do5 HX5.out).mono ?_
            rintro e w6 ⟨rfl, hx6, hf6⟩
            have HX6 := Lib.hid hx6
            have HF6 := Lib.hid (HF5.out.trans hf6)
            clear hx6 hf6
            go_wp2_with fail
            go_ret2
            refine ⟨by rw [HE.out]; rfl, by rw [HE.out]; exact HX6.out, HF6.out⟩
    · obtain rfl : i = s.size := by omega
      rw [Nat.sub_self] at hR
      have HE : Hid (R = (0, true, a)) := hR.symm
      have HX := Lib.hid hx
      have HF := Lib.hid hf
      clear hx hf hsb hR hlt
      go_wp2_with fail
      go_ret2
      refine ⟨by rw [HE.out]; rfl, by rw [HE.out]; exact HX.out, HF.out⟩
end Go.Proofs.Ytbigolappdlhcaa
