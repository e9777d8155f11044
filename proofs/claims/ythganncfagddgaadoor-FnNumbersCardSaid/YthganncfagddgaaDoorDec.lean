/- Contracts of Dec: the program's and the reference's. -/
import Derived.Test.YthganncfagddgaaDoorDecLaw
import Derived.Test.YthganncfagddgaaDoorShelf
import Derived.Lib.QuietBelow
import Derived.Lib.SmallJoins
import Derived.Deep.OwnRows
import Derived.Lib.AppendIntMem
namespace Go.Proofs.YthganncfagddgaaDoor
set_option linter.unusedSimpArgs false
set_option linter.unusedVariables false
open Go.RowKit

/-- the table that Itoa reads -/
abbrev DTab (w : World) : Prop := Lib.TabIs Tryd.prog w "internal/strconv.uint64pow10" .u64 Lib.pow10Tab
theorem DTab.below {w w' : World} (h : DTab w) (hb : Below w.heap.size w w') : DTab w' := Lib.tabBelow_of_tabIs h w' hb
theorem below_growN (w : World) (k : Nat) (os : Array Obj) : Below w.heap.size w (Sort.grow (w.drewN k) os) :=
  ⟨rfl, rfl, rfl, by simp [Sort.grow], fun k hk => by simp [Sort.grow, Array.getElem?_append, hk]⟩
def decS (n : Int) : ByteArray := ⟨(Lib.itoa n).toArray⟩
set_option maxHeartbeats 800000 in
theorem implDec_any (n : Int) (h0 : -9223372036854775808 ≤ n) (h1 : n ≤ 9223372036854775807) (w : World) (ht : DTab w) :
    Calls Tryd.prog 7 #[.int .i64 n] w fun e w' => e = .returned (.string (decS n)) ∧ Below w.heap.size w w' := by
  have C := Lib.hid (show Calls Tryd.prog 20 #[.int .i64 n] w fun e w' => e = .returned (.string (decS n)) ∧ ∃ k os, w' = Sort.grow (w.drewN k) os from Tryd.strconv_Itoa n h0 h1 w ht)
  clear ht
  go_enter Tryd.func7, Tryd.ntmps7
  go_wp2_with fail
  refine C.out.mono ?_
  rintro e w' ⟨rfl, k, os, rfl⟩
  have hb := below_growN w k os
  generalize Sort.grow (w.drewN k) os = w1 at hb ⊢
  go_wp2
  go_ret
  exact ⟨rfl, hb⟩

def oneD (b : UInt8) : ByteArray := ⟨#[b]⟩
theorem oneD_app (b : UInt8) (l : List UInt8) : oneD b ++ ⟨l.toArray⟩ = ⟨(b :: l).toArray⟩ := by
  apply ByteArray.ext
  simp [oneD]
theorem conv_fig (w : World) (v : Int) (d : Nat) (hd : d < 10) (hv : v = 48 + (d : Int)) : (convert 27 9 (.slice (some ⟨w.heap.size, 0, none⟩) 1 1)).run Tryd.prog (w.alloc (.cells #[.int .u8 v] 5)) = .ok (.string (oneD (UInt8.ofNat (48 + d)))) (w.alloc (.cells #[.int .u8 v] 5)) :=
  run_convert_bytes_back _ _ _ 5 _ 1 [UInt8.ofNat (48 + d)] Tryd.underlying27 Tryd.underlying5 Tryd.underlying9 fun j hj => by
    obtain rfl : j = 0 := by simpa using hj
    have e : ((UInt8.ofNat (48 + d)).toNat : Int) = v := by rw [hv]; simp; omega
    simp only [List.getElem_cons_zero, e]
    simp [Addr.add]
theorem nDig19 {u : Nat} (h : u ≤ 9223372036854775808) : (Lib.decDigits u).length ≤ 20 := by
  rw [Lib.decDigits_length]
  exact nDigits_le (k := 19) (by have : (10 : Nat) ^ 20 = 100000000000000000000 := rfl; omega)
def leftD (u : Nat) : List UInt8 := if u = 0 then [] else Lib.decDigits u
theorem decS_pos (u : Nat) : decS (u : Int) = ⟨(Lib.decDigits u).toArray⟩ := by
  unfold decS Lib.itoa
  rw [if_neg (by omega)]; simp
theorem decS_neg {u : Nat} (h : 0 < u) : decS (-(u : Int)) = oneD 45 ++ ⟨(Lib.decDigits u).toArray⟩ := by
  rw [oneD_app]
  unfold decS Lib.itoa
  rw [if_pos (by omega)]; simp
set_option maxRecDepth 100000 in
set_option maxHeartbeats 3200000 in
theorem specDec_pos (u0 : Nat) (w : World) (h0 : 0 < u0) (hm : u0 ≤ 9223372036854775807) :
    Calls Tryd.prog 6 #[.int .i64 (u0 : Int)] w fun e w' => e = .returned (.string (decS (u0 : Int))) ∧ Below w.heap.size w w' := by
  have hz : ((u0 : Int) == 0) = false := by simp; omega
  have hneg : decide ((u0 : Int) < 0) = false := decide_eq_false (by omega)
  have hneg2 : ¬ (u0 : Int) < 0 := by omega
  have hl0 := Lib.hid (nDig19 (u := u0) (by omega))
  go_enter Tryd.func6, Tryd.ntmps6
  go_wp2
  go_loopw [0, 3] (fun m out wr => ∃ (u : Nat) (s : ByteArray) (l : List UInt8), m = .int .i64 (u : Int) ∧ out = .string s ∧ u ≤ 9223372036854775807 ∧ Hid (s = ⟨l.toArray⟩) ∧ Hid (leftD u ++ l = Lib.decDigits u0) ∧ Below w.heap.size w wr) (fun m _ _ => (intOf m).toNat)
  case atStart => exact ⟨u0, _, [], rfl, rfl, hm, rfl, Lib.hid (show leftD u0 ++ [] = Lib.decDigits u0 by unfold leftD; rw [if_neg (by omega)]; simp), Below.refl _ _⟩
  case round =>
    obtain ⟨u, s, l, rfl, rfl, hum, hs, hl, hB⟩ := hrel
    by_cases hu : u = 0
    · subst hu
      have hr := Lib.hid (show decS (u0 : Int) = s by rw [decS_pos, ← hl.out, hs.out]; rfl)
      go_wp2
      go_ret
      exact ⟨by rw [hr.out]; rfl, hB⟩
    · have hz2 : ((u : Int) != 0) = true := by simp; omega
      have hsz : s.size ≤ 20 := by
        rw [hs.out]
        have := congrArg List.length hl.out
        have := hl0.out
        simp [ByteArray.size] at *
        omega
      have hcv := conv_fig wr (48 + (u : Int) % 10) (u % 10) (by omega) (by omega)
      have hmod : decide ((u : Int) % 10 < 0) = false := decide_eq_false (by omega)
      have hz := hB.size
      have hs2 := Lib.hid (show oneD (UInt8.ofNat (48 + u % 10)) ++ s = ⟨(UInt8.ofNat (48 + u % 10) :: l).toArray⟩ by rw [hs.out, oneD_app])
      have hl2 := Lib.hid (show leftD (u / 10) ++ (UInt8.ofNat (48 + u % 10) :: l) = Lib.decDigits u0 by rw [← hl.out]; exact (decDigits_step hu l).symm)
      have ho : (oneD (UInt8.ofNat (48 + u % 10))).size ≤ 1 := by simp [oneD, ByteArray.size]
      generalize oneD (UInt8.ofNat (48 + u % 10)) = o at *
      go_wp2
      exact ⟨⟨u / 10, o ++ s, _, by go_num, rfl, by omega, hs2, hl2, hB.alloc hz _⟩, by simp [intOf]; omega⟩
set_option maxRecDepth 100000 in
set_option maxHeartbeats 3200000 in
theorem specDec_neg (u0 : Nat) (w : World) (h0 : 0 < u0) (hm : u0 ≤ 9223372036854775808) :
    Calls Tryd.prog 6 #[.int .i64 (-(u0 : Int))] w fun e w' => e = .returned (.string (decS (-(u0 : Int)))) ∧ Below w.heap.size w w' := by
  have hz : ((-(u0 : Int)) == 0) = false := by simp; omega
  have hneg : decide (-(u0 : Int) < 0) = true := decide_eq_true (by omega)
  have hneg2 : -(u0 : Int) < 0 := by omega
  have hl0 := Lib.hid (nDig19 (u := u0) (by omega))
  go_enter Tryd.func6, Tryd.ntmps6
  go_wp2
  go_loopw [0, 3] (fun m out wr => ∃ (u : Nat) (s : ByteArray) (l : List UInt8), m = .int .i64 (-(u : Int)) ∧ out = .string s ∧ u ≤ 9223372036854775808 ∧ Hid (s = ⟨l.toArray⟩) ∧ Hid (leftD u ++ l = Lib.decDigits u0) ∧ Below w.heap.size w wr) (fun m _ _ => (- intOf m).toNat)
  case atStart => exact ⟨u0, _, [], rfl, rfl, hm, rfl, Lib.hid (show leftD u0 ++ [] = Lib.decDigits u0 by unfold leftD; rw [if_neg (by omega)]; simp), Below.refl _ _⟩
  case round =>
    obtain ⟨u, s, l, rfl, rfl, hum, hs, hl, hB⟩ := hrel
    have hsz : s.size ≤ 20 := by
      rw [hs.out]
      have := congrArg List.length hl.out
      have := hl0.out
      simp [ByteArray.size] at *
      omega
    by_cases hu : u = 0
    · subst hu
      have hr := Lib.hid (show decS (-(u0 : Int)) = oneD 45 ++ s by rw [decS_neg h0, ← hl.out, hs.out]; rfl)
      have e0 : (-((0 : Nat) : Int)) = 0 := rfl
      have ho : (⟨#[45]⟩ : ByteArray).size ≤ 1 := by simp [ByteArray.size]
      rw [e0]
      go_wp2
      go_ret
      exact ⟨by rw [hr.out]; rfl, hB⟩
    · have hz2 : (-(u : Int) != 0) = true := by simp; omega
      have hz := hB.size
      have hs2 := Lib.hid (show oneD (UInt8.ofNat (48 + u % 10)) ++ s = ⟨(UInt8.ofNat (48 + u % 10) :: l).toArray⟩ by rw [hs.out, oneD_app])
      have hl2 := Lib.hid (show leftD (u / 10) ++ (UInt8.ofNat (48 + u % 10) :: l) = Lib.decDigits u0 by rw [← hl.out]; exact (decDigits_step hu l).symm)
      have ho : (oneD (UInt8.ofNat (48 + u % 10))).size ≤ 1 := by simp [oneD, ByteArray.size]
      by_cases hd : u % 10 = 0
      · have hcv := conv_fig wr 48 (u % 10) (by omega) (by omega)
        have hd0 : (u : Int) % 10 = 0 := by omega
        clear hd
        generalize oneD (UInt8.ofNat (48 + u % 10)) = o at *
        go_wp2
        exact ⟨⟨u / 10, o ++ s, _, by go_num, rfl, by omega, hs2, hl2, hB.alloc hz _⟩, by simp [intOf]; omega⟩
      · have hcv := conv_fig wr (48 + (u : Int) % 10) (u % 10) (by omega) (by omega)
        have hd0 : decide (0 < (u : Int) % 10) = true := decide_eq_true (by omega)
        clear hd
        generalize oneD (UInt8.ofNat (48 + u % 10)) = o at *
        go_wp2
        exact ⟨⟨u / 10, o ++ s, _, by go_num, rfl, by omega, hs2, hl2, hB.alloc hz _⟩, by simp [intOf]; omega⟩
theorem decS_zero : decS 0 = ⟨#[48]⟩ := by
  rw [show (0 : Int) = ((0 : Nat) : Int) from rfl, decS_pos, Lib.decDigits, dif_pos (by decide)]
  rfl
set_option maxHeartbeats 800000 in
theorem specDec_zero (w : World) : Calls Tryd.prog 6 #[.int .i64 0] w fun e w' => e = .returned (.string (decS 0)) ∧ Below w.heap.size w w' := by
  have hr := Lib.hid decS_zero
  go_enter Tryd.func6, Tryd.ntmps6
  go_wp2
  go_ret
  exact ⟨by rw [hr.out]; rfl, Below.refl _ _⟩
theorem specDec_any (n : Int) (h0 : -9223372036854775808 ≤ n) (h1 : n ≤ 9223372036854775807) (w : World) :
    Calls Tryd.prog 6 #[.int .i64 n] w fun e w' => e = .returned (.string (decS n)) ∧ Below w.heap.size w w' := by
  by_cases hz : n = 0
  · subst hz; exact specDec_zero w
  · by_cases hp : 0 < n
    · obtain ⟨u, rfl⟩ := Int.eq_ofNat_of_zero_le (show 0 ≤ n by omega)
      exact specDec_pos u w (by omega) (by omega)
    · obtain ⟨u, hu⟩ := Int.eq_ofNat_of_zero_le (show 0 ≤ -n by omega)
      obtain rfl : n = -(u : Int) := by omega
      exact specDec_neg u w (by omega) (by omega)

end Go.Proofs.YthganncfagddgaaDoor
