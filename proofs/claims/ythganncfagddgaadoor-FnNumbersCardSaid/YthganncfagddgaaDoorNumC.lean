/- FnNumbers: what its calls answer, and the facts that its tests want. -/
import Derived.Test.YthganncfagddgaaDoorNumLaw
import Derived.Test.YthganncfagddgaaDoorLaid
import Derived.Lib.ItoaLen
namespace Go.Proofs.YthganncfagddgaaDoor
set_option linter.unusedSimpArgs false
set_option linter.unusedVariables false
open Go.RowKit
attribute [local go_sem ↓] Go.wp_at_zero Go.wp_at_succ

theorem isEmpty_yes : (⟨#[]⟩ : ByteArray).toList.isEmpty = true := by rw [ByteArray.toList_eq]; rfl
theorem isEmpty_no {S : ByteArray} (h : 0 < S.size) : S.toList.isEmpty = false := by
  rw [ByteArray.toList_eq]
  cases hq : S.data.toList with
  | nil =>
    have : S.data.toList.length = S.size := rfl
    rw [hq] at this; simp at this; omega
  | cons => rfl
def fixI (v : Int) : ByteArray := if v < 0 then ⟨#[]⟩ else fixS v.toNat 7
theorem implFixed_seven (v : Int) (h1 : v ≤ 9223372036854775807) (w : World) : Calls Tryd.prog 15 #[.int .i64 v, .int .i64 7] w fun e w' => e = .returned (.string (fixI v)) ∧ Below w.heap.size w w' := by
  by_cases h : v < 0
  · unfold fixI
    rw [if_pos h]
    exact implFixed_out v 7 w (.inr ⟨by decide, h⟩)
  · obtain ⟨k, rfl⟩ := Int.eq_ofNat_of_zero_le (show 0 ≤ v by omega)
    unfold fixI
    rw [if_neg h, Int.toNat_natCast]
    by_cases h2 : k < 256 ^ 7
    · exact implFixed_yes k 7 w (by omega) (by omega) (by omega) (by decide) h2
    · exact implFixed_no k 7 w (by omega) (by omega) (by omega) (by decide) h2
theorem fixI_yes {v : Int} (h0 : 0 ≤ v) (h1 : v < 72057594037927936) : fixI v = ⟨(lowB v.toNat 7).toArray⟩ := by
  unfold fixI fixS
  have : (256 : Nat) ^ 7 = 72057594037927936 := rfl
  rw [if_neg (by omega), if_pos (by omega)]
theorem fixI_no {v : Int} (h : v < 0 ∨ 72057594037927936 ≤ v) : fixI v = ⟨#[]⟩ := by
  unfold fixI fixS
  have : (256 : Nat) ^ 7 = 72057594037927936 := rfl
  rcases h with h | h
  · rw [if_pos h]
  · rw [if_neg (by omega), if_neg (by omega)]
theorem fixI_size (v : Int) : (fixI v).size ≤ 7 := by
  by_cases h : v < 0 ∨ 72057594037927936 ≤ v
  · rw [fixI_no h]; simp [ByteArray.size]
  · rw [fixI_yes (by omega) (by omega)]
    simp only [ByteArray.size, List.size_toArray, lowB_len]; omega
def rfI (s : ByteArray) : Int × Bool := if s.size < 7 then (0, false) else ((rf s 7 : Int), true)
theorem implReadFixed_seven (s : ByteArray) (hs : s.size ≤ 100) (w : World) : Calls Tryd.prog 16 #[.string s, .int .i64 7] w fun e w' => e = .returned (.tuple #[.int .i64 (rfI s).1, .bool (rfI s).2]) ∧ w = w' := by
  unfold rfI
  by_cases h : s.size < 7
  · rw [if_pos h]
    exact implReadFixed_no s 7 w (.inr ⟨by decide, by omega⟩)
  · rw [if_neg h]
    exact implReadFixed_yes s 7 w (by omega) (by decide) (by omega)
theorem rfI_fix {v : Int} (h0 : 0 ≤ v) (h1 : v < 72057594037927936) (t : List UInt8) : rfI (fixI v ++ ⟨t.toArray⟩) = (v, true) := by
  rw [fixI_yes h0 h1]
  unfold rfI
  rw [if_neg (by rw [app_size, lowB_len]; omega), rf_fix (by omega)]
  rw [Int.toNat_of_nonneg h0]
theorem varS_pos {v : Int} (h : inB v 0 562949953421311 = true) : 0 < (varS v).size := by
  obtain ⟨k, rfl⟩ := Int.eq_ofNat_of_zero_le (inB_true h).1
  rw [varS_yes h]
  simpa [ByteArray.size] using varL_pos k
theorem rdV_varS {v : Int} (h : inB v 0 562949953421311 = true) (t : List UInt8) : ((rdV (varS v ++ ⟨t.toArray⟩)).1 : Int) = v ∧ (rdV (varS v ++ ⟨t.toArray⟩)).2 = (varS v).size := by
  have hb := inB_true h
  obtain ⟨k, rfl⟩ := Int.eq_ofNat_of_zero_le hb.1
  rw [varS_yes h, rdV_var (by omega)]
  exact ⟨rfl, by simp [ByteArray.size]⟩
theorem decS_size {v : Int} (h0 : -9223372036854775808 ≤ v) (h1 : v ≤ 9223372036854775807) : (decS v).size ≤ 21 := by
  have := Lib.itoa_length_le v h0 h1
  simpa [decS, ByteArray.size] using this
theorem implReadDec_dec (v : Int) (h0 : -9223372036854775808 ≤ v) (h1 : v ≤ 9223372036854775807) (w : World) (ht : RTab w) :
    Calls Tryd.prog 9 #[.string (decS v)] w fun e w' => e = .returned (.tuple #[.int .i64 (if nine v then v else 0), .bool (nine v)]) ∧ Below w.heap.size w w' := by
  have h := implReadDec_any (decS v) (by have := decS_size h0 h1; omega) w ht
  have e : (decS v).data.toList = Lib.itoa v := by simp [decS]
  rw [e, rdI_itoa] at h
  cases hn : nine v
  · rw [hn] at h; exact h
  · rw [hn] at h; exact h
theorem implHex_of (t : List UInt8) (h : t.length ≤ 40) (w : World) : Calls Tryd.prog 18 #[.string ⟨t.toArray⟩] w fun e w' => e = .returned (.string ⟨(hexTo ⟨t.toArray⟩ t.length).toArray⟩) ∧ Below w.heap.size w w' :=
  implHex_any ⟨t.toArray⟩ w (by simp only [ByteArray.size, List.size_toArray]; omega)
theorem implUnhex_of (t : List UInt8) (h : t.length ≤ 40) (w : World) : Calls Tryd.prog 17 #[.string ⟨(hexTo ⟨t.toArray⟩ t.length).toArray⟩] w fun e w' => e = .returned (.tuple #[.string ⟨t.toArray⟩, .bool true]) ∧ Below w.heap.size w w' := by
  have hs : (⟨(hexTo ⟨t.toArray⟩ t.length).toArray⟩ : ByteArray).size = 2 * t.length := by
    simp only [ByteArray.size, List.size_toArray]
    unfold hexTo
    rw [List.take_of_length_le (by simp)]
    exact hex_len t
  have h2 := implUnhex_even ⟨(hexTo ⟨t.toArray⟩ t.length).toArray⟩ w (by omega) (by omega)
  rw [unhex_hex] at h2
  exact h2
set_option maxHeartbeats 400000 in
theorem big_any (A : Option Addr) (n c : Nat) (w : World) (hn : n ≤ 9223372036854775807) : Calls Tryd.prog 10 #[.slice A n c] w fun e w' => e = .returned (.bool (decide ((1048576 : Int) < (n : Int)))) ∧ w = w' := by
  go_enter Tryd.func10, Tryd.ntmps10
  go_wp2
  go_ret
  exact ⟨by first | rfl | simp, rfl⟩

end Go.Proofs.YthganncfagddgaaDoor
