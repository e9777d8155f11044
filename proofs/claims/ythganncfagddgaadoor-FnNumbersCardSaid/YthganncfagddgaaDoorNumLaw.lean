/- FnNumbers: the plain law on the texts of numbers. -/
import Derived.Test.YthganncfagddgaaDoorDetD
import Derived.Test.YthganncfagddgaaDoorReadVar
import Derived.Test.YthganncfagddgaaDoorReadFixed
import Derived.Test.YthganncfagddgaaDoorUnhex
import Derived.Test.YthganncfagddgaaDoorReadDec
namespace Go.Proofs.YthganncfagddgaaDoor
set_option linter.unusedSimpArgs false
set_option linter.unusedVariables false
open Go.RowKit

theorem valL_varL (n : Nat) : valL (varL n) = n := by
  induction n using Nat.strongRecOn with
  | ind n ih =>
    by_cases h : n < 128
    · rw [varL_end h]
      simp only [valL]
      have : (UInt8.ofNat n).toNat = n := by simp; omega
      rw [this]; omega
    · rw [varL_more h]
      simp only [valL]
      rw [ih (n / 128) (by omega)]
      have : (UInt8.ofNat (128 + n % 128)).toNat = 128 + n % 128 := by simp; omega
      rw [this]; omega
theorem app_list (l m : List UInt8) : ((⟨l.toArray⟩ : ByteArray) ++ ⟨m.toArray⟩).data.toList = l ++ m := by simp
theorem app_size (l m : List UInt8) : ((⟨l.toArray⟩ : ByteArray) ++ ⟨m.toArray⟩).size = l.length + m.length := by
  rw [ByteArray.size_append]; simp [ByteArray.size]
/-- what Var wrote is read back, whatever follows -/
theorem rdV_var {m : Nat} (h : m ≤ 562949953421311) (t : List UInt8) : rdV (⟨(varL m).toArray⟩ ++ ⟨t.toArray⟩) = (m, (varL m).length) := by
  have hp := varL_pos m
  have h7 := varL_len 6 m (by have : (128 : Nat) ^ 7 = 562949953421312 := rfl; omega)
  have ht : ((⟨(varL m).toArray⟩ : ByteArray) ++ ⟨t.toArray⟩).data.toList.take (varL m).length = varL m := by rw [app_list, List.take_left]
  have := rd_hit (s := (⟨(varL m).toArray⟩ : ByteArray) ++ ⟨t.toArray⟩) (k := (varL m).length) (by omega) (by omega) (by rw [app_size]; omega) (by rw [ht, valL_varL])
  rw [this, ht, valL_varL]
/-- what ReadVar reads, Var writes -/
theorem rdV_back (s : ByteArray) : (rdV s).2 = 0 ∨ (0 < (rdV s).2 ∧ (rdV s).2 ≤ s.size ∧ varS ((rdV s).1 : Int) = s.extract 0 (rdV s).2) := by
  by_cases h : ∃ k, 1 ≤ k ∧ k ≤ 7 ∧ k ≤ s.size ∧ varL (valL (s.data.toList.take k)) = s.data.toList.take k
  · obtain ⟨k, h1, h7, hs, he⟩ := h
    rw [rd_hit h1 h7 hs he]
    refine .inr ⟨h1, hs, ?_⟩
    have hlt := valL_lt (s.data.toList.take k)
    have hlen : (s.data.toList.take k).length = k := by
      have : s.data.toList.length = s.size := rfl
      simp; omega
    rw [hlen] at hlt
    have hp : (128 : Nat) ^ k ≤ 128 ^ 7 := Nat.pow_le_pow_right (by omega) h7
    have h49 : (128 : Nat) ^ 7 = 562949953421312 := rfl
    rw [varS_yes (by simp only [inB, Bool.and_eq_true, decide_eq_true_eq]; omega), he]
    apply ByteArray.ext
    apply Array.toList_inj.1
    rw [ByteArray.data_extract]
    simp
  · left
    rw [rd_miss (fun k h1 h7 hs he => h ⟨k, h1, h7, hs, he⟩)]
theorem rdN_low (n : Nat) : ∀ (k acc : Nat), (lowB n k).foldl (fun n b => n * 256 + b.toNat) acc = acc * 256 ^ k + n % 256 ^ k
  | 0, acc => by simp [lowB, Nat.mod_one]
  | k + 1, acc => by
    simp only [lowB, List.foldl_cons]
    rw [rdN_low n k]
    have hb : (UInt8.ofNat (n / 256 ^ k % 256)).toNat = n / 256 ^ k % 256 := by simp
    rw [hb]
    have h1 : n % 256 ^ (k + 1) = n % 256 ^ k + 256 ^ k * (n / 256 ^ k % 256) := by
      rw [Nat.pow_succ, Nat.mod_mul]
    rw [h1, Nat.pow_succ]
    rw [Nat.add_mul, Nat.mul_assoc, Nat.mul_comm 256 (256 ^ k), Nat.mul_comm (n / 256 ^ k % 256) (256 ^ k)]
    omega
theorem rf_fix {n : Nat} (h : n < 72057594037927936) (t : List UInt8) : rf (⟨(lowB n 7).toArray⟩ ++ ⟨t.toArray⟩) 7 = n := by
  unfold rf rdN
  rw [app_list, List.take_append_of_le_length (by rw [lowB_len]; omega), List.take_of_length_le (by rw [lowB_len]; omega), rdN_low]
  rw [Nat.zero_mul, Nat.zero_add]
  exact Nat.mod_eq_of_lt h
theorem rdI_itoa (v : Int) : rdI (Lib.itoa v) = if nine v then (v, true) else (0, false) := by
  rw [rdI_eq]
  cases h : nine v
  · rw [rdDec_no fun m h1 h2 => by rw [itoa_inj h2, h] at h1; cases h1]; rfl
  · rw [rdDec_yes h]; rfl
theorem hex_len (l : List UInt8) : (l.flatMap fun b => [dig (b.toNat / 16), dig (b.toNat % 16)]).length = 2 * l.length := by
  induction l with
  | nil => rfl
  | cons b l ih => simp only [List.flatMap_cons, List.length_append, ih, List.length_cons, List.length_nil]; omega
theorem hex_at : ∀ (l : List UInt8) (j : Nat) (b : UInt8), l[j]? = some b → (l.flatMap fun b => [dig (b.toNat / 16), dig (b.toNat % 16)]).getD (2 * j) 0 = dig (b.toNat / 16) ∧ (l.flatMap fun b => [dig (b.toNat / 16), dig (b.toNat % 16)]).getD (2 * j + 1) 0 = dig (b.toNat % 16)
  | [], j, b, h => by simp at h
  | x :: l, 0, b, h => by
    have : x = b := by simpa using h
    subst this
    exact ⟨rfl, rfl⟩
  | x :: l, j + 1, b, h => by
    have := hex_at l j b (by simpa using h)
    simp only [List.flatMap_cons, List.getD_eq_getElem?_getD] at this ⊢
    rw [show 2 * (j + 1) = 2 * j + 1 + 1 by omega]
    exact this
theorem hv_of (k : Nat) (hk : k < 16) : hv (dig k) = k := hv_dig (dig k) k hk rfl
theorem unhex_hex (t : List UInt8) : unhexL ⟨(hexTo ⟨t.toArray⟩ t.length).toArray⟩ = (t, true) := by
  have e : hexTo ⟨t.toArray⟩ t.length = t.flatMap fun b => [dig (b.toNat / 16), dig (b.toNat % 16)] := by
    unfold hexTo
    rw [List.take_of_length_le (by simp)]
  rw [e]
  have hs : (⟨(t.flatMap fun b => [dig (b.toNat / 16), dig (b.toNat % 16)]).toArray⟩ : ByteArray).size = 2 * t.length := by simp only [ByteArray.size, List.size_toArray, hex_len]
  have key : ∀ j (hj : j < t.length), hv ((t.flatMap fun b => [dig (b.toNat / 16), dig (b.toNat % 16)]).getD (2 * j) 0) = ((t[j].toNat / 16 : Nat) : Int) ∧ hv ((t.flatMap fun b => [dig (b.toNat / 16), dig (b.toNat % 16)]).getD (2 * j + 1) 0) = ((t[j].toNat % 16 : Nat) : Int) := by
    intro j hj
    have h := hex_at t j t[j] (List.getElem?_eq_getElem hj)
    have hb := UInt8.toNat_lt t[j]
    rw [h.1, h.2, hv_of _ (by omega), hv_of _ (by omega)]
    exact ⟨rfl, rfl⟩
  rw [unhex_good hs]
  · congr 1
    apply List.ext_getElem
    · rw [pairs_len]
    · intro j h1 h2
      simp only [pairs, List.getElem_map, List.getElem_range, pairV]
      rw [(key j h2).1, (key j h2).2]
      rw [show (16 * ((t[j].toNat / 16 : Nat) : Int) + ((t[j].toNat % 16 : Nat) : Int)).toNat = t[j].toNat by omega]
      simp
  · intro j hj
    simp only [pairOk]
    rw [(key j hj).1, (key j hj).2]
    simp only [Bool.and_eq_true, decide_eq_true_eq]
    omega

end Go.Proofs.YthganncfagddgaaDoor
