/- Contracts of ReadVar. -/
import Derived.Test.YthganncfagddgaaDoorReadVarM
import Derived.Deep.RegionHeld3
import Derived.Deep.DrawnRows
namespace Go.Proofs.YthganncfagddgaaDoor
set_option linter.unusedSimpArgs false
set_option linter.unusedVariables false
open Go.RowKit

theorem rd_go {l : List UInt8} {k : Nat} {c : UInt8} (hk : k < 7) (hc : l[k]? = some c) : rdVar l (7 - k) k = if 128 ≤ c.toNat then rdVar l (7 - (k + 1)) (k + 1) else if 0 < k ∧ c = 0 then (0, 0) else (valL (l.take (k + 1)), k + 1) := by
  rw [show 7 - k = (7 - (k + 1)) + 1 by omega, rdVar, hc]
theorem rd_end {l : List UInt8} {k : Nat} (hk : k ≤ 7) (h : ¬ (k < 7 ∧ k < l.length)) : rdVar l (7 - k) k = (0, 0) := by
  by_cases h7 : k < 7
  · rw [show 7 - k = (7 - (k + 1)) + 1 by omega, rdVar, List.getElem?_eq_none (by omega)]
  · rw [show 7 - k = 0 by omega, rdVar]
theorem or_shl {N m k : Nat} (hN : N < 128 ^ k) (hm : m < 256) (hk : k < 7) : bits .or .i64 (N : Int) (wrap64 (bits .and .i64 (m : Int) 127 * 2 ^ (7 * k))) = ((N + m % 128 * 128 ^ k : Nat) : Int) := by
  have h1 : m &&& 127 = m % 128 := Nat.and_two_pow_sub_one_eq_mod m 7
  have hp : (128 : Nat) ^ k ≤ 128 ^ 6 := Nat.pow_le_pow_right (by omega) (by omega)
  have hp2 : (128 : Nat) ^ k = 2 ^ (7 * k) := by rw [Nat.pow_mul]
  have hb : m % 128 * 128 ^ k ≤ 127 * 128 ^ 6 := Nat.mul_le_mul (by omega) hp
  have hs : N + m % 128 * 128 ^ k < 9223372036854775808 := by omega
  rw [show (127 : Int) = ((127 : Nat) : Int) from rfl, i64_and_nat _ _ (by omega) (by omega), h1]
  rw [show ((m % 128 : Nat) : Int) * 2 ^ (7 * k) = ((m % 128 * 128 ^ k : Nat) : Int) by rw [hp2]; simp [Int.natCast_mul, Int.natCast_pow]]
  rw [w64 (by omega) (by omega), i64_or_nat _ _ (by omega) (by omega)]
  congr 1
  have := Nat.two_pow_add_eq_or_of_lt (i := 7 * k) (b := N) (by rw [← hp2]; exact hN) (m % 128)
  rw [Nat.or_comm, hp2, Nat.mul_comm (m % 128), ← this, Nat.add_comm]
theorem valL_take {l : List UInt8} {k : Nat} {c : UInt8} (hc : l[k]? = some c) : valL (l.take (k + 1)) = valL (l.take k) + c.toNat % 128 * 128 ^ k := by
  have hk : k < l.length := (List.getElem?_eq_some_iff.1 hc).1
  rw [List.take_add_one, hc]
  show valL (l.take k ++ [c]) = _
  rw [valL_snoc, List.length_take, Nat.min_eq_left (by omega)]
def rdV (s : ByteArray) : Nat × Nat := rdVar s.data.toList 7 0
set_option maxRecDepth 100000 in
set_option maxHeartbeats 3200000 in
theorem implReadVar_any (s : ByteArray) (w : World) (hs : s.size ≤ 1099511627776) :
    Calls Tryd.prog 14 #[.string s] w fun e w' => e = .returned (.tuple #[.int .i64 (rdV s).1, .int .i64 (rdV s).2]) ∧ w = w' := by
  go_enter Tryd.func14, Tryd.ntmps14
  go_wp2
  go_loop [4, 5] (fun n i => ∃ (k N : Nat), k ≤ 7 ∧ k ≤ s.size ∧ i = .int .i64 k ∧ n = .int .i64 N ∧ Hid (N = valL (s.data.toList.take k)) ∧ Hid (rdV s = rdVar s.data.toList (7 - k) k)) (fun _ i => 7 - (intOf i).toNat)
  case atStart => exact ⟨0, 0, by omega, by omega, rfl, rfl, rfl, rfl⟩
  case round =>
    obtain ⟨k, N, hk7, hks, rfl, rfl, hN, hrd⟩ := hrel
    by_cases hlt : k < 7 ∧ k < s.size
    · obtain ⟨hlt, hlt2⟩ := hlt
      have hc := Lib.hid (show s.data.toList[k]? = some s[k] by rw [List.getElem?_eq_getElem (by simpa using hlt2)]; rfl)
      have hstep := Lib.hid (rd_go hlt hc.out)
      have hNk : N < 128 ^ k := by rw [hN.out]; have := valL_lt (s.data.toList.take k); rwa [List.length_take, Nat.min_eq_left (by simpa using hks)] at this
      have hval := Lib.hid (valL_take hc.out)
      have hz : s[k] = 0 ↔ s[k].toNat = 0 := ⟨fun h => by rw [h]; rfl, fun h => UInt8.toNat_inj.1 h⟩
      have hm256 := s[k].toNat_lt
      obtain ⟨m, hm⟩ : ∃ m : Nat, s[k].toNat = m := ⟨_, rfl⟩
      have hor := Lib.hid (or_shl (N := N) (m := m) hNk (by omega) hlt)
      rw [hm] at hstep hval hz hm256
      have hz2 := Lib.hid hz
      clear hz hNk
      have hki : (k : Int) < 7 := by omega
      have hksi : (k : Int) < (s.size : Int) := by omega
      have hm256 : m < 256 := hm256
      have hw : wrap64 (m : Int) = m := w64 (by omega) (by omega)
      by_cases hb : 128 ≤ m
      · have hr := Lib.hid (show rdV s = rdVar s.data.toList (7 - (k + 1)) (k + 1) by rw [hrd.out, hstep.out, if_pos hb])
        have hv := Lib.hid (show N + m % 128 * 128 ^ k = valL (s.data.toList.take (k + 1)) by rw [hval.out, hN.out])
        have hb2 : (127 : Int) < (m : Int) := by omega
        go_wp2
        exact ⟨⟨k + 1, _, by omega, by omega, by go_num, by rw [hor.out], hv, hr⟩, by simp [intOf]; omega⟩
      · have hb2 : (m : Int) ≤ 127 := by omega
        by_cases h0 : 0 < k ∧ m = 0
        · obtain ⟨hk0, rfl⟩ := h0
          have hr := Lib.hid (show rdV s = (0, 0) by rw [hrd.out, hstep.out, if_neg hb, if_pos ⟨hk0, hz2.out.2 rfl⟩])
          have hk0i : (0 : Int) < (k : Int) := by omega
          go_wp2
          go_ret2
          exact ⟨by rw [hr.out]; rfl, rfl⟩
        · have hr := Lib.hid (show rdV s = (N + m % 128 * 128 ^ k, k + 1) by rw [hrd.out, hstep.out, if_neg hb, if_neg (fun h => h0 ⟨h.1, hz2.out.1 h.2⟩), hval.out, hN.out])
          by_cases hk0 : k = 0
          · subst hk0
            have hor0 := Lib.hid (show ((N + m % 128 * 128 ^ 0 : Nat) : Int) = bits .or .i64 (N : Int) (wrap64 (bits .and .i64 (m : Int) 127)) by rw [← hor.out]; simp)
            go_wp2
            go_ret2
            exact ⟨by rw [hr.out, hor0.out]; rfl, rfl⟩
          · have hk0i : (0 : Int) < (k : Int) := by omega
            have hm0 : ((m : Int) == 0) = false := by simp; omega
            go_wp2
            go_ret2
            exact ⟨by rw [hr.out, ← hor.out]; rfl, rfl⟩
    · have hr := Lib.hid (show rdV s = (0, 0) by rw [hrd.out, rd_end hk7 (by simpa using hlt)])
      by_cases h7 : k < 7
      · have h1 : (s.size : Int) ≤ (k : Int) := by omega
        go_wp2
        go_ret2
        exact ⟨by rw [hr.out]; rfl, rfl⟩
      · obtain rfl : k = 7 := by omega
        go_wp2
        go_ret2
        exact ⟨by rw [hr.out]; rfl, rfl⟩
theorem canon_len {l : List UInt8} {k : Nat} (h : k ≤ l.length) : (l.take k).length = k := by simp; omega
theorem rd_hit {s : ByteArray} {k : Nat} (h1 : 1 ≤ k) (h7 : k ≤ 7) (hs : k ≤ s.size) (h : varL (valL (s.data.toList.take k)) = s.data.toList.take k) : rdV s = (valL (s.data.toList.take k), k) :=
  (rd_scan 7 0 (fun j hj => by omega)).1 k (by omega) (by omega) (by simpa using hs) ((canon_iff _).1 h)
theorem rd_miss {s : ByteArray} (h : ∀ k, 1 ≤ k → k ≤ 7 → k ≤ s.size → varL (valL (s.data.toList.take k)) ≠ s.data.toList.take k) : rdV s = (0, 0) :=
  (rd_scan 7 0 (fun j hj => by omega)).2 fun k h1 h2 h3 => by
    cases hc : canon (s.data.toList.take k)
    · rfl
    · exact absurd ((canon_iff _).2 hc) (h k (by omega) (by omega) (by simpa using h3))
theorem valL_drop {l : List UInt8} {i : Nat} {c : UInt8} (hc : l[i]? = some c) : valL (l.drop i) = valL (l.drop (i + 1)) * 128 + c.toNat % 128 := by
  have hi : i < l.length := (List.getElem?_eq_some_iff.1 hc).1
  rw [List.drop_eq_getElem_cons hi]
  have : l[i] = c := (List.getElem?_eq_some_iff.1 hc).2
  rw [this, valL]; omega
theorem str_ne {a b : ByteArray} (h : ¬ a = b) : (a.toList == b.toList) = false := by
  rw [beq_eq_false_iff_ne]
  intro e
  rw [ByteArray.toList_eq, ByteArray.toList_eq] at e
  exact h (ByteArray.ext (Array.toList_inj.1 e))
end Go.Proofs.YthganncfagddgaaDoor
