/- Contracts of ReadFixed. -/
import Derived.Test.YthganncfagddgaaDoorBase
import Derived.Laws.BitsAllLaws
import Derived.Laws.BitsLemmas
namespace Go.Proofs.YthganncfagddgaaDoor
set_option linter.unusedSimpArgs false
set_option linter.unusedVariables false
open Go.RowKit

def rdN (l : List UInt8) : Nat := l.foldl (fun n b => n * 256 + b.toNat) 0
def rf (s : ByteArray) (k : Nat) : Nat := rdN (s.data.toList.take k)
theorem take_snoc (s : ByteArray) (k : Nat) (h : k < s.size) : s.data.toList.take (k + 1) = s.data.toList.take k ++ [s[k]] := by
  rw [List.take_succ_eq_append_getElem (by simpa using h)]; rfl
theorem ofInt_i64 (a : Nat) (ha : a < 9223372036854775808) : (BitVec.ofInt 64 (a : Int)).toNat = a := by
  rw [BitVec.ofInt_natCast, BitVec.toNat_ofNat]; exact Nat.mod_eq_of_lt (by omega)
theorem i64_or_nat (a b : Nat) (ha : a < 9223372036854775808) (hb : b < 9223372036854775808) : bits .or .i64 (a : Int) (b : Int) = ((a ||| b : Nat) : Int) := by
  have hx : a ||| b < 2 ^ 63 := Nat.or_lt_two_pow (by omega) (by omega)
  show IntKind.i64.wrap ((BitVec.ofInt 64 (a : Int) ||| BitVec.ofInt 64 (b : Int)).toNat : Int) = _
  rw [BitVec.toNat_or, ofInt_i64 a ha, ofInt_i64 b hb, IntKind.wrap_i64]
  omega
theorem or_low (a b : Nat) (hb : b < 256) : a * 256 ||| b = a * 256 + b := by
  have := Nat.two_pow_add_eq_or_of_lt (i := 8) (b := b) (by omega) a
  rw [Nat.mul_comm a 256]; exact this.symm
theorem w64 {x : Int} (h0 : -9223372036854775808 ≤ x) (h1 : x ≤ 9223372036854775807) : wrap64 x = x := by
  unfold wrap64; omega
theorem add_round {z b : Nat} (hz : z < 281474976710656) (hb : b < 256) : wrap64 ((z : Int) * 256 + wrap64 (b : Int)) = ((z * 256 + b : Nat) : Int) := by
  rw [w64 (x := (b : Int)) (by omega) (by omega), w64 (by omega) (by omega)]; omega
theorem or_round {z b : Nat} (hz : z < 281474976710656) (hb : b < 256) : bits .or .i64 ((z : Int) * 256) (wrap64 (b : Int)) = ((z * 256 + b : Nat) : Int) := by
  rw [w64 (x := (b : Int)) (by omega) (by omega), show ((z : Int) * 256) = ((z * 256 : Nat) : Int) by omega, i64_or_nat _ _ (by omega) (by omega), or_low z b hb]
theorem rf_succ (s : ByteArray) (k : Nat) (h : k < s.size) : rf s (k + 1) = rf s k * 256 + s[k].toNat := by
  unfold rf; rw [take_snoc s k h]; simp [rdN, List.foldl_append]
theorem rdN_bd (l : List UInt8) : rdN l < 256 ^ l.length := by
  have gen : ∀ (l : List UInt8) (n m : Nat), n < 256 ^ m → l.foldl (fun n b => n * 256 + b.toNat) n < 256 ^ (m + l.length) := by
    intro l
    induction l with
    | nil => intro n m h; simpa using h
    | cons b l ih =>
      intro n m h
      have hb : b.toNat < 256 := b.toNat_lt
      have := ih (n * 256 + b.toNat) (m + 1) (by rw [Nat.pow_succ]; omega)
      simpa [Nat.add_assoc, Nat.add_comm 1] using this
  have := gen l 0 0 (by simp)
  rw [Nat.zero_add] at this; exact this
theorem rf_bd (s : ByteArray) (k : Nat) (h : k ≤ 6) : rf s k < 281474976710656 := by
  have h1 := rdN_bd (s.data.toList.take k)
  have h2 : (s.data.toList.take k).length ≤ 6 := Nat.le_trans (List.length_take_le _ _) h
  have h3 : 256 ^ (s.data.toList.take k).length ≤ 256 ^ 6 := Nat.pow_le_pow_right (by omega) h2
  unfold rf; omega

set_option maxHeartbeats 1600000 in
theorem implReadFixed_yes (s : ByteArray) (m : Int) (w : World) (hs : s.size ≤ 1099511627776) (h1 : inB m 1 7 = true) (h2 : m ≤ (s.size : Int)) :
    Calls Tryd.prog 16 #[.string s, .int .i64 m] w fun e w' => e = .returned (.tuple #[.int .i64 (rf s m.toNat), .bool true]) ∧ w = w' := by
  obtain ⟨b1, b2⟩ := inB_true h1
  obtain ⟨k0, rfl⟩ := Int.eq_ofNat_of_zero_le (show 0 ≤ m by omega)
  go_enter Tryd.func16, Tryd.ntmps16
  go_wp2_with (go_at_call 22; refine (within_any _ _ _ _).mono ?_; rintro e w' ⟨rfl, rfl⟩)
  go_loop [6, 7] (fun n i => ∃ k : Nat, k ≤ k0 ∧ i = .int .i64 k ∧ n = .int .i64 (rf s k)) (fun _ i => k0 - (intOf i).toNat)
  case atStart => exact ⟨0, Nat.zero_le _, rfl, rfl⟩
  case round =>
    obtain ⟨k, hk, rfl, rfl⟩ := hrel
    by_cases hlt : k < k0
    · have hsuc := Lib.hid (rf_succ s k (by omega))
      have hbd := rf_bd s k (by omega)
      have hks : k < s.size := by omega
      generalize rf s k = z at *
      go_wp2
      refine ⟨⟨k + 1, by omega, by go_num, ?_⟩, by simp [intOf]; omega⟩
      rw [hsuc.out, ← or_round hbd (UInt8.toNat_lt _)]
    · obtain rfl : k = k0 := by omega
      go_wp2
      go_ret2
      exact ⟨rfl, rfl⟩

def rfBad (s : ByteArray) (m : Int) : Bool := !inB m 1 7 || decide ((s.size : Int) < m)
theorem implReadFixed_no (s : ByteArray) (m : Int) (w : World) (h : inB m 1 7 = false ∨ (inB m 1 7 = true ∧ (s.size : Int) < m)) :
    Calls Tryd.prog 16 #[.string s, .int .i64 m] w fun e w' => e = .returned (.tuple #[.int .i64 0, .bool false]) ∧ w = w' := by
  rcases h with h | ⟨h, h2⟩
  all_goals
    go_enter Tryd.func16, Tryd.ntmps16
    go_wp2_with (go_at_call 22; refine (within_any _ _ _ _).mono ?_; rintro e w' ⟨rfl, rfl⟩)
    go_ret2
    exact ⟨rfl, rfl⟩

end Go.Proofs.YthganncfagddgaaDoor
