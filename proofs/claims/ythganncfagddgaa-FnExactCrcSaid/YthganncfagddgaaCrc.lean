/- Contracts of Crc. -/
import Derived.Test.YthganncfagddgaaReadFixed
namespace Go.Proofs.Ythganncfagddgaa
set_option linter.unusedSimpArgs false
set_option linter.unusedVariables false
open Go.RowKit

def poly : Nat := 2197175160
def crcBit (c : Nat) : Nat := if c % 2 = 1 then (c / 2) ^^^ poly else c / 2
def crcBits (c : Nat) : Nat → Nat
  | 0 => c
  | j + 1 => crcBit (crcBits c j)
def crcTo (s : ByteArray) (k : Nat) : Nat := (s.data.toList.take k).foldl (fun c b => crcBits (c ^^^ b.toNat) 8) 4294967295
theorem crcBit_bd {c : Nat} (h : c < 4294967296) : crcBit c < 4294967296 := by
  unfold crcBit
  split
  · exact Nat.xor_lt_two_pow (n := 32) (by omega) (by unfold poly; omega)
  · omega
theorem crcBits_bd {c : Nat} (h : c < 4294967296) : ∀ j, crcBits c j < 4294967296
  | 0 => h
  | j + 1 => crcBit_bd (crcBits_bd h j)
theorem xorByte_bd {c : Nat} (b : UInt8) (h : c < 4294967296) : c ^^^ b.toNat < 4294967296 :=
  Nat.xor_lt_two_pow (n := 32) (by omega) (by have := UInt8.toNat_lt b; omega)
theorem crcTo_bd (s : ByteArray) (k : Nat) : crcTo s k < 4294967296 := by
  have gen : ∀ (l : List UInt8) (c : Nat), c < 4294967296 → l.foldl (fun c b => crcBits (c ^^^ b.toNat) 8) c < 4294967296 := by
    intro l
    induction l with
    | nil => intro c h; exact h
    | cons b l ih => intro c h; exact ih _ (crcBits_bd (xorByte_bd b h) 8)
  exact gen _ _ (by omega)
theorem crcTo_succ (s : ByteArray) (k : Nat) (h : k < s.size) : crcTo s (k + 1) = crcBits (crcTo s k ^^^ s[k].toNat) 8 := by
  unfold crcTo; rw [take_snoc s k h]; simp [List.foldl_append]
theorem i64_xor_nat (a b : Nat) (ha : a < 9223372036854775808) (hb : b < 9223372036854775808) : bits .xor .i64 (a : Int) (b : Int) = ((a ^^^ b : Nat) : Int) := by
  have hx : a ^^^ b < 2 ^ 63 := Nat.xor_lt_two_pow (by omega) (by omega)
  show IntKind.i64.wrap ((BitVec.ofInt 64 (a : Int) ^^^ BitVec.ofInt 64 (b : Int)).toNat : Int) = _
  rw [BitVec.toNat_xor, ofInt_i64 a ha, ofInt_i64 b hb, IntKind.wrap_i64]
  omega
theorem xor_byte {c : Nat} (b : UInt8) (h : c < 4294967296) : bits .xor .i64 (c : Int) (wrap64 (b.toNat : Int)) = ((c ^^^ b.toNat : Nat) : Int) := by
  have hb := UInt8.toNat_lt b
  rw [w64 (x := (b.toNat : Int)) (by omega) (by omega), i64_xor_nat _ _ (by omega) (by omega)]
theorem xor_poly {c : Nat} (h : c < 4294967296) : bits .xor .i64 ((c : Int) / 2) 2197175160 = ((c / 2 ^^^ poly : Nat) : Int) := by
  rw [show ((c : Int) / 2) = ((c / 2 : Nat) : Int) by omega, show (2197175160 : Int) = ((poly : Nat) : Int) from rfl, i64_xor_nat _ _ (by omega) (by unfold poly; omega)]

set_option maxHeartbeats 3200000 in
theorem specCrc_any (s : ByteArray) (w : World) (hs : s.size ≤ 1099511627776) :
    Calls Try.prog 18 #[.string s] w fun e w' => e = .returned (.int .i64 (4294967295 - (crcTo s s.size : Int))) ∧ w = w' := by
  go_enter Try.func18, Try.ntmps18
  go_wp2
  go_loop [3, 4, 5, 6] (fun q i _ _ => ∃ k : Nat, k ≤ s.size ∧ i = .int .i64 k ∧ q = .int .i64 (crcTo s k : Nat)) (fun _ i _ _ => s.size - (intOf i).toNat)
  case atStart => exact ⟨0, Nat.zero_le _, rfl, rfl⟩
  case round =>
    obtain ⟨k, hk, rfl, rfl⟩ := hrel
    by_cases hlt : k < s.size
    · have hsuc := Lib.hid (crcTo_succ s k hlt)
      have hbd := crcTo_bd s k
      generalize hz : crcTo s k = z at *
      clear hz
      have hx := Lib.hid (xor_byte s[k] hbd)
      have hbd2 := xorByte_bd s[k] hbd
      go_wp2
      rw [hx.out]
      generalize hy : z ^^^ s[k].toNat = y at *
      clear hx
      have HY := Lib.hid hy
      clear hy
      go_loop [3, 5, 6] (fun q i _ => ∃ j : Nat, j ≤ 8 ∧ i = .int .i64 j ∧ q = .int .i64 (crcBits y j : Nat)) (fun _ i _ => 8 - (intOf i).toNat)
      case atStart => exact ⟨0, by omega, rfl, rfl⟩
      case round =>
        obtain ⟨j, hj, rfl, rfl⟩ := hrel
        by_cases hlt8 : j < 8
        · have hb3 := crcBits_bd hbd2 j
          have hst := Lib.hid (show crcBits y (j + 1) = crcBit (crcBits y j) from rfl)
          generalize crcBits y j = v at *
          have hxp := Lib.hid (xor_poly hb3)
          by_cases hodd : v % 2 = 1
          · have ho : ((v : Int) % 2 == 1) = true := by simp; omega
            have hv := Lib.hid (show crcBit v = (v / 2 ^^^ poly) by unfold crcBit; rw [if_pos hodd])
            clear hodd
            go_wp2
            refine ⟨⟨j + 1, by omega, by go_num, ?_⟩, by simp [intOf]; omega⟩
            rw [hst.out, hv.out, ← hxp.out]
          · have ho : ((v : Int) % 2 == 1) = false := by simp; omega
            have hv := Lib.hid (show crcBit v = v / 2 by unfold crcBit; rw [if_neg hodd])
            clear hodd
            go_wp2
            refine ⟨⟨j + 1, by omega, by go_num, ?_⟩, by simp [intOf]; omega⟩
            rw [hst.out, hv.out]; go_num
        · obtain rfl : j = 8 := by omega
          go_wp2
          refine ⟨⟨k + 1, by omega, by go_num, ?_⟩, by simp [intOf]; omega⟩
          rw [hsuc.out]
    · obtain rfl : k = s.size := by omega
      have hbd := crcTo_bd s s.size
      go_wp2
      go_ret
      exact ⟨rfl, rfl⟩

set_option maxHeartbeats 3200000 in
theorem implCrc_any (s : ByteArray) (w : World) (hs : s.size ≤ 1099511627776) :
    Calls Try.prog 19 #[.string s] w fun e w' => e = .returned (.int .i64 (4294967295 - (crcTo s s.size : Int))) ∧ w = w' := by
  go_enter Try.func19, Try.ntmps19
  go_wp2
  go_loop [3, 4, 18, 5] (fun q i _ _ => ∃ k : Nat, k ≤ s.size ∧ i = .int .i64 k ∧ q = .int .i64 (crcTo s k : Nat)) (fun _ i _ _ => s.size - (intOf i).toNat)
  case atStart => exact ⟨0, Nat.zero_le _, rfl, rfl⟩
  case round =>
    obtain ⟨k, hk, rfl, rfl⟩ := hrel
    by_cases hlt : k < s.size
    · have hsuc := Lib.hid (crcTo_succ s k hlt)
      have hbd := crcTo_bd s k
      generalize hz : crcTo s k = z at *
      clear hz
      have hx := Lib.hid (xor_byte s[k] hbd)
      have hbd2 := xorByte_bd s[k] hbd
      go_wp2
      rw [hx.out]
      generalize hy : z ^^^ s[k].toNat = y at *
      clear hx
      have HY := Lib.hid hy
      clear hy
      go_loop [3, 18, 5] (fun q i _ => ∃ j : Nat, j ≤ 8 ∧ i = .int .i64 j ∧ q = .int .i64 (crcBits y j : Nat)) (fun _ i _ => 8 - (intOf i).toNat)
      case atStart => exact ⟨0, by omega, rfl, rfl⟩
      case round =>
        obtain ⟨j, hj, rfl, rfl⟩ := hrel
        by_cases hlt8 : j < 8
        · have hb3 := crcBits_bd hbd2 j
          have hst := Lib.hid (show crcBits y (j + 1) = crcBit (crcBits y j) from rfl)
          generalize crcBits y j = v at *
          have hxp := Lib.hid (xor_poly hb3)
          by_cases hodd : v % 2 = 1
          · have ho : ((v : Int) % 2 == 1) = true := by simp; omega
            have hv := Lib.hid (show crcBit v = (v / 2 ^^^ poly) by unfold crcBit; rw [if_pos hodd])
            clear hodd
            go_wp2
            refine ⟨⟨j + 1, by omega, by go_num, ?_⟩, by simp [intOf]; omega⟩
            rw [hst.out, hv.out, ← hxp.out]
          · have ho : ((v : Int) % 2 == 1) = false := by simp; omega
            have hv := Lib.hid (show crcBit v = v / 2 by unfold crcBit; rw [if_neg hodd])
            clear hodd
            go_wp2
            refine ⟨⟨j + 1, by omega, by go_num, ?_⟩, by simp [intOf]; omega⟩
            rw [hst.out, hv.out]; go_num
        · obtain rfl : j = 8 := by omega
          go_wp2
          refine ⟨⟨k + 1, by omega, by go_num, ?_⟩, by simp [intOf]; omega⟩
          rw [hsuc.out]
    · obtain rfl : k = s.size := by omega
      have hbd := crcTo_bd s s.size
      go_wp2
      go_ret
      exact ⟨rfl, rfl⟩

end Go.Proofs.Ythganncfagddgaa
