/- Contracts of Fixed. -/
import Derived.Test.YthganncfagddgaaDoorVar
import Derived.Deep.OwnRows
namespace Go.Proofs.YthganncfagddgaaDoor
set_option linter.unusedSimpArgs false
set_option linter.unusedVariables false
open Go.RowKit

def lowB (n : Nat) : Nat → List UInt8
  | 0 => []
  | j + 1 => UInt8.ofNat (n / 256 ^ j % 256) :: lowB n j
theorem lowB_len (n : Nat) : ∀ j, (lowB n j).length = j
  | 0 => rfl
  | j + 1 => by simp [lowB, lowB_len n j]
def fixS (n k : Nat) : ByteArray := if n < 256 ^ k then ⟨(lowB n k).toArray⟩ else ⟨#[]⟩
def oneB (b : UInt8) : ByteArray := ⟨#[b]⟩
theorem oneB_app (b : UInt8) (l : List UInt8) : oneB b ++ ⟨l.toArray⟩ = ⟨(b :: l).toArray⟩ := by
  apply ByteArray.ext
  simp [oneB]
theorem conv_one (w : World) (n : Nat) : (convert 27 9 (.slice (some ⟨w.heap.size, 0, none⟩) 1 1)).run Tryd.prog (w.alloc (.cells #[.int .u8 ((n : Int) % 256)] 5)) = .ok (.string (oneB (UInt8.ofNat (n % 256)))) (w.alloc (.cells #[.int .u8 ((n : Int) % 256)] 5)) :=
  run_convert_bytes_back _ _ _ 5 _ 1 [UInt8.ofNat (n % 256)] Tryd.underlying27 Tryd.underlying5 Tryd.underlying9 fun j hj => by
    obtain rfl : j = 0 := by simpa using hj
    have e : ((UInt8.ofNat (n % 256)).toNat : Int) = (n : Int) % 256 := by simp
    simp [Addr.add]
/-- after j rounds: the last j bytes are written, the others nought -/
def partF (k n j : Nat) : Array Value := (List.replicate (k - j) (Value.int .u8 0) ++ (lowB n j).map B8).toArray
theorem partF_0 (k n : Nat) : madeCells #[Value.int .u8 0] k = partF k n 0 := by
  apply Array.ext_getElem?
  intro i
  simp [partF, lowB, madeCells, Nat.mod_one, List.getElem?_replicate, Array.getElem?_range]
  split <;> simp_all
theorem partF_size {k n j : Nat} (h : j ≤ k) : (partF k n j).size = k := by simp [partF, lowB_len]; omega
theorem partF_n (k n : Nat) : partF k n k = ((lowB n k).map B8).toArray := by simp [partF]
theorem partF_get {k n j q : Nat} (hq : q + 1 + j = k) : (partF k n j)[q]? = some (.int .u8 0) := by
  simp only [partF, List.getElem?_toArray]
  rw [List.getElem?_append_left (by simp; omega)]
  simp [List.getElem?_replicate]; omega
theorem partF_set {k n j q : Nat} (hq : q + 1 + j = k) : (partF k n j).setIfInBounds q (B8 (UInt8.ofNat (n / 256 ^ j % 256))) = partF k n (j + 1) := by
  simp only [partF, List.setIfInBounds_toArray]
  congr 1
  rw [List.set_append_left _ _ (by simp; omega), show k - j = q + 1 by omega, show k - (j + 1) = q by omega, List.replicate_succ', List.set_append_right _ _ (by simp)]
  simp [lowB]
theorem fixB8 {n : Nat} (h : n < 9223372036854775808) : Value.int .u8 (bits .and .i64 (n : Int) 255 % 256) = B8 (UInt8.ofNat (n % 256)) := by
  have h1 : n &&& 255 = n % 256 := Nat.and_two_pow_sub_one_eq_mod n 8
  rw [show (255 : Int) = ((255 : Nat) : Int) from rfl, i64_and_nat _ _ h (by omega), h1, B8]
  simp
theorem conv_all (w : World) (g k n : Nat) (hg : w.heap[g]? = some (.cells (partF k n k) 5 (0, 0))) : (convert 27 9 (.slice (some ⟨g, 0, none⟩) k k)).run Tryd.prog w = .ok (.string ⟨(lowB n k).toArray⟩) w := by
  have := run_convert_bytes_back w 27 9 5 ⟨g, 0, none⟩ k (lowB n k) Tryd.underlying27 Tryd.underlying5 Tryd.underlying9 fun j hj => by
    have h2 : w.cell? ⟨g, j, none⟩ = some (B8 (lowB n k)[j]) := by
      rw [(blkcell hg).1, partF_n]; simp [List.getElem?_eq_getElem hj]
    by_cases hj0 : j = 0
    · subst hj0; simpa [Addr.add, B8] using h2
    · simpa [Addr.add, hj0, B8] using h2
  rwa [lowB_len] at this
theorem shr_eq (n0 k : Nat) : (n0 : Int) / 2 ^ (8 * k) = ((n0 / 256 ^ k : Nat) : Int) := by
  rw [Int.natCast_ediv, Int.natCast_pow, Int.pow_mul]; rfl
set_option maxRecDepth 100000 in
set_option maxHeartbeats 6400000 in
theorem implFixed_yes (n0 k : Nat) (w : World) (hk : 1 ≤ k) (hk7 : k ≤ 7) (hn : n0 < 9223372036854775808) (hin : inB (k : Int) 1 7 = true) (hlt0 : n0 < 256 ^ k) :
    Calls Tryd.prog 15 #[.int .i64 n0, .int .i64 k] w fun e w' => e = .returned (.string (fixS n0 k)) ∧ Below w.heap.size w w' := by
  have hmk := run_make_row' (P := Tryd.prog) 27 5 (.int .u8 0) 1 Tryd.underlying27 byte_info rfl .i64 .i64 k (by omega) (by omega)
  have hsh : ((n0 : Int) / 2 ^ (8 * k) != 0) = false := by rw [shr_eq, Nat.div_eq_of_lt hlt0]; rfl
  have hr := Lib.hid (show fixS n0 k = ⟨(lowB n0 k).toArray⟩ by simp [fixS, hlt0])
  clear hlt0
  go_enter Tryd.func15, Tryd.ntmps15
  go_wp2_with (go_at_call 22; refine (within_any _ _ _ _).mono ?_; rintro e w' ⟨rfl, rfl⟩)
  rw [partF_0 k n0]
  go_loopw [0, 6] (fun m i wr => ∃ (j n : Nat), j ≤ k ∧ i = .int .i64 ((k : Int) - 1 - (j : Int)) ∧ m = .int .i64 n ∧ n < 9223372036854775808 ∧ Hid (n = n0 / 256 ^ j) ∧ wr = w.alloc (.cells (partF k n0 j) 5)) (fun _ i _ => (intOf i + 1).toNat)
  case atStart => exact ⟨0, n0, Nat.zero_le _, by simp, rfl, hn, (Nat.div_one n0).symm, rfl⟩
  case round =>
    obtain ⟨j, n, hj, rfl, rfl, hn2, hm, rfl⟩ := hrel
    by_cases hlt : j < k
    · obtain ⟨q, hq⟩ : ∃ q : Nat, (k : Int) - 1 - (j : Int) = q := ⟨k - 1 - j, by omega⟩
      have hqk : q + 1 + j = k := by omega
      have hset := Lib.hid (partF_set (k := k) (n := n0) (j := j) (q := q) hqk)
      have hget := partF_get (k := k) (n := n0) (j := j) (q := q) hqk
      have hb := Lib.hid (fixB8 (n := n) hn2)
      have hm2 := Lib.hid (show n / 256 = n0 / 256 ^ (j + 1) by rw [hm.out, Nat.div_div_eq_div_mul, Nat.pow_succ])
      have h1 : (0 : Int) ≤ (q : Int) := by omega
      have h2 : (q : Int) < (k : Int) := by omega
      have hsz := partF_size (k := k) (n := n0) (j := j) hj
      have hszq : q < (partF k n0 j).size := by rw [hsz]; omega
      clear hsz
      rw [hq]
      have hq2 := Lib.hid hq
      clear hq
      go_wp2
      exact ⟨⟨j + 1, n / 256, by omega, congrArg (Value.int .i64) (by have := hq2.out; omega), by go_num, by omega, hm2, by rw [hb.out, hm.out, hset.out]⟩, by simp [intOf]⟩
    · obtain rfl : j = k := by omega
      have hcv := conv_all (w.alloc (.cells (partF j n0 j) 5)) w.heap.size j n0 (heap_alloc_new w _)
      have h1 : (j : Int) - 1 - (j : Int) = -1 := by omega
      rw [h1]
      clear h1
      go_wp2
      go_ret
      exact ⟨by rw [hr.out]; rfl, (by (repeat (first | exact Below.refl _ _ | assumption | refine Below.drew ?_ | refine Below.alloc ?_ ?_ _ | refine Below.setCell ?_ ?_ _)) <;> ((try simp) <;> omega))⟩
theorem implFixed_no (n0 k : Nat) (w : World) (hk : 1 ≤ k) (hk7 : k ≤ 7) (hn : n0 < 9223372036854775808) (hin : inB (k : Int) 1 7 = true) (hge : ¬ n0 < 256 ^ k) :
    Calls Tryd.prog 15 #[.int .i64 n0, .int .i64 k] w fun e w' => e = .returned (.string (fixS n0 k)) ∧ Below w.heap.size w w' := by
  have hsh : ((n0 : Int) / 2 ^ (8 * k) != 0) = true := by
    rw [shr_eq]
    have : 0 < n0 / 256 ^ k := Nat.div_pos (by omega) (Nat.pow_pos (by omega))
    generalize n0 / 256 ^ k = d at this ⊢
    simp; omega
  have hr := Lib.hid (show fixS n0 k = ⟨#[]⟩ by simp [fixS, hge])
  clear hge
  go_enter Tryd.func15, Tryd.ntmps15
  go_wp2_with (go_at_call 22; refine (within_any _ _ _ _).mono ?_; rintro e w' ⟨rfl, rfl⟩)
  go_ret
  exact ⟨by rw [hr.out]; rfl, Below.refl _ _⟩
theorem implFixed_out (n k : Int) (w : World) (h : inB k 1 7 = false ∨ (inB k 1 7 = true ∧ n < 0)) :
    Calls Tryd.prog 15 #[.int .i64 n, .int .i64 k] w fun e w' => e = .returned (.string ⟨#[]⟩) ∧ Below w.heap.size w w' := by
  rcases h with h | ⟨h, h2⟩
  all_goals
    go_enter Tryd.func15, Tryd.ntmps15
    go_wp2_with (go_at_call 22; refine (within_any _ _ _ _).mono ?_; rintro e w' ⟨rfl, rfl⟩)
    go_ret
    exact ⟨rfl, Below.refl _ _⟩

end Go.Proofs.YthganncfagddgaaDoor
