/- Slices of structs (Res) in memory, and the laws' own functions on them (copy, compare, mark, look). -/
import Derived.Test.YtdgkfpcecppfdaaRegion
import Derived.Test.YtdgkfpcecppfdaaAmt
import Derived.Deep.QuietTactic
import Derived.BigQuiet
import Derived.Deep.OwnRows
import Derived.Deep.Draws
import Derived.Deep.RegionHeld3
import Derived.Maps.AppendAt
import Derived.OwnWalk
import Derived.Test.YtdgkfpcecppfdaaERowsA
namespace Go.Proofs.Ytdgkfpcecppfdaa
set_option linter.unusedSimpArgs false
set_option linter.unusedVariables false
open Go.RowKit
attribute [local go_sem ↓] Go.wp_at_zero Go.wp_at_succ

theorem el_info : (Try.prog.info? 56).map (fun i => (i.zero, i.size, i.bytes)) = some (some (ev (false, 0, 0, 0, 0)), 5, 40) := by kernel_rfl
/-- after k rounds: the first k are copied, the others nought -/
def partE (xs : List El) (n k : Nat) : List El := xs.take k ++ List.replicate (n - k) (false, 0, 0, 0, 0)
theorem partE_n (xs : List El) {n : Nat} (h : xs.length = n) : partE xs n n = xs := by simp [partE, List.take_of_length_le (Nat.le_of_eq h)]
theorem partE_len (xs : List El) {n k : Nat} (h : xs.length = n) (hk : k ≤ n) : (partE xs n k).length = n := by simp [partE]; omega
theorem partE_at (xs : List El) {n k : Nat} (h : xs.length = n) (hk : k < n) : (partE xs n k)[k]? = some (false, 0, 0, 0, 0) := by
  have hl : (xs.take k).length = k := by simp; omega
  unfold partE
  rw [List.getElem?_append_right (by omega), hl, Nat.sub_self, show n - k = n - (k + 1) + 1 by omega, List.replicate_succ]
  rfl
theorem partE_set (xs : List El) {n k : Nat} {x : El} (h : xs.length = n) (hk : k < n) (hx : xs[k]? = some x) : (partE xs n k).set k x = partE xs n (k + 1) := by
  have hl : (xs.take k).length = k := by simp; omega
  unfold partE
  rw [List.set_append_right _ _ (by omega), hl, Nat.sub_self, show n - k = n - (k + 1) + 1 by omega, List.replicate_succ, List.set_cons_zero, List.take_add_one, hx]
  simp
theorem vals_repl (n : Nat) : madeCells (ev (false, 0, 0, 0, 0)).cells (n * 5) = (vals (List.replicate n (false, 0, 0, 0, 0))).toArray := by
  apply Array.ext_getElem?
  intro i
  have h := vals_at (List.replicate n (false, 0, 0, 0, 0)) (i / 5)
  rcases (show i % 5 = 0 ∨ i % 5 = 1 ∨ i % 5 = 2 ∨ i % 5 = 3 ∨ i % 5 = 4 by omega) with h0 | h0 | h0 | h0 | h0
  · rw [show i / 5 * 5 = i by omega] at h
    by_cases hi : i < n * 5
    · simp [madeCells, h0, h.1, List.getElem?_replicate, Array.getElem?_range, Value.cells, hi, show i / 5 < n by omega]
    · simp [madeCells, h0, h.1, List.getElem?_replicate, Array.getElem?_range, Value.cells, hi, show ¬ i / 5 < n by omega]
  · rw [show i / 5 * 5 + 1 = i by omega] at h
    by_cases hi : i < n * 5
    · simp [madeCells, h0, h.2.1, List.getElem?_replicate, Array.getElem?_range, Value.cells, hi, show i / 5 < n by omega]
    · simp [madeCells, h0, h.2.1, List.getElem?_replicate, Array.getElem?_range, Value.cells, hi, show ¬ i / 5 < n by omega]
  · rw [show i / 5 * 5 + 2 = i by omega] at h
    by_cases hi : i < n * 5
    · simp [madeCells, h0, h.2.2.1, List.getElem?_replicate, Array.getElem?_range, Value.cells, hi, show i / 5 < n by omega]
    · simp [madeCells, h0, h.2.2.1, List.getElem?_replicate, Array.getElem?_range, Value.cells, hi, show ¬ i / 5 < n by omega]
  · rw [show i / 5 * 5 + 3 = i by omega] at h
    by_cases hi : i < n * 5
    · simp [madeCells, h0, h.2.2.2.1, List.getElem?_replicate, Array.getElem?_range, Value.cells, hi, show i / 5 < n by omega]
    · simp [madeCells, h0, h.2.2.2.1, List.getElem?_replicate, Array.getElem?_range, Value.cells, hi, show ¬ i / 5 < n by omega]
  · rw [show i / 5 * 5 + 4 = i by omega] at h
    by_cases hi : i < n * 5
    · simp [madeCells, h0, h.2.2.2.2, List.getElem?_replicate, Array.getElem?_range, Value.cells, hi, show i / 5 < n by omega]
    · simp [madeCells, h0, h.2.2.2.2, List.getElem?_replicate, Array.getElem?_range, Value.cells, hi, show ¬ i / 5 < n by omega]
theorem make_rows {P : Program} (t e : TypeId) (i : TypeInfo) (z : Value) (ht : P.underlying t = some (.slice e)) (hi : P.info? e = some i) (hz : i.zero = some z) (n : Nat) (hb : i.bytes * n ≤ 281474976710656) (h63 : n ≤ 9223372036854775807) (w : World) :
    (Instr.makeSlice t (.int .i64 (n : Int)) (.int .i64 (n : Int))).run P w = .ok (.slice (some ⟨w.heap.size, 0, none⟩) n n) (w.alloc (.cells (madeCells z.cells (n * i.size)) e)) := by
  have hb' : (i.bytes : Int) * (n : Int) ≤ 281474976710656 := by
    have h : ((i.bytes * n : Nat) : Int) ≤ 281474976710656 := by omega
    rwa [Int.natCast_mul] at h
  have hr := run_make (P := P) w t e i z ht hi hz .i64 .i64 n n (by omega) (by omega) hb' (by omega)
  simpa only [Int.toNat_natCast] using hr
set_option maxHeartbeats 3200000 in
theorem toEls_any (A : Option Addr) (n c : Nat) (xs : List El) (w : World) (hx : Els w A xs) (hn : xs.length = n) (hnb : n ≤ 1099511627776) :
    Calls Try.prog 21 #[.slice A n c] w fun e w' => e = .returned (.slice (some ⟨w.heap.size, 0, none⟩) n n) ∧ Below w.heap.size w w' ∧ EBlk w' w.heap.size xs := by
  have HX := Lib.hid hx; have HN := Lib.hid hn
  clear hx hn
  obtain ⟨i0, hi, hz0, hz1, hz2⟩ := info_parts el_info
  have hmk : ∀ w : World, (Instr.makeSlice 24 (.int .i64 (n : Int)) (.int .i64 (n : Int))).run Try.prog w = .ok (.slice (some ⟨w.heap.size, 0, none⟩) n n) (w.alloc (.cells (vals (partE xs n 0)).toArray 56)) := by
    intro w
    have := make_rows (P := Try.prog) 24 56 i0 _ Try.underlying24 hi hz0 n (by rw [hz2]; omega) (by omega) w
    rw [this, hz1, vals_repl]; simp [partE]
  clear hi hz0 hz1 hz2
  go_enter Try.func21, Try.ntmps21
  go_wp2
  go_loopw [4] (fun i wr => ∃ k : Nat, k ≤ n ∧ i = .int .i64 k ∧ Hid (EBlk wr w.heap.size (partE xs n k)) ∧ Below w.heap.size w wr ∧ w.heap.size < wr.heap.size) (fun i _ => n - (intOf i).toNat)
  case atStart => exact ⟨0, Nat.zero_le _, rfl, heap_alloc_new w _, (Below.refl _ _).alloc (Nat.le_refl _) _, by simp⟩
  case round =>
    obtain ⟨k, hk, rfl, hblk, hB, hlt0⟩ := hrel
    by_cases hlt : k < n
    · have ex := Lib.hid (List.getElem?_eq_getElem (l := xs) (i := k) (by have := HN.out; omega))
      generalize xs[k]'(by have := HN.out; omega) = x at *
      obtain ⟨b, off, rfl, hbx, cx0, cx1, cx2, cx3, cx4⟩ := HX.out.at_ ex.out
      have cx0 := Below.keeps hB cx0; have cx1 := Below.keeps hB cx1; have cx2 := Below.keeps hB cx2; have cx3 := Below.keeps hB cx3; have cx4 := Below.keeps hB cx4
      have hset := Lib.hid (partE_set xs HN.out hlt ex.out)
      have hsz := hB.size
      have hk0 : (0 : Int) ≤ (k : Int) := by omega
      go_wp2_with fail
      refine (toEl_any x _).mono ?_
      rintro e w2 ⟨rfl, hb⟩
      have hblk2 : EBlk w2 w.heap.size (partE xs n k) := keepblk hb hblk.out
      obtain ⟨cz0, cz1, cz2, cz3, cz4⟩ := hblk2.at_ (partE_at xs HN.out hlt)
      have kf := (blkcell hblk2).2
      have hB := Below.trans hB (hb.mono hsz)
      have hsz2 := hb.size
      have hb2 := Lib.hid (hset.out ▸ hblk2.set_ k x)
      clear hb hblk2 hblk
      go_wp2
      exact ⟨⟨k + 1, by omega, by go_num, hb2, (((((hB.setCell (Nat.le_refl _) _).setCell (Nat.le_refl _) _).setCell (Nat.le_refl _) _).setCell (Nat.le_refl _) _).setCell (Nat.le_refl _) _), by simp; omega⟩, by simp [intOf]; omega⟩
    · obtain rfl : k = n := by omega
      have hp := Lib.hid (partE_n xs HN.out)
      go_wp2
      go_ret
      exact ⟨rfl, hB, by rw [← hp.out]; exact hblk.out⟩


end Go.Proofs.Ytdgkfpcecppfdaa
