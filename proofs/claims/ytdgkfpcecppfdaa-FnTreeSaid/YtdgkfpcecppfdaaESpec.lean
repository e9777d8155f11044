/- Contracts of the reference's looks at a tree. -/
import Derived.Test.YtdgkfpcecppfdaaETreeOk
import Derived.StillTailTactics
namespace Go.Proofs.Ytdgkfpcecppfdaa
set_option linter.unusedSimpArgs false
set_option linter.unusedVariables false
open Go.RowKit
attribute [local go_sem ↓] Go.wp_at_zero Go.wp_at_succ

set_option maxHeartbeats 6400000 in
theorem l6Sum_any (A : Option Addr) (c : Nat) (t : List El) (w : World) (hx : Els w A t) (hn : t.length = 5) (hb : ∀ (j : Nat) (x : El), t[j]? = some x → x.1 = true → balOk x = true) :
    Calls Try.prog 48 #[.slice A 5 c] w fun e w' => e = .returned (amt (sumL t).1 (sumL t).2.1 (sumL t).2.2) ∧ Below w.heap.size w w' := by
  have HX := Lib.hid hx; have HN := Lib.hid hn; have HB := Lib.hid hb
  clear hx hn hb
  go_enter Try.func48, Try.ntmps48
  go_wp2
  go_loopw [4] (fun i wr => ∃ (k : Nat) (s1 s2 s3 : Int), k ≤ 5 ∧ i = .int .i64 k ∧ Hid (sumL (t.take k) = (s1, s2, s3)) ∧ Hid ((0 ≤ s1 ∧ s1 ≤ k * 1000000) ∧ (0 ≤ s2 ∧ s2 ≤ k * 1000000) ∧ (0 ≤ s3 ∧ s3 ≤ k * 1000000)) ∧
    Hid (wr.heap[w.heap.size + 1]? = some (.cells #[.int .i64 s1, .int .i64 s2, .int .i64 s3] 27 (0, 0))) ∧ Hid (wr.heap[w.heap.size]? = some (.cells #[.int .i64 0, .int .i64 0, .int .i64 0] 27 (0, 0))) ∧ Below w.heap.size w wr ∧ w.heap.size + 1 < wr.heap.size) (fun i _ => 5 - (intOf i).toNat)
  case atStart => exact ⟨0, 0, 0, 0, Nat.zero_le _, rfl, rfl, ⟨⟨by omega, by omega⟩, ⟨by omega, by omega⟩, by omega, by omega⟩, Lib.hid (by simpa using heap_alloc_new (w.alloc (.cells #[.int .i64 0, .int .i64 0, .int .i64 0] 27)) (.cells #[.int .i64 0, .int .i64 0, .int .i64 0] 27)), blk_alloc (heap_alloc_new w _), (by (repeat (first | exact Below.refl _ _ | assumption | refine Below.drew ?_ | refine Below.alloc ?_ ?_ _ | refine Below.setCell ?_ ?_ _)) <;> ((try simp) <;> omega)), by simp⟩
  case round =>
    obtain ⟨k, s1, s2, s3, hk, rfl, hsum, hbd, hbox, hbox0, hB, hlt0⟩ := hrel
    have hsz := hB.size
    by_cases hlt : k < 5
    · have ex := Lib.hid (List.getElem?_eq_getElem (l := t) (i := k) (by have := HN.out; omega))
      generalize t[k]'(by have := HN.out; omega) = x at *
      obtain ⟨b, off, rfl, hbx, c0, c1, c2, c3, c4⟩ := HX.out.at_ ex.out
      have c0 := Below.keeps hB c0; have c2 := Below.keeps hB c2; have c3 := Below.keeps hB c3; have c4 := Below.keeps hB c4
      have hlt2 : (k : Int) < 5 := by omega
      have hk0 : (0 : Int) ≤ (k : Int) := by omega
      obtain ⟨kb, fb⟩ := blkcell hbox.out
      cases hl : x.1
      · rw [hl] at c0
        have hss := Lib.hid (show sumL (t.take (k + 1)) = (s1, s2, s3) by rw [sumL_snoc ex.out, hl, hsum.out]; rfl)
        have hbd2 := Lib.hid (show (0 ≤ s1 ∧ s1 ≤ ((k + 1 : Nat) : Int) * 1000000) ∧ (0 ≤ s2 ∧ s2 ≤ ((k + 1 : Nat) : Int) * 1000000) ∧ (0 ≤ s3 ∧ s3 ≤ ((k + 1 : Nat) : Int) * 1000000) by have := hbd.out; omega)
        clear hl
        go_wp2
        exact ⟨⟨k + 1, s1, s2, s3, by omega, by go_num, hss, hbd2, hbox, hbox0, hB, hlt0⟩, by simp [intOf]; omega⟩
      · rw [hl] at c0
        obtain ⟨⟨a1, a2⟩, ⟨a3, a4⟩, a5, a6⟩ := amtB_true (HB.out k x ex.out hl)
        have hss := Lib.hid (show sumL (t.take (k + 1)) = (s1 + x.2.2.1, s2 + x.2.2.2.1, s3 + x.2.2.2.2) by rw [sumL_snoc ex.out, hl, hsum.out]; rfl)
        obtain ⟨⟨d1, d2⟩, ⟨d3, d4⟩, d5, d6⟩ := hbd.out
        have hbd2 := Lib.hid (show (0 ≤ s1 + x.2.2.1 ∧ s1 + x.2.2.1 ≤ ((k + 1 : Nat) : Int) * 1000000) ∧ (0 ≤ s2 + x.2.2.2.1 ∧ s2 + x.2.2.2.1 ≤ ((k + 1 : Nat) : Int) * 1000000) ∧ (0 ≤ s3 + x.2.2.2.2 ∧ s3 + x.2.2.2.2 ≤ ((k + 1 : Nat) : Int) * 1000000) by omega)
        have hne : ¬ b = w.heap.size + 1 := by omega
        have hne2 : ¬ w.heap.size + 1 = b := by omega
        clear hl kb fb
        have hbox := hbox.out
        have hbox0 := hbox0.out
        obtain ⟨kb, fb⟩ := blkcell hbox
        have HX0 := Lib.hid hbox; have HZ0 := Lib.hid hbox0
        clear hbox hbox0
        go_wp2_with fail
        go_still_tail 10, (by kernel_rfl)
        change wpList _ _ _ _ _ (World.drew _)
        go_wp2_with fail
        obtain ⟨y0, hy⟩ : ∃ y, y = (wr.setCell ⟨w.heap.size + 1, 0, none⟩ (.int .i64 (s1 + x.2.2.1))).drew := ⟨_, rfl⟩
        have hbox := blk_set (i := 0) HX0.out (.int .i64 (s1 + x.2.2.1))
        have hbox0 := blk_far (p := ⟨w.heap.size + 1, 0, none⟩) HZ0.out (by show w.heap.size ≠ w.heap.size + 1; omega) (.int .i64 (s1 + x.2.2.1))
        have hB := (below_set (b := w.heap.size + 1) (o := 0) hB (by omega) (.int .i64 (s1 + x.2.2.1))).drew
        have hlt0 : w.heap.size + 1 < (wr.setCell ⟨w.heap.size + 1, 0, none⟩ (.int .i64 (s1 + x.2.2.1))).drew.heap.size := by simpa using hlt0
        have c2 := cell_drew_ (cell_set_ (q := ⟨w.heap.size + 1, 0, none⟩) (u := (.int .i64 (s1 + x.2.2.1))) c2 (by show w.heap.size + 1 ≠ b; omega))
        have c3 := cell_drew_ (cell_set_ (q := ⟨w.heap.size + 1, 0, none⟩) (u := (.int .i64 (s1 + x.2.2.1))) c3 (by show w.heap.size + 1 ≠ b; omega))
        have c4 := cell_drew_ (cell_set_ (q := ⟨w.heap.size + 1, 0, none⟩) (u := (.int .i64 (s1 + x.2.2.1))) c4 (by show w.heap.size + 1 ≠ b; omega))
        rw [← hy]
        rw [← hy] at hB hlt0 c2 c3 c4
        change (wr.setCell _ _).drew.heap[_]? = _ at hbox
        change (wr.setCell _ _).drew.heap[_]? = _ at hbox0
        rw [← hy] at hbox hbox0
        clear hy kb fb c0
        obtain ⟨kb, fb⟩ := blkcell hbox
        have HX1 := Lib.hid hbox; have HZ1 := Lib.hid hbox0
        clear hbox hbox0
        go_wp2_with fail
        go_still_tail 10, (by kernel_rfl)
        change wpList _ _ _ _ _ (World.drew _)
        go_wp2_with fail
        obtain ⟨y1, hy⟩ : ∃ y, y = (y0.setCell ⟨w.heap.size + 1, 1, none⟩ (.int .i64 (s2 + x.2.2.2.1))).drew := ⟨_, rfl⟩
        have hbox := blk_set (i := 1) HX1.out (.int .i64 (s2 + x.2.2.2.1))
        have hbox0 := blk_far (p := ⟨w.heap.size + 1, 1, none⟩) HZ1.out (by show w.heap.size ≠ w.heap.size + 1; omega) (.int .i64 (s2 + x.2.2.2.1))
        have hB := (below_set (b := w.heap.size + 1) (o := 1) hB (by omega) (.int .i64 (s2 + x.2.2.2.1))).drew
        have hlt0 : w.heap.size + 1 < (y0.setCell ⟨w.heap.size + 1, 1, none⟩ (.int .i64 (s2 + x.2.2.2.1))).drew.heap.size := by simpa using hlt0
        have c2 := cell_drew_ (cell_set_ (q := ⟨w.heap.size + 1, 1, none⟩) (u := (.int .i64 (s2 + x.2.2.2.1))) c2 (by show w.heap.size + 1 ≠ b; omega))
        have c3 := cell_drew_ (cell_set_ (q := ⟨w.heap.size + 1, 1, none⟩) (u := (.int .i64 (s2 + x.2.2.2.1))) c3 (by show w.heap.size + 1 ≠ b; omega))
        have c4 := cell_drew_ (cell_set_ (q := ⟨w.heap.size + 1, 1, none⟩) (u := (.int .i64 (s2 + x.2.2.2.1))) c4 (by show w.heap.size + 1 ≠ b; omega))
        rw [← hy]
        rw [← hy] at hB hlt0 c2 c3 c4
        change (y0.setCell _ _).drew.heap[_]? = _ at hbox
        change (y0.setCell _ _).drew.heap[_]? = _ at hbox0
        rw [← hy] at hbox hbox0
        clear hy kb fb
        obtain ⟨kb, fb⟩ := blkcell hbox
        have HX2 := Lib.hid hbox; have HZ2 := Lib.hid hbox0
        clear hbox hbox0
        go_wp2_with fail
        go_still_tail 10, (by kernel_rfl)
        change wpList _ _ _ _ _ (World.drew _)
        go_wp2_with fail
        obtain ⟨y2, hy⟩ : ∃ y, y = (y1.setCell ⟨w.heap.size + 1, 2, none⟩ (.int .i64 (s3 + x.2.2.2.2))).drew := ⟨_, rfl⟩
        have hbox := blk_set (i := 2) HX2.out (.int .i64 (s3 + x.2.2.2.2))
        have hbox0 := blk_far (p := ⟨w.heap.size + 1, 2, none⟩) HZ2.out (by show w.heap.size ≠ w.heap.size + 1; omega) (.int .i64 (s3 + x.2.2.2.2))
        have hB := (below_set (b := w.heap.size + 1) (o := 2) hB (by omega) (.int .i64 (s3 + x.2.2.2.2))).drew
        have hlt0 : w.heap.size + 1 < (y1.setCell ⟨w.heap.size + 1, 2, none⟩ (.int .i64 (s3 + x.2.2.2.2))).drew.heap.size := by simpa using hlt0
        have c2 := cell_drew_ (cell_set_ (q := ⟨w.heap.size + 1, 2, none⟩) (u := (.int .i64 (s3 + x.2.2.2.2))) c2 (by show w.heap.size + 1 ≠ b; omega))
        have c3 := cell_drew_ (cell_set_ (q := ⟨w.heap.size + 1, 2, none⟩) (u := (.int .i64 (s3 + x.2.2.2.2))) c3 (by show w.heap.size + 1 ≠ b; omega))
        have c4 := cell_drew_ (cell_set_ (q := ⟨w.heap.size + 1, 2, none⟩) (u := (.int .i64 (s3 + x.2.2.2.2))) c4 (by show w.heap.size + 1 ≠ b; omega))
        rw [← hy]
        rw [← hy] at hB hlt0 c2 c3 c4
        change (y1.setCell _ _).drew.heap[_]? = _ at hbox
        change (y1.setCell _ _).drew.heap[_]? = _ at hbox0
        rw [← hy] at hbox hbox0
        clear hy kb fb
        have HX3 := Lib.hid hbox; have HZ3 := Lib.hid hbox0
        clear hbox hbox0
        go_wp2
        exact ⟨⟨k + 1, _, _, _, by omega, by go_num, hss, hbd2, HX3.out, HZ3.out, hB, hlt0⟩, by simp [intOf]; omega⟩
    · obtain rfl : k = 5 := by omega
      obtain ⟨kb, fb⟩ := blkcell hbox.out
      obtain ⟨kb0, fb0⟩ := blkcell hbox0.out
      have hsum5 : sumL t = (s1, s2, s3) := by have := hsum.out; rwa [List.take_of_length_le (by have := HN.out; omega)] at this
      have hr := Lib.hid hsum5
      have hlt1 : w.heap.size < wr.heap.size := by omega
      clear hsum5
      go_wp2
      rw [hr.out]
      refine bodyPost_ret (v := amt s1 s2 s3) (by simp [results, Try.results48, go_sem, *]) rfl ⟨rfl, ?_⟩
      iterate 3 (refine below_set ?_ (Nat.le_refl _) _)
      exact hB
end Go.Proofs.Ytdgkfpcecppfdaa
