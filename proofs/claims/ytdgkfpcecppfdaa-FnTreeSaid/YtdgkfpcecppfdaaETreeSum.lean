/- Contracts of TreeSum. -/
import Derived.Test.YtdgkfpcecppfdaaESpecOk
namespace Go.Proofs.Ytdgkfpcecppfdaa
set_option linter.unusedSimpArgs false
set_option linter.unusedVariables false
open Go.RowKit
attribute [local go_sem ↓] Go.wp_at_zero Go.wp_at_succ

def sumB (b : Bool) (t : List El) : Int × Int × Int := if b then sumL t else (0, 0, 0)
theorem Right.bal {t : List El} (h : Right t) {k : Nat} {x : El} (hx : t[k]? = some x) : balOk x = true := by
  have hk : k < 5 := by have := (List.getElem?_eq_some_iff.1 hx).1; have := h.len; omega
  have hg := h.good k x hk hx
  unfold goodI at hg
  cases hl : x.1
  · rw [hl] at hg
    simp only [Bool.false_eq_true, if_false, decide_eq_true_eq] at hg
    rw [hg]; exact balOk_z
  · rw [hl, if_pos rfl, Bool.and_eq_true] at hg; exact hg.1
theorem Right.sum_snoc {t : List El} (h : Right t) {k : Nat} {x : El} (hx : t[k]? = some x) {s1 s2 s3 : Int} (hs : sumL (t.take k) = (s1, s2, s3)) : sumL (t.take (k + 1)) = (s1 + x.2.2.1, s2 + x.2.2.2.1, s3 + x.2.2.2.2) := by
  rw [sumL_snoc hx, hs]
  cases hl : x.1
  · have hk : k < 5 := by have := (List.getElem?_eq_some_iff.1 hx).1; have := h.len; omega
    have hg := h.good k x hk hx
    unfold goodI at hg
    rw [hl] at hg
    simp only [Bool.false_eq_true, if_false, decide_eq_true_eq] at hg
    subst hg
    simp [zEl]
  · rfl
set_option maxHeartbeats 3200000 in
theorem specTreeSum_any (A : Option Addr) (n c : Nat) (t : List El) (b : Bool) (w : World) (hx : Els w A t) (hn : t.length = n) (hnb : n ≤ 1099511627776) (hb : b = true ↔ Right t) :
    Calls Try.prog 23 #[.slice A n c] w fun e w' => e = .returned (amt (sumB b t).1 (sumB b t).2.1 (sumB b t).2.2) ∧ Below w.heap.size w w' := by
  have C := Lib.hid (fun w' h => specTreeOk_any A n c t b w' h hn hnb hb)
  cases b
  · have HX := Lib.hid hx
    clear hx hn hb
    go_enter Try.func23, Try.ntmps23
    go_wp2_with fail
    refine (C.out _ (HX.out.alloc _)).mono ?_
    rintro e w2 ⟨rfl, hb2⟩
    have hbox := keepblk hb2 (heap_alloc_new w _)
    obtain ⟨kb, fb⟩ := blkcell hbox
    have hlt : w.heap.size < w2.heap.size := lt_of_blk hbox
    have hB : Below w.heap.size w w2 := Below.trans (by (repeat (first | exact Below.refl _ _ | assumption | refine Below.drew ?_ | refine Below.alloc ?_ ?_ _ | refine Below.setCell ?_ ?_ _)) <;> ((try simp) <;> omega)) (hb2.mono (by (try simp) <;> omega))
    clear hb2 hbox
    go_wp2
    refine bodyPost_ret (v := amt 0 0 0) (by simp [results, Try.results23, go_sem, *]) rfl ⟨rfl, ?_⟩
    iterate 3 (refine below_set ?_ (Nat.le_refl _) _)
    exact hB
  · have hR := hb.1 rfl
    obtain rfl : n = 5 := by rw [← hn]; exact hR.len
    have D := Lib.hid (fun w' h => l6Sum_any A c t w' h hn (fun j x hj _ => hR.bal hj))
    have HX := Lib.hid hx
    obtain ⟨s, hs⟩ : ∃ s, sumB true t = s := ⟨_, rfl⟩
    have hs2 : sumL t = s := hs
    rw [hs2] at D
    rw [hs]
    obtain ⟨s1, s2, s3⟩ := s
    clear hx hn hb hR hs hs2
    go_enter Try.func23, Try.ntmps23
    go_wp2_with fail
    refine (C.out _ (HX.out.alloc _)).mono ?_
    rintro e w2 ⟨rfl, hb2⟩
    have hbox := keepblk hb2 (heap_alloc_new w _)
    have hB : Below w.heap.size w w2 := Below.trans (by (repeat (first | exact Below.refl _ _ | assumption | refine Below.drew ?_ | refine Below.alloc ?_ ?_ _ | refine Below.setCell ?_ ?_ _)) <;> ((try simp) <;> omega)) (hb2.mono (by (try simp) <;> omega))
    clear hb2
    go_wp2_with fail
    refine (D.out _ (HX.out.keep fun _ _ h => Below.keeps hB h)).mono ?_
    rintro e w3 ⟨rfl, hb3⟩
    have hbox := keepblk hb3 hbox
    obtain ⟨kb, fb⟩ := blkcell hbox
    have hlt : w.heap.size < w3.heap.size := lt_of_blk hbox
    have hB := Below.trans hB (hb3.mono hB.size)
    clear hb3 hbox
    go_wp2
    refine bodyPost_ret (v := amt s1 s2 s3) (by simp [results, Try.results23, go_sem, *]) rfl ⟨rfl, ?_⟩
    iterate 3 (refine below_set ?_ (Nat.le_refl _) _)
    exact hB
set_option maxHeartbeats 6400000 in
theorem implTreeSum_any (A : Option Addr) (n c : Nat) (t : List El) (b : Bool) (w : World) (hx : Els w A t) (hn : t.length = n) (hnb : n ≤ 1099511627776) (hb : b = true ↔ Right t) :
    Calls Try.prog 24 #[.slice A n c] w fun e w' => e = .returned (amt (sumB b t).1 (sumB b t).2.1 (sumB b t).2.2) ∧ Below w.heap.size w w' := by
  have C := Lib.hid (fun w' h => implTreeOk_any A n c t b w' h hn hnb hb)
  have HX := Lib.hid hx
  cases b
  · clear hx hn hb
    go_enter Try.func24, Try.ntmps24
    go_wp2_with fail
    refine (C.out _ ((HX.out.alloc _).alloc _)).mono ?_
    rintro e w2 ⟨rfl, hb2⟩
    have hbox := keepblk hb2 (blk_alloc (heap_alloc_new w _))
    have hbox1 := keepblk hb2 (heap_alloc_new (w.alloc _) _)
    simp only [World.size_alloc] at hbox1
    obtain ⟨kb, fb⟩ := blkcell hbox
    obtain ⟨kb1, fb1⟩ := blkcell hbox1
    have hlt1 : w.heap.size + 1 < w2.heap.size := lt_of_blk hbox1
    have hlt : w.heap.size < w2.heap.size := lt_of_blk hbox
    have hB : Below w.heap.size w w2 := Below.trans (by (repeat (first | exact Below.refl _ _ | assumption | refine Below.drew ?_ | refine Below.alloc ?_ ?_ _ | refine Below.setCell ?_ ?_ _)) <;> ((try simp) <;> omega)) (hb2.mono (by (try simp) <;> omega))
    clear hb2 hbox hbox1
    go_wp2
    refine bodyPost_ret (v := amt 0 0 0) (by simp [results, Try.results24, go_sem, *]) rfl ⟨rfl, ?_⟩
    iterate 3 (refine below_set ?_ (Nat.le_refl _) _)
    exact hB
  · have hR := hb.1 rfl
    obtain rfl : n = 5 := by rw [← hn]; exact hR.len
    have HN := Lib.hid hn; have HR := Lib.hid hR
    clear hx hn hb hR
    go_enter Try.func24, Try.ntmps24
    go_wp2_with fail
    refine (C.out _ ((HX.out.alloc _).alloc _)).mono ?_
    rintro e w2 ⟨rfl, hb2⟩
    have hbx0 := keepblk hb2 (blk_alloc (heap_alloc_new w _))
    have hbx1 := keepblk hb2 (heap_alloc_new (w.alloc _) _)
    simp only [World.size_alloc] at hbx1
    have hB0 : Below w.heap.size w w2 := Below.trans (by (repeat (first | exact Below.refl _ _ | assumption | refine Below.drew ?_ | refine Below.alloc ?_ ?_ _ | refine Below.setCell ?_ ?_ _)) <;> ((try simp) <;> omega)) (hb2.mono (by (try simp) <;> omega))
    have hX0 := Lib.hid hbx0; have hX1 := Lib.hid hbx1
    have hl2 : w.heap.size + 1 < w2.heap.size := lt_of_blk hbx1
    clear hb2 hbx0 hbx1
    go_wp2
    go_loopw [13] (fun i wr => ∃ (k : Nat) (s1 s2 s3 : Int), k ≤ 5 ∧ i = .int .i64 k ∧ Hid (sumL (t.take k) = (s1, s2, s3)) ∧ Hid ((0 ≤ s1 ∧ s1 ≤ k * 1000000) ∧ (0 ≤ s2 ∧ s2 ≤ k * 1000000) ∧ (0 ≤ s3 ∧ s3 ≤ k * 1000000)) ∧
      Hid (wr.heap[w.heap.size + 1]? = some (.cells #[.int .i64 s1, .int .i64 s2, .int .i64 s3] 27 (0, 0))) ∧ Hid (wr.heap[w.heap.size]? = some (.cells #[.int .i64 0, .int .i64 0, .int .i64 0] 27 (0, 0))) ∧ Below w.heap.size w wr ∧ w.heap.size + 1 < wr.heap.size) (fun i _ => 5 - (intOf i).toNat)
    case atStart => exact ⟨0, 0, 0, 0, Nat.zero_le _, rfl, rfl, ⟨⟨by omega, by omega⟩, ⟨by omega, by omega⟩, by omega, by omega⟩, hX1, hX0, hB0, hl2⟩
    case round =>
      obtain ⟨k, s1, s2, s3, hk, rfl, hsum, hbd, hbox, hbox0, hB, hlt0⟩ := hrel
      have hsz := hB.size
      by_cases hlt : k < 5
      · have ex := Lib.hid (List.getElem?_eq_getElem (l := t) (i := k) (by have := HN.out; omega))
        generalize t[k]'(by have := HN.out; omega) = x at *
        obtain ⟨bl, off, rfl, hbx', c0, c1, c2, c3, c4⟩ := HX.out.at_ ex.out
        have c0 := Below.keeps hB c0; have c1 := Below.keeps hB c1; have c2 := Below.keeps hB c2; have c3 := Below.keeps hB c3; have c4 := Below.keeps hB c4
        have hlt2 : (k : Int) < 5 := by omega
        have hk0 : (0 : Int) ≤ (k : Int) := by omega
        obtain ⟨⟨a1, a2⟩, ⟨a3, a4⟩, a5, a6⟩ := amtB_true (HR.out.bal ex.out)
        obtain ⟨⟨d1, d2⟩, ⟨d3, d4⟩, d5, d6⟩ := hbd.out
        have hss := Lib.hid (HR.out.sum_snoc ex.out hsum.out)
        have hbd2 := Lib.hid (show (0 ≤ s1 + x.2.2.1 ∧ s1 + x.2.2.1 ≤ ((k + 1 : Nat) : Int) * 1000000) ∧ (0 ≤ s2 + x.2.2.2.1 ∧ s2 + x.2.2.2.1 ≤ ((k + 1 : Nat) : Int) * 1000000) ∧ (0 ≤ s3 + x.2.2.2.2 ∧ s3 + x.2.2.2.2 ≤ ((k + 1 : Nat) : Int) * 1000000) by omega)
        obtain ⟨kb, fb⟩ := blkcell hbox.out
        go_wp2_with fail
        refine (sumOf_any _ _ _ _ _ _ _ (by omega) (by omega) (by omega) (by omega) (by omega) (by omega) (by omega) (by omega) (by omega) (by omega) (by omega) (by omega)).mono ?_
        rintro e w3 ⟨rfl, hb3⟩
        have hbox4 := keepblk hb3 (blk_alloc hbox.out)
        have hbox5 := keepblk hb3 (blk_alloc hbox0.out)
        have hB3 := (hB.alloc hsz _).trans (hb3.mono (by simp; omega))
        have hs3 := lt_of_blk hbox4
        clear hb3 kb fb
        obtain ⟨kb, fb⟩ := blkcell hbox4
        have hnew := Lib.hid (blk_set (i := 2) (blk_set (i := 1) (blk_set (i := 0) hbox4 (.int .i64 (s1 + x.2.2.1))) (.int .i64 (s2 + x.2.2.2.1))) (.int .i64 (s3 + x.2.2.2.2)))
        have hn0 := Lib.hid (blk_far (p := ⟨w.heap.size + 1, 2, none⟩) (blk_far (p := ⟨w.heap.size + 1, 1, none⟩) (blk_far (p := ⟨w.heap.size + 1, 0, none⟩) hbox5 (by show w.heap.size ≠ w.heap.size + 1; omega) (.int .i64 (s1 + x.2.2.1))) (by show w.heap.size ≠ w.heap.size + 1; omega) (.int .i64 (s2 + x.2.2.2.1))) (by show w.heap.size ≠ w.heap.size + 1; omega) (.int .i64 (s3 + x.2.2.2.2)))
        have hBn := Lib.hid (below_set (b := w.heap.size + 1) (o := 2) (below_set (b := w.heap.size + 1) (o := 1) (below_set (b := w.heap.size + 1) (o := 0) hB3 (by omega) (.int .i64 (s1 + x.2.2.1))) (by omega) (.int .i64 (s2 + x.2.2.2.1))) (by omega) (.int .i64 (s3 + x.2.2.2.2)))
        clear hbox4 hbox5
        go_wp2
        exact ⟨⟨k + 1, _, _, _, by omega, by go_num, hss, hbd2, hnew, hn0, hBn.out, by simp; omega⟩, by simp [intOf]; omega⟩
      · obtain rfl : k = 5 := by omega
        obtain ⟨kb, fb⟩ := blkcell hbox.out
        obtain ⟨kb0, fb0⟩ := blkcell hbox0.out
        have hr := Lib.hid (show sumB true t = (s1, s2, s3) by have := hsum.out; rwa [List.take_of_length_le (by have := HN.out; omega)] at this)
        have hlt1 : w.heap.size < wr.heap.size := by omega
        go_wp2
        rw [hr.out]
        refine bodyPost_ret (v := amt s1 s2 s3) (by simp [results, Try.results24, go_sem, *]) rfl ⟨rfl, ?_⟩
        iterate 3 (refine below_set ?_ (Nat.le_refl _) _)
        exact hB
end Go.Proofs.Ytdgkfpcecppfdaa
