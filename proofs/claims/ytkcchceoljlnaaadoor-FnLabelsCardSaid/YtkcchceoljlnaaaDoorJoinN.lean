/- Contracts of Join and Meet: labels that are refused. -/
import Derived.Test.YtkcchceoljlnaaaDoorJoinM
namespace Go.Proofs.YtkcchceoljlnaaaDoor
set_option linter.unusedSimpArgs false
set_option linter.unusedVariables false
open Go.RowKit
attribute [local go_sem ↓] Go.wp_at_zero Go.wp_at_succ

set_option maxHeartbeats 3200000 in
theorem implJoin_no1 (A B : Option Addr) (n m c d : Nat) (xs ys : List Int) (w : World) (hx : Ints w A xs) (hy : Ints w B ys) (hn : xs.length = n) (hm : ys.length = m) (hnb : n ≤ 1099511627776) (hmb : m ≤ 1099511627776) (h1 : labB xs = false) :
    Calls Tryd.prog 14 #[lab A n c, lab B m d] w (LabPost [] w) := by
  have C := Lib.hid (fun w' h => implLabelOk_any A n c xs w' h hn hnb)
  have D := Lib.hid (fun w' h => implLabelOk_any B m d ys w' h hm hmb)
  have HX := Lib.hid hx; have HY := Lib.hid hy
  rw [h1] at C
  skip
  clear hx hy hn hm h1
  go_enter Tryd.func14, Tryd.ntmps14
  go_wp2_with fail
  refine (C.out _ ((((HX.out.alloc _).alloc _).alloc _))).mono ?_
  rintro e w1 ⟨rfl, hb⟩
  have hB := Below.trans ((((Below.refl w.heap.size w).alloc (by exact Nat.le_refl _) _).alloc (by simp <;> omega) _).alloc (by simp <;> omega) _) (hb.mono (by simp; omega))
  have hx0 := keepblk hb (blk_alloc (blk_alloc (heap_alloc_new w _)))
  have hx1 := keepblk hb (blk_alloc (heap_alloc_new (w.alloc _) _))
  have hx2 := keepblk hb (heap_alloc_new ((w.alloc _).alloc _) _)
  simp only [World.size_alloc] at hx1 hx2
  have hs := hB.size
  have hl2 := lt_of_blk hx2
  clear hb
  obtain ⟨q2, p2⟩ := blkcell hx2
  go_wp2
  refine bodyPost_ret (v := lab none 0 0) (by simp [results, Tryd.results14, go_sem, *]) rfl ⟨none, 0, rfl, .inl rfl, hB.setCell (by show w.heap.size ≤ w.heap.size + 1 + 1; omega) _⟩
set_option maxHeartbeats 3200000 in
theorem implJoin_no2 (A B : Option Addr) (n m c d : Nat) (xs ys : List Int) (w : World) (hx : Ints w A xs) (hy : Ints w B ys) (hn : xs.length = n) (hm : ys.length = m) (hnb : n ≤ 1099511627776) (hmb : m ≤ 1099511627776) (h1 : labB xs = true) (h2 : labB ys = false) :
    Calls Tryd.prog 14 #[lab A n c, lab B m d] w (LabPost [] w) := by
  have C := Lib.hid (fun w' h => implLabelOk_any A n c xs w' h hn hnb)
  have D := Lib.hid (fun w' h => implLabelOk_any B m d ys w' h hm hmb)
  have HX := Lib.hid hx; have HY := Lib.hid hy
  rw [h1] at C
  rw [h2] at D
  clear hx hy hn hm h1 h2
  go_enter Tryd.func14, Tryd.ntmps14
  go_wp2_with fail
  refine (C.out _ ((((HX.out.alloc _).alloc _).alloc _))).mono ?_
  rintro e w1 ⟨rfl, hb⟩
  have hB := Below.trans ((((Below.refl w.heap.size w).alloc (by exact Nat.le_refl _) _).alloc (by simp <;> omega) _).alloc (by simp <;> omega) _) (hb.mono (by simp; omega))
  have hx0 := keepblk hb (blk_alloc (blk_alloc (heap_alloc_new w _)))
  have hx1 := keepblk hb (blk_alloc (heap_alloc_new (w.alloc _) _))
  have hx2 := keepblk hb (heap_alloc_new ((w.alloc _).alloc _) _)
  simp only [World.size_alloc] at hx1 hx2
  have hs := hB.size
  have hl2 := lt_of_blk hx2
  clear hb
  obtain ⟨k1, f1⟩ := blkcell hx1
  go_wp2_with fail
  refine (D.out _ (HY.out.keep fun _ _ h => Below.keeps hB h)).mono ?_
  rintro e w2 ⟨rfl, hb⟩
  have hx0 := keepblk hb hx0
  have hx1 := keepblk hb hx1
  have hx2 := keepblk hb hx2
  have hB := Below.trans hB (hb.mono hs)
  have hs := hB.size
  have hl2 := lt_of_blk hx2
  clear hb k1 f1
  obtain ⟨q2, p2⟩ := blkcell hx2
  go_wp2
  refine bodyPost_ret (v := lab none 0 0) (by simp [results, Tryd.results14, go_sem, *]) rfl ⟨none, 0, rfl, .inl rfl, hB.setCell (by show w.heap.size ≤ w.heap.size + 1 + 1; omega) _⟩
set_option maxHeartbeats 3200000 in
theorem implMeet_no1 (A B : Option Addr) (n m c d : Nat) (xs ys : List Int) (w : World) (hx : Ints w A xs) (hy : Ints w B ys) (hn : xs.length = n) (hm : ys.length = m) (hnb : n ≤ 1099511627776) (hmb : m ≤ 1099511627776) (h1 : labB xs = false) :
    Calls Tryd.prog 15 #[lab A n c, lab B m d] w (LabPost [] w) := by
  have C := Lib.hid (fun w' h => implLabelOk_any A n c xs w' h hn hnb)
  have D := Lib.hid (fun w' h => implLabelOk_any B m d ys w' h hm hmb)
  have HX := Lib.hid hx; have HY := Lib.hid hy
  rw [h1] at C
  skip
  clear hx hy hn hm h1
  go_enter Tryd.func15, Tryd.ntmps15
  go_wp2_with fail
  refine (C.out _ ((((HX.out.alloc _).alloc _).alloc _))).mono ?_
  rintro e w1 ⟨rfl, hb⟩
  have hB := Below.trans ((((Below.refl w.heap.size w).alloc (by exact Nat.le_refl _) _).alloc (by simp <;> omega) _).alloc (by simp <;> omega) _) (hb.mono (by simp; omega))
  have hx0 := keepblk hb (blk_alloc (blk_alloc (heap_alloc_new w _)))
  have hx1 := keepblk hb (blk_alloc (heap_alloc_new (w.alloc _) _))
  have hx2 := keepblk hb (heap_alloc_new ((w.alloc _).alloc _) _)
  simp only [World.size_alloc] at hx1 hx2
  have hs := hB.size
  have hl2 := lt_of_blk hx2
  clear hb
  obtain ⟨q2, p2⟩ := blkcell hx2
  go_wp2
  refine bodyPost_ret (v := lab none 0 0) (by simp [results, Tryd.results15, go_sem, *]) rfl ⟨none, 0, rfl, .inl rfl, hB.setCell (by show w.heap.size ≤ w.heap.size + 1 + 1; omega) _⟩
set_option maxHeartbeats 3200000 in
theorem implMeet_no2 (A B : Option Addr) (n m c d : Nat) (xs ys : List Int) (w : World) (hx : Ints w A xs) (hy : Ints w B ys) (hn : xs.length = n) (hm : ys.length = m) (hnb : n ≤ 1099511627776) (hmb : m ≤ 1099511627776) (h1 : labB xs = true) (h2 : labB ys = false) :
    Calls Tryd.prog 15 #[lab A n c, lab B m d] w (LabPost [] w) := by
  have C := Lib.hid (fun w' h => implLabelOk_any A n c xs w' h hn hnb)
  have D := Lib.hid (fun w' h => implLabelOk_any B m d ys w' h hm hmb)
  have HX := Lib.hid hx; have HY := Lib.hid hy
  rw [h1] at C
  rw [h2] at D
  clear hx hy hn hm h1 h2
  go_enter Tryd.func15, Tryd.ntmps15
  go_wp2_with fail
  refine (C.out _ ((((HX.out.alloc _).alloc _).alloc _))).mono ?_
  rintro e w1 ⟨rfl, hb⟩
  have hB := Below.trans ((((Below.refl w.heap.size w).alloc (by exact Nat.le_refl _) _).alloc (by simp <;> omega) _).alloc (by simp <;> omega) _) (hb.mono (by simp; omega))
  have hx0 := keepblk hb (blk_alloc (blk_alloc (heap_alloc_new w _)))
  have hx1 := keepblk hb (blk_alloc (heap_alloc_new (w.alloc _) _))
  have hx2 := keepblk hb (heap_alloc_new ((w.alloc _).alloc _) _)
  simp only [World.size_alloc] at hx1 hx2
  have hs := hB.size
  have hl2 := lt_of_blk hx2
  clear hb
  obtain ⟨k1, f1⟩ := blkcell hx1
  go_wp2_with fail
  refine (D.out _ (HY.out.keep fun _ _ h => Below.keeps hB h)).mono ?_
  rintro e w2 ⟨rfl, hb⟩
  have hx0 := keepblk hb hx0
  have hx1 := keepblk hb hx1
  have hx2 := keepblk hb hx2
  have hB := Below.trans hB (hb.mono hs)
  have hs := hB.size
  have hl2 := lt_of_blk hx2
  clear hb k1 f1
  obtain ⟨q2, p2⟩ := blkcell hx2
  go_wp2
  refine bodyPost_ret (v := lab none 0 0) (by simp [results, Tryd.results15, go_sem, *]) rfl ⟨none, 0, rfl, .inl rfl, hB.setCell (by show w.heap.size ≤ w.heap.size + 1 + 1; omega) _⟩

end Go.Proofs.YtkcchceoljlnaaaDoor
