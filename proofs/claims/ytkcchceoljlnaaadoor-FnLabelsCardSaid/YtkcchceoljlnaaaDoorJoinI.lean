/- Contracts of Join (the program). -/
import Derived.Test.YtkcchceoljlnaaaDoorJoinN
import Derived.Test.YtkcchceoljlnaaaDoorRegionG
import Derived.Deep.AppendLies
namespace Go.Proofs.YtkcchceoljlnaaaDoor
set_option linter.unusedSimpArgs false
set_option linter.unusedVariables false
open Go.RowKit
attribute [local go_sem ↓] Go.wp_at_zero Go.wp_at_succ

set_option maxHeartbeats 12800000 in
theorem implJoin_yes (A B : Option Addr) (n m c d : Nat) (xs ys : List Int) (w : World) (hx : Ints w A xs) (hy : Ints w B ys) (hn : xs.length = n) (hm : ys.length = m) (hnb : n ≤ 1099511627776) (hmb : m ≤ 1099511627776) (h1 : labB xs = true) (h2 : labB ys = true) :
    Calls Tryd.prog 14 #[lab A n c, lab B m d] w (LabPost (zipL max xs ys) w) := by
  obtain rfl : n = 4 := hn.symm.trans (labB_len4 h1)
  obtain rfl : m = 4 := hm.symm.trans (labB_len4 h2)
  have C := Lib.hid (fun w' h => implLabelOk_any A 4 c xs w' h hn hnb)
  have D := Lib.hid (fun w' h => implLabelOk_any B 4 d ys w' h hm hmb)
  have CL := Lib.hid (fun w' h => copyLabel_any A 4 c xs w' h hn hnb)
  have HX := Lib.hid hx; have HY := Lib.hid hy; have HN := Lib.hid hn; have HM := Lib.hid hm
  obtain ⟨i0, hi, hz0, hz1, hz2⟩ := info_parts int_info
  rw [h1] at C
  rw [h2] at D
  clear hx hy hn hm h1 h2
  go_enter Tryd.func14, Tryd.ntmps14
  go_wp2_with fail
  refine (C.out _ ((((HX.out.alloc _).alloc _).alloc _))).mono ?_
  rintro e w1 ⟨rfl, hb⟩
  have hB := Below.trans ((((Below.refl w.heap.size w).alloc (by exact Nat.le_refl _) _).alloc (by simp <;> omega) _).alloc (by simp <;> omega) _) (hb.mono (by simp; omega))
  have hx0 := keepblk hb (blk_alloc (blk_alloc (heap_alloc_new w _)))
  have hx1 := keepblk hb (blk_alloc (heap_alloc_new (w.alloc _) _))
  have hx2 := keepblk hb (heap_alloc_new ((w.alloc _).alloc _) _)
  simp only [World.size_alloc] at hx1 hx2
  have hs := hB.size
  have hl2 := lt_of_blk hx2
  clear hb
  obtain ⟨k1, f1⟩ := blkcell hx1
  go_wp2_with fail
  refine (D.out _ (HY.out.keep fun _ _ h => Below.keeps hB h)).mono ?_
  rintro e w2 ⟨rfl, hb⟩
  have hx0 := keepblk hb hx0
  have hx1 := keepblk hb hx1
  have hx2 := keepblk hb hx2
  have hB := Below.trans hB (hb.mono hs)
  have hs := hB.size
  have hl2 := lt_of_blk hx2
  clear hb k1 f1
  obtain ⟨k0, f0⟩ := blkcell hx0
  go_wp2_with fail
  refine (CL.out _ (HX.out.keep fun _ _ h => Below.keeps hB h)).mono ?_
  rintro e w3 ⟨A', c', rfl, ho, hb⟩
  obtain ⟨g, rfl, hBg, hob⟩ := own_obi ho (by intro e; have := HN.out; rw [e] at this; cases this)
  have hx0 := keepblk hb hx0; have hx1 := keepblk hb hx1; have hx2 := keepblk hb hx2
  have hz3 := hb.size
  have hB := Below.trans hB (hb.mono hs)
  have hgl := hob.lt
  have HB := Lib.hid (hB.alloc hB.size (.cells #[.slice (some ⟨g, 0, none⟩) 4 c'] 27))
  have HO := Lib.hid (show OBI (w3.alloc (.cells #[.slice (some ⟨g, 0, none⟩) 4 c'] 27)) g (curL max xs ys 0) by rw [curL_0]; exact hob.alloc _)
  have hx1 := blk_alloc (O := .cells #[.slice (some ⟨g, 0, none⟩) 4 c'] 27) hx1
  have hx2 := Lib.hid (blk_alloc (O := .cells #[.slice (some ⟨g, 0, none⟩) 4 c'] 27) hx2)
  have hx3 := Lib.hid (heap_alloc_new w3 (.cells #[.slice (some ⟨g, 0, none⟩) 4 c'] 27))
  have hg : w.heap.size + 2 < g := by omega
  have hl1 : w.heap.size + 1 < w3.heap.size := by omega
  have hl2 : w.heap.size + 2 < w3.heap.size := by omega
  clear k0 f0 hx0 ho hb hB hs
  obtain ⟨k1, f1⟩ := blkcell hx1
  have k1' : w3.cell? ⟨w.heap.size + 1, 0, none⟩ = some (.slice B 4 d) := by
    have := k1 0
    rw [World.cell?_alloc_lt w3 _ _ hl1] at this
    exact this
  clear k1 f1 hx1
  go_wp2
  go_loopw [22] (fun v wr => ∃ k : Nat, k ≤ 4 ∧ v = .int .i64 k ∧ Hid (OBI wr g (curL max xs ys k)) ∧ Hid (wr.heap[w.heap.size + 1 + 1]? = some (.cells #[.slice none 0 0] 27 (0, 0))) ∧ Hid (wr.heap[w3.heap.size]? = some (.cells #[.slice (some ⟨g, 0, none⟩) 4 c'] 27 (0, 0))) ∧ Hid (Below w.heap.size w wr)) (fun v _ => 4 - (intOf v).toNat)
  case atStart => exact ⟨0, Nat.zero_le _, rfl, HO.out, hx2.out, hx3.out, HB.out⟩
  case round =>
    obtain ⟨k, hk, rfl, hob, hr2, hr3, hBr⟩ := hrel
    have hB := hBr.out
    have hs := hB.size
    have hq2 := lt_of_blk hr2.out
    have hq3 := lt_of_blk hr3.out
    by_cases hlt : k < 4
    · obtain ⟨b, off, rfl, hbk, hcy⟩ := (Ints.at_ (HY.out) (k := k) (by have := HM.out; omega))
      have hcy := Below.keeps hB hcy
      have ey := Lib.hid (List.getElem?_eq_getElem (l := ys) (i := k) (by have := HM.out; omega))
      generalize ys[k]'(by have := HM.out; omega) = y at *
      have ex := Lib.hid (List.getElem?_eq_getElem (l := xs) (i := k) (by have := HN.out; omega))
      generalize xs[k]'(by have := HN.out; omega) = x at *
      have hcx := hob.out.at_ (curL_at ex.out ey.out)
      have fo := hob.out.fro
      obtain ⟨k3, f3⟩ := blkcell hr3.out
      obtain ⟨z, hz⟩ : ∃ z, z = max x y := ⟨_, rfl⟩
      have ez : (if x < y then y else x) = z := by rw [hz]; simp only [Int.max_def]; split <;> split <;> omega
      have hzz := Lib.hid hz
      clear hz
      have hlt2 : (k : Int) < 4 := by omega
      have hk0 : (0 : Int) ≤ (k : Int) := by omega
      have hn1 := Lib.hid (show OBI (wr.setCell ⟨g, k, none⟩ (.int .i64 z)) g (curL max xs ys (k + 1)) by rw [← curL_set ex.out ey.out, ← hzz.out]; exact hob.out.set_ _ _)
      have hn2 := Lib.hid (blk_far (p := ⟨g, k, none⟩) hr2.out (by show w.heap.size + 1 + 1 ≠ g; omega) (.int .i64 z))
      have hn3 := Lib.hid (blk_far (p := ⟨g, k, none⟩) hr3.out (by show w3.heap.size ≠ g; omega) (.int .i64 z))
      have hnB := Lib.hid (hB.setCell (p := ⟨g, k, none⟩) (by show w.heap.size ≤ g; omega) (.int .i64 z))
      clear hB
      go_wp2_with fail
      go_region_with (fail)
      all_goals
        go_wp2
        exact ⟨⟨k + 1, by omega, by go_num, hn1, hn2, hn3, Lib.hid hnB.out.drew⟩, by simp [intOf]; omega⟩
    · obtain rfl : k = 4 := by omega
      have HO := Lib.hid (show OBI wr g (zipL max xs ys) by rw [← curL_n max HN.out HM.out]; exact hob.out)
      obtain ⟨q2, p2⟩ := blkcell hr2.out
      obtain ⟨q3, p3⟩ := blkcell hr3.out
      have hl := Lib.hid (zipL_len max HN.out HM.out)
      have ho := Lib.hid ((HO.out.far (p := ⟨w.heap.size + 1 + 1, 0, none⟩) (by show g ≠ w.heap.size + 1 + 1; omega) (.slice (some ⟨g, 0, none⟩) 4 c')).own (show w.heap.size ≤ g by omega))
      clear hob hr2 hr3 hB
      go_wp2
      refine bodyPost_ret (v := lab (some ⟨g, 0, none⟩) 4 c') (by simp [results, Tryd.results14, go_sem, *]) rfl ⟨some ⟨g, 0, none⟩, c', by rw [hl.out], ho.out, hBr.out.setCell (by show w.heap.size ≤ w.heap.size + 1 + 1; omega) _⟩

end Go.Proofs.YtkcchceoljlnaaaDoor
