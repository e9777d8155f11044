/- FnOwns: the draw of its arguments. -/
import Derived.Test.YtkcchceoljlnaaaDrawLabC
import Derived.Test.YtkcchceoljlnaaaOpenB
namespace Go.Proofs.Ytkcchceoljlnaaa
set_option linter.unusedSimpArgs false
set_option linter.unusedVariables false
open Go.RowKit
attribute [local go_sem ↓] Go.wp_at_zero Go.wp_at_succ

def DrF (W : World) (e : Ending) (w' : World) : Prop :=
  ∃ (O : Option Addr) (c0 : Nat) (os : List Int) (A1 : Option Addr) (c1 : Nat) (xs : List Int) (A2 : Option Addr) (c2 : Nat) (ys : List Int), e = .returned (.tuple #[.slice O os.length c0, lab A1 xs.length c1, lab A2 ys.length c2]) ∧ os.length ≤ 5 ∧ xs.length ≤ 5 ∧ ys.length ≤ 5 ∧ Ints w' O os ∧ Ints w' A1 xs ∧ Ints w' A2 ys ∧ Below W.heap.size W w'
theorem OwnL.intsSet {w : World} {lo hi : Nat} {A : Option Addr} {xs : List Int} (h : OwnL w lo hi A xs) : Ints w A xs := h.ints
set_option maxHeartbeats 12800000 in
theorem DrawFlowsFor_any (A : Option Addr) (n c : Nat) (w : World) (hA : Bys w A n) (hn : n ≤ 1048576) :
    Calls Try.prog 44 #[.slice A n c] w (DrF w) := by
  have N := Lib.hid (fun w' h => l1New_any A n c w' h hn)
  have hA2 := (hA.keep (fun _ _ h => cell_alloc_ (o := .cells #[.slice none 0 0] 30) h)).keep (fun _ _ h => cell_alloc_ (o := .cells #[.slice none 0 0] 30) h)
  have L := Lib.hid (fun g w' h => l4Own_any ((w.alloc (.cells #[.slice none 0 0] 30)).alloc (.cells #[.slice none 0 0] 30)) g A n c w' hA2 hn h)
  have T := Lib.hid (fun g w' h => l3Two_any ((w.alloc (.cells #[.slice none 0 0] 30)).alloc (.cells #[.slice none 0 0] 30)) g A n c w' hA2 hn h)
  have HA := Lib.hid hA2
  have hbx := heap_alloc_new (w.alloc (.cells #[.slice none 0 0] 30)) (.cells #[.slice none 0 0] 30)
  rw [World.size_alloc] at hbx
  have hbx := Lib.hid hbx
  clear hA hA2
  go_enter Try.func44, Try.ntmps44
  go_wp2_with fail
  refine (N.out _ HA.out).mono ?_
  rintro e w1 ⟨g, rfl, hD⟩
  have HD := Lib.hid hD
  have hsW1 := hD.below.size
  simp only [World.size_alloc] at hsW1
  clear hD
  go_wp2_with fail
  refine (L.out _ _ HD.out).mono ?_
  rintro e w2 ⟨O, c0, os, rfl, hl0, ho, hD, hg⟩
  have hgl := HD.out.lt
  have HD := Lib.hid hD
  have hs2 := hg.size
  have HO := Lib.hid (OwnL.of_own ho)
  clear hD hg ho
  go_wp2_with fail
  refine (T.out _ _ HD.out).mono ?_
  rintro e w3 ⟨A1, c1, xs, A2, c2, ys, rfl, hl1, hl2, hoa, hob, hD, hg⟩
  have HO := Lib.hid (HO.out.gr_ hg (by omega))
  have HA1 := Lib.hid hoa; have HA2 := Lib.hid hob
  have hs3 := hg.size
  have hB := hD.below
  have hs4 := hB.size
  have r0 := Lib.hid (keepblk hB (blk_alloc (heap_alloc_new w _)))
  have r1 := Lib.hid (keepblk hB hbx.out)
  simp only [World.size_alloc] at hs4
  have HB := Lib.hid (Below.trans ((((Below.refl w.heap.size w).alloc (Nat.le_refl _) _).alloc (by simp) _)) (hB.mono (by simp; omega)))
  clear hoa hob hD hg hB
  have q0 : w.heap.size < w3.heap.size := by omega
  have q1 : w.heap.size + 1 < w3.heap.size := by omega
  obtain ⟨k0, f0⟩ := blkcell r0.out
  obtain ⟨k1, f1⟩ := blkcell r1.out
  go_upto_region 4 with (fail)
  have hL := World.size_alloc
  have b0 := Lib.hid (blk_alloc (O := .cells #[.slice A2 ys.length c2] 30) (blk_alloc (O := .cells #[.slice A1 xs.length c1] 30) r0.out))
  have b1 := Lib.hid (blk_alloc (O := .cells #[.slice A2 ys.length c2] 30) (blk_alloc (O := .cells #[.slice A1 xs.length c1] 30) r1.out))
  have b2 := Lib.hid (blk_alloc (O := .cells #[.slice A2 ys.length c2] 30) (heap_alloc_new w3 (.cells #[.slice A1 xs.length c1] 30)))
  have b3n := heap_alloc_new (w3.alloc (.cells #[.slice A1 xs.length c1] 30)) (.cells #[.slice A2 ys.length c2] 30)
  rw [World.size_alloc] at b3n
  have b3 := Lib.hid b3n
  have HO := Lib.hid ((HO.out.alloc (.cells #[.slice A1 xs.length c1] 30)).alloc (.cells #[.slice A2 ys.length c2] 30))
  have HA1 := Lib.hid ((HA1.out.alloc (.cells #[.slice A1 xs.length c1] 30)).alloc (.cells #[.slice A2 ys.length c2] 30))
  have HA2 := Lib.hid ((HA2.out.alloc (.cells #[.slice A1 xs.length c1] 30)).alloc (.cells #[.slice A2 ys.length c2] 30))
  have HB := Lib.hid ((HB.out.alloc (by omega) (.cells #[.slice A1 xs.length c1] 30)).alloc (by simp; omega) (.cells #[.slice A2 ys.length c2] 30))
  have hsX : ((w3.alloc (.cells #[.slice A1 xs.length c1] 30)).alloc (.cells #[.slice A2 ys.length c2] 30)).heap.size = w3.heap.size + 1 + 1 := by simp
  clear b3n k0 k1 f0 f1 hL
  generalize (w3.alloc (.cells #[.slice A1 xs.length c1] 30)).alloc (.cells #[.slice A2 ys.length c2] 30) = X at *
  have p0 : w.heap.size < X.heap.size := by omega
  have p1 : w.heap.size + 1 < X.heap.size := by omega
  have p2 : w3.heap.size < X.heap.size := by omega
  have p3 : w3.heap.size + 1 < X.heap.size := by omega
  obtain ⟨k0, f0⟩ := blkcell b0.out
  obtain ⟨k1, f1⟩ := blkcell b1.out
  obtain ⟨k2, f2⟩ := blkcell b2.out
  obtain ⟨k3, f3⟩ := blkcell b3.out
  have w1w := HD.out.lt
  go_region_with (fail)
  all_goals
    have FO := Lib.hid (((HO.out.setBox_ (p := ⟨w.heap.size, 0, none⟩) (.inl (by show w.heap.size < _; omega)) (.slice A1 xs.length c1)).setBox_ (p := ⟨w.heap.size + 1, 0, none⟩) (.inl (by show w.heap.size + 1 < _; omega)) (.slice A2 ys.length c2)).ints)
    have FA := Lib.hid (((HA1.out.setBox_ (p := ⟨w.heap.size, 0, none⟩) (.inl (by show w.heap.size < _; omega)) (.slice A1 xs.length c1)).setBox_ (p := ⟨w.heap.size + 1, 0, none⟩) (.inl (by show w.heap.size + 1 < _; omega)) (.slice A2 ys.length c2)).ints)
    have FB := Lib.hid (((HA2.out.setBox_ (p := ⟨w.heap.size, 0, none⟩) (.inl (by show w.heap.size < _; omega)) (.slice A1 xs.length c1)).setBox_ (p := ⟨w.heap.size + 1, 0, none⟩) (.inl (by show w.heap.size + 1 < _; omega)) (.slice A2 ys.length c2)).ints)
    have FW := Lib.hid ((HB.out.setCell (p := ⟨w.heap.size, 0, none⟩) (by show w.heap.size ≤ w.heap.size; omega) (.slice A1 xs.length c1)).setCell (p := ⟨w.heap.size + 1, 0, none⟩) (by show w.heap.size ≤ w.heap.size + 1; omega) (.slice A2 ys.length c2))
    go_wp2
    refine bodyPost_ret (v := .tuple #[.slice O os.length c0, lab A1 xs.length c1, lab A2 ys.length c2]) (by simp [results, Try.results44, go_sem, *]) rfl ?_
    exact ⟨O, c0, os, A1, c1, xs, A2, c2, ys, rfl, hl0, hl1, hl2, FO.out, FA.out, FB.out, FW.out.drew⟩

end Go.Proofs.Ytkcchceoljlnaaa
