/- FnLabels: what flows flows on; the join of two labels is the least to which both flow, the meet the greatest that flows to both; labels are read from their texts. No condition. -/
import Derived.Test.YtkcchceoljlnaaaDoorLabsLaw
import Derived.Test.YtkcchceoljlnaaaDoorDrawLabs
import Derived.Test.YtkcchceoljlnaaaDoorReadLab
import Derived.Test.YtkcchceoljlnaaaDoorTie
import Derived.Test.YtkcchceoljlnaaaDoorCards
import Derived.SevenTiedAt
import Derived.ProofKit
import Derived.MakeChecks
import Derived.LaidMore
import Derived.Stop.Joined
import Derived.Stop.LaidErr
import Derived.Deep.RegionHeld3
import Derived.Deep.DrawnRows
import Derived.Deep.Cut
import Derived.Lib.QuietBelow
import Derived.BigQuiet
namespace Go.Proofs.YtkcchceoljlnaaaDoor
set_option linter.unusedSimpArgs false
set_option linter.unusedVariables false
open Go.Joins Go.ChangeShapes Go.WideShapes Go.ChangeAt Go.RowKit Go.Deep
open Go.ChangeMaps (open_string shut_string)
attribute [local go_sem ↓] Go.wp_at_zero Go.wp_at_succ

theorem Ints.re {w : World} {A : Option Addr} {xs : List Int} (h : Ints w A xs) (d : Nat) (os : Array Obj) : Ints (Sort.grow (redrawn w d) os) A xs := h.keep fun _ _ hc => cell_regrown hc d os
abbrev LBox (w : World) (g : Nat) (A : Option Addr) (n c : Nat) : Prop := w.heap[g]? = some (.cells #[.slice A n c] 27 (0, 0))
theorem LBox.cell {w : World} {g : Nat} {A : Option Addr} {n c : Nat} (h : LBox w g A n c) : w.cell? ⟨g, 0, none⟩ = some (.slice A n c) := (blkcell h).1 0
theorem flow_of (A B : Option Addr) (n m c d : Nat) (xs ys : List Int) (b : Bool) (w : World) (hI : Ints w A xs) (hJ : Ints w B ys) (hn : xs.length = n) (hm : ys.length = m) (hnb : n ≤ 5) (hmb : m ≤ 5) (h : flowB [] xs ys = b) :
    Calls Tryd.prog 17 #[lab A n c, lab B m d] w fun e w' => e = .returned (.bool b) ∧ Below w.heap.size w w' := by
  have := implFlows_any A B n m c d xs ys w hI hn (by omega) hJ hm (by omega)
  rwa [h] at this
theorem ok_of (A : Option Addr) (n c : Nat) (xs : List Int) (b : Bool) (w : World) (hI : Ints w A xs) (hn : xs.length = n) (hnb : n ≤ 5) (h : labB xs = b) :
    Calls Tryd.prog 16 #[lab A n c] w fun e w' => e = .returned (.bool b) ∧ Below w.heap.size w w' := by
  have := specLabelOk_any A n c xs w hI hn (by omega)
  rwa [h] at this
theorem same_of (A B : Option Addr) (n m c d : Nat) (xs ys : List Int) (b : Bool) (w : World) (hI : Ints w A xs) (hJ : Ints w B ys) (hn : xs.length = n) (hm : ys.length = m) (hnb : n ≤ 5) (hmb : m ≤ 5) (h : eqB xs ys = b) :
    Calls Tryd.prog 18 #[lab A n c, lab B m d] w fun e w' => e = .returned (.bool b) ∧ Below w.heap.size w w' := by
  have := implSameLabel_any A B n m c d xs ys w hI hJ hn hm (by omega) (by omega)
  rwa [h] at this
def LabN (R : List Int) (n : Nat) (w : World) (e : Ending) (w' : World) : Prop := ∃ A c, e = .returned (lab A n c) ∧ Ints w' A R ∧ Below w.heap.size w w'
theorem labN_of {R R' : List Int} {n : Nat} {w : World} {e : Ending} {w' : World} (h : LabPost R w e w') (hr : R = R') (hn : R'.length = n) : LabN R' n w e w' := by
  obtain ⟨A, c, h1, h2, h3⟩ := h
  subst hr; subst hn
  exact ⟨A, c, h1, h2.ints, h3⟩
theorem join_of (A B : Option Addr) (n m c d : Nat) (xs ys R : List Int) (r : Nat) (w : World) (hI : Ints w A xs) (hJ : Ints w B ys) (hn : xs.length = n) (hm : ys.length = m) (hnb : n ≤ 5) (hmb : m ≤ 5) (h : joinR max xs ys = R) (hr : R.length = r) :
    Calls Tryd.prog 14 #[lab A n c, lab B m d] w (LabN R r w) :=
  (implJoin_any A B n m c d xs ys w hI hJ hn hm (by omega) (by omega)).mono fun _ _ h2 => labN_of h2 h hr
theorem meet_of (A B : Option Addr) (n m c d : Nat) (xs ys R : List Int) (r : Nat) (w : World) (hI : Ints w A xs) (hJ : Ints w B ys) (hn : xs.length = n) (hm : ys.length = m) (hnb : n ≤ 5) (hmb : m ≤ 5) (h : joinR min xs ys = R) (hr : R.length = r) :
    Calls Tryd.prog 15 #[lab A n c, lab B m d] w (LabN R r w) :=
  (implMeet_any A B n m c d xs ys w hI hJ hn hm (by omega) (by omega)).mono fun _ _ h2 => labN_of h2 h hr
theorem flat_of (x : Int) (w : World) (h : inB x 0 3 = true) : Calls Tryd.prog 20 #[.int .i64 x] w (LabN (List.replicate 4 x) 4 w) :=
  (implFlat_yes x w h).mono fun _ _ h2 => labN_of h2 rfl (by simp)
theorem show_of (A : Option Addr) (c : Nat) (xs : List Int) (w : World) (hx : Ints w A xs) (hn : xs.length = 4) (ht : DTab w) :
    Calls Tryd.prog 8 #[lab A 4 c] w fun e w' => e = .returned (.string (showS xs)) ∧ Below w.heap.size w w' := implShow_any A 4 c xs w hx hn (by omega) ht
theorem read_of (xs : List Int) (w : World) (h : labB xs = true) : Calls Tryd.prog 19 #[.string (showS xs)] w (fun e w' => ∃ A c, e = .returned (.tuple #[lab A 4 c, .bool true]) ∧ Ints w' A xs ∧ Below w.heap.size w w') := by
  have h2 := implReadLabel_any (showS xs) w (by rw [show_size h]; omega)
  rw [show_digs h, readL_yes h, h] at h2
  exact h2.mono fun _ _ ⟨A, c, h3, h4, h5⟩ => ⟨A, c, by rw [h3, labB_len4 h], h4.ints, h5⟩
set_option maxHeartbeats 400000 in
theorem big_any (A : Option Addr) (n c : Nat) (w : World) (hn : n ≤ 9223372036854775807) : Calls Tryd.prog 10 #[.slice A n c] w fun e w' => e = .returned (.bool (decide ((1048576 : Int) < (n : Int)))) ∧ w = w' := by
  go_enter Tryd.func10, Tryd.ntmps10
  go_wp2
  go_ret
  exact ⟨by first | rfl | simp, rfl⟩
theorem tab_of {W : World} (h : laidMetH Tryd.prog Rows.fnLabelsRow.laid W) : DTab W := by
  rw [MakeChecks.laidMetH_plain _ _ _ (by kernel_rfl)] at h
  have h2 := laidMet.tail (laidMet.tail h)
  exact Lib.tabIs_of_head (g := 0) (by kernel_rfl) (by kernel_rfl) Tryd.underlying71 Tryd.underlying64 (by kernel_rfl) (by kernel_rfl) h2
set_option maxRecDepth 100000 in
set_option maxHeartbeats 800000 in
theorem labels_big (A : Option Addr) (n c : Nat) (w : World) (hmx : n ≤ 9223372036854775807) (hbig : 1048576 < n) :
    Calls Tryd.prog 4 #[.slice A n c] w fun e w' => e = .returned (.bool true) ∧ Below w.heap.size w w' := by
  go_enter Tryd.func4, Tryd.ntmps4
  go_wp2_with fail
  refine (big_any A n c _ hmx).mono ?_
  rintro e _ ⟨rfl, rfl⟩
  have hbg : decide ((1048576 : Int) < (n : Int)) = true := decide_eq_true (by omega)
  rw [hbg]
  go_wp2
  go_ret
  exact ⟨rfl, Below.refl _ _⟩
set_option maxRecDepth 100000 in
set_option maxHeartbeats 12800000 in
theorem labels_main (A : Option Addr) (n c : Nat) (w : World) (hA : Bys w A n) (hn : n ≤ 1048576) (hT : DTab w) :
    Calls Tryd.prog 4 #[.slice A n c] w fun e w' => e = .returned (.bool true) ∧ Below w.heap.size w w' := by
  have HA := Lib.hid hA
  have HT := Lib.hid hT
  clear hA hT
  go_enter Tryd.func4, Tryd.ntmps4
  go_wp2_with fail
  refine (big_any A n c _ (by omega)).mono ?_
  rintro e _ ⟨rfl, rfl⟩
  have hbg : decide ((1048576 : Int) < (n : Int)) = false := decide_eq_false (by omega)
  rw [hbg]
  clear hbg
  go_wp2_with fail
  refine (DrawFlows_any A n c _ HA.out hn).mono ?_
  rintro e w1 ⟨A1, c1, xs, A2, c2, ys, rfl, hl1, hl2, ha, hb, hB⟩
  obtain ⟨n1, hn1⟩ : ∃ n1, xs.length = n1 := ⟨_, rfl⟩
  obtain ⟨n2, hn2⟩ : ∃ n2, ys.length = n2 := ⟨_, rfl⟩
  rw [hn1, hn2]
  rw [hn1] at hl1
  rw [hn2] at hl2
  replace HA := Lib.hid (((HA.out.keep fun _ _ h => Below.keeps hB h).keep fun _ _ h => cell_alloc_ (o := .cells #[.slice A1 n1 c1] 27) h).keep fun _ _ h => cell_alloc_ (o := .cells #[.slice A2 n2 c2] 27) h)
  have HX := Lib.hid ((ha.alloc (.cells #[.slice A1 n1 c1] 27)).alloc (.cells #[.slice A2 n2 c2] 27))
  have HY := Lib.hid ((hb.alloc (.cells #[.slice A1 n1 c1] 27)).alloc (.cells #[.slice A2 n2 c2] 27))
  have b3 := Lib.hid (show LBox _ _ _ _ _ from blk_alloc (O := .cells #[.slice A2 n2 c2] 27) (heap_alloc_new w1 (.cells #[.slice A1 n1 c1] 27)))
  have b4 := heap_alloc_new (w1.alloc (.cells #[.slice A1 n1 c1] 27)) (.cells #[.slice A2 n2 c2] 27)
  rw [World.size_alloc] at b4
  replace b4 := Lib.hid (show LBox _ _ _ _ _ from b4)
  have hs := hB.size
  replace hB := Lib.hid ((hB.alloc hs (.cells #[.slice A1 n1 c1] 27)).alloc (by simp; omega) (.cells #[.slice A2 n2 c2] 27))
  clear ha hb hs
  have lb3 := lt_of_blk b3.out
  have lb4 := lt_of_blk b4.out
  go_wp2_with fail
  refine (fresh_any A n c _ HA.out hn).mono ?_
  rintro e w2 ⟨A', m', c', rfl, hm', hby, hb⟩
  replace HX := Lib.hid (HX.out.below hb)
  replace HY := Lib.hid (HY.out.below hb)
  replace b3 := Lib.hid (show LBox _ _ _ _ _ from keepblk hb b3.out)
  replace b4 := Lib.hid (show LBox _ _ _ _ _ from keepblk hb b4.out)
  replace hB := Lib.hid (Below.trans hB.out (hb.mono hB.out.size))
  clear hb
  have lb3 := lt_of_blk b3.out
  have lb4 := lt_of_blk b4.out
  clear HA
  go_wp2_with fail
  refine (DrawJoin_any A' m' c' _ hby (by omega)).mono ?_
  rintro e w3 ⟨A3, c3, zs, A4, c4, us, rfl, hl3, hl4, hz, hu, hb⟩
  clear hby hu
  obtain ⟨n3, hn3⟩ : ∃ n3, zs.length = n3 := ⟨_, rfl⟩
  obtain ⟨n4, hn4⟩ : ∃ n4, us.length = n4 := ⟨_, rfl⟩
  rw [hn3, hn4]
  rw [hn3] at hl3
  clear hl4
  replace HX := Lib.hid (HX.out.below hb)
  replace HY := Lib.hid (HY.out.below hb)
  replace b3 := Lib.hid (show LBox _ _ _ _ _ from keepblk hb b3.out)
  replace b4 := Lib.hid (show LBox _ _ _ _ _ from keepblk hb b4.out)
  replace hB := Lib.hid (Below.trans hB.out (hb.mono hB.out.size))
  clear hb
  have lb3 := lt_of_blk b3.out
  have lb4 := lt_of_blk b4.out
  have HZ := Lib.hid hz
  clear hz
  replace HX := Lib.hid (HX.out.alloc (.cells #[.slice A3 n3 c3] 27))
  replace HY := Lib.hid (HY.out.alloc (.cells #[.slice A3 n3 c3] 27))
  replace HZ := Lib.hid (HZ.out.alloc (.cells #[.slice A3 n3 c3] 27))
  replace b3 := Lib.hid (show LBox _ _ _ _ _ from blk_alloc (O := .cells #[.slice A3 n3 c3] 27) b3.out)
  replace b4 := Lib.hid (show LBox _ _ _ _ _ from blk_alloc (O := .cells #[.slice A3 n3 c3] 27) b4.out)
  have b5 := Lib.hid (show LBox _ _ _ _ _ from heap_alloc_new w3 (.cells #[.slice A3 n3 c3] 27))
  replace hB := Lib.hid (hB.out.alloc hB.out.size (.cells #[.slice A3 n3 c3] 27))
  replace HX := Lib.hid (HX.out.alloc (.cells #[.slice A4 n4 c4] 27))
  replace HY := Lib.hid (HY.out.alloc (.cells #[.slice A4 n4 c4] 27))
  replace HZ := Lib.hid (HZ.out.alloc (.cells #[.slice A4 n4 c4] 27))
  replace b3 := Lib.hid (show LBox _ _ _ _ _ from blk_alloc (O := .cells #[.slice A4 n4 c4] 27) b3.out)
  replace b4 := Lib.hid (show LBox _ _ _ _ _ from blk_alloc (O := .cells #[.slice A4 n4 c4] 27) b4.out)
  replace b5 := Lib.hid (show LBox _ _ _ _ _ from blk_alloc (O := .cells #[.slice A4 n4 c4] 27) b5.out)
  have b6 := Lib.hid (show LBox _ _ _ _ _ from heap_alloc_new (w3.alloc (.cells #[.slice A3 n3 c3] 27)) (.cells #[.slice A4 n4 c4] 27))
  replace hB := Lib.hid (hB.out.alloc hB.out.size (.cells #[.slice A4 n4 c4] 27))
  replace b6 := Lib.hid (show LBox _ (w3.heap.size + 1) _ _ _ by have := b6.out; rwa [World.size_alloc] at this)
  have lb3 := lt_of_blk b3.out
  have lb4 := lt_of_blk b4.out
  have lb5 := lt_of_blk b5.out
  have lb6 := lt_of_blk b6.out
  have cb3 := LBox.cell b3.out
  have cb4 := LBox.cell b4.out
  have cb5 := LBox.cell b5.out
  have cb6 := LBox.cell b6.out
  obtain ⟨J, hJ⟩ : ∃ J, joinR max xs ys = J := ⟨_, rfl⟩
  obtain ⟨M, hM⟩ : ∃ M, joinR min xs ys = M := ⟨_, rfl⟩
  obtain ⟨nj, hnj⟩ : ∃ nj, J.length = nj := ⟨_, rfl⟩
  obtain ⟨nm, hnm⟩ : ∃ nm, M.length = nm := ⟨_, rfl⟩
  have hj4 : nj ≤ 4 := by rw [← hnj, ← hJ]; exact joinR_len _ _ _
  have hm4 : nm ≤ 4 := by rw [← hnm, ← hM]; exact joinR_len _ _ _
  replace hJ := Lib.hid hJ; replace hM := Lib.hid hM; replace hn1 := Lib.hid hn1; replace hn2 := Lib.hid hn2; replace hn3 := Lib.hid hn3; replace hnj := Lib.hid hnj; replace hnm := Lib.hid hnm
  clear hn4
  go_wp2_with fail
  refine (join_of A1 A2 n1 n2 c1 c2 xs ys J nj _ HX.out HY.out hn1.out hn2.out hl1 hl2 hJ.out hnj.out).mono ?_
  rintro e w4 ⟨A7, c7, rfl, hj, hb⟩
  clear cb3
  clear cb4
  clear cb5
  clear cb6
  replace HX := Lib.hid (HX.out.below hb)
  replace HY := Lib.hid (HY.out.below hb)
  replace HZ := Lib.hid (HZ.out.below hb)
  replace b3 := Lib.hid (show LBox _ _ _ _ _ from keepblk hb b3.out)
  replace b4 := Lib.hid (show LBox _ _ _ _ _ from keepblk hb b4.out)
  replace b5 := Lib.hid (show LBox _ _ _ _ _ from keepblk hb b5.out)
  replace b6 := Lib.hid (show LBox _ _ _ _ _ from keepblk hb b6.out)
  replace hB := Lib.hid (Below.trans hB.out (hb.mono hB.out.size))
  clear hb
  have lb3 := lt_of_blk b3.out
  have lb4 := lt_of_blk b4.out
  have lb5 := lt_of_blk b5.out
  have lb6 := lt_of_blk b6.out
  have HJ := Lib.hid hj
  clear hj
  replace HX := Lib.hid (HX.out.alloc (.cells #[.slice A7 nj c7] 27))
  replace HY := Lib.hid (HY.out.alloc (.cells #[.slice A7 nj c7] 27))
  replace HZ := Lib.hid (HZ.out.alloc (.cells #[.slice A7 nj c7] 27))
  replace HJ := Lib.hid (HJ.out.alloc (.cells #[.slice A7 nj c7] 27))
  replace b3 := Lib.hid (show LBox _ _ _ _ _ from blk_alloc (O := .cells #[.slice A7 nj c7] 27) b3.out)
  replace b4 := Lib.hid (show LBox _ _ _ _ _ from blk_alloc (O := .cells #[.slice A7 nj c7] 27) b4.out)
  replace b5 := Lib.hid (show LBox _ _ _ _ _ from blk_alloc (O := .cells #[.slice A7 nj c7] 27) b5.out)
  replace b6 := Lib.hid (show LBox _ _ _ _ _ from blk_alloc (O := .cells #[.slice A7 nj c7] 27) b6.out)
  have b7 := Lib.hid (show LBox _ _ _ _ _ from heap_alloc_new w4 (.cells #[.slice A7 nj c7] 27))
  replace hB := Lib.hid (hB.out.alloc hB.out.size (.cells #[.slice A7 nj c7] 27))
  have lb3 := lt_of_blk b3.out
  have lb4 := lt_of_blk b4.out
  have lb5 := lt_of_blk b5.out
  have lb6 := lt_of_blk b6.out
  have lb7 := lt_of_blk b7.out
  have cb3 := LBox.cell b3.out
  have cb4 := LBox.cell b4.out
  have cb5 := LBox.cell b5.out
  have cb6 := LBox.cell b6.out
  have cb7 := LBox.cell b7.out
  go_wp2_with fail
  refine (meet_of A1 A2 n1 n2 c1 c2 xs ys M nm _ HX.out HY.out hn1.out hn2.out hl1 hl2 hM.out hnm.out).mono ?_
  rintro e w5 ⟨A8, c8, rfl, hm, hb⟩
  clear cb3
  clear cb4
  clear cb5
  clear cb6
  clear cb7
  replace HX := Lib.hid (HX.out.below hb)
  replace HY := Lib.hid (HY.out.below hb)
  replace HZ := Lib.hid (HZ.out.below hb)
  replace HJ := Lib.hid (HJ.out.below hb)
  replace b3 := Lib.hid (show LBox _ _ _ _ _ from keepblk hb b3.out)
  replace b4 := Lib.hid (show LBox _ _ _ _ _ from keepblk hb b4.out)
  replace b5 := Lib.hid (show LBox _ _ _ _ _ from keepblk hb b5.out)
  replace b6 := Lib.hid (show LBox _ _ _ _ _ from keepblk hb b6.out)
  replace b7 := Lib.hid (show LBox _ _ _ _ _ from keepblk hb b7.out)
  replace hB := Lib.hid (Below.trans hB.out (hb.mono hB.out.size))
  clear hb
  have lb3 := lt_of_blk b3.out
  have lb4 := lt_of_blk b4.out
  have lb5 := lt_of_blk b5.out
  have lb6 := lt_of_blk b6.out
  have lb7 := lt_of_blk b7.out
  have HM := Lib.hid hm
  clear hm
  replace HX := Lib.hid (HX.out.alloc (.cells #[.slice A8 nm c8] 27))
  replace HY := Lib.hid (HY.out.alloc (.cells #[.slice A8 nm c8] 27))
  replace HZ := Lib.hid (HZ.out.alloc (.cells #[.slice A8 nm c8] 27))
  replace HJ := Lib.hid (HJ.out.alloc (.cells #[.slice A8 nm c8] 27))
  replace HM := Lib.hid (HM.out.alloc (.cells #[.slice A8 nm c8] 27))
  replace b3 := Lib.hid (show LBox _ _ _ _ _ from blk_alloc (O := .cells #[.slice A8 nm c8] 27) b3.out)
  replace b4 := Lib.hid (show LBox _ _ _ _ _ from blk_alloc (O := .cells #[.slice A8 nm c8] 27) b4.out)
  replace b5 := Lib.hid (show LBox _ _ _ _ _ from blk_alloc (O := .cells #[.slice A8 nm c8] 27) b5.out)
  replace b6 := Lib.hid (show LBox _ _ _ _ _ from blk_alloc (O := .cells #[.slice A8 nm c8] 27) b6.out)
  replace b7 := Lib.hid (show LBox _ _ _ _ _ from blk_alloc (O := .cells #[.slice A8 nm c8] 27) b7.out)
  have b8 := Lib.hid (show LBox _ _ _ _ _ from heap_alloc_new w5 (.cells #[.slice A8 nm c8] 27))
  replace hB := Lib.hid (hB.out.alloc hB.out.size (.cells #[.slice A8 nm c8] 27))
  have lb3 := lt_of_blk b3.out
  have lb4 := lt_of_blk b4.out
  have lb5 := lt_of_blk b5.out
  have lb6 := lt_of_blk b6.out
  have lb7 := lt_of_blk b7.out
  have lb8 := lt_of_blk b8.out
  go_upto_region 7 with (fail)
  generalize hWe : w5.alloc (.cells #[.slice A8 nm c8] 27) = W at *
  clear hWe
  cases e1 : labB xs
  · as_aux_lemma =>
    have cb3 := LBox.cell b3.out
    have cb4 := LBox.cell b4.out
    have cb5 := LBox.cell b5.out
    have cb6 := LBox.cell b6.out
    have cb7 := LBox.cell b7.out
    have cb8 := LBox.cell b8.out
    go_wp2_with fail
    refine (ok_of A1 n1 c1 xs _ _ HX.out hn1.out hl1 e1).mono ?_
    rintro e wq0 ⟨rfl, hb⟩
    clear cb3
    clear cb4
    clear cb5
    clear cb6
    clear cb7
    clear cb8
    replace HX := Lib.hid (HX.out.below hb)
    replace HY := Lib.hid (HY.out.below hb)
    replace HZ := Lib.hid (HZ.out.below hb)
    replace HJ := Lib.hid (HJ.out.below hb)
    replace HM := Lib.hid (HM.out.below hb)
    replace b3 := Lib.hid (show LBox _ _ _ _ _ from keepblk hb b3.out)
    replace b4 := Lib.hid (show LBox _ _ _ _ _ from keepblk hb b4.out)
    replace b5 := Lib.hid (show LBox _ _ _ _ _ from keepblk hb b5.out)
    replace b6 := Lib.hid (show LBox _ _ _ _ _ from keepblk hb b6.out)
    replace b7 := Lib.hid (show LBox _ _ _ _ _ from keepblk hb b7.out)
    replace b8 := Lib.hid (show LBox _ _ _ _ _ from keepblk hb b8.out)
    replace hB := Lib.hid (Below.trans hB.out (hb.mono hB.out.size))
    clear hb
    have lb3 := lt_of_blk b3.out
    have lb4 := lt_of_blk b4.out
    have lb5 := lt_of_blk b5.out
    have lb6 := lt_of_blk b6.out
    have lb7 := lt_of_blk b7.out
    have lb8 := lt_of_blk b8.out
    have cb3 := LBox.cell b3.out
    have cb4 := LBox.cell b4.out
    have cb5 := LBox.cell b5.out
    have cb6 := LBox.cell b6.out
    have cb7 := LBox.cell b7.out
    have cb8 := LBox.cell b8.out
    go_wp2_with fail
    refine (flow_of A1 A2 n1 n2 c1 c2 xs ys false _ HX.out HY.out hn1.out hn2.out hl1 hl2 (by simp [flowB, e1])).mono ?_
    rintro e wf ⟨rfl, hb⟩
    go_wp2
    go_ret
    exact ⟨by first | rfl | simp, Below.trans hB.out (hb.mono hB.out.size)⟩
  · cases e2 : labB ys
    · as_aux_lemma =>
      have cb3 := LBox.cell b3.out
      have cb4 := LBox.cell b4.out
      have cb5 := LBox.cell b5.out
      have cb6 := LBox.cell b6.out
      have cb7 := LBox.cell b7.out
      have cb8 := LBox.cell b8.out
      go_wp2_with fail
      refine (ok_of A1 n1 c1 xs _ _ HX.out hn1.out hl1 e1).mono ?_
      rintro e wq0 ⟨rfl, hb⟩
      clear cb3
      clear cb4
      clear cb5
      clear cb6
      clear cb7
      clear cb8
      replace HX := Lib.hid (HX.out.below hb)
      replace HY := Lib.hid (HY.out.below hb)
      replace HZ := Lib.hid (HZ.out.below hb)
      replace HJ := Lib.hid (HJ.out.below hb)
      replace HM := Lib.hid (HM.out.below hb)
      replace b3 := Lib.hid (show LBox _ _ _ _ _ from keepblk hb b3.out)
      replace b4 := Lib.hid (show LBox _ _ _ _ _ from keepblk hb b4.out)
      replace b5 := Lib.hid (show LBox _ _ _ _ _ from keepblk hb b5.out)
      replace b6 := Lib.hid (show LBox _ _ _ _ _ from keepblk hb b6.out)
      replace b7 := Lib.hid (show LBox _ _ _ _ _ from keepblk hb b7.out)
      replace b8 := Lib.hid (show LBox _ _ _ _ _ from keepblk hb b8.out)
      replace hB := Lib.hid (Below.trans hB.out (hb.mono hB.out.size))
      clear hb
      have lb3 := lt_of_blk b3.out
      have lb4 := lt_of_blk b4.out
      have lb5 := lt_of_blk b5.out
      have lb6 := lt_of_blk b6.out
      have lb7 := lt_of_blk b7.out
      have lb8 := lt_of_blk b8.out
      have cb3 := LBox.cell b3.out
      have cb4 := LBox.cell b4.out
      have cb5 := LBox.cell b5.out
      have cb6 := LBox.cell b6.out
      have cb7 := LBox.cell b7.out
      have cb8 := LBox.cell b8.out
      go_wp2_with fail
      refine (ok_of A2 n2 c2 ys _ _ HY.out hn2.out hl2 e2).mono ?_
      rintro e wq1 ⟨rfl, hb⟩
      clear cb3
      clear cb4
      clear cb5
      clear cb6
      clear cb7
      clear cb8
      replace HX := Lib.hid (HX.out.below hb)
      replace HY := Lib.hid (HY.out.below hb)
      replace HZ := Lib.hid (HZ.out.below hb)
      replace HJ := Lib.hid (HJ.out.below hb)
      replace HM := Lib.hid (HM.out.below hb)
      replace b3 := Lib.hid (show LBox _ _ _ _ _ from keepblk hb b3.out)
      replace b4 := Lib.hid (show LBox _ _ _ _ _ from keepblk hb b4.out)
      replace b5 := Lib.hid (show LBox _ _ _ _ _ from keepblk hb b5.out)
      replace b6 := Lib.hid (show LBox _ _ _ _ _ from keepblk hb b6.out)
      replace b7 := Lib.hid (show LBox _ _ _ _ _ from keepblk hb b7.out)
      replace b8 := Lib.hid (show LBox _ _ _ _ _ from keepblk hb b8.out)
      replace hB := Lib.hid (Below.trans hB.out (hb.mono hB.out.size))
      clear hb
      have lb3 := lt_of_blk b3.out
      have lb4 := lt_of_blk b4.out
      have lb5 := lt_of_blk b5.out
      have lb6 := lt_of_blk b6.out
      have lb7 := lt_of_blk b7.out
      have lb8 := lt_of_blk b8.out
      have cb3 := LBox.cell b3.out
      have cb4 := LBox.cell b4.out
      have cb5 := LBox.cell b5.out
      have cb6 := LBox.cell b6.out
      have cb7 := LBox.cell b7.out
      have cb8 := LBox.cell b8.out
      go_wp2_with fail
      refine (flow_of A1 A2 n1 n2 c1 c2 xs ys false _ HX.out HY.out hn1.out hn2.out hl1 hl2 (by simp [flowB, e2])).mono ?_
      rintro e wf ⟨rfl, hb⟩
      go_wp2
      go_ret
      exact ⟨by first | rfl | simp, Below.trans hB.out (hb.mono hB.out.size)⟩
    · cases e3 : labB zs
      · cases hf : flowB [] xs ys
        · as_aux_lemma =>
          have cb3 := LBox.cell b3.out
          have cb4 := LBox.cell b4.out
          have cb5 := LBox.cell b5.out
          have cb6 := LBox.cell b6.out
          have cb7 := LBox.cell b7.out
          have cb8 := LBox.cell b8.out
          go_wp2_with fail
          refine (ok_of A1 n1 c1 xs _ _ HX.out hn1.out hl1 e1).mono ?_
          rintro e wq0 ⟨rfl, hb⟩
          clear cb3
          clear cb4
          clear cb5
          clear cb6
          clear cb7
          clear cb8
          replace HX := Lib.hid (HX.out.below hb)
          replace HY := Lib.hid (HY.out.below hb)
          replace HZ := Lib.hid (HZ.out.below hb)
          replace HJ := Lib.hid (HJ.out.below hb)
          replace HM := Lib.hid (HM.out.below hb)
          replace b3 := Lib.hid (show LBox _ _ _ _ _ from keepblk hb b3.out)
          replace b4 := Lib.hid (show LBox _ _ _ _ _ from keepblk hb b4.out)
          replace b5 := Lib.hid (show LBox _ _ _ _ _ from keepblk hb b5.out)
          replace b6 := Lib.hid (show LBox _ _ _ _ _ from keepblk hb b6.out)
          replace b7 := Lib.hid (show LBox _ _ _ _ _ from keepblk hb b7.out)
          replace b8 := Lib.hid (show LBox _ _ _ _ _ from keepblk hb b8.out)
          replace hB := Lib.hid (Below.trans hB.out (hb.mono hB.out.size))
          clear hb
          have lb3 := lt_of_blk b3.out
          have lb4 := lt_of_blk b4.out
          have lb5 := lt_of_blk b5.out
          have lb6 := lt_of_blk b6.out
          have lb7 := lt_of_blk b7.out
          have lb8 := lt_of_blk b8.out
          have cb3 := LBox.cell b3.out
          have cb4 := LBox.cell b4.out
          have cb5 := LBox.cell b5.out
          have cb6 := LBox.cell b6.out
          have cb7 := LBox.cell b7.out
          have cb8 := LBox.cell b8.out
          go_wp2_with fail
          refine (ok_of A2 n2 c2 ys _ _ HY.out hn2.out hl2 e2).mono ?_
          rintro e wq1 ⟨rfl, hb⟩
          clear cb3
          clear cb4
          clear cb5
          clear cb6
          clear cb7
          clear cb8
          replace HX := Lib.hid (HX.out.below hb)
          replace HY := Lib.hid (HY.out.below hb)
          replace HZ := Lib.hid (HZ.out.below hb)
          replace HJ := Lib.hid (HJ.out.below hb)
          replace HM := Lib.hid (HM.out.below hb)
          replace b3 := Lib.hid (show LBox _ _ _ _ _ from keepblk hb b3.out)
          replace b4 := Lib.hid (show LBox _ _ _ _ _ from keepblk hb b4.out)
          replace b5 := Lib.hid (show LBox _ _ _ _ _ from keepblk hb b5.out)
          replace b6 := Lib.hid (show LBox _ _ _ _ _ from keepblk hb b6.out)
          replace b7 := Lib.hid (show LBox _ _ _ _ _ from keepblk hb b7.out)
          replace b8 := Lib.hid (show LBox _ _ _ _ _ from keepblk hb b8.out)
          replace hB := Lib.hid (Below.trans hB.out (hb.mono hB.out.size))
          clear hb
          have lb3 := lt_of_blk b3.out
          have lb4 := lt_of_blk b4.out
          have lb5 := lt_of_blk b5.out
          have lb6 := lt_of_blk b6.out
          have lb7 := lt_of_blk b7.out
          have lb8 := lt_of_blk b8.out
          have cb3 := LBox.cell b3.out
          have cb4 := LBox.cell b4.out
          have cb5 := LBox.cell b5.out
          have cb6 := LBox.cell b6.out
          have cb7 := LBox.cell b7.out
          have cb8 := LBox.cell b8.out
          go_wp2_with fail
          refine (ok_of A3 n3 c3 zs _ _ HZ.out hn3.out hl3 e3).mono ?_
          rintro e wq2 ⟨rfl, hb⟩
          clear cb3
          clear cb4
          clear cb5
          clear cb6
          clear cb7
          clear cb8
          replace HX := Lib.hid (HX.out.below hb)
          replace HY := Lib.hid (HY.out.below hb)
          replace HZ := Lib.hid (HZ.out.below hb)
          replace HJ := Lib.hid (HJ.out.below hb)
          replace HM := Lib.hid (HM.out.below hb)
          replace b3 := Lib.hid (show LBox _ _ _ _ _ from keepblk hb b3.out)
          replace b4 := Lib.hid (show LBox _ _ _ _ _ from keepblk hb b4.out)
          replace b5 := Lib.hid (show LBox _ _ _ _ _ from keepblk hb b5.out)
          replace b6 := Lib.hid (show LBox _ _ _ _ _ from keepblk hb b6.out)
          replace b7 := Lib.hid (show LBox _ _ _ _ _ from keepblk hb b7.out)
          replace b8 := Lib.hid (show LBox _ _ _ _ _ from keepblk hb b8.out)
          replace hB := Lib.hid (Below.trans hB.out (hb.mono hB.out.size))
          clear hb
          have lb3 := lt_of_blk b3.out
          have lb4 := lt_of_blk b4.out
          have lb5 := lt_of_blk b5.out
          have lb6 := lt_of_blk b6.out
          have lb7 := lt_of_blk b7.out
          have lb8 := lt_of_blk b8.out
          have cb3 := LBox.cell b3.out
          have cb4 := LBox.cell b4.out
          have cb5 := LBox.cell b5.out
          have cb6 := LBox.cell b6.out
          have cb7 := LBox.cell b7.out
          have cb8 := LBox.cell b8.out
          go_wp2_with fail
          refine (flow_of A1 A2 n1 n2 c1 c2 xs ys false _ HX.out HY.out hn1.out hn2.out hl1 hl2 hf).mono ?_
          rintro e wf ⟨rfl, hb⟩
          go_wp2
          go_ret
          exact ⟨by first | rfl | simp, Below.trans hB.out (hb.mono hB.out.size)⟩
        · as_aux_lemma =>
          have cb3 := LBox.cell b3.out
          have cb4 := LBox.cell b4.out
          have cb5 := LBox.cell b5.out
          have cb6 := LBox.cell b6.out
          have cb7 := LBox.cell b7.out
          have cb8 := LBox.cell b8.out
          go_wp2_with fail
          refine (ok_of A1 n1 c1 xs _ _ HX.out hn1.out hl1 e1).mono ?_
          rintro e wq0 ⟨rfl, hb⟩
          clear cb3
          clear cb4
          clear cb5
          clear cb6
          clear cb7
          clear cb8
          replace HX := Lib.hid (HX.out.below hb)
          replace HY := Lib.hid (HY.out.below hb)
          replace HZ := Lib.hid (HZ.out.below hb)
          replace HJ := Lib.hid (HJ.out.below hb)
          replace HM := Lib.hid (HM.out.below hb)
          replace b3 := Lib.hid (show LBox _ _ _ _ _ from keepblk hb b3.out)
          replace b4 := Lib.hid (show LBox _ _ _ _ _ from keepblk hb b4.out)
          replace b5 := Lib.hid (show LBox _ _ _ _ _ from keepblk hb b5.out)
          replace b6 := Lib.hid (show LBox _ _ _ _ _ from keepblk hb b6.out)
          replace b7 := Lib.hid (show LBox _ _ _ _ _ from keepblk hb b7.out)
          replace b8 := Lib.hid (show LBox _ _ _ _ _ from keepblk hb b8.out)
          replace hB := Lib.hid (Below.trans hB.out (hb.mono hB.out.size))
          clear hb
          have lb3 := lt_of_blk b3.out
          have lb4 := lt_of_blk b4.out
          have lb5 := lt_of_blk b5.out
          have lb6 := lt_of_blk b6.out
          have lb7 := lt_of_blk b7.out
          have lb8 := lt_of_blk b8.out
          have cb3 := LBox.cell b3.out
          have cb4 := LBox.cell b4.out
          have cb5 := LBox.cell b5.out
          have cb6 := LBox.cell b6.out
          have cb7 := LBox.cell b7.out
          have cb8 := LBox.cell b8.out
          go_wp2_with fail
          refine (ok_of A2 n2 c2 ys _ _ HY.out hn2.out hl2 e2).mono ?_
          rintro e wq1 ⟨rfl, hb⟩
          clear cb3
          clear cb4
          clear cb5
          clear cb6
          clear cb7
          clear cb8
          replace HX := Lib.hid (HX.out.below hb)
          replace HY := Lib.hid (HY.out.below hb)
          replace HZ := Lib.hid (HZ.out.below hb)
          replace HJ := Lib.hid (HJ.out.below hb)
          replace HM := Lib.hid (HM.out.below hb)
          replace b3 := Lib.hid (show LBox _ _ _ _ _ from keepblk hb b3.out)
          replace b4 := Lib.hid (show LBox _ _ _ _ _ from keepblk hb b4.out)
          replace b5 := Lib.hid (show LBox _ _ _ _ _ from keepblk hb b5.out)
          replace b6 := Lib.hid (show LBox _ _ _ _ _ from keepblk hb b6.out)
          replace b7 := Lib.hid (show LBox _ _ _ _ _ from keepblk hb b7.out)
          replace b8 := Lib.hid (show LBox _ _ _ _ _ from keepblk hb b8.out)
          replace hB := Lib.hid (Below.trans hB.out (hb.mono hB.out.size))
          clear hb
          have lb3 := lt_of_blk b3.out
          have lb4 := lt_of_blk b4.out
          have lb5 := lt_of_blk b5.out
          have lb6 := lt_of_blk b6.out
          have lb7 := lt_of_blk b7.out
          have lb8 := lt_of_blk b8.out
          have cb3 := LBox.cell b3.out
          have cb4 := LBox.cell b4.out
          have cb5 := LBox.cell b5.out
          have cb6 := LBox.cell b6.out
          have cb7 := LBox.cell b7.out
          have cb8 := LBox.cell b8.out
          go_wp2_with fail
          refine (ok_of A3 n3 c3 zs _ _ HZ.out hn3.out hl3 e3).mono ?_
          rintro e wq2 ⟨rfl, hb⟩
          clear cb3
          clear cb4
          clear cb5
          clear cb6
          clear cb7
          clear cb8
          replace HX := Lib.hid (HX.out.below hb)
          replace HY := Lib.hid (HY.out.below hb)
          replace HZ := Lib.hid (HZ.out.below hb)
          replace HJ := Lib.hid (HJ.out.below hb)
          replace HM := Lib.hid (HM.out.below hb)
          replace b3 := Lib.hid (show LBox _ _ _ _ _ from keepblk hb b3.out)
          replace b4 := Lib.hid (show LBox _ _ _ _ _ from keepblk hb b4.out)
          replace b5 := Lib.hid (show LBox _ _ _ _ _ from keepblk hb b5.out)
          replace b6 := Lib.hid (show LBox _ _ _ _ _ from keepblk hb b6.out)
          replace b7 := Lib.hid (show LBox _ _ _ _ _ from keepblk hb b7.out)
          replace b8 := Lib.hid (show LBox _ _ _ _ _ from keepblk hb b8.out)
          replace hB := Lib.hid (Below.trans hB.out (hb.mono hB.out.size))
          clear hb
          have lb3 := lt_of_blk b3.out
          have lb4 := lt_of_blk b4.out
          have lb5 := lt_of_blk b5.out
          have lb6 := lt_of_blk b6.out
          have lb7 := lt_of_blk b7.out
          have lb8 := lt_of_blk b8.out
          have cb3 := LBox.cell b3.out
          have cb4 := LBox.cell b4.out
          have cb5 := LBox.cell b5.out
          have cb6 := LBox.cell b6.out
          have cb7 := LBox.cell b7.out
          have cb8 := LBox.cell b8.out
          go_wp2_with fail
          refine (flow_of A1 A2 n1 n2 c1 c2 xs ys true _ HX.out HY.out hn1.out hn2.out hl1 hl2 hf).mono ?_
          rintro e wf ⟨rfl, hb⟩
          clear cb3
          clear cb4
          clear cb5
          clear cb6
          clear cb7
          clear cb8
          replace HX := Lib.hid (HX.out.below hb)
          replace HY := Lib.hid (HY.out.below hb)
          replace HZ := Lib.hid (HZ.out.below hb)
          replace HJ := Lib.hid (HJ.out.below hb)
          replace HM := Lib.hid (HM.out.below hb)
          replace b3 := Lib.hid (show LBox _ _ _ _ _ from keepblk hb b3.out)
          replace b4 := Lib.hid (show LBox _ _ _ _ _ from keepblk hb b4.out)
          replace b5 := Lib.hid (show LBox _ _ _ _ _ from keepblk hb b5.out)
          replace b6 := Lib.hid (show LBox _ _ _ _ _ from keepblk hb b6.out)
          replace b7 := Lib.hid (show LBox _ _ _ _ _ from keepblk hb b7.out)
          replace b8 := Lib.hid (show LBox _ _ _ _ _ from keepblk hb b8.out)
          replace hB := Lib.hid (Below.trans hB.out (hb.mono hB.out.size))
          clear hb
          have lb3 := lt_of_blk b3.out
          have lb4 := lt_of_blk b4.out
          have lb5 := lt_of_blk b5.out
          have lb6 := lt_of_blk b6.out
          have lb7 := lt_of_blk b7.out
          have lb8 := lt_of_blk b8.out
          have cb3 := LBox.cell b3.out
          have cb4 := LBox.cell b4.out
          have cb5 := LBox.cell b5.out
          have cb6 := LBox.cell b6.out
          have cb7 := LBox.cell b7.out
          have cb8 := LBox.cell b8.out
          go_wp2_with fail
          refine (ok_of A1 n1 c1 xs _ _ HX.out hn1.out hl1 e1).mono ?_
          rintro e wq3 ⟨rfl, hb⟩
          clear cb3
          clear cb4
          clear cb5
          clear cb6
          clear cb7
          clear cb8
          replace HX := Lib.hid (HX.out.below hb)
          replace HY := Lib.hid (HY.out.below hb)
          replace HZ := Lib.hid (HZ.out.below hb)
          replace HJ := Lib.hid (HJ.out.below hb)
          replace HM := Lib.hid (HM.out.below hb)
          replace b3 := Lib.hid (show LBox _ _ _ _ _ from keepblk hb b3.out)
          replace b4 := Lib.hid (show LBox _ _ _ _ _ from keepblk hb b4.out)
          replace b5 := Lib.hid (show LBox _ _ _ _ _ from keepblk hb b5.out)
          replace b6 := Lib.hid (show LBox _ _ _ _ _ from keepblk hb b6.out)
          replace b7 := Lib.hid (show LBox _ _ _ _ _ from keepblk hb b7.out)
          replace b8 := Lib.hid (show LBox _ _ _ _ _ from keepblk hb b8.out)
          replace hB := Lib.hid (Below.trans hB.out (hb.mono hB.out.size))
          clear hb
          have lb3 := lt_of_blk b3.out
          have lb4 := lt_of_blk b4.out
          have lb5 := lt_of_blk b5.out
          have lb6 := lt_of_blk b6.out
          have lb7 := lt_of_blk b7.out
          have lb8 := lt_of_blk b8.out
          have cb3 := LBox.cell b3.out
          have cb4 := LBox.cell b4.out
          have cb5 := LBox.cell b5.out
          have cb6 := LBox.cell b6.out
          have cb7 := LBox.cell b7.out
          have cb8 := LBox.cell b8.out
          go_wp2_with fail
          refine (ok_of A2 n2 c2 ys _ _ HY.out hn2.out hl2 e2).mono ?_
          rintro e wq4 ⟨rfl, hb⟩
          go_wp2
          go_ret
          exact ⟨by first | rfl | simp, Below.trans hB.out (hb.mono hB.out.size)⟩
      · as_aux_lemma =>
        obtain rfl : n1 = 4 := by rw [← hn1.out]; exact labB_len4 e1
        obtain rfl : n2 = 4 := by rw [← hn2.out]; exact labB_len4 e2
        obtain rfl : n3 = 4 := by rw [← hn3.out]; exact labB_len4 e3
        have LL := labLaw e1 e2
        have PJ := join_least e1 e2 e3
        have PM := meet_most e1 e2 e3
        rw [hJ.out, hM.out] at LL
        rw [hJ.out] at PJ
        rw [hM.out] at PM
        replace LL := Lib.hid LL; replace PJ := Lib.hid PJ; replace PM := Lib.hid PM
        obtain rfl : nj = 4 := by rw [← hnj.out]; exact labB_len4 LL.out.lj
        obtain rfl : nm = 4 := by rw [← hnm.out]; exact labB_len4 LL.out.lm
        have PT := Lib.hid (flow_on e1 e2 e3)
        have PS := Lib.hid (flow_same e1 e2)
        have E1 := Lib.hid e1; have E2 := Lib.hid e2; have E3 := Lib.hid e3
        clear e1 e2 e3 hl1 hl2 hl3 hj4 hm4
        have cb3 := LBox.cell b3.out
        have cb4 := LBox.cell b4.out
        have cb5 := LBox.cell b5.out
        have cb6 := LBox.cell b6.out
        have cb7 := LBox.cell b7.out
        have cb8 := LBox.cell b8.out
        go_wp2_with fail
        refine (ok_of A1 4 c1 xs _ _ HX.out hn1.out (by omega) E1.out).mono ?_
        rintro e v1 ⟨rfl, hb⟩
        clear cb3
        clear cb4
        clear cb5
        clear cb6
        clear cb7
        clear cb8
        replace HX := Lib.hid (HX.out.below hb)
        replace HY := Lib.hid (HY.out.below hb)
        replace HZ := Lib.hid (HZ.out.below hb)
        replace HJ := Lib.hid (HJ.out.below hb)
        replace HM := Lib.hid (HM.out.below hb)
        replace b3 := Lib.hid (show LBox _ _ _ _ _ from keepblk hb b3.out)
        replace b4 := Lib.hid (show LBox _ _ _ _ _ from keepblk hb b4.out)
        replace b5 := Lib.hid (show LBox _ _ _ _ _ from keepblk hb b5.out)
        replace b6 := Lib.hid (show LBox _ _ _ _ _ from keepblk hb b6.out)
        replace b7 := Lib.hid (show LBox _ _ _ _ _ from keepblk hb b7.out)
        replace b8 := Lib.hid (show LBox _ _ _ _ _ from keepblk hb b8.out)
        replace hB := Lib.hid (Below.trans hB.out (hb.mono hB.out.size))
        clear hb
        have lb3 := lt_of_blk b3.out
        have lb4 := lt_of_blk b4.out
        have lb5 := lt_of_blk b5.out
        have lb6 := lt_of_blk b6.out
        have lb7 := lt_of_blk b7.out
        have lb8 := lt_of_blk b8.out
        have cb3 := LBox.cell b3.out
        have cb4 := LBox.cell b4.out
        have cb5 := LBox.cell b5.out
        have cb6 := LBox.cell b6.out
        have cb7 := LBox.cell b7.out
        have cb8 := LBox.cell b8.out
        go_wp2_with fail
        refine (ok_of A2 4 c2 ys _ _ HY.out hn2.out (by omega) E2.out).mono ?_
        rintro e v2 ⟨rfl, hb⟩
        clear cb3
        clear cb4
        clear cb5
        clear cb6
        clear cb7
        clear cb8
        replace HX := Lib.hid (HX.out.below hb)
        replace HY := Lib.hid (HY.out.below hb)
        replace HZ := Lib.hid (HZ.out.below hb)
        replace HJ := Lib.hid (HJ.out.below hb)
        replace HM := Lib.hid (HM.out.below hb)
        replace b3 := Lib.hid (show LBox _ _ _ _ _ from keepblk hb b3.out)
        replace b4 := Lib.hid (show LBox _ _ _ _ _ from keepblk hb b4.out)
        replace b5 := Lib.hid (show LBox _ _ _ _ _ from keepblk hb b5.out)
        replace b6 := Lib.hid (show LBox _ _ _ _ _ from keepblk hb b6.out)
        replace b7 := Lib.hid (show LBox _ _ _ _ _ from keepblk hb b7.out)
        replace b8 := Lib.hid (show LBox _ _ _ _ _ from keepblk hb b8.out)
        replace hB := Lib.hid (Below.trans hB.out (hb.mono hB.out.size))
        clear hb
        have lb3 := lt_of_blk b3.out
        have lb4 := lt_of_blk b4.out
        have lb5 := lt_of_blk b5.out
        have lb6 := lt_of_blk b6.out
        have lb7 := lt_of_blk b7.out
        have lb8 := lt_of_blk b8.out
        have cb3 := LBox.cell b3.out
        have cb4 := LBox.cell b4.out
        have cb5 := LBox.cell b5.out
        have cb6 := LBox.cell b6.out
        have cb7 := LBox.cell b7.out
        have cb8 := LBox.cell b8.out
        go_wp2_with fail
        refine (ok_of A3 4 c3 zs _ _ HZ.out hn3.out (by omega) E3.out).mono ?_
        rintro e v3 ⟨rfl, hb⟩
        clear cb3
        clear cb4
        clear cb5
        clear cb6
        clear cb7
        clear cb8
        replace HX := Lib.hid (HX.out.below hb)
        replace HY := Lib.hid (HY.out.below hb)
        replace HZ := Lib.hid (HZ.out.below hb)
        replace HJ := Lib.hid (HJ.out.below hb)
        replace HM := Lib.hid (HM.out.below hb)
        replace b3 := Lib.hid (show LBox _ _ _ _ _ from keepblk hb b3.out)
        replace b4 := Lib.hid (show LBox _ _ _ _ _ from keepblk hb b4.out)
        replace b5 := Lib.hid (show LBox _ _ _ _ _ from keepblk hb b5.out)
        replace b6 := Lib.hid (show LBox _ _ _ _ _ from keepblk hb b6.out)
        replace b7 := Lib.hid (show LBox _ _ _ _ _ from keepblk hb b7.out)
        replace b8 := Lib.hid (show LBox _ _ _ _ _ from keepblk hb b8.out)
        replace hB := Lib.hid (Below.trans hB.out (hb.mono hB.out.size))
        clear hb
        have lb3 := lt_of_blk b3.out
        have lb4 := lt_of_blk b4.out
        have lb5 := lt_of_blk b5.out
        have lb6 := lt_of_blk b6.out
        have lb7 := lt_of_blk b7.out
        have lb8 := lt_of_blk b8.out
        have cb3 := LBox.cell b3.out
        have cb4 := LBox.cell b4.out
        have cb5 := LBox.cell b5.out
        have cb6 := LBox.cell b6.out
        have cb7 := LBox.cell b7.out
        have cb8 := LBox.cell b8.out
        go_upto_region 9 with (fail)
        go_cut [80] from 11 (fun s wc => s = .bool false ∧ Hid (Below v3.heap.size v3 wc))
        case first =>
          have rb3 := cell_regrown cb3
          have rb4 := cell_regrown cb4
          have rb5 := cell_regrown cb5
          have rb6 := cell_regrown cb6
          have rb7 := cell_regrown cb7
          have rb8 := cell_regrown cb8
          clear cb3
          clear cb4
          clear cb5
          clear cb6
          clear cb7
          clear cb8
          cases f1 : flowB [] xs zs
          · skip
            cases f3 : flowB [] zs xs
            · as_aux_lemma =>
              have q0 := fun (d : Nat) (os : Array Obj) => Calls.regrown_of (w := v3) (d := d) (os := os) (flow_of A1 A3 4 4 c1 c3 xs zs false _ (HX.out.re d os) (HZ.out.re d os) hn1.out hn3.out (by omega) (by omega) f1)
              have q1 := fun (d : Nat) (os : Array Obj) => Calls.regrown_of (w := v3) (d := d) (os := os) (flow_of A3 A1 4 4 c3 c1 zs xs false _ (HZ.out.re d os) (HX.out.re d os) hn3.out hn1.out (by omega) (by omega) f3)
              refine wp_region_quiet_below (by kernel_rfl) (by kernel_rfl) ?_
              repeat (go_big_quiet_step (first | (go_at_call 17; with_reducible exact q0 _ _) | (go_at_call 17; with_reducible exact q1 _ _)))
              refine wpQuiet_nil ?_
              intro _ hw1
              obtain ⟨⟨dq, osq⟩, hw2⟩ := hw1
              subst hw2
              go_wp2
              go_meet
              case rel => exact ⟨by first | rfl | simp, Lib.hid (below_regrown _ dq osq)⟩
            · have p4 := PM.out f3
              cases f4 : flowB [] zs ys
              · as_aux_lemma =>
                have q0 := fun (d : Nat) (os : Array Obj) => Calls.regrown_of (w := v3) (d := d) (os := os) (flow_of A1 A3 4 4 c1 c3 xs zs false _ (HX.out.re d os) (HZ.out.re d os) hn1.out hn3.out (by omega) (by omega) f1)
                have q1 := fun (d : Nat) (os : Array Obj) => Calls.regrown_of (w := v3) (d := d) (os := os) (flow_of A3 A1 4 4 c3 c1 zs xs true _ (HZ.out.re d os) (HX.out.re d os) hn3.out hn1.out (by omega) (by omega) f3)
                have q2 := fun (d : Nat) (os : Array Obj) => Calls.regrown_of (w := v3) (d := d) (os := os) (flow_of A3 A2 4 4 c3 c2 zs ys false _ (HZ.out.re d os) (HY.out.re d os) hn3.out hn2.out (by omega) (by omega) f4)
                have q3 := fun (d : Nat) (os : Array Obj) => Calls.regrown_of (w := v3) (d := d) (os := os) (flow_of A3 A8 4 4 c3 c8 zs M false _ (HZ.out.re d os) (HM.out.re d os) hn3.out hnm.out (by omega) (by omega) (by rw [← p4, f4]))
                refine wp_region_quiet_below (by kernel_rfl) (by kernel_rfl) ?_
                repeat (go_big_quiet_step (first | (go_at_call 17; with_reducible exact q0 _ _) | (go_at_call 17; with_reducible exact q1 _ _) | (go_at_call 17; with_reducible exact q2 _ _) | (go_at_call 17; with_reducible exact q3 _ _)))
                refine wpQuiet_nil ?_
                intro _ hw1
                obtain ⟨⟨dq, osq⟩, hw2⟩ := hw1
                subst hw2
                go_wp2
                go_meet
                case rel => exact ⟨by first | rfl | simp, Lib.hid (below_regrown _ dq osq)⟩
              · as_aux_lemma =>
                have q0 := fun (d : Nat) (os : Array Obj) => Calls.regrown_of (w := v3) (d := d) (os := os) (flow_of A1 A3 4 4 c1 c3 xs zs false _ (HX.out.re d os) (HZ.out.re d os) hn1.out hn3.out (by omega) (by omega) f1)
                have q1 := fun (d : Nat) (os : Array Obj) => Calls.regrown_of (w := v3) (d := d) (os := os) (flow_of A3 A1 4 4 c3 c1 zs xs true _ (HZ.out.re d os) (HX.out.re d os) hn3.out hn1.out (by omega) (by omega) f3)
                have q2 := fun (d : Nat) (os : Array Obj) => Calls.regrown_of (w := v3) (d := d) (os := os) (flow_of A3 A2 4 4 c3 c2 zs ys true _ (HZ.out.re d os) (HY.out.re d os) hn3.out hn2.out (by omega) (by omega) f4)
                have q3 := fun (d : Nat) (os : Array Obj) => Calls.regrown_of (w := v3) (d := d) (os := os) (flow_of A3 A8 4 4 c3 c8 zs M true _ (HZ.out.re d os) (HM.out.re d os) hn3.out hnm.out (by omega) (by omega) (by rw [← p4, f4]))
                refine wp_region_quiet_below (by kernel_rfl) (by kernel_rfl) ?_
                repeat (go_big_quiet_step (first | (go_at_call 17; with_reducible exact q0 _ _) | (go_at_call 17; with_reducible exact q1 _ _) | (go_at_call 17; with_reducible exact q2 _ _) | (go_at_call 17; with_reducible exact q3 _ _)))
                refine wpQuiet_nil ?_
                intro _ hw1
                obtain ⟨⟨dq, osq⟩, hw2⟩ := hw1
                subst hw2
                go_wp2
                go_meet
                case rel => exact ⟨by first | rfl | simp, Lib.hid (below_regrown _ dq osq)⟩
          · have p2 := PJ.out f1
            cases f2 : flowB [] ys zs
            · skip
              cases f3 : flowB [] zs xs
              · as_aux_lemma =>
                have q0 := fun (d : Nat) (os : Array Obj) => Calls.regrown_of (w := v3) (d := d) (os := os) (flow_of A1 A3 4 4 c1 c3 xs zs true _ (HX.out.re d os) (HZ.out.re d os) hn1.out hn3.out (by omega) (by omega) f1)
                have q1 := fun (d : Nat) (os : Array Obj) => Calls.regrown_of (w := v3) (d := d) (os := os) (flow_of A2 A3 4 4 c2 c3 ys zs false _ (HY.out.re d os) (HZ.out.re d os) hn2.out hn3.out (by omega) (by omega) f2)
                have q2 := fun (d : Nat) (os : Array Obj) => Calls.regrown_of (w := v3) (d := d) (os := os) (flow_of A7 A3 4 4 c7 c3 J zs false _ (HJ.out.re d os) (HZ.out.re d os) hnj.out hn3.out (by omega) (by omega) (by rw [← p2, f2]))
                have q3 := fun (d : Nat) (os : Array Obj) => Calls.regrown_of (w := v3) (d := d) (os := os) (flow_of A3 A1 4 4 c3 c1 zs xs false _ (HZ.out.re d os) (HX.out.re d os) hn3.out hn1.out (by omega) (by omega) f3)
                refine wp_region_quiet_below (by kernel_rfl) (by kernel_rfl) ?_
                repeat (go_big_quiet_step (first | (go_at_call 17; with_reducible exact q0 _ _) | (go_at_call 17; with_reducible exact q1 _ _) | (go_at_call 17; with_reducible exact q2 _ _) | (go_at_call 17; with_reducible exact q3 _ _)))
                refine wpQuiet_nil ?_
                intro _ hw1
                obtain ⟨⟨dq, osq⟩, hw2⟩ := hw1
                subst hw2
                go_wp2
                go_meet
                case rel => exact ⟨by first | rfl | simp, Lib.hid (below_regrown _ dq osq)⟩
              · have p4 := PM.out f3
                cases f4 : flowB [] zs ys
                · as_aux_lemma =>
                  have q0 := fun (d : Nat) (os : Array Obj) => Calls.regrown_of (w := v3) (d := d) (os := os) (flow_of A1 A3 4 4 c1 c3 xs zs true _ (HX.out.re d os) (HZ.out.re d os) hn1.out hn3.out (by omega) (by omega) f1)
                  have q1 := fun (d : Nat) (os : Array Obj) => Calls.regrown_of (w := v3) (d := d) (os := os) (flow_of A2 A3 4 4 c2 c3 ys zs false _ (HY.out.re d os) (HZ.out.re d os) hn2.out hn3.out (by omega) (by omega) f2)
                  have q2 := fun (d : Nat) (os : Array Obj) => Calls.regrown_of (w := v3) (d := d) (os := os) (flow_of A7 A3 4 4 c7 c3 J zs false _ (HJ.out.re d os) (HZ.out.re d os) hnj.out hn3.out (by omega) (by omega) (by rw [← p2, f2]))
                  have q3 := fun (d : Nat) (os : Array Obj) => Calls.regrown_of (w := v3) (d := d) (os := os) (flow_of A3 A1 4 4 c3 c1 zs xs true _ (HZ.out.re d os) (HX.out.re d os) hn3.out hn1.out (by omega) (by omega) f3)
                  have q4 := fun (d : Nat) (os : Array Obj) => Calls.regrown_of (w := v3) (d := d) (os := os) (flow_of A3 A2 4 4 c3 c2 zs ys false _ (HZ.out.re d os) (HY.out.re d os) hn3.out hn2.out (by omega) (by omega) f4)
                  have q5 := fun (d : Nat) (os : Array Obj) => Calls.regrown_of (w := v3) (d := d) (os := os) (flow_of A3 A8 4 4 c3 c8 zs M false _ (HZ.out.re d os) (HM.out.re d os) hn3.out hnm.out (by omega) (by omega) (by rw [← p4, f4]))
                  refine wp_region_quiet_below (by kernel_rfl) (by kernel_rfl) ?_
                  repeat (go_big_quiet_step (first | (go_at_call 17; with_reducible exact q0 _ _) | (go_at_call 17; with_reducible exact q1 _ _) | (go_at_call 17; with_reducible exact q2 _ _) | (go_at_call 17; with_reducible exact q3 _ _) | (go_at_call 17; with_reducible exact q4 _ _) | (go_at_call 17; with_reducible exact q5 _ _)))
                  refine wpQuiet_nil ?_
                  intro _ hw1
                  obtain ⟨⟨dq, osq⟩, hw2⟩ := hw1
                  subst hw2
                  go_wp2
                  go_meet
                  case rel => exact ⟨by first | rfl | simp, Lib.hid (below_regrown _ dq osq)⟩
                · as_aux_lemma =>
                  have q0 := fun (d : Nat) (os : Array Obj) => Calls.regrown_of (w := v3) (d := d) (os := os) (flow_of A1 A3 4 4 c1 c3 xs zs true _ (HX.out.re d os) (HZ.out.re d os) hn1.out hn3.out (by omega) (by omega) f1)
                  have q1 := fun (d : Nat) (os : Array Obj) => Calls.regrown_of (w := v3) (d := d) (os := os) (flow_of A2 A3 4 4 c2 c3 ys zs false _ (HY.out.re d os) (HZ.out.re d os) hn2.out hn3.out (by omega) (by omega) f2)
                  have q2 := fun (d : Nat) (os : Array Obj) => Calls.regrown_of (w := v3) (d := d) (os := os) (flow_of A7 A3 4 4 c7 c3 J zs false _ (HJ.out.re d os) (HZ.out.re d os) hnj.out hn3.out (by omega) (by omega) (by rw [← p2, f2]))
                  have q3 := fun (d : Nat) (os : Array Obj) => Calls.regrown_of (w := v3) (d := d) (os := os) (flow_of A3 A1 4 4 c3 c1 zs xs true _ (HZ.out.re d os) (HX.out.re d os) hn3.out hn1.out (by omega) (by omega) f3)
                  have q4 := fun (d : Nat) (os : Array Obj) => Calls.regrown_of (w := v3) (d := d) (os := os) (flow_of A3 A2 4 4 c3 c2 zs ys true _ (HZ.out.re d os) (HY.out.re d os) hn3.out hn2.out (by omega) (by omega) f4)
                  have q5 := fun (d : Nat) (os : Array Obj) => Calls.regrown_of (w := v3) (d := d) (os := os) (flow_of A3 A8 4 4 c3 c8 zs M true _ (HZ.out.re d os) (HM.out.re d os) hn3.out hnm.out (by omega) (by omega) (by rw [← p4, f4]))
                  refine wp_region_quiet_below (by kernel_rfl) (by kernel_rfl) ?_
                  repeat (go_big_quiet_step (first | (go_at_call 17; with_reducible exact q0 _ _) | (go_at_call 17; with_reducible exact q1 _ _) | (go_at_call 17; with_reducible exact q2 _ _) | (go_at_call 17; with_reducible exact q3 _ _) | (go_at_call 17; with_reducible exact q4 _ _) | (go_at_call 17; with_reducible exact q5 _ _)))
                  refine wpQuiet_nil ?_
                  intro _ hw1
                  obtain ⟨⟨dq, osq⟩, hw2⟩ := hw1
                  subst hw2
                  go_wp2
                  go_meet
                  case rel => exact ⟨by first | rfl | simp, Lib.hid (below_regrown _ dq osq)⟩
            · skip
              cases f3 : flowB [] zs xs
              · as_aux_lemma =>
                have q0 := fun (d : Nat) (os : Array Obj) => Calls.regrown_of (w := v3) (d := d) (os := os) (flow_of A1 A3 4 4 c1 c3 xs zs true _ (HX.out.re d os) (HZ.out.re d os) hn1.out hn3.out (by omega) (by omega) f1)
                have q1 := fun (d : Nat) (os : Array Obj) => Calls.regrown_of (w := v3) (d := d) (os := os) (flow_of A2 A3 4 4 c2 c3 ys zs true _ (HY.out.re d os) (HZ.out.re d os) hn2.out hn3.out (by omega) (by omega) f2)
                have q2 := fun (d : Nat) (os : Array Obj) => Calls.regrown_of (w := v3) (d := d) (os := os) (flow_of A7 A3 4 4 c7 c3 J zs true _ (HJ.out.re d os) (HZ.out.re d os) hnj.out hn3.out (by omega) (by omega) (by rw [← p2, f2]))
                have q3 := fun (d : Nat) (os : Array Obj) => Calls.regrown_of (w := v3) (d := d) (os := os) (flow_of A3 A1 4 4 c3 c1 zs xs false _ (HZ.out.re d os) (HX.out.re d os) hn3.out hn1.out (by omega) (by omega) f3)
                refine wp_region_quiet_below (by kernel_rfl) (by kernel_rfl) ?_
                repeat (go_big_quiet_step (first | (go_at_call 17; with_reducible exact q0 _ _) | (go_at_call 17; with_reducible exact q1 _ _) | (go_at_call 17; with_reducible exact q2 _ _) | (go_at_call 17; with_reducible exact q3 _ _)))
                refine wpQuiet_nil ?_
                intro _ hw1
                obtain ⟨⟨dq, osq⟩, hw2⟩ := hw1
                subst hw2
                go_wp2
                go_meet
                case rel => exact ⟨by first | rfl | simp, Lib.hid (below_regrown _ dq osq)⟩
              · have p4 := PM.out f3
                cases f4 : flowB [] zs ys
                · as_aux_lemma =>
                  have q0 := fun (d : Nat) (os : Array Obj) => Calls.regrown_of (w := v3) (d := d) (os := os) (flow_of A1 A3 4 4 c1 c3 xs zs true _ (HX.out.re d os) (HZ.out.re d os) hn1.out hn3.out (by omega) (by omega) f1)
                  have q1 := fun (d : Nat) (os : Array Obj) => Calls.regrown_of (w := v3) (d := d) (os := os) (flow_of A2 A3 4 4 c2 c3 ys zs true _ (HY.out.re d os) (HZ.out.re d os) hn2.out hn3.out (by omega) (by omega) f2)
                  have q2 := fun (d : Nat) (os : Array Obj) => Calls.regrown_of (w := v3) (d := d) (os := os) (flow_of A7 A3 4 4 c7 c3 J zs true _ (HJ.out.re d os) (HZ.out.re d os) hnj.out hn3.out (by omega) (by omega) (by rw [← p2, f2]))
                  have q3 := fun (d : Nat) (os : Array Obj) => Calls.regrown_of (w := v3) (d := d) (os := os) (flow_of A3 A1 4 4 c3 c1 zs xs true _ (HZ.out.re d os) (HX.out.re d os) hn3.out hn1.out (by omega) (by omega) f3)
                  have q4 := fun (d : Nat) (os : Array Obj) => Calls.regrown_of (w := v3) (d := d) (os := os) (flow_of A3 A2 4 4 c3 c2 zs ys false _ (HZ.out.re d os) (HY.out.re d os) hn3.out hn2.out (by omega) (by omega) f4)
                  have q5 := fun (d : Nat) (os : Array Obj) => Calls.regrown_of (w := v3) (d := d) (os := os) (flow_of A3 A8 4 4 c3 c8 zs M false _ (HZ.out.re d os) (HM.out.re d os) hn3.out hnm.out (by omega) (by omega) (by rw [← p4, f4]))
                  refine wp_region_quiet_below (by kernel_rfl) (by kernel_rfl) ?_
                  repeat (go_big_quiet_step (first | (go_at_call 17; with_reducible exact q0 _ _) | (go_at_call 17; with_reducible exact q1 _ _) | (go_at_call 17; with_reducible exact q2 _ _) | (go_at_call 17; with_reducible exact q3 _ _) | (go_at_call 17; with_reducible exact q4 _ _) | (go_at_call 17; with_reducible exact q5 _ _)))
                  refine wpQuiet_nil ?_
                  intro _ hw1
                  obtain ⟨⟨dq, osq⟩, hw2⟩ := hw1
                  subst hw2
                  go_wp2
                  go_meet
                  case rel => exact ⟨by first | rfl | simp, Lib.hid (below_regrown _ dq osq)⟩
                · as_aux_lemma =>
                  have q0 := fun (d : Nat) (os : Array Obj) => Calls.regrown_of (w := v3) (d := d) (os := os) (flow_of A1 A3 4 4 c1 c3 xs zs true _ (HX.out.re d os) (HZ.out.re d os) hn1.out hn3.out (by omega) (by omega) f1)
                  have q1 := fun (d : Nat) (os : Array Obj) => Calls.regrown_of (w := v3) (d := d) (os := os) (flow_of A2 A3 4 4 c2 c3 ys zs true _ (HY.out.re d os) (HZ.out.re d os) hn2.out hn3.out (by omega) (by omega) f2)
                  have q2 := fun (d : Nat) (os : Array Obj) => Calls.regrown_of (w := v3) (d := d) (os := os) (flow_of A7 A3 4 4 c7 c3 J zs true _ (HJ.out.re d os) (HZ.out.re d os) hnj.out hn3.out (by omega) (by omega) (by rw [← p2, f2]))
                  have q3 := fun (d : Nat) (os : Array Obj) => Calls.regrown_of (w := v3) (d := d) (os := os) (flow_of A3 A1 4 4 c3 c1 zs xs true _ (HZ.out.re d os) (HX.out.re d os) hn3.out hn1.out (by omega) (by omega) f3)
                  have q4 := fun (d : Nat) (os : Array Obj) => Calls.regrown_of (w := v3) (d := d) (os := os) (flow_of A3 A2 4 4 c3 c2 zs ys true _ (HZ.out.re d os) (HY.out.re d os) hn3.out hn2.out (by omega) (by omega) f4)
                  have q5 := fun (d : Nat) (os : Array Obj) => Calls.regrown_of (w := v3) (d := d) (os := os) (flow_of A3 A8 4 4 c3 c8 zs M true _ (HZ.out.re d os) (HM.out.re d os) hn3.out hnm.out (by omega) (by omega) (by rw [← p4, f4]))
                  refine wp_region_quiet_below (by kernel_rfl) (by kernel_rfl) ?_
                  repeat (go_big_quiet_step (first | (go_at_call 17; with_reducible exact q0 _ _) | (go_at_call 17; with_reducible exact q1 _ _) | (go_at_call 17; with_reducible exact q2 _ _) | (go_at_call 17; with_reducible exact q3 _ _) | (go_at_call 17; with_reducible exact q4 _ _) | (go_at_call 17; with_reducible exact q5 _ _)))
                  refine wpQuiet_nil ?_
                  intro _ hw1
                  obtain ⟨⟨dq, osq⟩, hw2⟩ := hw1
                  subst hw2
                  go_wp2
                  go_meet
                  case rel => exact ⟨by first | rfl | simp, Lib.hid (below_regrown _ dq osq)⟩
        case rest =>
          as_aux_lemma =>
            obtain ⟨rfl, hb0⟩ := hcut
            have hb := hb0.out
            clear hb0
            clear cb3
            clear cb4
            clear cb5
            clear cb6
            clear cb7
            clear cb8
            replace HX := Lib.hid (HX.out.below hb)
            replace HY := Lib.hid (HY.out.below hb)
            replace HZ := Lib.hid (HZ.out.below hb)
            replace HJ := Lib.hid (HJ.out.below hb)
            replace HM := Lib.hid (HM.out.below hb)
            replace b3 := Lib.hid (show LBox _ _ _ _ _ from keepblk hb b3.out)
            replace b4 := Lib.hid (show LBox _ _ _ _ _ from keepblk hb b4.out)
            replace b5 := Lib.hid (show LBox _ _ _ _ _ from keepblk hb b5.out)
            replace b6 := Lib.hid (show LBox _ _ _ _ _ from keepblk hb b6.out)
            replace b7 := Lib.hid (show LBox _ _ _ _ _ from keepblk hb b7.out)
            replace b8 := Lib.hid (show LBox _ _ _ _ _ from keepblk hb b8.out)
            replace hB := Lib.hid (Below.trans hB.out (hb.mono hB.out.size))
            clear hb
            have lb3 := lt_of_blk b3.out
            have lb4 := lt_of_blk b4.out
            have lb5 := lt_of_blk b5.out
            have lb6 := lt_of_blk b6.out
            have lb7 := lt_of_blk b7.out
            have lb8 := lt_of_blk b8.out
            have cb3 := LBox.cell b3.out
            have cb4 := LBox.cell b4.out
            have cb5 := LBox.cell b5.out
            have cb6 := LBox.cell b6.out
            have cb7 := LBox.cell b7.out
            have cb8 := LBox.cell b8.out
            obtain ⟨v4, rfl⟩ : ∃ v, v = wc := ⟨_, rfl⟩
            go_upto_region 11 with (fail)
            go_cut [110] from 11 (fun s wc => s = .bool false ∧ Hid (Below v4.heap.size v4 wc))
            case first =>
              cases f1 : flowB [] xs ys
              · as_aux_lemma =>
                replace hB := Lib.hid (Below.refl v4.heap.size v4)
                go_wp2_with fail
                refine (flow_of A1 A2 4 4 c1 c2 xs ys false _ (HX.out) (HY.out) hn1.out hn2.out (by omega) (by omega) f1).mono ?_
                rintro e y0 ⟨rfl, hb⟩
                clear cb3
                clear cb4
                clear cb5
                clear cb6
                clear cb7
                clear cb8
                replace hB := Lib.hid (Below.trans hB.out (hb.mono hB.out.size))
                replace HX := Lib.hid (HX.out.below hb)
                replace HY := Lib.hid (HY.out.below hb)
                replace HZ := Lib.hid (HZ.out.below hb)
                replace HJ := Lib.hid (HJ.out.below hb)
                replace HM := Lib.hid (HM.out.below hb)
                replace b3 := Lib.hid (show LBox _ _ _ _ _ from keepblk hb b3.out)
                have lb3 := lt_of_blk b3.out
                replace b4 := Lib.hid (show LBox _ _ _ _ _ from keepblk hb b4.out)
                have lb4 := lt_of_blk b4.out
                replace b5 := Lib.hid (show LBox _ _ _ _ _ from keepblk hb b5.out)
                have lb5 := lt_of_blk b5.out
                replace b6 := Lib.hid (show LBox _ _ _ _ _ from keepblk hb b6.out)
                have lb6 := lt_of_blk b6.out
                replace b7 := Lib.hid (show LBox _ _ _ _ _ from keepblk hb b7.out)
                have lb7 := lt_of_blk b7.out
                replace b8 := Lib.hid (show LBox _ _ _ _ _ from keepblk hb b8.out)
                have lb8 := lt_of_blk b8.out
                clear hb
                have cb3 := LBox.cell b3.out
                have cb4 := LBox.cell b4.out
                have cb5 := LBox.cell b5.out
                have cb6 := LBox.cell b6.out
                have cb7 := LBox.cell b7.out
                have cb8 := LBox.cell b8.out
                go_wp2_with fail
                refine (flow_of A1 A2 4 4 c1 c2 xs ys false _ (HX.out) (HY.out) hn1.out hn2.out (by omega) (by omega) f1).mono ?_
                rintro e y1 ⟨rfl, hb⟩
                clear cb3
                clear cb4
                clear cb5
                clear cb6
                clear cb7
                clear cb8
                replace hB := Lib.hid (Below.trans hB.out (hb.mono hB.out.size))
                go_wp2
                go_meet
                case rel => exact ⟨by first | rfl | simp, hB⟩
              · cases f2 : flowB [] ys zs
                · cases f3 : flowB [] ys xs
                  · as_aux_lemma =>
                    replace hB := Lib.hid (Below.refl v4.heap.size v4)
                    go_wp2_with fail
                    refine (flow_of A1 A2 4 4 c1 c2 xs ys true _ (HX.out) (HY.out) hn1.out hn2.out (by omega) (by omega) f1).mono ?_
                    rintro e y0 ⟨rfl, hb⟩
                    clear cb3
                    clear cb4
                    clear cb5
                    clear cb6
                    clear cb7
                    clear cb8
                    replace hB := Lib.hid (Below.trans hB.out (hb.mono hB.out.size))
                    replace HX := Lib.hid (HX.out.below hb)
                    replace HY := Lib.hid (HY.out.below hb)
                    replace HZ := Lib.hid (HZ.out.below hb)
                    replace HJ := Lib.hid (HJ.out.below hb)
                    replace HM := Lib.hid (HM.out.below hb)
                    replace b3 := Lib.hid (show LBox _ _ _ _ _ from keepblk hb b3.out)
                    have lb3 := lt_of_blk b3.out
                    replace b4 := Lib.hid (show LBox _ _ _ _ _ from keepblk hb b4.out)
                    have lb4 := lt_of_blk b4.out
                    replace b5 := Lib.hid (show LBox _ _ _ _ _ from keepblk hb b5.out)
                    have lb5 := lt_of_blk b5.out
                    replace b6 := Lib.hid (show LBox _ _ _ _ _ from keepblk hb b6.out)
                    have lb6 := lt_of_blk b6.out
                    replace b7 := Lib.hid (show LBox _ _ _ _ _ from keepblk hb b7.out)
                    have lb7 := lt_of_blk b7.out
                    replace b8 := Lib.hid (show LBox _ _ _ _ _ from keepblk hb b8.out)
                    have lb8 := lt_of_blk b8.out
                    clear hb
                    have cb3 := LBox.cell b3.out
                    have cb4 := LBox.cell b4.out
                    have cb5 := LBox.cell b5.out
                    have cb6 := LBox.cell b6.out
                    have cb7 := LBox.cell b7.out
                    have cb8 := LBox.cell b8.out
                    go_wp2_with fail
                    refine (flow_of A2 A3 4 4 c2 c3 ys zs false _ (HY.out) (HZ.out) hn2.out hn3.out (by omega) (by omega) f2).mono ?_
                    rintro e y1 ⟨rfl, hb⟩
                    clear cb3
                    clear cb4
                    clear cb5
                    clear cb6
                    clear cb7
                    clear cb8
                    replace hB := Lib.hid (Below.trans hB.out (hb.mono hB.out.size))
                    replace HX := Lib.hid (HX.out.below hb)
                    replace HY := Lib.hid (HY.out.below hb)
                    replace HZ := Lib.hid (HZ.out.below hb)
                    replace HJ := Lib.hid (HJ.out.below hb)
                    replace HM := Lib.hid (HM.out.below hb)
                    replace b3 := Lib.hid (show LBox _ _ _ _ _ from keepblk hb b3.out)
                    have lb3 := lt_of_blk b3.out
                    replace b4 := Lib.hid (show LBox _ _ _ _ _ from keepblk hb b4.out)
                    have lb4 := lt_of_blk b4.out
                    replace b5 := Lib.hid (show LBox _ _ _ _ _ from keepblk hb b5.out)
                    have lb5 := lt_of_blk b5.out
                    replace b6 := Lib.hid (show LBox _ _ _ _ _ from keepblk hb b6.out)
                    have lb6 := lt_of_blk b6.out
                    replace b7 := Lib.hid (show LBox _ _ _ _ _ from keepblk hb b7.out)
                    have lb7 := lt_of_blk b7.out
                    replace b8 := Lib.hid (show LBox _ _ _ _ _ from keepblk hb b8.out)
                    have lb8 := lt_of_blk b8.out
                    clear hb
                    have cb3 := LBox.cell b3.out
                    have cb4 := LBox.cell b4.out
                    have cb5 := LBox.cell b5.out
                    have cb6 := LBox.cell b6.out
                    have cb7 := LBox.cell b7.out
                    have cb8 := LBox.cell b8.out
                    go_wp2_with fail
                    refine (flow_of A1 A2 4 4 c1 c2 xs ys true _ (HX.out) (HY.out) hn1.out hn2.out (by omega) (by omega) f1).mono ?_
                    rintro e y2 ⟨rfl, hb⟩
                    clear cb3
                    clear cb4
                    clear cb5
                    clear cb6
                    clear cb7
                    clear cb8
                    replace hB := Lib.hid (Below.trans hB.out (hb.mono hB.out.size))
                    replace HX := Lib.hid (HX.out.below hb)
                    replace HY := Lib.hid (HY.out.below hb)
                    replace HZ := Lib.hid (HZ.out.below hb)
                    replace HJ := Lib.hid (HJ.out.below hb)
                    replace HM := Lib.hid (HM.out.below hb)
                    replace b3 := Lib.hid (show LBox _ _ _ _ _ from keepblk hb b3.out)
                    have lb3 := lt_of_blk b3.out
                    replace b4 := Lib.hid (show LBox _ _ _ _ _ from keepblk hb b4.out)
                    have lb4 := lt_of_blk b4.out
                    replace b5 := Lib.hid (show LBox _ _ _ _ _ from keepblk hb b5.out)
                    have lb5 := lt_of_blk b5.out
                    replace b6 := Lib.hid (show LBox _ _ _ _ _ from keepblk hb b6.out)
                    have lb6 := lt_of_blk b6.out
                    replace b7 := Lib.hid (show LBox _ _ _ _ _ from keepblk hb b7.out)
                    have lb7 := lt_of_blk b7.out
                    replace b8 := Lib.hid (show LBox _ _ _ _ _ from keepblk hb b8.out)
                    have lb8 := lt_of_blk b8.out
                    clear hb
                    have cb3 := LBox.cell b3.out
                    have cb4 := LBox.cell b4.out
                    have cb5 := LBox.cell b5.out
                    have cb6 := LBox.cell b6.out
                    have cb7 := LBox.cell b7.out
                    have cb8 := LBox.cell b8.out
                    go_wp2_with fail
                    refine (flow_of A2 A1 4 4 c2 c1 ys xs false _ (HY.out) (HX.out) hn2.out hn1.out (by omega) (by omega) f3).mono ?_
                    rintro e y3 ⟨rfl, hb⟩
                    clear cb3
                    clear cb4
                    clear cb5
                    clear cb6
                    clear cb7
                    clear cb8
                    replace hB := Lib.hid (Below.trans hB.out (hb.mono hB.out.size))
                    go_wp2
                    go_meet
                    case rel => exact ⟨by first | rfl | simp, hB⟩
                  · as_aux_lemma =>
                    replace hB := Lib.hid (Below.refl v4.heap.size v4)
                    go_wp2_with fail
                    refine (flow_of A1 A2 4 4 c1 c2 xs ys true _ (HX.out) (HY.out) hn1.out hn2.out (by omega) (by omega) f1).mono ?_
                    rintro e y0 ⟨rfl, hb⟩
                    clear cb3
                    clear cb4
                    clear cb5
                    clear cb6
                    clear cb7
                    clear cb8
                    replace hB := Lib.hid (Below.trans hB.out (hb.mono hB.out.size))
                    replace HX := Lib.hid (HX.out.below hb)
                    replace HY := Lib.hid (HY.out.below hb)
                    replace HZ := Lib.hid (HZ.out.below hb)
                    replace HJ := Lib.hid (HJ.out.below hb)
                    replace HM := Lib.hid (HM.out.below hb)
                    replace b3 := Lib.hid (show LBox _ _ _ _ _ from keepblk hb b3.out)
                    have lb3 := lt_of_blk b3.out
                    replace b4 := Lib.hid (show LBox _ _ _ _ _ from keepblk hb b4.out)
                    have lb4 := lt_of_blk b4.out
                    replace b5 := Lib.hid (show LBox _ _ _ _ _ from keepblk hb b5.out)
                    have lb5 := lt_of_blk b5.out
                    replace b6 := Lib.hid (show LBox _ _ _ _ _ from keepblk hb b6.out)
                    have lb6 := lt_of_blk b6.out
                    replace b7 := Lib.hid (show LBox _ _ _ _ _ from keepblk hb b7.out)
                    have lb7 := lt_of_blk b7.out
                    replace b8 := Lib.hid (show LBox _ _ _ _ _ from keepblk hb b8.out)
                    have lb8 := lt_of_blk b8.out
                    clear hb
                    have cb3 := LBox.cell b3.out
                    have cb4 := LBox.cell b4.out
                    have cb5 := LBox.cell b5.out
                    have cb6 := LBox.cell b6.out
                    have cb7 := LBox.cell b7.out
                    have cb8 := LBox.cell b8.out
                    go_wp2_with fail
                    refine (flow_of A2 A3 4 4 c2 c3 ys zs false _ (HY.out) (HZ.out) hn2.out hn3.out (by omega) (by omega) f2).mono ?_
                    rintro e y1 ⟨rfl, hb⟩
                    clear cb3
                    clear cb4
                    clear cb5
                    clear cb6
                    clear cb7
                    clear cb8
                    replace hB := Lib.hid (Below.trans hB.out (hb.mono hB.out.size))
                    replace HX := Lib.hid (HX.out.below hb)
                    replace HY := Lib.hid (HY.out.below hb)
                    replace HZ := Lib.hid (HZ.out.below hb)
                    replace HJ := Lib.hid (HJ.out.below hb)
                    replace HM := Lib.hid (HM.out.below hb)
                    replace b3 := Lib.hid (show LBox _ _ _ _ _ from keepblk hb b3.out)
                    have lb3 := lt_of_blk b3.out
                    replace b4 := Lib.hid (show LBox _ _ _ _ _ from keepblk hb b4.out)
                    have lb4 := lt_of_blk b4.out
                    replace b5 := Lib.hid (show LBox _ _ _ _ _ from keepblk hb b5.out)
                    have lb5 := lt_of_blk b5.out
                    replace b6 := Lib.hid (show LBox _ _ _ _ _ from keepblk hb b6.out)
                    have lb6 := lt_of_blk b6.out
                    replace b7 := Lib.hid (show LBox _ _ _ _ _ from keepblk hb b7.out)
                    have lb7 := lt_of_blk b7.out
                    replace b8 := Lib.hid (show LBox _ _ _ _ _ from keepblk hb b8.out)
                    have lb8 := lt_of_blk b8.out
                    clear hb
                    have cb3 := LBox.cell b3.out
                    have cb4 := LBox.cell b4.out
                    have cb5 := LBox.cell b5.out
                    have cb6 := LBox.cell b6.out
                    have cb7 := LBox.cell b7.out
                    have cb8 := LBox.cell b8.out
                    go_wp2_with fail
                    refine (flow_of A1 A2 4 4 c1 c2 xs ys true _ (HX.out) (HY.out) hn1.out hn2.out (by omega) (by omega) f1).mono ?_
                    rintro e y2 ⟨rfl, hb⟩
                    clear cb3
                    clear cb4
                    clear cb5
                    clear cb6
                    clear cb7
                    clear cb8
                    replace hB := Lib.hid (Below.trans hB.out (hb.mono hB.out.size))
                    replace HX := Lib.hid (HX.out.below hb)
                    replace HY := Lib.hid (HY.out.below hb)
                    replace HZ := Lib.hid (HZ.out.below hb)
                    replace HJ := Lib.hid (HJ.out.below hb)
                    replace HM := Lib.hid (HM.out.below hb)
                    replace b3 := Lib.hid (show LBox _ _ _ _ _ from keepblk hb b3.out)
                    have lb3 := lt_of_blk b3.out
                    replace b4 := Lib.hid (show LBox _ _ _ _ _ from keepblk hb b4.out)
                    have lb4 := lt_of_blk b4.out
                    replace b5 := Lib.hid (show LBox _ _ _ _ _ from keepblk hb b5.out)
                    have lb5 := lt_of_blk b5.out
                    replace b6 := Lib.hid (show LBox _ _ _ _ _ from keepblk hb b6.out)
                    have lb6 := lt_of_blk b6.out
                    replace b7 := Lib.hid (show LBox _ _ _ _ _ from keepblk hb b7.out)
                    have lb7 := lt_of_blk b7.out
                    replace b8 := Lib.hid (show LBox _ _ _ _ _ from keepblk hb b8.out)
                    have lb8 := lt_of_blk b8.out
                    clear hb
                    have cb3 := LBox.cell b3.out
                    have cb4 := LBox.cell b4.out
                    have cb5 := LBox.cell b5.out
                    have cb6 := LBox.cell b6.out
                    have cb7 := LBox.cell b7.out
                    have cb8 := LBox.cell b8.out
                    go_wp2_with fail
                    refine (flow_of A2 A1 4 4 c2 c1 ys xs true _ (HY.out) (HX.out) hn2.out hn1.out (by omega) (by omega) f3).mono ?_
                    rintro e y3 ⟨rfl, hb⟩
                    clear cb3
                    clear cb4
                    clear cb5
                    clear cb6
                    clear cb7
                    clear cb8
                    replace hB := Lib.hid (Below.trans hB.out (hb.mono hB.out.size))
                    replace HX := Lib.hid (HX.out.below hb)
                    replace HY := Lib.hid (HY.out.below hb)
                    replace HZ := Lib.hid (HZ.out.below hb)
                    replace HJ := Lib.hid (HJ.out.below hb)
                    replace HM := Lib.hid (HM.out.below hb)
                    replace b3 := Lib.hid (show LBox _ _ _ _ _ from keepblk hb b3.out)
                    have lb3 := lt_of_blk b3.out
                    replace b4 := Lib.hid (show LBox _ _ _ _ _ from keepblk hb b4.out)
                    have lb4 := lt_of_blk b4.out
                    replace b5 := Lib.hid (show LBox _ _ _ _ _ from keepblk hb b5.out)
                    have lb5 := lt_of_blk b5.out
                    replace b6 := Lib.hid (show LBox _ _ _ _ _ from keepblk hb b6.out)
                    have lb6 := lt_of_blk b6.out
                    replace b7 := Lib.hid (show LBox _ _ _ _ _ from keepblk hb b7.out)
                    have lb7 := lt_of_blk b7.out
                    replace b8 := Lib.hid (show LBox _ _ _ _ _ from keepblk hb b8.out)
                    have lb8 := lt_of_blk b8.out
                    clear hb
                    have cb3 := LBox.cell b3.out
                    have cb4 := LBox.cell b4.out
                    have cb5 := LBox.cell b5.out
                    have cb6 := LBox.cell b6.out
                    have cb7 := LBox.cell b7.out
                    have cb8 := LBox.cell b8.out
                    go_wp2_with fail
                    refine (same_of A1 A2 4 4 c1 c2 xs ys true _ (HX.out) (HY.out) hn1.out hn2.out (by omega) (by omega) (PS.out f1 f3)).mono ?_
                    rintro e y4 ⟨rfl, hb⟩
                    clear cb3
                    clear cb4
                    clear cb5
                    clear cb6
                    clear cb7
                    clear cb8
                    replace hB := Lib.hid (Below.trans hB.out (hb.mono hB.out.size))
                    go_wp2
                    go_meet
                    case rel => exact ⟨by first | rfl | simp, hB⟩
                · cases f3 : flowB [] ys xs
                  · as_aux_lemma =>
                    replace hB := Lib.hid (Below.refl v4.heap.size v4)
                    go_wp2_with fail
                    refine (flow_of A1 A2 4 4 c1 c2 xs ys true _ (HX.out) (HY.out) hn1.out hn2.out (by omega) (by omega) f1).mono ?_
                    rintro e y0 ⟨rfl, hb⟩
                    clear cb3
                    clear cb4
                    clear cb5
                    clear cb6
                    clear cb7
                    clear cb8
                    replace hB := Lib.hid (Below.trans hB.out (hb.mono hB.out.size))
                    replace HX := Lib.hid (HX.out.below hb)
                    replace HY := Lib.hid (HY.out.below hb)
                    replace HZ := Lib.hid (HZ.out.below hb)
                    replace HJ := Lib.hid (HJ.out.below hb)
                    replace HM := Lib.hid (HM.out.below hb)
                    replace b3 := Lib.hid (show LBox _ _ _ _ _ from keepblk hb b3.out)
                    have lb3 := lt_of_blk b3.out
                    replace b4 := Lib.hid (show LBox _ _ _ _ _ from keepblk hb b4.out)
                    have lb4 := lt_of_blk b4.out
                    replace b5 := Lib.hid (show LBox _ _ _ _ _ from keepblk hb b5.out)
                    have lb5 := lt_of_blk b5.out
                    replace b6 := Lib.hid (show LBox _ _ _ _ _ from keepblk hb b6.out)
                    have lb6 := lt_of_blk b6.out
                    replace b7 := Lib.hid (show LBox _ _ _ _ _ from keepblk hb b7.out)
                    have lb7 := lt_of_blk b7.out
                    replace b8 := Lib.hid (show LBox _ _ _ _ _ from keepblk hb b8.out)
                    have lb8 := lt_of_blk b8.out
                    clear hb
                    have cb3 := LBox.cell b3.out
                    have cb4 := LBox.cell b4.out
                    have cb5 := LBox.cell b5.out
                    have cb6 := LBox.cell b6.out
                    have cb7 := LBox.cell b7.out
                    have cb8 := LBox.cell b8.out
                    go_wp2_with fail
                    refine (flow_of A2 A3 4 4 c2 c3 ys zs true _ (HY.out) (HZ.out) hn2.out hn3.out (by omega) (by omega) f2).mono ?_
                    rintro e y1 ⟨rfl, hb⟩
                    clear cb3
                    clear cb4
                    clear cb5
                    clear cb6
                    clear cb7
                    clear cb8
                    replace hB := Lib.hid (Below.trans hB.out (hb.mono hB.out.size))
                    replace HX := Lib.hid (HX.out.below hb)
                    replace HY := Lib.hid (HY.out.below hb)
                    replace HZ := Lib.hid (HZ.out.below hb)
                    replace HJ := Lib.hid (HJ.out.below hb)
                    replace HM := Lib.hid (HM.out.below hb)
                    replace b3 := Lib.hid (show LBox _ _ _ _ _ from keepblk hb b3.out)
                    have lb3 := lt_of_blk b3.out
                    replace b4 := Lib.hid (show LBox _ _ _ _ _ from keepblk hb b4.out)
                    have lb4 := lt_of_blk b4.out
                    replace b5 := Lib.hid (show LBox _ _ _ _ _ from keepblk hb b5.out)
                    have lb5 := lt_of_blk b5.out
                    replace b6 := Lib.hid (show LBox _ _ _ _ _ from keepblk hb b6.out)
                    have lb6 := lt_of_blk b6.out
                    replace b7 := Lib.hid (show LBox _ _ _ _ _ from keepblk hb b7.out)
                    have lb7 := lt_of_blk b7.out
                    replace b8 := Lib.hid (show LBox _ _ _ _ _ from keepblk hb b8.out)
                    have lb8 := lt_of_blk b8.out
                    clear hb
                    have cb3 := LBox.cell b3.out
                    have cb4 := LBox.cell b4.out
                    have cb5 := LBox.cell b5.out
                    have cb6 := LBox.cell b6.out
                    have cb7 := LBox.cell b7.out
                    have cb8 := LBox.cell b8.out
                    go_wp2_with fail
                    refine (flow_of A1 A3 4 4 c1 c3 xs zs true _ (HX.out) (HZ.out) hn1.out hn3.out (by omega) (by omega) (PT.out f1 f2)).mono ?_
                    rintro e y2 ⟨rfl, hb⟩
                    clear cb3
                    clear cb4
                    clear cb5
                    clear cb6
                    clear cb7
                    clear cb8
                    replace hB := Lib.hid (Below.trans hB.out (hb.mono hB.out.size))
                    replace HX := Lib.hid (HX.out.below hb)
                    replace HY := Lib.hid (HY.out.below hb)
                    replace HZ := Lib.hid (HZ.out.below hb)
                    replace HJ := Lib.hid (HJ.out.below hb)
                    replace HM := Lib.hid (HM.out.below hb)
                    replace b3 := Lib.hid (show LBox _ _ _ _ _ from keepblk hb b3.out)
                    have lb3 := lt_of_blk b3.out
                    replace b4 := Lib.hid (show LBox _ _ _ _ _ from keepblk hb b4.out)
                    have lb4 := lt_of_blk b4.out
                    replace b5 := Lib.hid (show LBox _ _ _ _ _ from keepblk hb b5.out)
                    have lb5 := lt_of_blk b5.out
                    replace b6 := Lib.hid (show LBox _ _ _ _ _ from keepblk hb b6.out)
                    have lb6 := lt_of_blk b6.out
                    replace b7 := Lib.hid (show LBox _ _ _ _ _ from keepblk hb b7.out)
                    have lb7 := lt_of_blk b7.out
                    replace b8 := Lib.hid (show LBox _ _ _ _ _ from keepblk hb b8.out)
                    have lb8 := lt_of_blk b8.out
                    clear hb
                    have cb3 := LBox.cell b3.out
                    have cb4 := LBox.cell b4.out
                    have cb5 := LBox.cell b5.out
                    have cb6 := LBox.cell b6.out
                    have cb7 := LBox.cell b7.out
                    have cb8 := LBox.cell b8.out
                    go_wp2_with fail
                    refine (flow_of A1 A2 4 4 c1 c2 xs ys true _ (HX.out) (HY.out) hn1.out hn2.out (by omega) (by omega) f1).mono ?_
                    rintro e y3 ⟨rfl, hb⟩
                    clear cb3
                    clear cb4
                    clear cb5
                    clear cb6
                    clear cb7
                    clear cb8
                    replace hB := Lib.hid (Below.trans hB.out (hb.mono hB.out.size))
                    replace HX := Lib.hid (HX.out.below hb)
                    replace HY := Lib.hid (HY.out.below hb)
                    replace HZ := Lib.hid (HZ.out.below hb)
                    replace HJ := Lib.hid (HJ.out.below hb)
                    replace HM := Lib.hid (HM.out.below hb)
                    replace b3 := Lib.hid (show LBox _ _ _ _ _ from keepblk hb b3.out)
                    have lb3 := lt_of_blk b3.out
                    replace b4 := Lib.hid (show LBox _ _ _ _ _ from keepblk hb b4.out)
                    have lb4 := lt_of_blk b4.out
                    replace b5 := Lib.hid (show LBox _ _ _ _ _ from keepblk hb b5.out)
                    have lb5 := lt_of_blk b5.out
                    replace b6 := Lib.hid (show LBox _ _ _ _ _ from keepblk hb b6.out)
                    have lb6 := lt_of_blk b6.out
                    replace b7 := Lib.hid (show LBox _ _ _ _ _ from keepblk hb b7.out)
                    have lb7 := lt_of_blk b7.out
                    replace b8 := Lib.hid (show LBox _ _ _ _ _ from keepblk hb b8.out)
                    have lb8 := lt_of_blk b8.out
                    clear hb
                    have cb3 := LBox.cell b3.out
                    have cb4 := LBox.cell b4.out
                    have cb5 := LBox.cell b5.out
                    have cb6 := LBox.cell b6.out
                    have cb7 := LBox.cell b7.out
                    have cb8 := LBox.cell b8.out
                    go_wp2_with fail
                    refine (flow_of A2 A1 4 4 c2 c1 ys xs false _ (HY.out) (HX.out) hn2.out hn1.out (by omega) (by omega) f3).mono ?_
                    rintro e y4 ⟨rfl, hb⟩
                    clear cb3
                    clear cb4
                    clear cb5
                    clear cb6
                    clear cb7
                    clear cb8
                    replace hB := Lib.hid (Below.trans hB.out (hb.mono hB.out.size))
                    go_wp2
                    go_meet
                    case rel => exact ⟨by first | rfl | simp, hB⟩
                  · as_aux_lemma =>
                    replace hB := Lib.hid (Below.refl v4.heap.size v4)
                    go_wp2_with fail
                    refine (flow_of A1 A2 4 4 c1 c2 xs ys true _ (HX.out) (HY.out) hn1.out hn2.out (by omega) (by omega) f1).mono ?_
                    rintro e y0 ⟨rfl, hb⟩
                    clear cb3
                    clear cb4
                    clear cb5
                    clear cb6
                    clear cb7
                    clear cb8
                    replace hB := Lib.hid (Below.trans hB.out (hb.mono hB.out.size))
                    replace HX := Lib.hid (HX.out.below hb)
                    replace HY := Lib.hid (HY.out.below hb)
                    replace HZ := Lib.hid (HZ.out.below hb)
                    replace HJ := Lib.hid (HJ.out.below hb)
                    replace HM := Lib.hid (HM.out.below hb)
                    replace b3 := Lib.hid (show LBox _ _ _ _ _ from keepblk hb b3.out)
                    have lb3 := lt_of_blk b3.out
                    replace b4 := Lib.hid (show LBox _ _ _ _ _ from keepblk hb b4.out)
                    have lb4 := lt_of_blk b4.out
                    replace b5 := Lib.hid (show LBox _ _ _ _ _ from keepblk hb b5.out)
                    have lb5 := lt_of_blk b5.out
                    replace b6 := Lib.hid (show LBox _ _ _ _ _ from keepblk hb b6.out)
                    have lb6 := lt_of_blk b6.out
                    replace b7 := Lib.hid (show LBox _ _ _ _ _ from keepblk hb b7.out)
                    have lb7 := lt_of_blk b7.out
                    replace b8 := Lib.hid (show LBox _ _ _ _ _ from keepblk hb b8.out)
                    have lb8 := lt_of_blk b8.out
                    clear hb
                    have cb3 := LBox.cell b3.out
                    have cb4 := LBox.cell b4.out
                    have cb5 := LBox.cell b5.out
                    have cb6 := LBox.cell b6.out
                    have cb7 := LBox.cell b7.out
                    have cb8 := LBox.cell b8.out
                    go_wp2_with fail
                    refine (flow_of A2 A3 4 4 c2 c3 ys zs true _ (HY.out) (HZ.out) hn2.out hn3.out (by omega) (by omega) f2).mono ?_
                    rintro e y1 ⟨rfl, hb⟩
                    clear cb3
                    clear cb4
                    clear cb5
                    clear cb6
                    clear cb7
                    clear cb8
                    replace hB := Lib.hid (Below.trans hB.out (hb.mono hB.out.size))
                    replace HX := Lib.hid (HX.out.below hb)
                    replace HY := Lib.hid (HY.out.below hb)
                    replace HZ := Lib.hid (HZ.out.below hb)
                    replace HJ := Lib.hid (HJ.out.below hb)
                    replace HM := Lib.hid (HM.out.below hb)
                    replace b3 := Lib.hid (show LBox _ _ _ _ _ from keepblk hb b3.out)
                    have lb3 := lt_of_blk b3.out
                    replace b4 := Lib.hid (show LBox _ _ _ _ _ from keepblk hb b4.out)
                    have lb4 := lt_of_blk b4.out
                    replace b5 := Lib.hid (show LBox _ _ _ _ _ from keepblk hb b5.out)
                    have lb5 := lt_of_blk b5.out
                    replace b6 := Lib.hid (show LBox _ _ _ _ _ from keepblk hb b6.out)
                    have lb6 := lt_of_blk b6.out
                    replace b7 := Lib.hid (show LBox _ _ _ _ _ from keepblk hb b7.out)
                    have lb7 := lt_of_blk b7.out
                    replace b8 := Lib.hid (show LBox _ _ _ _ _ from keepblk hb b8.out)
                    have lb8 := lt_of_blk b8.out
                    clear hb
                    have cb3 := LBox.cell b3.out
                    have cb4 := LBox.cell b4.out
                    have cb5 := LBox.cell b5.out
                    have cb6 := LBox.cell b6.out
                    have cb7 := LBox.cell b7.out
                    have cb8 := LBox.cell b8.out
                    go_wp2_with fail
                    refine (flow_of A1 A3 4 4 c1 c3 xs zs true _ (HX.out) (HZ.out) hn1.out hn3.out (by omega) (by omega) (PT.out f1 f2)).mono ?_
                    rintro e y2 ⟨rfl, hb⟩
                    clear cb3
                    clear cb4
                    clear cb5
                    clear cb6
                    clear cb7
                    clear cb8
                    replace hB := Lib.hid (Below.trans hB.out (hb.mono hB.out.size))
                    replace HX := Lib.hid (HX.out.below hb)
                    replace HY := Lib.hid (HY.out.below hb)
                    replace HZ := Lib.hid (HZ.out.below hb)
                    replace HJ := Lib.hid (HJ.out.below hb)
                    replace HM := Lib.hid (HM.out.below hb)
                    replace b3 := Lib.hid (show LBox _ _ _ _ _ from keepblk hb b3.out)
                    have lb3 := lt_of_blk b3.out
                    replace b4 := Lib.hid (show LBox _ _ _ _ _ from keepblk hb b4.out)
                    have lb4 := lt_of_blk b4.out
                    replace b5 := Lib.hid (show LBox _ _ _ _ _ from keepblk hb b5.out)
                    have lb5 := lt_of_blk b5.out
                    replace b6 := Lib.hid (show LBox _ _ _ _ _ from keepblk hb b6.out)
                    have lb6 := lt_of_blk b6.out
                    replace b7 := Lib.hid (show LBox _ _ _ _ _ from keepblk hb b7.out)
                    have lb7 := lt_of_blk b7.out
                    replace b8 := Lib.hid (show LBox _ _ _ _ _ from keepblk hb b8.out)
                    have lb8 := lt_of_blk b8.out
                    clear hb
                    have cb3 := LBox.cell b3.out
                    have cb4 := LBox.cell b4.out
                    have cb5 := LBox.cell b5.out
                    have cb6 := LBox.cell b6.out
                    have cb7 := LBox.cell b7.out
                    have cb8 := LBox.cell b8.out
                    go_wp2_with fail
                    refine (flow_of A1 A2 4 4 c1 c2 xs ys true _ (HX.out) (HY.out) hn1.out hn2.out (by omega) (by omega) f1).mono ?_
                    rintro e y3 ⟨rfl, hb⟩
                    clear cb3
                    clear cb4
                    clear cb5
                    clear cb6
                    clear cb7
                    clear cb8
                    replace hB := Lib.hid (Below.trans hB.out (hb.mono hB.out.size))
                    replace HX := Lib.hid (HX.out.below hb)
                    replace HY := Lib.hid (HY.out.below hb)
                    replace HZ := Lib.hid (HZ.out.below hb)
                    replace HJ := Lib.hid (HJ.out.below hb)
                    replace HM := Lib.hid (HM.out.below hb)
                    replace b3 := Lib.hid (show LBox _ _ _ _ _ from keepblk hb b3.out)
                    have lb3 := lt_of_blk b3.out
                    replace b4 := Lib.hid (show LBox _ _ _ _ _ from keepblk hb b4.out)
                    have lb4 := lt_of_blk b4.out
                    replace b5 := Lib.hid (show LBox _ _ _ _ _ from keepblk hb b5.out)
                    have lb5 := lt_of_blk b5.out
                    replace b6 := Lib.hid (show LBox _ _ _ _ _ from keepblk hb b6.out)
                    have lb6 := lt_of_blk b6.out
                    replace b7 := Lib.hid (show LBox _ _ _ _ _ from keepblk hb b7.out)
                    have lb7 := lt_of_blk b7.out
                    replace b8 := Lib.hid (show LBox _ _ _ _ _ from keepblk hb b8.out)
                    have lb8 := lt_of_blk b8.out
                    clear hb
                    have cb3 := LBox.cell b3.out
                    have cb4 := LBox.cell b4.out
                    have cb5 := LBox.cell b5.out
                    have cb6 := LBox.cell b6.out
                    have cb7 := LBox.cell b7.out
                    have cb8 := LBox.cell b8.out
                    go_wp2_with fail
                    refine (flow_of A2 A1 4 4 c2 c1 ys xs true _ (HY.out) (HX.out) hn2.out hn1.out (by omega) (by omega) f3).mono ?_
                    rintro e y4 ⟨rfl, hb⟩
                    clear cb3
                    clear cb4
                    clear cb5
                    clear cb6
                    clear cb7
                    clear cb8
                    replace hB := Lib.hid (Below.trans hB.out (hb.mono hB.out.size))
                    replace HX := Lib.hid (HX.out.below hb)
                    replace HY := Lib.hid (HY.out.below hb)
                    replace HZ := Lib.hid (HZ.out.below hb)
                    replace HJ := Lib.hid (HJ.out.below hb)
                    replace HM := Lib.hid (HM.out.below hb)
                    replace b3 := Lib.hid (show LBox _ _ _ _ _ from keepblk hb b3.out)
                    have lb3 := lt_of_blk b3.out
                    replace b4 := Lib.hid (show LBox _ _ _ _ _ from keepblk hb b4.out)
                    have lb4 := lt_of_blk b4.out
                    replace b5 := Lib.hid (show LBox _ _ _ _ _ from keepblk hb b5.out)
                    have lb5 := lt_of_blk b5.out
                    replace b6 := Lib.hid (show LBox _ _ _ _ _ from keepblk hb b6.out)
                    have lb6 := lt_of_blk b6.out
                    replace b7 := Lib.hid (show LBox _ _ _ _ _ from keepblk hb b7.out)
                    have lb7 := lt_of_blk b7.out
                    replace b8 := Lib.hid (show LBox _ _ _ _ _ from keepblk hb b8.out)
                    have lb8 := lt_of_blk b8.out
                    clear hb
                    have cb3 := LBox.cell b3.out
                    have cb4 := LBox.cell b4.out
                    have cb5 := LBox.cell b5.out
                    have cb6 := LBox.cell b6.out
                    have cb7 := LBox.cell b7.out
                    have cb8 := LBox.cell b8.out
                    go_wp2_with fail
                    refine (same_of A1 A2 4 4 c1 c2 xs ys true _ (HX.out) (HY.out) hn1.out hn2.out (by omega) (by omega) (PS.out f1 f3)).mono ?_
                    rintro e y5 ⟨rfl, hb⟩
                    clear cb3
                    clear cb4
                    clear cb5
                    clear cb6
                    clear cb7
                    clear cb8
                    replace hB := Lib.hid (Below.trans hB.out (hb.mono hB.out.size))
                    go_wp2
                    go_meet
                    case rel => exact ⟨by first | rfl | simp, hB⟩
            case rest =>
              as_aux_lemma =>
                obtain ⟨rfl, hb0⟩ := hcut
                have hb := hb0.out
                clear hb0
                clear cb3
                clear cb4
                clear cb5
                clear cb6
                clear cb7
                clear cb8
                replace HX := Lib.hid (HX.out.below hb)
                replace HY := Lib.hid (HY.out.below hb)
                replace HZ := Lib.hid (HZ.out.below hb)
                replace HJ := Lib.hid (HJ.out.below hb)
                replace HM := Lib.hid (HM.out.below hb)
                replace b3 := Lib.hid (show LBox _ _ _ _ _ from keepblk hb b3.out)
                replace b4 := Lib.hid (show LBox _ _ _ _ _ from keepblk hb b4.out)
                replace b5 := Lib.hid (show LBox _ _ _ _ _ from keepblk hb b5.out)
                replace b6 := Lib.hid (show LBox _ _ _ _ _ from keepblk hb b6.out)
                replace b7 := Lib.hid (show LBox _ _ _ _ _ from keepblk hb b7.out)
                replace b8 := Lib.hid (show LBox _ _ _ _ _ from keepblk hb b8.out)
                replace hB := Lib.hid (Below.trans hB.out (hb.mono hB.out.size))
                clear hb
                have lb3 := lt_of_blk b3.out
                have lb4 := lt_of_blk b4.out
                have lb5 := lt_of_blk b5.out
                have lb6 := lt_of_blk b6.out
                have lb7 := lt_of_blk b7.out
                have lb8 := lt_of_blk b8.out
                have cb3 := LBox.cell b3.out
                have cb4 := LBox.cell b4.out
                have cb5 := LBox.cell b5.out
                have cb6 := LBox.cell b6.out
                have cb7 := LBox.cell b7.out
                have cb8 := LBox.cell b8.out
                obtain ⟨v5, rfl⟩ : ∃ v, v = wc := ⟨_, rfl⟩
                go_wp2_with fail
                refine (show_of A1 c1 xs _ HX.out hn1.out (HT.out.below hB.out)).mono ?_
                rintro e v6 ⟨rfl, hb⟩
                clear cb3
                clear cb4
                clear cb5
                clear cb6
                clear cb7
                clear cb8
                replace HX := Lib.hid (HX.out.below hb)
                replace HY := Lib.hid (HY.out.below hb)
                replace HZ := Lib.hid (HZ.out.below hb)
                replace HJ := Lib.hid (HJ.out.below hb)
                replace HM := Lib.hid (HM.out.below hb)
                replace b3 := Lib.hid (show LBox _ _ _ _ _ from keepblk hb b3.out)
                replace b4 := Lib.hid (show LBox _ _ _ _ _ from keepblk hb b4.out)
                replace b5 := Lib.hid (show LBox _ _ _ _ _ from keepblk hb b5.out)
                replace b6 := Lib.hid (show LBox _ _ _ _ _ from keepblk hb b6.out)
                replace b7 := Lib.hid (show LBox _ _ _ _ _ from keepblk hb b7.out)
                replace b8 := Lib.hid (show LBox _ _ _ _ _ from keepblk hb b8.out)
                replace hB := Lib.hid (Below.trans hB.out (hb.mono hB.out.size))
                clear hb
                have lb3 := lt_of_blk b3.out
                have lb4 := lt_of_blk b4.out
                have lb5 := lt_of_blk b5.out
                have lb6 := lt_of_blk b6.out
                have lb7 := lt_of_blk b7.out
                have lb8 := lt_of_blk b8.out
                have cb3 := LBox.cell b3.out
                have cb4 := LBox.cell b4.out
                have cb5 := LBox.cell b5.out
                have cb6 := LBox.cell b6.out
                have cb7 := LBox.cell b7.out
                have cb8 := LBox.cell b8.out
                go_wp2_with fail
                refine (read_of xs _ E1.out).mono ?_
                rintro e v7 ⟨A9, c9, rfl, hr, hb⟩
                clear cb3
                clear cb4
                clear cb5
                clear cb6
                clear cb7
                clear cb8
                replace HX := Lib.hid (HX.out.below hb)
                replace HY := Lib.hid (HY.out.below hb)
                replace HZ := Lib.hid (HZ.out.below hb)
                replace HJ := Lib.hid (HJ.out.below hb)
                replace HM := Lib.hid (HM.out.below hb)
                replace b3 := Lib.hid (show LBox _ _ _ _ _ from keepblk hb b3.out)
                replace b4 := Lib.hid (show LBox _ _ _ _ _ from keepblk hb b4.out)
                replace b5 := Lib.hid (show LBox _ _ _ _ _ from keepblk hb b5.out)
                replace b6 := Lib.hid (show LBox _ _ _ _ _ from keepblk hb b6.out)
                replace b7 := Lib.hid (show LBox _ _ _ _ _ from keepblk hb b7.out)
                replace b8 := Lib.hid (show LBox _ _ _ _ _ from keepblk hb b8.out)
                replace hB := Lib.hid (Below.trans hB.out (hb.mono hB.out.size))
                clear hb
                have lb3 := lt_of_blk b3.out
                have lb4 := lt_of_blk b4.out
                have lb5 := lt_of_blk b5.out
                have lb6 := lt_of_blk b6.out
                have lb7 := lt_of_blk b7.out
                have lb8 := lt_of_blk b8.out
                have HR := Lib.hid hr
                clear hr
                replace HX := Lib.hid (HX.out.alloc (.cells #[.slice A9 4 c9] 27))
                replace HY := Lib.hid (HY.out.alloc (.cells #[.slice A9 4 c9] 27))
                replace HZ := Lib.hid (HZ.out.alloc (.cells #[.slice A9 4 c9] 27))
                replace HJ := Lib.hid (HJ.out.alloc (.cells #[.slice A9 4 c9] 27))
                replace HM := Lib.hid (HM.out.alloc (.cells #[.slice A9 4 c9] 27))
                replace HR := Lib.hid (HR.out.alloc (.cells #[.slice A9 4 c9] 27))
                replace b3 := Lib.hid (show LBox _ _ _ _ _ from blk_alloc (O := .cells #[.slice A9 4 c9] 27) b3.out)
                replace b4 := Lib.hid (show LBox _ _ _ _ _ from blk_alloc (O := .cells #[.slice A9 4 c9] 27) b4.out)
                replace b5 := Lib.hid (show LBox _ _ _ _ _ from blk_alloc (O := .cells #[.slice A9 4 c9] 27) b5.out)
                replace b6 := Lib.hid (show LBox _ _ _ _ _ from blk_alloc (O := .cells #[.slice A9 4 c9] 27) b6.out)
                replace b7 := Lib.hid (show LBox _ _ _ _ _ from blk_alloc (O := .cells #[.slice A9 4 c9] 27) b7.out)
                replace b8 := Lib.hid (show LBox _ _ _ _ _ from blk_alloc (O := .cells #[.slice A9 4 c9] 27) b8.out)
                have b9 := Lib.hid (show LBox _ _ _ _ _ from heap_alloc_new v7 (.cells #[.slice A9 4 c9] 27))
                replace hB := Lib.hid (hB.out.alloc hB.out.size (.cells #[.slice A9 4 c9] 27))
                have lb3 := lt_of_blk b3.out
                have lb4 := lt_of_blk b4.out
                have lb5 := lt_of_blk b5.out
                have lb6 := lt_of_blk b6.out
                have lb7 := lt_of_blk b7.out
                have lb8 := lt_of_blk b8.out
                have lb9 := lt_of_blk b9.out
                have cb3 := LBox.cell b3.out
                have cb4 := LBox.cell b4.out
                have cb5 := LBox.cell b5.out
                have cb6 := LBox.cell b6.out
                have cb7 := LBox.cell b7.out
                have cb8 := LBox.cell b8.out
                have cb9 := LBox.cell b9.out
                go_upto_region 14 with (fail)
                generalize hXe : v7.alloc (.cells #[.slice A9 4 c9] 27) = X at *
                clear hXe
                have hBx := Lib.hid ((Below.refl X.heap.size X).drew)
                go_region_held3 (fun x => x.cell? ⟨w1.heap.size, 0, none⟩ = some (.slice A1 4 c1) ∧ x.cell? ⟨w1.heap.size + 1, 0, none⟩ = some (.slice A2 4 c2) ∧ x.cell? ⟨w4.heap.size, 0, none⟩ = some (.slice A7 4 c7) ∧ x.cell? ⟨w5.heap.size, 0, none⟩ = some (.slice A8 4 c8) ∧ x.cell? ⟨v7.heap.size, 0, none⟩ = some (.slice A9 4 c9)) (exact ⟨Below.keeps hBx.out cb3, Below.keeps hBx.out cb4, Below.keeps hBx.out cb7, Below.keeps hBx.out cb8, Below.keeps hBx.out cb9⟩)
                  (first
                    | (go_at_call 17; (with_reducible refine (flow_of A1 A7 4 4 c1 c7 xs J true _ (by exact HX.out.below hBx.out) (by exact HJ.out.below hBx.out) hn1.out hnj.out (by omega) (by omega) LL.out.aj).mono ?_); rintro e y ⟨rfl, hb⟩; replace hBx := Lib.hid (Below.trans hBx.out (hb.mono hBx.out.size)); clear hb)
                    | (go_at_call 17; (with_reducible refine (flow_of A2 A7 4 4 c2 c7 ys J true _ (by exact HY.out.below hBx.out) (by exact HJ.out.below hBx.out) hn2.out hnj.out (by omega) (by omega) LL.out.bj).mono ?_); rintro e y ⟨rfl, hb⟩; replace hBx := Lib.hid (Below.trans hBx.out (hb.mono hBx.out.size)); clear hb)
                    | (go_at_call 17; (with_reducible refine (flow_of A8 A1 4 4 c8 c1 M xs true _ (by exact HM.out.below hBx.out) (by exact HX.out.below hBx.out) hnm.out hn1.out (by omega) (by omega) LL.out.ma).mono ?_); rintro e y ⟨rfl, hb⟩; replace hBx := Lib.hid (Below.trans hBx.out (hb.mono hBx.out.size)); clear hb)
                    | (go_at_call 17; (with_reducible refine (flow_of A8 A2 4 4 c8 c2 M ys true _ (by exact HM.out.below hBx.out) (by exact HY.out.below hBx.out) hnm.out hn2.out (by omega) (by omega) LL.out.mb).mono ?_); rintro e y ⟨rfl, hb⟩; replace hBx := Lib.hid (Below.trans hBx.out (hb.mono hBx.out.size)); clear hb)
                    | (go_at_call 14; (with_reducible refine (join_of A2 A1 4 4 c2 c1 ys xs J 4 _ (by exact HY.out.below hBx.out) (by exact HX.out.below hBx.out) hn2.out hn1.out (by omega) (by omega) LL.out.sj hnj.out).mono ?_); rintro e y ⟨A0, c0, rfl, hq, hb⟩; replace hBx := Lib.hid (Below.trans hBx.out (hb.mono hBx.out.size)); clear hb)
                    | (go_at_call 15; (with_reducible refine (meet_of A2 A1 4 4 c2 c1 ys xs M 4 _ (by exact HY.out.below hBx.out) (by exact HX.out.below hBx.out) hn2.out hn1.out (by omega) (by omega) LL.out.sm hnm.out).mono ?_); rintro e y ⟨A0, c0, rfl, hq, hb⟩; replace hBx := Lib.hid (Below.trans hBx.out (hb.mono hBx.out.size)); clear hb)
                    | (go_at_call 14; (with_reducible refine (join_of A1 A8 4 4 c1 c8 xs M xs 4 _ (by exact HX.out.below hBx.out) (by exact HM.out.below hBx.out) hn1.out hnm.out (by omega) (by omega) LL.out.am hn1.out).mono ?_); rintro e y ⟨A0, c0, rfl, hq, hb⟩; replace hBx := Lib.hid (Below.trans hBx.out (hb.mono hBx.out.size)); clear hb)
                    | (go_at_call 18; (with_reducible refine (same_of A0 A7 4 4 c0 c7 J J true _ (by exact hq) (by exact HJ.out.below hBx.out) hnj.out hnj.out (by omega) (by omega) (eqB_self _)).mono ?_); rintro e y ⟨rfl, hb⟩; replace hBx := Lib.hid (Below.trans hBx.out (hb.mono hBx.out.size)); clear hb; clear hq)
                    | (go_at_call 18; (with_reducible refine (same_of A0 A8 4 4 c0 c8 M M true _ (by exact hq) (by exact HM.out.below hBx.out) hnm.out hnm.out (by omega) (by omega) (eqB_self _)).mono ?_); rintro e y ⟨rfl, hb⟩; replace hBx := Lib.hid (Below.trans hBx.out (hb.mono hBx.out.size)); clear hb; clear hq)
                    | (go_at_call 18; (with_reducible refine (same_of A0 A1 4 4 c0 c1 xs xs true _ (by exact hq) (by exact HX.out.below hBx.out) hn1.out hn1.out (by omega) (by omega) (eqB_self _)).mono ?_); rintro e y ⟨rfl, hb⟩; replace hBx := Lib.hid (Below.trans hBx.out (hb.mono hBx.out.size)); clear hb; clear hq)
                    | (go_at_call 18; (with_reducible refine (same_of A9 A1 4 4 c9 c1 xs xs true _ (by exact HR.out.below hBx.out) (by exact HX.out.below hBx.out) hn1.out hn1.out (by omega) (by omega) (eqB_self _)).mono ?_); rintro e y ⟨rfl, hb⟩; replace hBx := Lib.hid (Below.trans hBx.out (hb.mono hBx.out.size)); clear hb)
                    | (go_at_call 20; (with_reducible refine (flat_of 0 _ (by decide)).mono ?_); rintro e y ⟨A0, c0, rfl, hq, hb⟩; replace hBx := Lib.hid (Below.trans hBx.out (hb.mono hBx.out.size)); clear hb)
                    | (go_at_call 20; (with_reducible refine (flat_of 3 _ (by decide)).mono ?_); rintro e y ⟨A0, c0, rfl, hq, hb⟩; replace hBx := Lib.hid (Below.trans hBx.out (hb.mono hBx.out.size)); clear hb)
                    | (go_at_call 17; (with_reducible refine (flow_of A0 A1 4 4 c0 c1 (List.replicate 4 0) xs true _ (by exact hq) (by exact HX.out.below hBx.out) rfl hn1.out (by omega) (by omega) LL.out.fa).mono ?_); rintro e y ⟨rfl, hb⟩; replace hBx := Lib.hid (Below.trans hBx.out (hb.mono hBx.out.size)); clear hb; clear hq)
                    | (go_at_call 17; (with_reducible refine (flow_of A1 A0 4 4 c1 c0 xs (List.replicate 4 3) true _ (by exact HX.out.below hBx.out) (by exact hq) hn1.out rfl (by omega) (by omega) LL.out.af).mono ?_); rintro e y ⟨rfl, hb⟩; replace hBx := Lib.hid (Below.trans hBx.out (hb.mono hBx.out.size)); clear hb; clear hq))
                go_wp2
                go_ret
                exact ⟨by first | rfl | simp, Below.trans hB.out (hBx.out.mono hB.out.size)⟩
theorem labels_walk (A : Option Addr) (n c : Nat) (w : World) (hA : Bys w A n) (hmx : n ≤ 9223372036854775807) (hL : laidMetH Tryd.prog Rows.fnLabelsRow.laid w) :
    Calls Tryd.prog 4 #[.slice A n c] w fun e w' => e = .returned (.bool true) ∧ Below w.heap.size w w' := by
  by_cases hb : 1048576 < n
  · exact labels_big A n c w hmx hb
  · exact labels_main A n c w hA (by omega) (tab_of hL)
set_option maxRecDepth 100000 in
/-- the door leaves what the row lists -/
theorem fnLabels_door (os : Os) (args : Array Value) : laidMetH Tryd.prog Rows.fnLabelsRow.laid ((World.doorLaid Tryd.prog 24 os).forCall (fun _ _ => 0) ⟨#[], args, []⟩).memory :=
  laidMetH_of_parts3 (fuel := 8) (laidMet_of_run' 8 (by kernel_rfl) (by kernel_rfl)) (by kernel_rfl) (by kernel_rfl)
set_option linter.unusedVariables false in
set_option maxRecDepth 100000 in
theorem FnLabels_lifted (os : Os) (started : os.Started) (H : Type) (enc : TypeId × Value → H) :
    ReturnsInHanded {} Tryd.checked os 4 .any (fun w args => (Rows.fnLabelsSpec.pre enc Tryd.prog Tryd.f4 [] false w args ∧ laidMetH Tryd.prog Rows.fnLabelsRow.laid w) ∧ sizedMet enc Tryd.prog Tryd.f4 (OpenSpec.ofChange Rows.fnLabelsSpec) false w args)
      (Rows.fnLabelsSpec.post enc Tryd.prog Tryd.f4 false true false false) := by
  refine returnsInHanded_of_change_and (C := Tryd.checked) (X := fun w _ => laidMetH Tryd.prog Rows.fnLabelsRow.laid w) (fun _ _ _ hh h => h.of_heap hh) own started (by kernel_rfl) Tryd.func4
    (ChangeSpec.witness_shaped (enc := enc) (C := Tryd.checked) (os := os) (X := fun w _ => laidMetH Tryd.prog Rows.fnLabelsRow.laid w) false (World.doorLaid Tryd.prog 24 os) #[.slice none 0 0] 8 rfl (World.shaped_of_RefB (by kernel_rfl) (by kernel_rfl)) (by kernel_rfl) (by kernel_rfl) (by kernel_rfl) (fnLabels_door os _)) ?_
  intro W base args ds gs before hval0 hW _ _ hL _
  have hval : ∀ (j : Nat) t v, Tryd.f4.params[j]? = some t → args[j]? = some v → Value.okWide Tryd.prog W .any base t v := hval0
  have hW' := hW
  obtain ⟨p, q, hA0, hV, rfl, hfz, hnd⟩ := hW
  have hA : DataW.TrodAll enc Tryd.prog W 0 (fun _ => true) true Tryd.f4.params.toList args.toList ds p := hA0
  rw [Tryd.params4] at hA hval
  obtain ⟨v0, vs0, d0, ds0, p0, q0, hargs, rfl, rfl, h0, r0⟩ := trodAll_cons hA
  obtain ⟨rfl, rfl, rfl⟩ := trodAll_nil r0
  obtain rfl : args = #[v0] := by cases args; simp_all
  obtain ⟨rfl, rfl⟩ := trodVars_none hV
  have k0 := h0
  have lt0 : ∀ x ∈ p0, x.block < W.heap.size := by obtain ⟨m, hm⟩ := k0; exact DataW.trod_lt m _ _ _ hm
  obtain ⟨b0, len0, cap0, rfl⟩ := okWide_slice Tryd.underlying31 (hval 0 31 v0 rfl rfl)
  obtain ⟨row0, mx0⟩ : Bys W b0 len0 ∧ len0 ≤ 9223372036854775807 := by obtain ⟨fuel, hf⟩ := h0; exact open_bytes hf
  clear hA0 hval0
  refine (labels_walk b0 len0 cap0 W row0 mx0 hL).mono fun e W' ⟨he, bel⟩ => ?_
  subst he
  exact ⟨_, rfl, _, _, _, [], _, [], hW', trodAll_mk1 (shut_bool Tryd.underlying4 _), (trodAll_cons_mk (Below.trod laidOut (by kernel_rfl) (of_decide_eq_true (by kernel_rfl)) k0 bel lt0) trodAll_mk0), rfl, bel.frame _, fun h => by cases h⟩
/-- the row -/
theorem FnLabels_row : Rows.FnLabelsSaid :=
  OpenClaim.holds_of_wide 4 Tryd.f4 rfl rfl rfl rfl rfl rfl rfl ⟨rfl, rfl, rfl, rfl, rfl⟩ rfl rfl rfl rfl rfl (by kernel_rfl) Tryd.func4 (by kernel_rfl)
    (of_decide_eq_true (by kernel_rfl)) (by unfold Func.isWrapper; first | (rw [if_pos (by decide +kernel)]; kernel_rfl) | (rw [if_neg (by decide +kernel)]; exact ⟨rfl, rfl⟩))
    (fun os started H enc _ => FnLabels_lifted os started H enc)
/-- THE STATEMENT: the tied card -/
theorem FnLabels_holds : Rows.FnLabelsCardSaid :=
  Claim7.holds_tied_plain_at .later [] [.data, .data, .data] true (true, "de6df9a1ab8dfb43431fbc3a5696e07654a9d8942fb9d5b5226215f917c754fd") false
    FnLabels_row (fun _ h => by cases h) (by kernel_rfl) (fun _ h => by cases h) fnLabels_row_tie rfl ⟨rfl, rfl⟩ (by kernel_rfl) rfl
    (fun f fn hf hfn => by
      obtain rfl : f = 4 := Option.some.inj ((show Tryd.prog.funcNamed Rows.fnLabelsRow.func = some 4 by kernel_rfl).symm.trans hf) |>.symm
      obtain rfl : fn = Tryd.f4 := (Option.some.inj (Tryd.func4.symm.trans hfn)).symm
      exact ⟨by kernel_rfl, fun j t ht => by
        rw [Tryd.params4] at ht
        have hm : t ∈ [31] := by simpa using Array.mem_of_getElem? ht
        have hall : ([31].all fun u => !Tryd.prog.wantsStandIn u) = true := by kernel_rfl
        exact (show Tryd.prog.wantsStandIn t = false by simpa using List.all_eq_true.1 hall t hm)⟩)
    (by kernel_rfl)

end Go.Proofs.YtkcchceoljlnaaaDoor
