/- FnExactFlows: the program's Flows returns what the reference's returns. No condition. -/
import Derived.Test.YtkcchceoljlnaaaFlowsP
import Derived.Test.YtkcchceoljlnaaaOpenI
import Derived.Deep.RegionHeld3
import Derived.Deep.DrawnRows
namespace Go.Proofs.Ytkcchceoljlnaaa
set_option linter.unusedSimpArgs false
set_option linter.unusedVariables false
open Go.Joins Go.ChangeShapes Go.WideShapes Go.ChangeAt Go.RowKit Go.Deep
open Go.ChangeMaps (open_string shut_string)
attribute [local go_sem ↓] Go.wp_at_zero Go.wp_at_succ

set_option maxHeartbeats 1600000 in
theorem flows_big1 (A B : Option Addr) (n m c d : Nat) (xs ys : List Int) (w : World) (hI : Ints w A xs) (hn : xs.length = n) (hmx : n ≤ 9223372036854775807) (hJ : Ints w B ys) (hm : ys.length = m) (hmy : m ≤ 9223372036854775807) (hbig : (1048576 : Int) - n < 0) :
    Calls Try.prog 10 #[lab A n c, lab B m d] w fun e w' => e = .returned (.bool true) ∧ Below w.heap.size w w' := by
  clear hI hJ hn hm
  go_enter Try.func10, Try.ntmps10
  go_wp2_with fail
  refine (szLabel_no A n c 1048576 _ hmx (by omega) (by omega) (by omega)).mono ?_
  rintro e w1 ⟨rfl, hb⟩
  have ca : w1.cell? ⟨w.heap.size, 0, none⟩ = some (.slice A n c) := Below.keeps hb (by simp)
  have cb : w1.cell? ⟨w.heap.size + 1, 0, none⟩ = some (.slice B m d) := Below.keeps hb (by simp)
  have lca : w.heap.size < w1.heap.size := lt_of_cell ca
  have lcb : w.heap.size + 1 < w1.heap.size := lt_of_cell cb
  have hB : Below w.heap.size w w1 := Below.trans (by (repeat (first | exact Below.refl _ _ | assumption | refine Below.drew ?_ | refine Below.alloc ?_ ?_ _ | refine Below.setCell ?_ ?_ _)) <;> ((try simp) <;> omega)) (hb.mono (by (try simp) <;> omega))
  have hs := hB.size
  clear hb
  go_wp2_with fail
  go_ret
  exact ⟨rfl, hB⟩
set_option maxHeartbeats 1600000 in
theorem flows_big2 (A B : Option Addr) (n m c d : Nat) (xs ys : List Int) (w : World) (hI : Ints w A xs) (hn : xs.length = n) (hmx : n ≤ 9223372036854775807) (hJ : Ints w B ys) (hm : ys.length = m) (hmy : m ≤ 9223372036854775807) (hok : ¬ (1048576 : Int) - n < 0) (hbig : (1048576 : Int) - n - m < 0) :
    Calls Try.prog 10 #[lab A n c, lab B m d] w fun e w' => e = .returned (.bool true) ∧ Below w.heap.size w w' := by
  clear hI hJ hn hm
  go_enter Try.func10, Try.ntmps10
  go_wp2_with fail
  refine (szLabel_yes A n c 1048576 _ hmx (by omega) (by omega) (by omega)).mono ?_
  rintro e w1 ⟨rfl, hb⟩
  have ca : w1.cell? ⟨w.heap.size, 0, none⟩ = some (.slice A n c) := Below.keeps hb (by simp)
  have cb : w1.cell? ⟨w.heap.size + 1, 0, none⟩ = some (.slice B m d) := Below.keeps hb (by simp)
  have lca : w.heap.size < w1.heap.size := lt_of_cell ca
  have lcb : w.heap.size + 1 < w1.heap.size := lt_of_cell cb
  have hB : Below w.heap.size w w1 := Below.trans (by (repeat (first | exact Below.refl _ _ | assumption | refine Below.drew ?_ | refine Below.alloc ?_ ?_ _ | refine Below.setCell ?_ ?_ _)) <;> ((try simp) <;> omega)) (hb.mono (by (try simp) <;> omega))
  have hs := hB.size
  clear hb
  go_wp2_with fail
  refine (szLabel_no B m d (1048576 - n) _ hmy (by omega) (by omega) (by omega)).mono ?_
  rintro e w2 ⟨rfl, hb⟩
  have ca : w2.cell? ⟨w.heap.size, 0, none⟩ = some (.slice A n c) := Below.keeps hb ca
  have cb : w2.cell? ⟨w.heap.size + 1, 0, none⟩ = some (.slice B m d) := Below.keeps hb cb
  have lca : w.heap.size < w2.heap.size := lt_of_cell ca
  have lcb : w.heap.size + 1 < w2.heap.size := lt_of_cell cb
  have hB : Below w.heap.size w w2 := Below.trans hB (hb.mono hs)
  have hs := hB.size
  clear hb
  go_wp2_with fail
  go_ret
  exact ⟨rfl, hB⟩
set_option maxHeartbeats 6400000 in
theorem flows_main (A B : Option Addr) (n m c d : Nat) (xs ys : List Int) (w : World) (hI : Ints w A xs) (hn : xs.length = n) (hmx : n ≤ 9223372036854775807) (hJ : Ints w B ys) (hm : ys.length = m) (hmy : m ≤ 9223372036854775807) (hok : ¬ (1048576 : Int) - n < 0) (hok2 : ¬ (1048576 : Int) - n - m < 0) :
    Calls Try.prog 10 #[lab A n c, lab B m d] w fun e w' => e = .returned (.bool true) ∧ Below w.heap.size w w' := by
  have HN := Lib.hid hn; have HM := Lib.hid hm
  clear hn hm
  go_enter Try.func10, Try.ntmps10
  go_wp2_with fail
  refine (szLabel_yes A n c 1048576 _ hmx (by omega) (by omega) (by omega)).mono ?_
  rintro e w1 ⟨rfl, hb⟩
  have ca : w1.cell? ⟨w.heap.size, 0, none⟩ = some (.slice A n c) := Below.keeps hb (by simp)
  have cb : w1.cell? ⟨w.heap.size + 1, 0, none⟩ = some (.slice B m d) := Below.keeps hb (by simp)
  have hI : Ints w1 A xs := Ints.below (Ints.alloc (Ints.alloc hI _) _) hb
  have hJ : Ints w1 B ys := Ints.below (Ints.alloc (Ints.alloc hJ _) _) hb
  have lca : w.heap.size < w1.heap.size := lt_of_cell ca
  have lcb : w.heap.size + 1 < w1.heap.size := lt_of_cell cb
  have hB : Below w.heap.size w w1 := Below.trans (by (repeat (first | exact Below.refl _ _ | assumption | refine Below.drew ?_ | refine Below.alloc ?_ ?_ _ | refine Below.setCell ?_ ?_ _)) <;> ((try simp) <;> omega)) (hb.mono (by (try simp) <;> omega))
  have hs := hB.size
  clear hb
  go_wp2_with fail
  refine (szLabel_yes B m d (1048576 - n) _ hmy (by omega) (by omega) (by omega)).mono ?_
  rintro e w2 ⟨rfl, hb⟩
  have ca : w2.cell? ⟨w.heap.size, 0, none⟩ = some (.slice A n c) := Below.keeps hb ca
  have cb : w2.cell? ⟨w.heap.size + 1, 0, none⟩ = some (.slice B m d) := Below.keeps hb cb
  have hI : Ints w2 A xs := Ints.keep hI (fun _ _ h => Below.keeps hb h)
  have hJ : Ints w2 B ys := Ints.keep hJ (fun _ _ h => Below.keeps hb h)
  have lca : w.heap.size < w2.heap.size := lt_of_cell ca
  have lcb : w.heap.size + 1 < w2.heap.size := lt_of_cell cb
  have hB : Below w.heap.size w w2 := Below.trans hB (hb.mono hs)
  have hs := hB.size
  clear hb
  go_wp2_with fail
  go_region_held3 (fun x => x.cell? ⟨w.heap.size, 0, none⟩ = some (.slice A n c) ∧ x.cell? ⟨w.heap.size + 1, 0, none⟩ = some (.slice B m d)) ((repeat' apply And.intro) <;> (first | assumption | (simp [*]; done)))
    (first
      | (go_at_call_of 20 (Value.slice A n c); refine (toLabel_any A n c xs _ (by exact hI) HN.out (by omega)).mono ?_; rintro e w3 ⟨rfl, hb, ga⟩; have ca : w3.cell? ⟨w.heap.size, 0, none⟩ = some (.slice A n c) := Below.keeps hb ca; have cb : w3.cell? ⟨w.heap.size + 1, 0, none⟩ = some (.slice B m d) := Below.keeps hb cb; have hI : Ints w3 A xs := Ints.keep hI (fun _ _ h => Below.keeps hb h); have hJ : Ints w3 B ys := Ints.keep hJ (fun _ _ h => Below.keeps hb h); have lca : w.heap.size < w3.heap.size := lt_of_cell ca; have lcb : w.heap.size + 1 < w3.heap.size := lt_of_cell cb; have hB : Below w.heap.size w w3 := Below.trans hB.drew (hb.mono hs); have hs := hB.size)
      | (go_at_call_of 20 (Value.slice B m d); refine (toLabel_any B m d ys _ (by exact hJ) HM.out (by omega)).mono ?_; rintro e w4 ⟨rfl, hb, gb⟩; have ca : w4.cell? ⟨w.heap.size, 0, none⟩ = some (.slice A n c) := Below.keeps hb ca; have cb : w4.cell? ⟨w.heap.size + 1, 0, none⟩ = some (.slice B m d) := Below.keeps hb cb; have hI : Ints w4 A xs := Ints.keep hI (fun _ _ h => Below.keeps hb h); have hJ : Ints w4 B ys := Ints.keep hJ (fun _ _ h => Below.keeps hb h); have ga : IBlk w4 (w2.drew.heap.size + 3) xs := keepblk hb ga; have lca : w.heap.size < w4.heap.size := lt_of_cell ca; have lcb : w.heap.size + 1 < w4.heap.size := lt_of_cell cb; have hB : Below w.heap.size w w4 := Below.trans hB (hb.mono hs); have hs := hB.size)
      | (go_at_call 35; refine (specFlows_any _ _ _ _ _ _ xs ys _ (by exact ga.ints) HN.out (by omega) (by exact gb.ints) HM.out (by omega)).mono ?_; rintro e w5 ⟨rfl, hb⟩; have ca : w5.cell? ⟨w.heap.size, 0, none⟩ = some (.slice A n c) := Below.keeps hb ca; have cb : w5.cell? ⟨w.heap.size + 1, 0, none⟩ = some (.slice B m d) := Below.keeps hb cb; have hI : Ints w5 A xs := Ints.keep hI (fun _ _ h => Below.keeps hb h); have hJ : Ints w5 B ys := Ints.keep hJ (fun _ _ h => Below.keeps hb h); have ga : IBlk w5 (w2.drew.heap.size + 3) xs := keepblk hb ga; have gb : IBlk w5 (w3.heap.size + 3) ys := keepblk hb gb; have lca : w.heap.size < w5.heap.size := lt_of_cell ca; have lcb : w.heap.size + 1 < w5.heap.size := lt_of_cell cb; have hB : Below w.heap.size w w5 := Below.trans hB (hb.mono hs); have hs := hB.size))
  try clear hb
  clear ga gb
  go_wp2_with fail
  refine (toLabel_any A n c xs _ hI HN.out (by omega)).mono ?_
  rintro e w6 ⟨rfl, hb, ga⟩
  have ca : w6.cell? ⟨w.heap.size, 0, none⟩ = some (.slice A n c) := Below.keeps hb ca
  have cb : w6.cell? ⟨w.heap.size + 1, 0, none⟩ = some (.slice B m d) := Below.keeps hb cb
  have hI : Ints w6 A xs := Ints.keep hI (fun _ _ h => Below.keeps hb h)
  have hJ : Ints w6 B ys := Ints.keep hJ (fun _ _ h => Below.keeps hb h)
  have lca : w.heap.size < w6.heap.size := lt_of_cell ca
  have lcb : w.heap.size + 1 < w6.heap.size := lt_of_cell cb
  have hB : Below w.heap.size w w6 := Below.trans hB (hb.mono hs)
  have hs := hB.size
  clear hb
  go_wp2_with fail
  refine (toLabel_any B m d ys _ (Ints.alloc hJ _) HM.out (by omega)).mono ?_
  rintro e w7 ⟨rfl, hb, gb⟩
  have ca : w7.cell? ⟨w.heap.size, 0, none⟩ = some (.slice A n c) := Below.keeps hb (cell_alloc_ ca)
  have cb : w7.cell? ⟨w.heap.size + 1, 0, none⟩ = some (.slice B m d) := Below.keeps hb (cell_alloc_ cb)
  have hI : Ints w7 A xs := Ints.below (Ints.alloc hI _) hb
  have hJ : Ints w7 B ys := Ints.below (Ints.alloc hJ _) hb
  have ga : IBlk w7 (w5.heap.size + 3) xs := keepblk hb (IBlk.alloc ga _)
  have lca : w.heap.size < w7.heap.size := lt_of_cell ca
  have lcb : w.heap.size + 1 < w7.heap.size := lt_of_cell cb
  have xa : w7.cell? ⟨w6.heap.size, 0, none⟩ = some (.slice (some ⟨w5.heap.size + 3, 0, none⟩) n n) := Below.keeps hb (by simp)
  have lxa : w6.heap.size < w7.heap.size := lt_of_cell xa
  have hB : Below w.heap.size w w7 := Below.trans (hB.alloc (by (try simp) <;> omega) _) (hb.mono (by (try simp) <;> omega))
  have hs := hB.size
  clear hb
  have gb : IBlk w7 (w6.heap.size + 4) ys := by simpa [Nat.add_assoc, Nat.add_comm] using gb
  go_wp2_with fail
  refine (implFlows_any _ _ _ _ _ _ xs ys _ (Ints.alloc ga.ints _) HN.out (by omega) (Ints.alloc gb.ints _) HM.out (by omega)).mono ?_
  rintro e w8 ⟨rfl, hb⟩
  have ca : w8.cell? ⟨w.heap.size, 0, none⟩ = some (.slice A n c) := Below.keeps hb (cell_alloc_ ca)
  have cb : w8.cell? ⟨w.heap.size + 1, 0, none⟩ = some (.slice B m d) := Below.keeps hb (cell_alloc_ cb)
  have hI : Ints w8 A xs := Ints.below (Ints.alloc hI _) hb
  have hJ : Ints w8 B ys := Ints.below (Ints.alloc hJ _) hb
  have ga : IBlk w8 (w5.heap.size + 3) xs := keepblk hb (IBlk.alloc ga _)
  have xa : w8.cell? ⟨w6.heap.size, 0, none⟩ = some (.slice (some ⟨w5.heap.size + 3, 0, none⟩) n n) := Below.keeps hb (cell_alloc_ xa)
  have gb : IBlk w8 (w6.heap.size + 4) ys := keepblk hb (IBlk.alloc gb _)
  have lca : w.heap.size < w8.heap.size := lt_of_cell ca
  have lcb : w.heap.size + 1 < w8.heap.size := lt_of_cell cb
  have lxa : w6.heap.size < w8.heap.size := lt_of_cell xa
  have xb : w8.cell? ⟨w7.heap.size, 0, none⟩ = some (.slice (some ⟨w6.heap.size + 4, 0, none⟩) m m) := Below.keeps hb (by simp)
  have lxb : w7.heap.size < w8.heap.size := lt_of_cell xb
  have hB : Below w.heap.size w w8 := Below.trans (hB.alloc (by (try simp) <;> omega) _) (hb.mono (by (try simp) <;> omega))
  have hs := hB.size
  clear hb
  go_wp2_with fail
  go_region_held3 (fun x => x.cell? ⟨w.heap.size, 0, none⟩ = some (.slice A n c) ∧ x.cell? ⟨w.heap.size + 1, 0, none⟩ = some (.slice B m d) ∧ x.cell? ⟨w6.heap.size, 0, none⟩ = some (.slice (some ⟨w5.heap.size + 3, 0, none⟩) n n) ∧ x.cell? ⟨w7.heap.size, 0, none⟩ = some (.slice (some ⟨w6.heap.size + 4, 0, none⟩) m m)) ((repeat' apply And.intro) <;> (first | assumption | (simp [*]; done)))
    (first
      | (go_at_call 20; refine (toLabel_any A n c xs _ (by exact hI) HN.out (by omega)).mono ?_; rintro e w9 ⟨rfl, hb, gc⟩; have ca : w9.cell? ⟨w.heap.size, 0, none⟩ = some (.slice A n c) := Below.keeps hb ca; have cb : w9.cell? ⟨w.heap.size + 1, 0, none⟩ = some (.slice B m d) := Below.keeps hb cb; have hI : Ints w9 A xs := Ints.keep hI (fun _ _ h => Below.keeps hb h); have hJ : Ints w9 B ys := Ints.keep hJ (fun _ _ h => Below.keeps hb h); have ga : IBlk w9 (w5.heap.size + 3) xs := keepblk hb ga; have xa : w9.cell? ⟨w6.heap.size, 0, none⟩ = some (.slice (some ⟨w5.heap.size + 3, 0, none⟩) n n) := Below.keeps hb xa; have gb : IBlk w9 (w6.heap.size + 4) ys := keepblk hb gb; have xb : w9.cell? ⟨w7.heap.size, 0, none⟩ = some (.slice (some ⟨w6.heap.size + 4, 0, none⟩) m m) := Below.keeps hb xb; have lca : w.heap.size < w9.heap.size := lt_of_cell ca; have lcb : w.heap.size + 1 < w9.heap.size := lt_of_cell cb; have lxa : w6.heap.size < w9.heap.size := lt_of_cell xa; have lxb : w7.heap.size < w9.heap.size := lt_of_cell xb; have hB : Below w.heap.size w w9 := Below.trans hB.drew (hb.mono hs); have hs := hB.size)
      | (go_at_call 22; refine (eqLabel_any _ _ _ _ _ _ xs xs _ (by exact ga.ints) (by exact gc.ints) HN.out HN.out (by omega) (by omega)).mono ?_; rintro e w10 ⟨rfl, hb⟩; have ca : w10.cell? ⟨w.heap.size, 0, none⟩ = some (.slice A n c) := Below.keeps hb ca; have cb : w10.cell? ⟨w.heap.size + 1, 0, none⟩ = some (.slice B m d) := Below.keeps hb cb; have hI : Ints w10 A xs := Ints.keep hI (fun _ _ h => Below.keeps hb h); have hJ : Ints w10 B ys := Ints.keep hJ (fun _ _ h => Below.keeps hb h); have ga : IBlk w10 (w5.heap.size + 3) xs := keepblk hb ga; have xa : w10.cell? ⟨w6.heap.size, 0, none⟩ = some (.slice (some ⟨w5.heap.size + 3, 0, none⟩) n n) := Below.keeps hb xa; have gb : IBlk w10 (w6.heap.size + 4) ys := keepblk hb gb; have xb : w10.cell? ⟨w7.heap.size, 0, none⟩ = some (.slice (some ⟨w6.heap.size + 4, 0, none⟩) m m) := Below.keeps hb xb; have gc : IBlk w10 (w8.drew.heap.size + 3) xs := keepblk hb gc; have lca : w.heap.size < w10.heap.size := lt_of_cell ca; have lcb : w.heap.size + 1 < w10.heap.size := lt_of_cell cb; have lxa : w6.heap.size < w10.heap.size := lt_of_cell xa; have lxb : w7.heap.size < w10.heap.size := lt_of_cell xb; have hB : Below w.heap.size w w10 := Below.trans hB (hb.mono hs); have hs := hB.size; rw [eqB_self]))
  try clear hb
  clear gc
  go_wp2_with fail
  go_region_held3 (fun x => x.cell? ⟨w.heap.size, 0, none⟩ = some (.slice A n c) ∧ x.cell? ⟨w.heap.size + 1, 0, none⟩ = some (.slice B m d) ∧ x.cell? ⟨w6.heap.size, 0, none⟩ = some (.slice (some ⟨w5.heap.size + 3, 0, none⟩) n n) ∧ x.cell? ⟨w7.heap.size, 0, none⟩ = some (.slice (some ⟨w6.heap.size + 4, 0, none⟩) m m)) ((repeat' apply And.intro) <;> (first | assumption | (simp [*]; done)))
    (first
      | (go_at_call 20; refine (toLabel_any B m d ys _ (by exact hJ) HM.out (by omega)).mono ?_; rintro e w11 ⟨rfl, hb, gc⟩; have ca : w11.cell? ⟨w.heap.size, 0, none⟩ = some (.slice A n c) := Below.keeps hb ca; have cb : w11.cell? ⟨w.heap.size + 1, 0, none⟩ = some (.slice B m d) := Below.keeps hb cb; have hI : Ints w11 A xs := Ints.keep hI (fun _ _ h => Below.keeps hb h); have hJ : Ints w11 B ys := Ints.keep hJ (fun _ _ h => Below.keeps hb h); have ga : IBlk w11 (w5.heap.size + 3) xs := keepblk hb ga; have xa : w11.cell? ⟨w6.heap.size, 0, none⟩ = some (.slice (some ⟨w5.heap.size + 3, 0, none⟩) n n) := Below.keeps hb xa; have gb : IBlk w11 (w6.heap.size + 4) ys := keepblk hb gb; have xb : w11.cell? ⟨w7.heap.size, 0, none⟩ = some (.slice (some ⟨w6.heap.size + 4, 0, none⟩) m m) := Below.keeps hb xb; have lca : w.heap.size < w11.heap.size := lt_of_cell ca; have lcb : w.heap.size + 1 < w11.heap.size := lt_of_cell cb; have lxa : w6.heap.size < w11.heap.size := lt_of_cell xa; have lxb : w7.heap.size < w11.heap.size := lt_of_cell xb; have hB : Below w.heap.size w w11 := Below.trans hB.drew (hb.mono hs); have hs := hB.size)
      | (go_at_call 22; refine (eqLabel_any _ _ _ _ _ _ ys ys _ (by exact gb.ints) (by exact gc.ints) HM.out HM.out (by omega) (by omega)).mono ?_; rintro e w12 ⟨rfl, hb⟩; have ca : w12.cell? ⟨w.heap.size, 0, none⟩ = some (.slice A n c) := Below.keeps hb ca; have cb : w12.cell? ⟨w.heap.size + 1, 0, none⟩ = some (.slice B m d) := Below.keeps hb cb; have hI : Ints w12 A xs := Ints.keep hI (fun _ _ h => Below.keeps hb h); have hJ : Ints w12 B ys := Ints.keep hJ (fun _ _ h => Below.keeps hb h); have ga : IBlk w12 (w5.heap.size + 3) xs := keepblk hb ga; have xa : w12.cell? ⟨w6.heap.size, 0, none⟩ = some (.slice (some ⟨w5.heap.size + 3, 0, none⟩) n n) := Below.keeps hb xa; have gb : IBlk w12 (w6.heap.size + 4) ys := keepblk hb gb; have xb : w12.cell? ⟨w7.heap.size, 0, none⟩ = some (.slice (some ⟨w6.heap.size + 4, 0, none⟩) m m) := Below.keeps hb xb; have gc : IBlk w12 (w10.drew.heap.size + 3) ys := keepblk hb gc; have lca : w.heap.size < w12.heap.size := lt_of_cell ca; have lcb : w.heap.size + 1 < w12.heap.size := lt_of_cell cb; have lxa : w6.heap.size < w12.heap.size := lt_of_cell xa; have lxb : w7.heap.size < w12.heap.size := lt_of_cell xb; have hB : Below w.heap.size w w12 := Below.trans hB (hb.mono hs); have hs := hB.size; rw [eqB_self]))
  try clear hb
  clear gc
  go_wp2_with fail
  go_ret
  exact ⟨rfl, hB⟩
theorem flows_walk (A : Option Addr) (n c : Nat) (xs : List Int) (B : Option Addr) (m d : Nat) (ys : List Int) (w : World) (hI : Ints w A xs) (hn : xs.length = n) (hmx : n ≤ 9223372036854775807) (hJ : Ints w B ys) (hm : ys.length = m) (hmy : m ≤ 9223372036854775807) :
    Calls Try.prog 10 #[lab A n c, lab B m d] w fun e w' => e = .returned (.bool true) ∧ Below w.heap.size w w' := by
  by_cases h1 : (1048576 : Int) - n < 0
  · exact flows_big1 A B n m c d xs ys w hI hn hmx hJ hm hmy h1
  · by_cases h2 : (1048576 : Int) - n - m < 0
    · exact flows_big2 A B n m c d xs ys w hI hn hmx hJ hm hmy h1 h2
    · exact flows_main A B n m c d xs ys w hI hn hmx hJ hm hmy h1 h2
set_option linter.unusedVariables false in
set_option maxRecDepth 100000 in
theorem FnExactFlows_lifted (os : Os) (started : os.Started) (H : Type) (enc : TypeId × Value → H) :
    ReturnsInHanded {} Try.checked os 10 .any (Rows.fnExactFlowsSpec.pre6 enc Try.prog Try.f10 Rows.fnExactFlowsRow.domain false) (Rows.fnExactFlowsSpec.post enc Try.prog Try.f10 false true false false) := by
  refine returnsInHanded_of_change (C := Try.checked) own started (by kernel_rfl) Try.func10
    (ChangeSpec.witness6 (enc := enc) (C := Try.checked) false ⟨#[], #[.agg #[.slice none 0 0], .agg #[.slice none 0 0]], []⟩ 8 (by kernel_rfl) (by kernel_rfl) (by kernel_rfl) (by kernel_rfl)) ?_
  intro W base args ds gs before hval0 hW hcnd _
  have hval : ∀ (j : Nat) t v, Try.f10.params[j]? = some t → args[j]? = some v → Value.okWide Try.prog W .any base t v := hval0
  have hW' := hW
  obtain ⟨p, q, hA0, hV, rfl, hfz, hnd⟩ := hW
  have hA : DataW.TrodAll enc Try.prog W 0 (fun _ => true) true Try.f10.params.toList args.toList ds p := hA0
  rw [Try.params10] at hA hval
  obtain ⟨v0, vs0, d0, ds0, p0, q0, hargs, rfl, rfl, h0, r0⟩ := trodAll_cons hA
  obtain ⟨v1, vs1, d1, ds1, p1, q1, rfl, rfl, rfl, h1, r1⟩ := trodAll_cons r0
  obtain ⟨rfl, rfl, rfl⟩ := trodAll_nil r1
  obtain rfl : args = #[v0, v1] := by cases args; simp_all
  obtain ⟨rfl, rfl⟩ := trodVars_none hV
  have k0 := h0
  have lt0 : ∀ x ∈ p0, x.block < W.heap.size := by obtain ⟨m, hm⟩ := k0; exact DataW.trod_lt m _ _ _ hm
  obtain ⟨b0, len0, cap0, z0, rfl, row0, ln0, mx0⟩ := open_label (hval 0 27 v0 rfl rfl) h0
  have k1 := h1
  have lt1 : ∀ x ∈ p1, x.block < W.heap.size := by obtain ⟨m, hm⟩ := k1; exact DataW.trod_lt m _ _ _ hm
  obtain ⟨b1, len1, cap1, z1, rfl, row1, ln1, mx1⟩ := open_label (hval 1 27 v1 rfl rfl) h1
  clear hA0 hval0
  refine (flows_walk b0 len0 cap0 z0 b1 len1 cap1 z1 W row0 ln0 mx0 row1 ln1 mx1).mono fun e W' ⟨he, bel⟩ => ?_
  subst he
  exact ⟨_, rfl, _, _, _, [], _, [], hW', trodAll_mk1 (shut_bool Try.underlying4 _), (trodAll_cons_mk (Below.trod laidOut (by kernel_rfl) (of_decide_eq_true (by kernel_rfl)) k0 bel lt0) (trodAll_cons_mk (Below.trod laidOut (by kernel_rfl) (of_decide_eq_true (by kernel_rfl)) k1 bel lt1) trodAll_mk0)), rfl, bel.frame _, fun h => by cases h⟩
/-- THE STATEMENT -/
theorem FnExactFlows_holds : Rows.FnExactFlowsSaid :=
  OpenClaim.holds_of_wide 10 Try.f10 rfl rfl rfl rfl rfl rfl rfl ⟨rfl, rfl, rfl, rfl, rfl⟩ rfl rfl rfl rfl rfl (by kernel_rfl) Try.func10 (by kernel_rfl)
    (of_decide_eq_true (by kernel_rfl)) (by unfold Func.isWrapper; first | (rw [if_pos (by decide +kernel)]; kernel_rfl) | (rw [if_neg (by decide +kernel)]; exact ⟨rfl, rfl⟩))
    (fun os started H enc _ => FnExactFlows_lifted os started H enc)

end Go.Proofs.Ytkcchceoljlnaaa
