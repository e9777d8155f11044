/- FnExactFlowsFor: the program's FlowsFor returns what the reference's returns. No condition. -/
import Derived.Test.YtkcchceoljlnaaaFlowsP
import Derived.Test.YtkcchceoljlnaaaOpenI
import Derived.Deep.RegionHeld3
import Derived.Deep.DrawnRows
namespace Go.Proofs.Ytkcchceoljlnaaa
set_option linter.unusedSimpArgs false
set_option linter.unusedVariables false
open Go.Joins Go.ChangeShapes Go.WideShapes Go.ChangeAt Go.RowKit Go.Deep
open Go.ChangeMaps (open_string shut_string)
attribute [local go_sem ↓] Go.wp_at_zero Go.wp_at_succ

set_option maxHeartbeats 1600000 in
theorem flowsFor_big0 (O : Option Addr) (q e0 : Nat) (os : List Int) (A : Option Addr) (n c : Nat) (xs : List Int) (B : Option Addr) (m d : Nat) (ys : List Int) (w : World) (hK : Ints w O os) (ho : os.length = q) (hmo : q ≤ 9223372036854775807) (hI : Ints w A xs) (hn : xs.length = n) (hmx : n ≤ 9223372036854775807) (hJ : Ints w B ys) (hm : ys.length = m) (hmy : m ≤ 9223372036854775807) (hbig : 1048576 < q) :
    Calls Try.prog 11 #[.slice O q e0, lab A n c, lab B m d] w fun e w' => e = .returned (.bool true) ∧ Below w.heap.size w w' := by
  have hbig2 : (1048576 : Int) < (q : Int) := by omega
  clear hI hJ hK hn hm ho
  go_enter Try.func11, Try.ntmps11
  go_wp2_with fail
  go_ret
  exact ⟨rfl, (by (repeat (first | exact Below.refl _ _ | assumption | refine Below.drew ?_ | refine Below.alloc ?_ ?_ _ | refine Below.setCell ?_ ?_ _)) <;> ((try simp) <;> omega))⟩
set_option maxHeartbeats 1600000 in
theorem flowsFor_big1 (O : Option Addr) (q e0 : Nat) (os : List Int) (A : Option Addr) (n c : Nat) (xs : List Int) (B : Option Addr) (m d : Nat) (ys : List Int) (w : World) (hK : Ints w O os) (ho : os.length = q) (hmo : q ≤ 9223372036854775807) (hI : Ints w A xs) (hn : xs.length = n) (hmx : n ≤ 9223372036854775807) (hJ : Ints w B ys) (hm : ys.length = m) (hmy : m ≤ 9223372036854775807) (hq : q ≤ 1048576) (hbig : (1048576 : Int) - n < 0) :
    Calls Try.prog 11 #[.slice O q e0, lab A n c, lab B m d] w fun e w' => e = .returned (.bool true) ∧ Below w.heap.size w w' := by
  clear hI hJ hK hn hm ho
  go_enter Try.func11, Try.ntmps11
  go_wp2_with fail
  refine (szLabel_no A n c 1048576 _ hmx (by omega) (by omega) (by omega)).mono ?_
  rintro e w1 ⟨rfl, hb⟩
  have ca : w1.cell? ⟨w.heap.size, 0, none⟩ = some (.slice A n c) := Below.keeps hb (by simp)
  have cb : w1.cell? ⟨w.heap.size + 1, 0, none⟩ = some (.slice B m d) := Below.keeps hb (by simp)
  have lca : w.heap.size < w1.heap.size := lt_of_cell ca
  have lcb : w.heap.size + 1 < w1.heap.size := lt_of_cell cb
  have hB : Below w.heap.size w w1 := Below.trans (by (repeat (first | exact Below.refl _ _ | assumption | refine Below.drew ?_ | refine Below.alloc ?_ ?_ _ | refine Below.setCell ?_ ?_ _)) <;> ((try simp) <;> omega)) (hb.mono (by (try simp) <;> omega))
  have hs := hB.size
  clear hb
  go_wp2_with fail
  go_ret
  exact ⟨rfl, hB⟩
set_option maxHeartbeats 1600000 in
theorem flowsFor_big2 (O : Option Addr) (q e0 : Nat) (os : List Int) (A : Option Addr) (n c : Nat) (xs : List Int) (B : Option Addr) (m d : Nat) (ys : List Int) (w : World) (hK : Ints w O os) (ho : os.length = q) (hmo : q ≤ 9223372036854775807) (hI : Ints w A xs) (hn : xs.length = n) (hmx : n ≤ 9223372036854775807) (hJ : Ints w B ys) (hm : ys.length = m) (hmy : m ≤ 9223372036854775807) (hq : q ≤ 1048576) (hok : ¬ (1048576 : Int) - n < 0) (hbig : (1048576 : Int) - n - m < 0) :
    Calls Try.prog 11 #[.slice O q e0, lab A n c, lab B m d] w fun e w' => e = .returned (.bool true) ∧ Below w.heap.size w w' := by
  clear hI hJ hK hn hm ho
  go_enter Try.func11, Try.ntmps11
  go_wp2_with fail
  refine (szLabel_yes A n c 1048576 _ hmx (by omega) (by omega) (by omega)).mono ?_
  rintro e w1 ⟨rfl, hb⟩
  have ca : w1.cell? ⟨w.heap.size, 0, none⟩ = some (.slice A n c) := Below.keeps hb (by simp)
  have cb : w1.cell? ⟨w.heap.size + 1, 0, none⟩ = some (.slice B m d) := Below.keeps hb (by simp)
  have lca : w.heap.size < w1.heap.size := lt_of_cell ca
  have lcb : w.heap.size + 1 < w1.heap.size := lt_of_cell cb
  have hB : Below w.heap.size w w1 := Below.trans (by (repeat (first | exact Below.refl _ _ | assumption | refine Below.drew ?_ | refine Below.alloc ?_ ?_ _ | refine Below.setCell ?_ ?_ _)) <;> ((try simp) <;> omega)) (hb.mono (by (try simp) <;> omega))
  have hs := hB.size
  clear hb
  go_wp2_with fail
  refine (szLabel_no B m d (1048576 - n) _ hmy (by omega) (by omega) (by omega)).mono ?_
  rintro e w2 ⟨rfl, hb⟩
  have ca : w2.cell? ⟨w.heap.size, 0, none⟩ = some (.slice A n c) := Below.keeps hb ca
  have cb : w2.cell? ⟨w.heap.size + 1, 0, none⟩ = some (.slice B m d) := Below.keeps hb cb
  have lca : w.heap.size < w2.heap.size := lt_of_cell ca
  have lcb : w.heap.size + 1 < w2.heap.size := lt_of_cell cb
  have hB : Below w.heap.size w w2 := Below.trans hB (hb.mono hs)
  have hs := hB.size
  clear hb
  go_wp2_with fail
  go_ret
  exact ⟨rfl, hB⟩
set_option maxHeartbeats 12800000 in
theorem flowsFor_main (O : Option Addr) (q e0 : Nat) (os : List Int) (A : Option Addr) (n c : Nat) (xs : List Int) (B : Option Addr) (m d : Nat) (ys : List Int) (w : World) (hK : Ints w O os) (ho : os.length = q) (hmo : q ≤ 9223372036854775807) (hI : Ints w A xs) (hn : xs.length = n) (hmx : n ≤ 9223372036854775807) (hJ : Ints w B ys) (hm : ys.length = m) (hmy : m ≤ 9223372036854775807) (hq : q ≤ 1048576) (hok : ¬ (1048576 : Int) - n < 0) (hok2 : ¬ (1048576 : Int) - n - m < 0) :
    Calls Try.prog 11 #[.slice O q e0, lab A n c, lab B m d] w fun e w' => e = .returned (.bool true) ∧ Below w.heap.size w w' := by
  have HO := Lib.hid ho; have HN := Lib.hid hn; have HM := Lib.hid hm
  clear hn hm ho
  go_enter Try.func11, Try.ntmps11
  go_wp2_with fail
  refine (szLabel_yes A n c 1048576 _ hmx (by omega) (by omega) (by omega)).mono ?_
  rintro e w1 ⟨rfl, hb⟩
  have ca : w1.cell? ⟨w.heap.size, 0, none⟩ = some (.slice A n c) := Below.keeps hb (by simp)
  have cb : w1.cell? ⟨w.heap.size + 1, 0, none⟩ = some (.slice B m d) := Below.keeps hb (by simp)
  have hK : Ints w1 O os := Ints.below (Ints.alloc (Ints.alloc hK _) _) hb
  have hI : Ints w1 A xs := Ints.below (Ints.alloc (Ints.alloc hI _) _) hb
  have hJ : Ints w1 B ys := Ints.below (Ints.alloc (Ints.alloc hJ _) _) hb
  have lca : w.heap.size < w1.heap.size := lt_of_cell ca
  have lcb : w.heap.size + 1 < w1.heap.size := lt_of_cell cb
  have hB : Below w.heap.size w w1 := Below.trans (by (repeat (first | exact Below.refl _ _ | assumption | refine Below.drew ?_ | refine Below.alloc ?_ ?_ _ | refine Below.setCell ?_ ?_ _)) <;> ((try simp) <;> omega)) (hb.mono (by (try simp) <;> omega))
  have hs := hB.size
  clear hb
  go_wp2_with fail
  refine (szLabel_yes B m d (1048576 - n) _ hmy (by omega) (by omega) (by omega)).mono ?_
  rintro e w2 ⟨rfl, hb⟩
  have ca : w2.cell? ⟨w.heap.size, 0, none⟩ = some (.slice A n c) := Below.keeps hb ca
  have cb : w2.cell? ⟨w.heap.size + 1, 0, none⟩ = some (.slice B m d) := Below.keeps hb cb
  have hK : Ints w2 O os := Ints.keep hK (fun _ _ h => Below.keeps hb h)
  have hI : Ints w2 A xs := Ints.keep hI (fun _ _ h => Below.keeps hb h)
  have hJ : Ints w2 B ys := Ints.keep hJ (fun _ _ h => Below.keeps hb h)
  have lca : w.heap.size < w2.heap.size := lt_of_cell ca
  have lcb : w.heap.size + 1 < w2.heap.size := lt_of_cell cb
  have hB : Below w.heap.size w w2 := Below.trans hB (hb.mono hs)
  have hs := hB.size
  clear hb
  go_wp2_with fail
  go_region_held3 (fun x => x.cell? ⟨w.heap.size, 0, none⟩ = some (.slice A n c) ∧ x.cell? ⟨w.heap.size + 1, 0, none⟩ = some (.slice B m d)) ((repeat' apply And.intro) <;> (first | assumption | (simp [*]; done)))
    (first
      | (go_at_call 15; refine (toIntS_any O q e0 os _ (by exact hK) HO.out (by omega)).mono ?_; rintro e w3 ⟨rfl, hb, gk⟩; have ca : w3.cell? ⟨w.heap.size, 0, none⟩ = some (.slice A n c) := Below.keeps hb ca; have cb : w3.cell? ⟨w.heap.size + 1, 0, none⟩ = some (.slice B m d) := Below.keeps hb cb; have hK : Ints w3 O os := Ints.keep hK (fun _ _ h => Below.keeps hb h); have hI : Ints w3 A xs := Ints.keep hI (fun _ _ h => Below.keeps hb h); have hJ : Ints w3 B ys := Ints.keep hJ (fun _ _ h => Below.keeps hb h); have lca : w.heap.size < w3.heap.size := lt_of_cell ca; have lcb : w.heap.size + 1 < w3.heap.size := lt_of_cell cb; have hB : Below w.heap.size w w3 := Below.trans hB.drew (hb.mono hs); have hs := hB.size)
      | (go_at_call_of 20 (Value.slice A n c); refine (toLabel_any A n c xs _ (by exact hI) HN.out (by omega)).mono ?_; rintro e w4 ⟨rfl, hb, ga⟩; have ca : w4.cell? ⟨w.heap.size, 0, none⟩ = some (.slice A n c) := Below.keeps hb ca; have cb : w4.cell? ⟨w.heap.size + 1, 0, none⟩ = some (.slice B m d) := Below.keeps hb cb; have hK : Ints w4 O os := Ints.keep hK (fun _ _ h => Below.keeps hb h); have hI : Ints w4 A xs := Ints.keep hI (fun _ _ h => Below.keeps hb h); have hJ : Ints w4 B ys := Ints.keep hJ (fun _ _ h => Below.keeps hb h); have gk : IBlk w4 w2.drew.heap.size os := keepblk hb gk; have lca : w.heap.size < w4.heap.size := lt_of_cell ca; have lcb : w.heap.size + 1 < w4.heap.size := lt_of_cell cb; have hB : Below w.heap.size w w4 := Below.trans hB (hb.mono hs); have hs := hB.size)
      | (go_at_call_of 20 (Value.slice B m d); refine (toLabel_any B m d ys _ (by exact hJ) HM.out (by omega)).mono ?_; rintro e w5 ⟨rfl, hb, gb⟩; have ca : w5.cell? ⟨w.heap.size, 0, none⟩ = some (.slice A n c) := Below.keeps hb ca; have cb : w5.cell? ⟨w.heap.size + 1, 0, none⟩ = some (.slice B m d) := Below.keeps hb cb; have hK : Ints w5 O os := Ints.keep hK (fun _ _ h => Below.keeps hb h); have hI : Ints w5 A xs := Ints.keep hI (fun _ _ h => Below.keeps hb h); have hJ : Ints w5 B ys := Ints.keep hJ (fun _ _ h => Below.keeps hb h); have gk : IBlk w5 w2.drew.heap.size os := keepblk hb gk; have ga : IBlk w5 (w3.heap.size + 3) xs := keepblk hb ga; have lca : w.heap.size < w5.heap.size := lt_of_cell ca; have lcb : w.heap.size + 1 < w5.heap.size := lt_of_cell cb; have hB : Below w.heap.size w w5 := Below.trans hB (hb.mono hs); have hs := hB.size)
      | (go_at_call 37; refine (specFlowsFor_any _ _ _ _ _ _ _ _ _ os xs ys _ (by exact gk.ints) HO.out (by omega) (by exact ga.ints) HN.out (by omega) (by exact gb.ints) HM.out (by omega)).mono ?_; rintro e w6 ⟨rfl, hb⟩; have ca : w6.cell? ⟨w.heap.size, 0, none⟩ = some (.slice A n c) := Below.keeps hb ca; have cb : w6.cell? ⟨w.heap.size + 1, 0, none⟩ = some (.slice B m d) := Below.keeps hb cb; have hK : Ints w6 O os := Ints.keep hK (fun _ _ h => Below.keeps hb h); have hI : Ints w6 A xs := Ints.keep hI (fun _ _ h => Below.keeps hb h); have hJ : Ints w6 B ys := Ints.keep hJ (fun _ _ h => Below.keeps hb h); have gk : IBlk w6 w2.drew.heap.size os := keepblk hb gk; have ga : IBlk w6 (w3.heap.size + 3) xs := keepblk hb ga; have gb : IBlk w6 (w4.heap.size + 3) ys := keepblk hb gb; have lca : w.heap.size < w6.heap.size := lt_of_cell ca; have lcb : w.heap.size + 1 < w6.heap.size := lt_of_cell cb; have hB : Below w.heap.size w w6 := Below.trans hB (hb.mono hs); have hs := hB.size))
  try clear hb
  clear ga gb gk
  go_wp2_with fail
  refine (toIntS_any O q e0 os _ hK HO.out (by omega)).mono ?_
  rintro e w7 ⟨rfl, hb, gk⟩
  have ca : w7.cell? ⟨w.heap.size, 0, none⟩ = some (.slice A n c) := Below.keeps hb ca
  have cb : w7.cell? ⟨w.heap.size + 1, 0, none⟩ = some (.slice B m d) := Below.keeps hb cb
  have hK : Ints w7 O os := Ints.keep hK (fun _ _ h => Below.keeps hb h)
  have hI : Ints w7 A xs := Ints.keep hI (fun _ _ h => Below.keeps hb h)
  have hJ : Ints w7 B ys := Ints.keep hJ (fun _ _ h => Below.keeps hb h)
  have lca : w.heap.size < w7.heap.size := lt_of_cell ca
  have lcb : w.heap.size + 1 < w7.heap.size := lt_of_cell cb
  have hB : Below w.heap.size w w7 := Below.trans hB (hb.mono hs)
  have hs := hB.size
  clear hb
  go_wp2_with fail
  refine (toLabel_any A n c xs _ hI HN.out (by omega)).mono ?_
  rintro e w8 ⟨rfl, hb, ga⟩
  have ca : w8.cell? ⟨w.heap.size, 0, none⟩ = some (.slice A n c) := Below.keeps hb ca
  have cb : w8.cell? ⟨w.heap.size + 1, 0, none⟩ = some (.slice B m d) := Below.keeps hb cb
  have hK : Ints w8 O os := Ints.keep hK (fun _ _ h => Below.keeps hb h)
  have hI : Ints w8 A xs := Ints.keep hI (fun _ _ h => Below.keeps hb h)
  have hJ : Ints w8 B ys := Ints.keep hJ (fun _ _ h => Below.keeps hb h)
  have gk : IBlk w8 w6.heap.size os := keepblk hb gk
  have lca : w.heap.size < w8.heap.size := lt_of_cell ca
  have lcb : w.heap.size + 1 < w8.heap.size := lt_of_cell cb
  have hB : Below w.heap.size w w8 := Below.trans hB (hb.mono hs)
  have hs := hB.size
  clear hb
  go_wp2_with fail
  refine (toLabel_any B m d ys _ (Ints.alloc hJ _) HM.out (by omega)).mono ?_
  rintro e w9 ⟨rfl, hb, gb⟩
  have ca : w9.cell? ⟨w.heap.size, 0, none⟩ = some (.slice A n c) := Below.keeps hb (cell_alloc_ ca)
  have cb : w9.cell? ⟨w.heap.size + 1, 0, none⟩ = some (.slice B m d) := Below.keeps hb (cell_alloc_ cb)
  have hK : Ints w9 O os := Ints.below (Ints.alloc hK _) hb
  have hI : Ints w9 A xs := Ints.below (Ints.alloc hI _) hb
  have hJ : Ints w9 B ys := Ints.below (Ints.alloc hJ _) hb
  have gk : IBlk w9 w6.heap.size os := keepblk hb (IBlk.alloc gk _)
  have ga : IBlk w9 (w7.heap.size + 3) xs := keepblk hb (IBlk.alloc ga _)
  have lca : w.heap.size < w9.heap.size := lt_of_cell ca
  have lcb : w.heap.size + 1 < w9.heap.size := lt_of_cell cb
  have xa : w9.cell? ⟨w8.heap.size, 0, none⟩ = some (.slice (some ⟨w7.heap.size + 3, 0, none⟩) n n) := Below.keeps hb (by simp)
  have lxa : w8.heap.size < w9.heap.size := lt_of_cell xa
  have hB : Below w.heap.size w w9 := Below.trans (hB.alloc (by (try simp) <;> omega) _) (hb.mono (by (try simp) <;> omega))
  have hs := hB.size
  clear hb
  have gb : IBlk w9 (w8.heap.size + 4) ys := by simpa [Nat.add_assoc, Nat.add_comm] using gb
  go_wp2_with fail
  refine (implFlowsFor_any _ _ _ _ _ _ _ _ _ os xs ys _ (Ints.alloc gk.ints _) HO.out (by omega) (Ints.alloc ga.ints _) HN.out (by omega) (Ints.alloc gb.ints _) HM.out (by omega)).mono ?_
  rintro e w10 ⟨rfl, hb⟩
  have ca : w10.cell? ⟨w.heap.size, 0, none⟩ = some (.slice A n c) := Below.keeps hb (cell_alloc_ ca)
  have cb : w10.cell? ⟨w.heap.size + 1, 0, none⟩ = some (.slice B m d) := Below.keeps hb (cell_alloc_ cb)
  have hK : Ints w10 O os := Ints.below (Ints.alloc hK _) hb
  have hI : Ints w10 A xs := Ints.below (Ints.alloc hI _) hb
  have hJ : Ints w10 B ys := Ints.below (Ints.alloc hJ _) hb
  have gk : IBlk w10 w6.heap.size os := keepblk hb (IBlk.alloc gk _)
  have ga : IBlk w10 (w7.heap.size + 3) xs := keepblk hb (IBlk.alloc ga _)
  have xa : w10.cell? ⟨w8.heap.size, 0, none⟩ = some (.slice (some ⟨w7.heap.size + 3, 0, none⟩) n n) := Below.keeps hb (cell_alloc_ xa)
  have gb : IBlk w10 (w8.heap.size + 4) ys := keepblk hb (IBlk.alloc gb _)
  have lca : w.heap.size < w10.heap.size := lt_of_cell ca
  have lcb : w.heap.size + 1 < w10.heap.size := lt_of_cell cb
  have lxa : w8.heap.size < w10.heap.size := lt_of_cell xa
  have xb : w10.cell? ⟨w9.heap.size, 0, none⟩ = some (.slice (some ⟨w8.heap.size + 4, 0, none⟩) m m) := Below.keeps hb (by simp)
  have lxb : w9.heap.size < w10.heap.size := lt_of_cell xb
  have hB : Below w.heap.size w w10 := Below.trans (hB.alloc (by (try simp) <;> omega) _) (hb.mono (by (try simp) <;> omega))
  have hs := hB.size
  clear hb
  go_wp2_with fail
  refine (toIntS_any O q e0 os _ hK HO.out (by omega)).mono ?_
  rintro e w11 ⟨rfl, hb, gc⟩
  have ca : w11.cell? ⟨w.heap.size, 0, none⟩ = some (.slice A n c) := Below.keeps hb ca
  have cb : w11.cell? ⟨w.heap.size + 1, 0, none⟩ = some (.slice B m d) := Below.keeps hb cb
  have hK : Ints w11 O os := Ints.keep hK (fun _ _ h => Below.keeps hb h)
  have hI : Ints w11 A xs := Ints.keep hI (fun _ _ h => Below.keeps hb h)
  have hJ : Ints w11 B ys := Ints.keep hJ (fun _ _ h => Below.keeps hb h)
  have gk : IBlk w11 w6.heap.size os := keepblk hb gk
  have ga : IBlk w11 (w7.heap.size + 3) xs := keepblk hb ga
  have xa : w11.cell? ⟨w8.heap.size, 0, none⟩ = some (.slice (some ⟨w7.heap.size + 3, 0, none⟩) n n) := Below.keeps hb xa
  have gb : IBlk w11 (w8.heap.size + 4) ys := keepblk hb gb
  have xb : w11.cell? ⟨w9.heap.size, 0, none⟩ = some (.slice (some ⟨w8.heap.size + 4, 0, none⟩) m m) := Below.keeps hb xb
  have lca : w.heap.size < w11.heap.size := lt_of_cell ca
  have lcb : w.heap.size + 1 < w11.heap.size := lt_of_cell cb
  have lxa : w8.heap.size < w11.heap.size := lt_of_cell xa
  have lxb : w9.heap.size < w11.heap.size := lt_of_cell xb
  have hB : Below w.heap.size w w11 := Below.trans hB (hb.mono hs)
  have hs := hB.size
  clear hb
  go_wp2_with fail
  refine (eqIntS_any _ _ _ _ _ _ os os _ gk.ints gc.ints HO.out HO.out (by omega) (by omega)).mono ?_
  rintro e w12 ⟨rfl, hb⟩
  have ca : w12.cell? ⟨w.heap.size, 0, none⟩ = some (.slice A n c) := Below.keeps hb ca
  have cb : w12.cell? ⟨w.heap.size + 1, 0, none⟩ = some (.slice B m d) := Below.keeps hb cb
  have hK : Ints w12 O os := Ints.keep hK (fun _ _ h => Below.keeps hb h)
  have hI : Ints w12 A xs := Ints.keep hI (fun _ _ h => Below.keeps hb h)
  have hJ : Ints w12 B ys := Ints.keep hJ (fun _ _ h => Below.keeps hb h)
  have gk : IBlk w12 w6.heap.size os := keepblk hb gk
  have ga : IBlk w12 (w7.heap.size + 3) xs := keepblk hb ga
  have xa : w12.cell? ⟨w8.heap.size, 0, none⟩ = some (.slice (some ⟨w7.heap.size + 3, 0, none⟩) n n) := Below.keeps hb xa
  have gb : IBlk w12 (w8.heap.size + 4) ys := keepblk hb gb
  have xb : w12.cell? ⟨w9.heap.size, 0, none⟩ = some (.slice (some ⟨w8.heap.size + 4, 0, none⟩) m m) := Below.keeps hb xb
  have gc : IBlk w12 w10.heap.size os := keepblk hb gc
  have lca : w.heap.size < w12.heap.size := lt_of_cell ca
  have lcb : w.heap.size + 1 < w12.heap.size := lt_of_cell cb
  have lxa : w8.heap.size < w12.heap.size := lt_of_cell xa
  have lxb : w9.heap.size < w12.heap.size := lt_of_cell xb
  have hB : Below w.heap.size w w12 := Below.trans hB (hb.mono hs)
  have hs := hB.size
  clear hb
  rw [eqB_self]
  clear gc
  go_wp2_with fail
  go_region_held3 (fun x => x.cell? ⟨w.heap.size, 0, none⟩ = some (.slice A n c) ∧ x.cell? ⟨w.heap.size + 1, 0, none⟩ = some (.slice B m d) ∧ x.cell? ⟨w8.heap.size, 0, none⟩ = some (.slice (some ⟨w7.heap.size + 3, 0, none⟩) n n) ∧ x.cell? ⟨w9.heap.size, 0, none⟩ = some (.slice (some ⟨w8.heap.size + 4, 0, none⟩) m m)) ((repeat' apply And.intro) <;> (first | assumption | (simp [*]; done)))
    (first
      | (go_at_call 20; refine (toLabel_any A n c xs _ (by exact hI) HN.out (by omega)).mono ?_; rintro e w13 ⟨rfl, hb, gc⟩; have ca : w13.cell? ⟨w.heap.size, 0, none⟩ = some (.slice A n c) := Below.keeps hb ca; have cb : w13.cell? ⟨w.heap.size + 1, 0, none⟩ = some (.slice B m d) := Below.keeps hb cb; have hK : Ints w13 O os := Ints.keep hK (fun _ _ h => Below.keeps hb h); have hI : Ints w13 A xs := Ints.keep hI (fun _ _ h => Below.keeps hb h); have hJ : Ints w13 B ys := Ints.keep hJ (fun _ _ h => Below.keeps hb h); have gk : IBlk w13 w6.heap.size os := keepblk hb gk; have ga : IBlk w13 (w7.heap.size + 3) xs := keepblk hb ga; have xa : w13.cell? ⟨w8.heap.size, 0, none⟩ = some (.slice (some ⟨w7.heap.size + 3, 0, none⟩) n n) := Below.keeps hb xa; have gb : IBlk w13 (w8.heap.size + 4) ys := keepblk hb gb; have xb : w13.cell? ⟨w9.heap.size, 0, none⟩ = some (.slice (some ⟨w8.heap.size + 4, 0, none⟩) m m) := Below.keeps hb xb; have lca : w.heap.size < w13.heap.size := lt_of_cell ca; have lcb : w.heap.size + 1 < w13.heap.size := lt_of_cell cb; have lxa : w8.heap.size < w13.heap.size := lt_of_cell xa; have lxb : w9.heap.size < w13.heap.size := lt_of_cell xb; have hB : Below w.heap.size w w13 := Below.trans hB.drew (hb.mono hs); have hs := hB.size)
      | (go_at_call 22; refine (eqLabel_any _ _ _ _ _ _ xs xs _ (by exact ga.ints) (by exact gc.ints) HN.out HN.out (by omega) (by omega)).mono ?_; rintro e w14 ⟨rfl, hb⟩; have ca : w14.cell? ⟨w.heap.size, 0, none⟩ = some (.slice A n c) := Below.keeps hb ca; have cb : w14.cell? ⟨w.heap.size + 1, 0, none⟩ = some (.slice B m d) := Below.keeps hb cb; have hK : Ints w14 O os := Ints.keep hK (fun _ _ h => Below.keeps hb h); have hI : Ints w14 A xs := Ints.keep hI (fun _ _ h => Below.keeps hb h); have hJ : Ints w14 B ys := Ints.keep hJ (fun _ _ h => Below.keeps hb h); have gk : IBlk w14 w6.heap.size os := keepblk hb gk; have ga : IBlk w14 (w7.heap.size + 3) xs := keepblk hb ga; have xa : w14.cell? ⟨w8.heap.size, 0, none⟩ = some (.slice (some ⟨w7.heap.size + 3, 0, none⟩) n n) := Below.keeps hb xa; have gb : IBlk w14 (w8.heap.size + 4) ys := keepblk hb gb; have xb : w14.cell? ⟨w9.heap.size, 0, none⟩ = some (.slice (some ⟨w8.heap.size + 4, 0, none⟩) m m) := Below.keeps hb xb; have gc : IBlk w14 (w12.drew.heap.size + 3) xs := keepblk hb gc; have lca : w.heap.size < w14.heap.size := lt_of_cell ca; have lcb : w.heap.size + 1 < w14.heap.size := lt_of_cell cb; have lxa : w8.heap.size < w14.heap.size := lt_of_cell xa; have lxb : w9.heap.size < w14.heap.size := lt_of_cell xb; have hB : Below w.heap.size w w14 := Below.trans hB (hb.mono hs); have hs := hB.size; rw [eqB_self]))
  try clear hb
  clear gc
  go_wp2_with fail
  go_region_held3 (fun x => x.cell? ⟨w.heap.size, 0, none⟩ = some (.slice A n c) ∧ x.cell? ⟨w.heap.size + 1, 0, none⟩ = some (.slice B m d) ∧ x.cell? ⟨w8.heap.size, 0, none⟩ = some (.slice (some ⟨w7.heap.size + 3, 0, none⟩) n n) ∧ x.cell? ⟨w9.heap.size, 0, none⟩ = some (.slice (some ⟨w8.heap.size + 4, 0, none⟩) m m)) ((repeat' apply And.intro) <;> (first | assumption | (simp [*]; done)))
    (first
      | (go_at_call 20; refine (toLabel_any B m d ys _ (by exact hJ) HM.out (by omega)).mono ?_; rintro e w15 ⟨rfl, hb, gc⟩; have ca : w15.cell? ⟨w.heap.size, 0, none⟩ = some (.slice A n c) := Below.keeps hb ca; have cb : w15.cell? ⟨w.heap.size + 1, 0, none⟩ = some (.slice B m d) := Below.keeps hb cb; have hK : Ints w15 O os := Ints.keep hK (fun _ _ h => Below.keeps hb h); have hI : Ints w15 A xs := Ints.keep hI (fun _ _ h => Below.keeps hb h); have hJ : Ints w15 B ys := Ints.keep hJ (fun _ _ h => Below.keeps hb h); have gk : IBlk w15 w6.heap.size os := keepblk hb gk; have ga : IBlk w15 (w7.heap.size + 3) xs := keepblk hb ga; have xa : w15.cell? ⟨w8.heap.size, 0, none⟩ = some (.slice (some ⟨w7.heap.size + 3, 0, none⟩) n n) := Below.keeps hb xa; have gb : IBlk w15 (w8.heap.size + 4) ys := keepblk hb gb; have xb : w15.cell? ⟨w9.heap.size, 0, none⟩ = some (.slice (some ⟨w8.heap.size + 4, 0, none⟩) m m) := Below.keeps hb xb; have lca : w.heap.size < w15.heap.size := lt_of_cell ca; have lcb : w.heap.size + 1 < w15.heap.size := lt_of_cell cb; have lxa : w8.heap.size < w15.heap.size := lt_of_cell xa; have lxb : w9.heap.size < w15.heap.size := lt_of_cell xb; have hB : Below w.heap.size w w15 := Below.trans hB.drew (hb.mono hs); have hs := hB.size)
      | (go_at_call 22; refine (eqLabel_any _ _ _ _ _ _ ys ys _ (by exact gb.ints) (by exact gc.ints) HM.out HM.out (by omega) (by omega)).mono ?_; rintro e w16 ⟨rfl, hb⟩; have ca : w16.cell? ⟨w.heap.size, 0, none⟩ = some (.slice A n c) := Below.keeps hb ca; have cb : w16.cell? ⟨w.heap.size + 1, 0, none⟩ = some (.slice B m d) := Below.keeps hb cb; have hK : Ints w16 O os := Ints.keep hK (fun _ _ h => Below.keeps hb h); have hI : Ints w16 A xs := Ints.keep hI (fun _ _ h => Below.keeps hb h); have hJ : Ints w16 B ys := Ints.keep hJ (fun _ _ h => Below.keeps hb h); have gk : IBlk w16 w6.heap.size os := keepblk hb gk; have ga : IBlk w16 (w7.heap.size + 3) xs := keepblk hb ga; have xa : w16.cell? ⟨w8.heap.size, 0, none⟩ = some (.slice (some ⟨w7.heap.size + 3, 0, none⟩) n n) := Below.keeps hb xa; have gb : IBlk w16 (w8.heap.size + 4) ys := keepblk hb gb; have xb : w16.cell? ⟨w9.heap.size, 0, none⟩ = some (.slice (some ⟨w8.heap.size + 4, 0, none⟩) m m) := Below.keeps hb xb; have gc : IBlk w16 (w14.drew.heap.size + 3) ys := keepblk hb gc; have lca : w.heap.size < w16.heap.size := lt_of_cell ca; have lcb : w.heap.size + 1 < w16.heap.size := lt_of_cell cb; have lxa : w8.heap.size < w16.heap.size := lt_of_cell xa; have lxb : w9.heap.size < w16.heap.size := lt_of_cell xb; have hB : Below w.heap.size w w16 := Below.trans hB (hb.mono hs); have hs := hB.size; rw [eqB_self]))
  try clear hb
  clear gc
  go_wp2_with fail
  go_ret
  exact ⟨rfl, hB⟩
theorem flowsFor_walk (O : Option Addr) (q e0 : Nat) (os : List Int) (A : Option Addr) (n c : Nat) (xs : List Int) (B : Option Addr) (m d : Nat) (ys : List Int) (w : World) (hK : Ints w O os) (ho : os.length = q) (hmo : q ≤ 9223372036854775807) (hI : Ints w A xs) (hn : xs.length = n) (hmx : n ≤ 9223372036854775807) (hJ : Ints w B ys) (hm : ys.length = m) (hmy : m ≤ 9223372036854775807) :
    Calls Try.prog 11 #[.slice O q e0, lab A n c, lab B m d] w fun e w' => e = .returned (.bool true) ∧ Below w.heap.size w w' := by
  by_cases h0 : 1048576 < q
  · exact flowsFor_big0 O q e0 os A n c xs B m d ys w hK ho hmo hI hn hmx hJ hm hmy h0
  · by_cases h1 : (1048576 : Int) - n < 0
    · exact flowsFor_big1 O q e0 os A n c xs B m d ys w hK ho hmo hI hn hmx hJ hm hmy (by omega) h1
    · by_cases h2 : (1048576 : Int) - n - m < 0
      · exact flowsFor_big2 O q e0 os A n c xs B m d ys w hK ho hmo hI hn hmx hJ hm hmy (by omega) h1 h2
      · exact flowsFor_main O q e0 os A n c xs B m d ys w hK ho hmo hI hn hmx hJ hm hmy (by omega) h1 h2
set_option linter.unusedVariables false in
set_option maxRecDepth 100000 in
theorem FnExactFlowsFor_lifted (os : Os) (started : os.Started) (H : Type) (enc : TypeId × Value → H) :
    ReturnsInHanded {} Try.checked os 11 .any (Rows.fnExactFlowsForSpec.pre6 enc Try.prog Try.f11 Rows.fnExactFlowsForRow.domain false) (Rows.fnExactFlowsForSpec.post enc Try.prog Try.f11 false true false false) := by
  refine returnsInHanded_of_change (C := Try.checked) own started (by kernel_rfl) Try.func11
    (ChangeSpec.witness6 (enc := enc) (C := Try.checked) false ⟨#[], #[.slice none 0 0, .agg #[.slice none 0 0], .agg #[.slice none 0 0]], []⟩ 8 (by kernel_rfl) (by kernel_rfl) (by kernel_rfl) (by kernel_rfl)) ?_
  intro W base args ds gs before hval0 hW hcnd _
  have hval : ∀ (j : Nat) t v, Try.f11.params[j]? = some t → args[j]? = some v → Value.okWide Try.prog W .any base t v := hval0
  have hW' := hW
  obtain ⟨p, q, hA0, hV, rfl, hfz, hnd⟩ := hW
  have hA : DataW.TrodAll enc Try.prog W 0 (fun _ => true) true Try.f11.params.toList args.toList ds p := hA0
  rw [Try.params11] at hA hval
  obtain ⟨v0, vs0, d0, ds0, p0, q0, hargs, rfl, rfl, h0, r0⟩ := trodAll_cons hA
  obtain ⟨v1, vs1, d1, ds1, p1, q1, rfl, rfl, rfl, h1, r1⟩ := trodAll_cons r0
  obtain ⟨v2, vs2, d2, ds2, p2, q2, rfl, rfl, rfl, h2, r2⟩ := trodAll_cons r1
  obtain ⟨rfl, rfl, rfl⟩ := trodAll_nil r2
  obtain rfl : args = #[v0, v1, v2] := by cases args; simp_all
  obtain ⟨rfl, rfl⟩ := trodVars_none hV
  have k0 := h0
  have lt0 : ∀ x ∈ p0, x.block < W.heap.size := by obtain ⟨m, hm⟩ := k0; exact DataW.trod_lt m _ _ _ hm
  obtain ⟨b0, len0, cap0, rfl⟩ := okWide_slice Try.underlying22 (hval 0 22 v0 rfl rfl)
  obtain ⟨z0, row0, ln0, mx0⟩ : ∃ xs, Ints W b0 xs ∧ xs.length = len0 ∧ len0 ≤ 9223372036854775807 := by obtain ⟨fuel, hf⟩ := h0; exact open_intS hf
  have k1 := h1
  have lt1 : ∀ x ∈ p1, x.block < W.heap.size := by obtain ⟨m, hm⟩ := k1; exact DataW.trod_lt m _ _ _ hm
  obtain ⟨b1, len1, cap1, z1, rfl, row1, ln1, mx1⟩ := open_label (hval 1 27 v1 rfl rfl) h1
  have k2 := h2
  have lt2 : ∀ x ∈ p2, x.block < W.heap.size := by obtain ⟨m, hm⟩ := k2; exact DataW.trod_lt m _ _ _ hm
  obtain ⟨b2, len2, cap2, z2, rfl, row2, ln2, mx2⟩ := open_label (hval 2 27 v2 rfl rfl) h2
  clear hA0 hval0
  refine (flowsFor_walk b0 len0 cap0 z0 b1 len1 cap1 z1 b2 len2 cap2 z2 W row0 ln0 mx0 row1 ln1 mx1 row2 ln2 mx2).mono fun e W' ⟨he, bel⟩ => ?_
  subst he
  exact ⟨_, rfl, _, _, _, [], _, [], hW', trodAll_mk1 (shut_bool Try.underlying4 _), (trodAll_cons_mk (Below.trod laidOut (by kernel_rfl) (of_decide_eq_true (by kernel_rfl)) k0 bel lt0) (trodAll_cons_mk (Below.trod laidOut (by kernel_rfl) (of_decide_eq_true (by kernel_rfl)) k1 bel lt1) (trodAll_cons_mk (Below.trod laidOut (by kernel_rfl) (of_decide_eq_true (by kernel_rfl)) k2 bel lt2) trodAll_mk0))), rfl, bel.frame _, fun h => by cases h⟩
/-- THE STATEMENT -/
theorem FnExactFlowsFor_holds : Rows.FnExactFlowsForSaid :=
  OpenClaim.holds_of_wide 11 Try.f11 rfl rfl rfl rfl rfl rfl rfl ⟨rfl, rfl, rfl, rfl, rfl⟩ rfl rfl rfl rfl rfl (by kernel_rfl) Try.func11 (by kernel_rfl)
    (of_decide_eq_true (by kernel_rfl)) (by unfold Func.isWrapper; first | (rw [if_pos (by decide +kernel)]; kernel_rfl) | (rw [if_neg (by decide +kernel)]; exact ⟨rfl, rfl⟩))
    (fun os started H enc _ => FnExactFlowsFor_lifted os started H enc)

end Go.Proofs.Ytkcchceoljlnaaa
