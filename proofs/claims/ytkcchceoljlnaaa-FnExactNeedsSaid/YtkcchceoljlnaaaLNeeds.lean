/- FnExactNeeds: the program's Needs returns what the reference's returns. No condition. -/
import Derived.Test.YtkcchceoljlnaaaNeeds
import Derived.Test.YtkcchceoljlnaaaJLaw
import Derived.Test.YtkcchceoljlnaaaOpenI
import Derived.Deep.RegionHeld3
namespace Go.Proofs.Ytkcchceoljlnaaa
set_option linter.unusedSimpArgs false
set_option linter.unusedVariables false
open Go.Joins Go.ChangeShapes Go.WideShapes Go.ChangeAt Go.RowKit Go.Deep
open Go.ChangeMaps (open_string shut_string)
attribute [local go_sem ↓] Go.wp_at_zero Go.wp_at_succ
theorem eqIntS_self (A B : Option Addr) (n c d : Nat) (xs : List Int) (w : World) (hx : Ints w A xs) (hy : Ints w B xs) (hn : xs.length = n) (hnb : n ≤ 1099511627776) :
    Calls Try.prog 17 #[.slice A n c, .slice B n d] w fun e w' => e = .returned (.bool true) ∧ Below w.heap.size w w' :=
  (eqIntS_any A B n n c d xs xs w hx hy hn hn hnb hnb).mono fun _ _ ⟨he, hb⟩ => ⟨by rw [he, eqB_self], hb⟩
set_option maxHeartbeats 1600000 in
theorem needs_big0 (O : Option Addr) (q e0 : Nat) (os : List Int) (A : Option Addr) (n c : Nat) (xs : List Int) (B : Option Addr) (m d : Nat) (ys : List Int) (w : World) (hK : Ints w O os) (ho : os.length = q) (hmo : q ≤ 9223372036854775807) (hI : Ints w A xs) (hn : xs.length = n) (hmx : n ≤ 9223372036854775807) (hJ : Ints w B ys) (hm : ys.length = m) (hmy : m ≤ 9223372036854775807) (hbig : 1048576 < q) :
    Calls Try.prog 12 #[.slice O q e0, lab A n c, lab B m d] w fun e w' => e = .returned (.bool true) ∧ Below w.heap.size w w' := by
  have hbig2 : (1048576 : Int) < (q : Int) := by omega
  clear hI hJ hK hn hm ho
  go_enter Try.func12, Try.ntmps12
  go_wp2_with fail
  go_ret
  exact ⟨rfl, (by (repeat (first | exact Below.refl _ _ | assumption | refine Below.drew ?_ | refine Below.alloc ?_ ?_ _ | refine Below.setCell ?_ ?_ _)) <;> ((try simp) <;> omega))⟩
set_option maxHeartbeats 1600000 in
theorem needs_big1 (O : Option Addr) (q e0 : Nat) (os : List Int) (A : Option Addr) (n c : Nat) (xs : List Int) (B : Option Addr) (m d : Nat) (ys : List Int) (w : World) (hK : Ints w O os) (ho : os.length = q) (hmo : q ≤ 9223372036854775807) (hI : Ints w A xs) (hn : xs.length = n) (hmx : n ≤ 9223372036854775807) (hJ : Ints w B ys) (hm : ys.length = m) (hmy : m ≤ 9223372036854775807) (hq : q ≤ 1048576) (hbig : (1048576 : Int) - n < 0) :
    Calls Try.prog 12 #[.slice O q e0, lab A n c, lab B m d] w fun e w' => e = .returned (.bool true) ∧ Below w.heap.size w w' := by
  clear hI hJ hK hn hm ho
  go_enter Try.func12, Try.ntmps12
  go_wp2_with fail
  refine (szLabel_no A n c 1048576 _ hmx (by omega) (by omega) (by omega)).mono ?_
  rintro e w1 ⟨rfl, hb⟩
  have ca : w1.cell? ⟨w.heap.size, 0, none⟩ = some (.slice A n c) := Below.keeps hb (by simp)
  have cb : w1.cell? ⟨w.heap.size + 1, 0, none⟩ = some (.slice B m d) := Below.keeps hb (by simp)
  have lca : w.heap.size < w1.heap.size := lt_of_cell ca
  have lcb : w.heap.size + 1 < w1.heap.size := lt_of_cell cb
  have hB : Below w.heap.size w w1 := Below.trans (by (repeat (first | exact Below.refl _ _ | assumption | refine Below.drew ?_ | refine Below.alloc ?_ ?_ _ | refine Below.setCell ?_ ?_ _)) <;> ((try simp) <;> omega)) (hb.mono (by (try simp) <;> omega))
  have hs := hB.size
  clear hb
  go_wp2_with fail
  go_ret
  exact ⟨rfl, hB⟩
set_option maxHeartbeats 1600000 in
theorem needs_big2 (O : Option Addr) (q e0 : Nat) (os : List Int) (A : Option Addr) (n c : Nat) (xs : List Int) (B : Option Addr) (m d : Nat) (ys : List Int) (w : World) (hK : Ints w O os) (ho : os.length = q) (hmo : q ≤ 9223372036854775807) (hI : Ints w A xs) (hn : xs.length = n) (hmx : n ≤ 9223372036854775807) (hJ : Ints w B ys) (hm : ys.length = m) (hmy : m ≤ 9223372036854775807) (hq : q ≤ 1048576) (hok : ¬ (1048576 : Int) - n < 0) (hbig : (1048576 : Int) - n - m < 0) :
    Calls Try.prog 12 #[.slice O q e0, lab A n c, lab B m d] w fun e w' => e = .returned (.bool true) ∧ Below w.heap.size w w' := by
  clear hI hJ hK hn hm ho
  go_enter Try.func12, Try.ntmps12
  go_wp2_with fail
  refine (szLabel_yes A n c 1048576 _ hmx (by omega) (by omega) (by omega)).mono ?_
  rintro e w1 ⟨rfl, hb⟩
  have ca : w1.cell? ⟨w.heap.size, 0, none⟩ = some (.slice A n c) := Below.keeps hb (by simp)
  have cb : w1.cell? ⟨w.heap.size + 1, 0, none⟩ = some (.slice B m d) := Below.keeps hb (by simp)
  have lca : w.heap.size < w1.heap.size := lt_of_cell ca
  have lcb : w.heap.size + 1 < w1.heap.size := lt_of_cell cb
  have hB : Below w.heap.size w w1 := Below.trans (by (repeat (first | exact Below.refl _ _ | assumption | refine Below.drew ?_ | refine Below.alloc ?_ ?_ _ | refine Below.setCell ?_ ?_ _)) <;> ((try simp) <;> omega)) (hb.mono (by (try simp) <;> omega))
  have hs := hB.size
  clear hb
  go_wp2_with fail
  refine (szLabel_no B m d (1048576 - n) _ hmy (by omega) (by omega) (by omega)).mono ?_
  rintro e w2 ⟨rfl, hb⟩
  have ca : w2.cell? ⟨w.heap.size, 0, none⟩ = some (.slice A n c) := Below.keeps hb ca
  have cb : w2.cell? ⟨w.heap.size + 1, 0, none⟩ = some (.slice B m d) := Below.keeps hb cb
  have lca : w.heap.size < w2.heap.size := lt_of_cell ca
  have lcb : w.heap.size + 1 < w2.heap.size := lt_of_cell cb
  have hB : Below w.heap.size w w2 := Below.trans hB (hb.mono hs)
  have hs := hB.size
  clear hb
  go_wp2_with fail
  go_ret
  exact ⟨rfl, hB⟩
set_option maxRecDepth 100000 in
set_option maxHeartbeats 12800000 in
theorem needs_main (O : Option Addr) (q e0 : Nat) (os : List Int) (A : Option Addr) (n c : Nat) (xs : List Int) (B : Option Addr) (m d : Nat) (ys : List Int) (w : World) (hK : Ints w O os) (ho : os.length = q) (hmo : q ≤ 9223372036854775807) (hI : Ints w A xs) (hn : xs.length = n) (hmx : n ≤ 9223372036854775807) (hJ : Ints w B ys) (hm : ys.length = m) (hmy : m ≤ 9223372036854775807) (hq : q ≤ 1048576) (hok : ¬ (1048576 : Int) - n < 0) (hok2 : ¬ (1048576 : Int) - n - m < 0) (R : List Int) (hr4 : R.length ≤ 4) (C : Hid (∀ (O A B : Option Addr) (e0 c d : Nat) (w : World), Ints w O os → Ints w A xs → Ints w B ys → Calls Try.prog 39 #[.slice O q e0, lab A n c, lab B m d] w (OutI R w))) (D : Hid (∀ (O A B : Option Addr) (e0 c d : Nat) (w : World), Ints w O os → Ints w A xs → Ints w B ys → Calls Try.prog 40 #[.slice O q e0, lab A n c, lab B m d] w (OutI R w))) :
    Calls Try.prog 12 #[.slice O q e0, lab A n c, lab B m d] w fun e w' => e = .returned (.bool true) ∧ Below w.heap.size w w' := by
  have HK := Lib.hid hK; have HO := Lib.hid ho; have HI := Lib.hid hI; have HJ := Lib.hid hJ; have HN := Lib.hid hn; have HM := Lib.hid hm
  clear hK ho hI hJ hn hm
  go_enter Try.func12, Try.ntmps12
  have hB := ((Below.refl w.heap.size w).alloc (Nat.le_refl _) (.cells #[.slice A n c] 27)).alloc (by simp) (.cells #[.slice B m d] 27)
  have hs := hB.size
  obtain ⟨ca, cb⟩ : ((w.alloc (.cells #[.slice A n c] 27)).alloc (.cells #[.slice B m d] 27)).cell? ⟨w.heap.size, 0, none⟩ = some (.slice A n c) ∧ ((w.alloc (.cells #[.slice A n c] 27)).alloc (.cells #[.slice B m d] 27)).cell? ⟨w.heap.size + 1, 0, none⟩ = some (.slice B m d) := ⟨by simp, by simp⟩
  go_wp2_with fail
  refine (szLabel_yes A n c 1048576 _ hmx (by omega) (by omega) (by omega)).mono ?_
  rintro e w1 ⟨rfl, hb⟩
  have ca := Below.keeps hb ca
  have cb := Below.keeps hb cb
  have hz1 := hb.size
  have hB := Below.trans hB (hb.mono (by (try simp) <;> omega))
  have hs := hB.size
  clear hb
  have lca : w.heap.size < w1.heap.size := lt_of_cell ca
  have lcb : w.heap.size + 1 < w1.heap.size := lt_of_cell cb
  go_wp2_with fail
  refine (szLabel_yes B m d (1048576 - n) _ hmy (by omega) (by omega) (by omega)).mono ?_
  rintro e w2 ⟨rfl, hb⟩
  have ca := Below.keeps hb ca
  have cb := Below.keeps hb cb
  have hz2 := hb.size
  have hB := Below.trans hB (hb.mono (by (try simp) <;> omega))
  have hs := hB.size
  clear hb
  have lca : w.heap.size < w2.heap.size := lt_of_cell ca
  have lcb : w.heap.size + 1 < w2.heap.size := lt_of_cell cb
  go_wp2_with fail
  go_region_held3 (fun x => x.cell? ⟨w.heap.size, 0, none⟩ = some (.slice A n c) ∧ x.cell? ⟨w.heap.size + 1, 0, none⟩ = some (.slice B m d)) ((repeat' apply And.intro) <;> (first | assumption | (simp [*]; done)))
    (first
      | (go_at_call 15; refine (toIntS_any O q e0 os _ (by exact HK.out.keep fun _ _ h => Below.keeps hB.drew h) HO.out (by omega)).mono ?_; rintro e w3 ⟨rfl, hb, tk⟩; have ca := Below.keeps hb ca; have cb := Below.keeps hb cb; have hz3 := hb.size; (try simp only [World.size_drew] at hz3); have hB := Below.trans hB.drew (hb.mono hs); have hs := hB.size; clear hb; (try simp only [World.size_drew] at tk); have tk := OwnL.of_blk tk)
      | (go_at_call_of 20 (Value.slice A n c); refine (toLabel_any A n c xs _ (by exact HI.out.keep fun _ _ h => Below.keeps hB h) HN.out (by omega)).mono ?_; rintro e w4 ⟨rfl, hb, ta⟩; have tk := tk.below hb; have ca := Below.keeps hb ca; have cb := Below.keeps hb cb; have hz4 := hb.size; (try simp only [World.size_drew] at hz4); have hB := Below.trans hB (hb.mono hs); have hs := hB.size; clear hb; (try simp only [World.size_drew] at ta); have ta := OwnL.of_blk ta)
      | (go_at_call_of 20 (Value.slice B m d); refine (toLabel_any B m d ys _ (by exact HJ.out.keep fun _ _ h => Below.keeps hB h) HM.out (by omega)).mono ?_; rintro e w5 ⟨rfl, hb, ty⟩; have tk := tk.below hb; have ta := ta.below hb; have ca := Below.keeps hb ca; have cb := Below.keeps hb cb; have hz5 := hb.size; (try simp only [World.size_drew] at hz5); have hB := Below.trans hB (hb.mono hs); have hs := hB.size; clear hb; (try simp only [World.size_drew] at ty); have ty := OwnL.of_blk ty)
      | (go_at_call 39; refine (C.out _ _ _ _ _ _ _ (by exact tk.ints) (by exact ta.ints) (by exact ty.ints)).mono ?_; rintro e w6 ⟨A0, c0, rfl, o0, hb⟩; have tk := tk.below hb; have ta := ta.below hb; have ty := ty.below hb; have ca := Below.keeps hb ca; have cb := Below.keeps hb cb; have hz6 := hb.size; (try simp only [World.size_drew] at hz6); have hB := Below.trans hB (hb.mono hs); have hs := hB.size; clear hb; have o0 := OwnL.of_own o0))
  clear tk ta ty
  go_wp2_with fail
  refine (toIntS_any O q e0 os _ (by exact HK.out.keep fun _ _ h => Below.keeps hB h) HO.out (by omega)).mono ?_
  rintro e w7 ⟨rfl, hb, gk⟩
  have o0 := (o0).below hb
  have ca := Below.keeps hb ca
  have cb := Below.keeps hb cb
  have hz7 := hb.size
  have hB := Below.trans hB (hb.mono (by (try simp) <;> omega))
  have hs := hB.size
  clear hb
  have lca : w.heap.size < w7.heap.size := lt_of_cell ca
  have lcb : w.heap.size + 1 < w7.heap.size := lt_of_cell cb
  have gk := OwnL.of_blk gk
  go_wp2_with fail
  refine (toLabel_any A n c xs _ (by exact HI.out.keep fun _ _ h => Below.keeps hB h) HN.out (by omega)).mono ?_
  rintro e w8 ⟨rfl, hb, ga⟩
  have o0 := (o0).below hb
  have gk := (gk).below hb
  have ca := Below.keeps hb ca
  have cb := Below.keeps hb cb
  have hz8 := hb.size
  have hB := Below.trans hB (hb.mono (by (try simp) <;> omega))
  have hs := hB.size
  clear hb
  have lca : w.heap.size < w8.heap.size := lt_of_cell ca
  have lcb : w.heap.size + 1 < w8.heap.size := lt_of_cell cb
  have ga := OwnL.of_blk ga
  go_wp2_with fail
  refine (toLabel_any B m d ys _ (by exact (HJ.out.keep fun _ _ h => Below.keeps hB h).alloc _) HM.out (by omega)).mono ?_
  rintro e w9 ⟨rfl, hb, gy⟩
  have o0 := (o0.alloc _).below hb
  have gk := (gk.alloc _).below hb
  have ga := (ga.alloc _).below hb
  have ca := Below.keeps hb (cell_alloc_ ca)
  have cb := Below.keeps hb (cell_alloc_ cb)
  have xa : w9.cell? ⟨w8.heap.size, 0, none⟩ = some (.slice (some ⟨w7.heap.size + 3, 0, none⟩) n n) := Below.keeps hb (by simp)
  have hz9 := hb.size
  simp only [World.size_alloc] at hz9
  have hB := Below.trans (hB.alloc (by (try simp) <;> omega) _) (hb.mono (by (try simp) <;> omega))
  have hs := hB.size
  clear hb
  have lca : w.heap.size < w9.heap.size := lt_of_cell ca
  have lcb : w.heap.size + 1 < w9.heap.size := lt_of_cell cb
  have lxa : w8.heap.size < w9.heap.size := lt_of_cell xa
  simp only [World.size_alloc] at gy
  have gy : IBlk w9 (w8.heap.size + 4) ys := by simpa only [Nat.add_assoc, Nat.add_comm, Nat.reduceAdd] using gy
  have gy := OwnL.of_blk gy
  go_wp2_with fail
  refine (D.out _ _ _ _ _ _ _ (by exact (gk.alloc _).ints) (by exact (ga.alloc _).ints) (by exact (gy.alloc _).ints)).mono ?_
  rintro e w10 ⟨A1, c1, rfl, o1, hb⟩
  have o0 := (o0.alloc _).below hb
  have gk := (gk.alloc _).below hb
  have ga := (ga.alloc _).below hb
  have gy := (gy.alloc _).below hb
  have ca := Below.keeps hb (cell_alloc_ ca)
  have cb := Below.keeps hb (cell_alloc_ cb)
  have xa := Below.keeps hb (cell_alloc_ xa)
  have xb : w10.cell? ⟨w9.heap.size, 0, none⟩ = some (.slice (some ⟨w8.heap.size + 4, 0, none⟩) m m) := Below.keeps hb (by simp)
  have hz10 := hb.size
  simp only [World.size_alloc] at hz10
  have hB := Below.trans (hB.alloc (by (try simp) <;> omega) _) (hb.mono (by (try simp) <;> omega))
  have hs := hB.size
  clear hb
  have lca : w.heap.size < w10.heap.size := lt_of_cell ca
  have lcb : w.heap.size + 1 < w10.heap.size := lt_of_cell cb
  have lxa : w8.heap.size < w10.heap.size := lt_of_cell xa
  have lxb : w9.heap.size < w10.heap.size := lt_of_cell xb
  simp only [World.size_alloc] at o1
  have o1 := OwnL.of_own o1
  go_wp2_with fail
  refine (eqIntS_self _ _ _ _ _ R _ (by exact o1.ints) (by exact o0.ints) rfl (by omega)).mono ?_
  rintro e w11 ⟨rfl, hb⟩
  have o0 := (o0).below hb
  have gk := (gk).below hb
  have ga := (ga).below hb
  have gy := (gy).below hb
  have o1 := (o1).below hb
  have ca := Below.keeps hb ca
  have cb := Below.keeps hb cb
  have xa := Below.keeps hb xa
  have xb := Below.keeps hb xb
  have hz11 := hb.size
  have hB := Below.trans hB (hb.mono (by (try simp) <;> omega))
  have hs := hB.size
  clear hb
  have lca : w.heap.size < w11.heap.size := lt_of_cell ca
  have lcb : w.heap.size + 1 < w11.heap.size := lt_of_cell cb
  have lxa : w8.heap.size < w11.heap.size := lt_of_cell xa
  have lxb : w9.heap.size < w11.heap.size := lt_of_cell xb
  go_wp2_with fail
  refine (toIntS_any O q e0 os _ (by exact HK.out.keep fun _ _ h => Below.keeps hB h) HO.out (by omega)).mono ?_
  rintro e w12 ⟨rfl, hb, gt⟩
  have o0 := (o0).below hb
  have gk := (gk).below hb
  have ga := (ga).below hb
  have gy := (gy).below hb
  have o1 := (o1).below hb
  have ca := Below.keeps hb ca
  have cb := Below.keeps hb cb
  have xa := Below.keeps hb xa
  have xb := Below.keeps hb xb
  have hz12 := hb.size
  have hB := Below.trans hB (hb.mono (by (try simp) <;> omega))
  have hs := hB.size
  clear hb
  have lca : w.heap.size < w12.heap.size := lt_of_cell ca
  have lcb : w.heap.size + 1 < w12.heap.size := lt_of_cell cb
  have lxa : w8.heap.size < w12.heap.size := lt_of_cell xa
  have lxb : w9.heap.size < w12.heap.size := lt_of_cell xb
  have gt := OwnL.of_blk gt
  go_wp2_with fail
  refine (eqIntS_self _ _ _ _ _ os _ (by exact gk.ints) (by exact gt.ints) HO.out (by omega)).mono ?_
  rintro e w13 ⟨rfl, hb⟩
  have o0 := (o0).below hb
  have gk := (gk).below hb
  have ga := (ga).below hb
  have gy := (gy).below hb
  have o1 := (o1).below hb
  have gt := (gt).below hb
  have ca := Below.keeps hb ca
  have cb := Below.keeps hb cb
  have xa := Below.keeps hb xa
  have xb := Below.keeps hb xb
  have hz13 := hb.size
  have hB := Below.trans hB (hb.mono (by (try simp) <;> omega))
  have hs := hB.size
  clear hb
  have lca : w.heap.size < w13.heap.size := lt_of_cell ca
  have lcb : w.heap.size + 1 < w13.heap.size := lt_of_cell cb
  have lxa : w8.heap.size < w13.heap.size := lt_of_cell xa
  have lxb : w9.heap.size < w13.heap.size := lt_of_cell xb
  clear gt
  go_wp2_with fail
  go_region_held3 (fun x => x.cell? ⟨w.heap.size, 0, none⟩ = some (.slice A n c) ∧ x.cell? ⟨w.heap.size + 1, 0, none⟩ = some (.slice B m d) ∧ x.cell? ⟨w8.heap.size, 0, none⟩ = some (.slice (some ⟨w7.heap.size + 3, 0, none⟩) n n) ∧ x.cell? ⟨w9.heap.size, 0, none⟩ = some (.slice (some ⟨w8.heap.size + 4, 0, none⟩) m m)) ((repeat' apply And.intro) <;> (first | assumption | (simp [*]; done)))
    (first
      | (go_at_call 20; refine (toLabel_any A n c xs _ (by exact HI.out.keep fun _ _ h => Below.keeps hB.drew h) HN.out (by omega)).mono ?_; rintro e w14 ⟨rfl, hb, gt⟩; have o0 := (OwnL.drew o0).below hb; have gk := (OwnL.drew gk).below hb; have ga := (OwnL.drew ga).below hb; have gy := (OwnL.drew gy).below hb; have o1 := (OwnL.drew o1).below hb; have ca := Below.keeps hb ca; have cb := Below.keeps hb cb; have xa := Below.keeps hb xa; have xb := Below.keeps hb xb; have hz14 := hb.size; (try simp only [World.size_drew] at hz14); have hB := Below.trans hB.drew (hb.mono hs); have hs := hB.size; clear hb; (try simp only [World.size_drew] at gt); have gt := OwnL.of_blk gt)
      | (go_at_call 22; refine (eqLabel_self _ _ _ _ _ xs _ (by exact ga.ints) (by exact gt.ints) HN.out (by omega)).mono ?_; rintro e w15 ⟨rfl, hb⟩; have o0 := o0.below hb; have gk := gk.below hb; have ga := ga.below hb; have gy := gy.below hb; have o1 := o1.below hb; have gt := gt.below hb; have ca := Below.keeps hb ca; have cb := Below.keeps hb cb; have xa := Below.keeps hb xa; have xb := Below.keeps hb xb; have hz15 := hb.size; (try simp only [World.size_drew] at hz15); have hB := Below.trans hB (hb.mono hs); have hs := hB.size; clear hb))
  clear gt
  go_wp2_with fail
  go_region_held3 (fun x => x.cell? ⟨w.heap.size, 0, none⟩ = some (.slice A n c) ∧ x.cell? ⟨w.heap.size + 1, 0, none⟩ = some (.slice B m d) ∧ x.cell? ⟨w8.heap.size, 0, none⟩ = some (.slice (some ⟨w7.heap.size + 3, 0, none⟩) n n) ∧ x.cell? ⟨w9.heap.size, 0, none⟩ = some (.slice (some ⟨w8.heap.size + 4, 0, none⟩) m m)) ((repeat' apply And.intro) <;> (first | assumption | (simp [*]; done)))
    (first
      | (go_at_call 20; refine (toLabel_any B m d ys _ (by exact HJ.out.keep fun _ _ h => Below.keeps hB.drew h) HM.out (by omega)).mono ?_; rintro e w16 ⟨rfl, hb, gt⟩; have o0 := (OwnL.drew o0).below hb; have gk := (OwnL.drew gk).below hb; have ga := (OwnL.drew ga).below hb; have gy := (OwnL.drew gy).below hb; have o1 := (OwnL.drew o1).below hb; have ca := Below.keeps hb ca; have cb := Below.keeps hb cb; have xa := Below.keeps hb xa; have xb := Below.keeps hb xb; have hz16 := hb.size; (try simp only [World.size_drew] at hz16); have hB := Below.trans hB.drew (hb.mono hs); have hs := hB.size; clear hb; (try simp only [World.size_drew] at gt); have gt := OwnL.of_blk gt)
      | (go_at_call 22; refine (eqLabel_self _ _ _ _ _ ys _ (by exact gy.ints) (by exact gt.ints) HM.out (by omega)).mono ?_; rintro e w17 ⟨rfl, hb⟩; have o0 := o0.below hb; have gk := gk.below hb; have ga := ga.below hb; have gy := gy.below hb; have o1 := o1.below hb; have gt := gt.below hb; have ca := Below.keeps hb ca; have cb := Below.keeps hb cb; have xa := Below.keeps hb xa; have xb := Below.keeps hb xb; have hz17 := hb.size; (try simp only [World.size_drew] at hz17); have hB := Below.trans hB (hb.mono hs); have hs := hB.size; clear hb))
  clear gt
  go_wp2_with fail
  refine (markIntS_own _ _ _ q _ os 1 _ gk HO.out (by omega) (by omega) (by omega)).mono ?_
  rintro e w18 ⟨rfl, ho, row, hg, hr⟩
  have o0 := o0.far hg hr (by omega)
  have ga := ga.far hg hr (by omega)
  have gy := gy.far hg hr (by omega)
  have o1 := o1.far hg hr (by omega)
  have ca := cell_grown hg ca (fun g h => by have := hr g h; (try dsimp only); omega)
  have cb := cell_grown hg cb (fun g h => by have := hr g h; (try dsimp only); omega)
  have xa := cell_grown hg xa (fun g h => by have := hr g h; (try dsimp only); omega)
  have xb := cell_grown hg xb (fun g h => by have := hr g h; (try dsimp only); omega)
  have lca : w.heap.size < w18.heap.size := lt_of_cell ca
  have lcb : w.heap.size + 1 < w18.heap.size := lt_of_cell cb
  have lxa : w8.heap.size < w18.heap.size := lt_of_cell xa
  have lxb : w9.heap.size < w18.heap.size := lt_of_cell xb
  have hz18 := hg.size
  have hB := hB.grown hg (by omega) (fun g h => by have := hr g h; omega)
  have hs := hB.size
  have gk := ho
  clear ho hg hr
  clear gk
  go_wp2_with fail
  refine (markLabel_own _ _ _ n _ xs (1 + q) _ ga HN.out (by omega) (by omega) (by omega)).mono ?_
  rintro e w19 ⟨rfl, ho, row, hg, hr⟩
  have o0 := o0.far hg hr (by omega)
  have gy := gy.far hg hr (by omega)
  have o1 := o1.far hg hr (by omega)
  have ca := cell_grown hg ca (fun g h => by have := hr g h; (try dsimp only); omega)
  have cb := cell_grown hg cb (fun g h => by have := hr g h; (try dsimp only); omega)
  have xa := cell_grown hg xa (fun g h => by have := hr g h; (try dsimp only); omega)
  have xb := cell_grown hg xb (fun g h => by have := hr g h; (try dsimp only); omega)
  have lca : w.heap.size < w19.heap.size := lt_of_cell ca
  have lcb : w.heap.size + 1 < w19.heap.size := lt_of_cell cb
  have lxa : w8.heap.size < w19.heap.size := lt_of_cell xa
  have lxb : w9.heap.size < w19.heap.size := lt_of_cell xb
  have hz19 := hg.size
  have hB := hB.grown hg (by omega) (fun g h => by have := hr g h; omega)
  have hs := hB.size
  have ga := ho
  clear ho hg hr
  clear ga
  go_wp2_with fail
  refine (markLabel_own _ _ _ m _ ys (1 + q + n) _ gy HM.out (by omega) (by omega) (by omega)).mono ?_
  rintro e w20 ⟨rfl, ho, row, hg, hr⟩
  have o0 := o0.far hg hr (by omega)
  have o1 := o1.far hg hr (by omega)
  have ca := cell_grown hg ca (fun g h => by have := hr g h; (try dsimp only); omega)
  have cb := cell_grown hg cb (fun g h => by have := hr g h; (try dsimp only); omega)
  have xa := cell_grown hg xa (fun g h => by have := hr g h; (try dsimp only); omega)
  have xb := cell_grown hg xb (fun g h => by have := hr g h; (try dsimp only); omega)
  have lca : w.heap.size < w20.heap.size := lt_of_cell ca
  have lcb : w.heap.size + 1 < w20.heap.size := lt_of_cell cb
  have lxa : w8.heap.size < w20.heap.size := lt_of_cell xa
  have lxb : w9.heap.size < w20.heap.size := lt_of_cell xb
  have hz20 := hg.size
  have hB := hB.grown hg (by omega) (fun g h => by have := hr g h; omega)
  have hs := hB.size
  have gy := ho
  clear ho hg hr
  clear gy
  go_wp2_with fail
  refine (eqIntS_self _ _ _ _ _ R _ (by exact o1.ints) (by exact o0.ints) rfl (by omega)).mono ?_
  rintro e w21 ⟨rfl, hb⟩
  have o0 := (o0).below hb
  have o1 := (o1).below hb
  have ca := Below.keeps hb ca
  have cb := Below.keeps hb cb
  have xa := Below.keeps hb xa
  have xb := Below.keeps hb xb
  have hz21 := hb.size
  have hB := Below.trans hB (hb.mono (by (try simp) <;> omega))
  have hs := hB.size
  clear hb
  have lca : w.heap.size < w21.heap.size := lt_of_cell ca
  have lcb : w.heap.size + 1 < w21.heap.size := lt_of_cell cb
  have lxa : w8.heap.size < w21.heap.size := lt_of_cell xa
  have lxb : w9.heap.size < w21.heap.size := lt_of_cell xb
  go_wp2_with fail
  refine (markIntS_own _ _ _ R.length _ R 1 _ o1 rfl (by omega) (by omega) (by omega)).mono ?_
  rintro e w22 ⟨rfl, ho, row, hg, hr⟩
  have o0 := o0.far hg hr (by omega)
  have ca := cell_grown hg ca (fun g h => by have := hr g h; (try dsimp only); omega)
  have cb := cell_grown hg cb (fun g h => by have := hr g h; (try dsimp only); omega)
  have xa := cell_grown hg xa (fun g h => by have := hr g h; (try dsimp only); omega)
  have xb := cell_grown hg xb (fun g h => by have := hr g h; (try dsimp only); omega)
  have lca : w.heap.size < w22.heap.size := lt_of_cell ca
  have lcb : w.heap.size + 1 < w22.heap.size := lt_of_cell cb
  have lxa : w8.heap.size < w22.heap.size := lt_of_cell xa
  have lxb : w9.heap.size < w22.heap.size := lt_of_cell xb
  have hz22 := hg.size
  have hB := hB.grown hg (by omega) (fun g h => by have := hr g h; omega)
  have hs := hB.size
  have o1 := ho
  clear ho hg hr
  go_wp2_with fail
  refine (heldIntS_any _ R.length _ 1 _ o1.ints (by omega) (by omega) (by omega)).mono ?_
  rintro e _ ⟨rfl, rfl⟩
  go_wp2_with fail
  go_region_held3 (fun x => x.cell? ⟨w.heap.size, 0, none⟩ = some (.slice A n c) ∧ x.cell? ⟨w.heap.size + 1, 0, none⟩ = some (.slice B m d) ∧ x.cell? ⟨w8.heap.size, 0, none⟩ = some (.slice (some ⟨w7.heap.size + 3, 0, none⟩) n n) ∧ x.cell? ⟨w9.heap.size, 0, none⟩ = some (.slice (some ⟨w8.heap.size + 4, 0, none⟩) m m)) ((repeat' apply And.intro) <;> (first | assumption | (simp [*]; done)))
    (first
      | (go_at_call 15; refine (toIntS_any O q e0 os _ (by exact HK.out.keep fun _ _ h => Below.keeps hB.drew h) HO.out (by omega)).mono ?_; rintro e w23 ⟨rfl, hb, tk⟩; have o0 := (OwnL.drew o0).below hb; have o1 := (OwnL.drew o1).below hb; have ca := Below.keeps hb ca; have cb := Below.keeps hb cb; have xa := Below.keeps hb xa; have xb := Below.keeps hb xb; have hz23 := hb.size; (try simp only [World.size_drew] at hz23); have hB := Below.trans hB.drew (hb.mono hs); have hs := hB.size; clear hb; (try simp only [World.size_drew] at tk); have tk := OwnL.of_blk tk)
      | (go_at_call_of 20 (Value.slice A n c); refine (toLabel_any A n c xs _ (by exact HI.out.keep fun _ _ h => Below.keeps hB h) HN.out (by omega)).mono ?_; rintro e w24 ⟨rfl, hb, ta⟩; have o0 := o0.below hb; have o1 := o1.below hb; have tk := tk.below hb; have ca := Below.keeps hb ca; have cb := Below.keeps hb cb; have xa := Below.keeps hb xa; have xb := Below.keeps hb xb; have hz24 := hb.size; (try simp only [World.size_drew] at hz24); have hB := Below.trans hB (hb.mono hs); have hs := hB.size; clear hb; (try simp only [World.size_drew] at ta); have ta := OwnL.of_blk ta)
      | (go_at_call_of 20 (Value.slice B m d); refine (toLabel_any B m d ys _ (by exact HJ.out.keep fun _ _ h => Below.keeps hB h) HM.out (by omega)).mono ?_; rintro e w25 ⟨rfl, hb, ty⟩; have o0 := o0.below hb; have o1 := o1.below hb; have tk := tk.below hb; have ta := ta.below hb; have ca := Below.keeps hb ca; have cb := Below.keeps hb cb; have xa := Below.keeps hb xa; have xb := Below.keeps hb xb; have hz25 := hb.size; (try simp only [World.size_drew] at hz25); have hB := Below.trans hB (hb.mono hs); have hs := hB.size; clear hb; (try simp only [World.size_drew] at ty); have ty := OwnL.of_blk ty)
      | (go_at_call 40; refine (D.out _ _ _ _ _ _ _ (by exact tk.ints) (by exact ta.ints) (by exact ty.ints)).mono ?_; rintro e w26 ⟨A2, c2, rfl, o2, hb⟩; have o0 := o0.below hb; have o1 := o1.below hb; have tk := tk.below hb; have ta := ta.below hb; have ty := ty.below hb; have ca := Below.keeps hb ca; have cb := Below.keeps hb cb; have xa := Below.keeps hb xa; have xb := Below.keeps hb xb; have hz26 := hb.size; (try simp only [World.size_drew] at hz26); have hB := Below.trans hB (hb.mono hs); have hs := hB.size; clear hb; have o2 := OwnL.of_own o2))
  clear tk ta ty
  go_wp2_with fail
  refine (eqIntS_self _ _ _ _ _ R _ (by exact o2.ints) (by exact o0.ints) rfl (by omega)).mono ?_
  rintro e w27 ⟨rfl, hb⟩
  have o0 := (o0).below hb
  have o1 := (o1).below hb
  have o2 := (o2).below hb
  have ca := Below.keeps hb ca
  have cb := Below.keeps hb cb
  have xa := Below.keeps hb xa
  have xb := Below.keeps hb xb
  have hz27 := hb.size
  have hB := Below.trans hB (hb.mono (by (try simp) <;> omega))
  have hs := hB.size
  clear hb
  have lca : w.heap.size < w27.heap.size := lt_of_cell ca
  have lcb : w.heap.size + 1 < w27.heap.size := lt_of_cell cb
  have lxa : w8.heap.size < w27.heap.size := lt_of_cell xa
  have lxb : w9.heap.size < w27.heap.size := lt_of_cell xb
  go_wp2_with fail
  refine (heldIntS_any _ R.length _ 1 _ o1.ints (by omega) (by omega) (by omega)).mono ?_
  rintro e _ ⟨rfl, rfl⟩
  go_wp2_with fail
  go_ret
  exact ⟨rfl, hB⟩
theorem needs_walk (O : Option Addr) (q e0 : Nat) (os : List Int) (A : Option Addr) (n c : Nat) (xs : List Int) (B : Option Addr) (m d : Nat) (ys : List Int) (w : World) (hK : Ints w O os) (ho : os.length = q) (hmo : q ≤ 9223372036854775807) (hI : Ints w A xs) (hn : xs.length = n) (hmx : n ≤ 9223372036854775807) (hJ : Ints w B ys) (hm : ys.length = m) (hmy : m ≤ 9223372036854775807) :
    Calls Try.prog 12 #[.slice O q e0, lab A n c, lab B m d] w fun e w' => e = .returned (.bool true) ∧ Below w.heap.size w w' := by
  by_cases h0 : 1048576 < q
  · exact needs_big0 O q e0 os A n c xs B m d ys w hK ho hmo hI hn hmx hJ hm hmy h0
  · by_cases h1 : (1048576 : Int) - n < 0
    · exact needs_big1 O q e0 os A n c xs B m d ys w hK ho hmo hI hn hmx hJ hm hmy (by omega) h1
    · by_cases h2 : (1048576 : Int) - n - m < 0
      · exact needs_big2 O q e0 os A n c xs B m d ys w hK ho hmo hI hn hmx hJ hm hmy (by omega) h1 h2
      · exact needs_main O q e0 os A n c xs B m d ys w hK ho hmo hI hn hmx hJ hm hmy (by omega) h1 h2 (needsR os xs ys) (needsR_len _ _ _) (Lib.hid fun O A B e0 c d w g1 g2 g3 => specNeeds_any O A B q n m e0 c d os xs ys w g1 ho (by omega) g2 hn (by omega) g3 hm (by omega)) (Lib.hid fun O A B e0 c d w g1 g2 g3 => implNeeds_any O A B q n m e0 c d os xs ys w g1 ho (by omega) g2 hn (by omega) g3 hm (by omega))
set_option linter.unusedVariables false in
set_option maxRecDepth 100000 in
theorem FnExactNeeds_lifted (os : Os) (started : os.Started) (H : Type) (enc : TypeId × Value → H) :
    ReturnsInHanded {} Try.checked os 12 .any (Rows.fnExactNeedsSpec.pre6 enc Try.prog Try.f12 Rows.fnExactNeedsRow.domain false) (Rows.fnExactNeedsSpec.post enc Try.prog Try.f12 false true false false) := by
  refine returnsInHanded_of_change (C := Try.checked) own started (by kernel_rfl) Try.func12
    (ChangeSpec.witness6 (enc := enc) (C := Try.checked) false ⟨#[], #[.slice none 0 0, .agg #[.slice none 0 0], .agg #[.slice none 0 0]], []⟩ 8 (by kernel_rfl) (by kernel_rfl) (by kernel_rfl) (by kernel_rfl)) ?_
  intro W base args ds gs before hval0 hW hcnd _
  have hval : ∀ (j : Nat) t v, Try.f12.params[j]? = some t → args[j]? = some v → Value.okWide Try.prog W .any base t v := hval0
  have hW' := hW
  obtain ⟨p, q, hA0, hV, rfl, hfz, hnd⟩ := hW
  have hA : DataW.TrodAll enc Try.prog W 0 (fun _ => true) true Try.f12.params.toList args.toList ds p := hA0
  rw [Try.params12] at hA hval
  obtain ⟨v0, vs0, d0, ds0, p0, q0, hargs, rfl, rfl, h0, r0⟩ := trodAll_cons hA
  obtain ⟨v1, vs1, d1, ds1, p1, q1, rfl, rfl, rfl, h1, r1⟩ := trodAll_cons r0
  obtain ⟨v2, vs2, d2, ds2, p2, q2, rfl, rfl, rfl, h2, r2⟩ := trodAll_cons r1
  obtain ⟨rfl, rfl, rfl⟩ := trodAll_nil r2
  obtain rfl : args = #[v0, v1, v2] := by cases args; simp_all
  obtain ⟨rfl, rfl⟩ := trodVars_none hV
  have k0 := h0
  have lt0 : ∀ x ∈ p0, x.block < W.heap.size := by obtain ⟨m, hm⟩ := k0; exact DataW.trod_lt m _ _ _ hm
  obtain ⟨b0, len0, cap0, rfl⟩ := okWide_slice Try.underlying22 (hval 0 22 v0 rfl rfl)
  obtain ⟨z0, row0, ln0, mx0⟩ : ∃ xs, Ints W b0 xs ∧ xs.length = len0 ∧ len0 ≤ 9223372036854775807 := by obtain ⟨fuel, hf⟩ := h0; exact open_intS hf
  have k1 := h1
  have lt1 : ∀ x ∈ p1, x.block < W.heap.size := by obtain ⟨m, hm⟩ := k1; exact DataW.trod_lt m _ _ _ hm
  obtain ⟨b1, len1, cap1, z1, rfl, row1, ln1, mx1⟩ := open_label (hval 1 27 v1 rfl rfl) h1
  have k2 := h2
  have lt2 : ∀ x ∈ p2, x.block < W.heap.size := by obtain ⟨m, hm⟩ := k2; exact DataW.trod_lt m _ _ _ hm
  obtain ⟨b2, len2, cap2, z2, rfl, row2, ln2, mx2⟩ := open_label (hval 2 27 v2 rfl rfl) h2
  clear hA0 hval0
  refine (needs_walk b0 len0 cap0 z0 b1 len1 cap1 z1 b2 len2 cap2 z2 W row0 ln0 mx0 row1 ln1 mx1 row2 ln2 mx2).mono fun e W' ⟨he, bel⟩ => ?_
  subst he
  exact ⟨_, rfl, _, _, _, [], _, [], hW', trodAll_mk1 (shut_bool Try.underlying4 _), (trodAll_cons_mk (Below.trod laidOut (by kernel_rfl) (of_decide_eq_true (by kernel_rfl)) k0 bel lt0) (trodAll_cons_mk (Below.trod laidOut (by kernel_rfl) (of_decide_eq_true (by kernel_rfl)) k1 bel lt1) (trodAll_cons_mk (Below.trod laidOut (by kernel_rfl) (of_decide_eq_true (by kernel_rfl)) k2 bel lt2) trodAll_mk0))), rfl, bel.frame _, fun h => by cases h⟩
/-- THE STATEMENT -/
theorem FnExactNeeds_holds : Rows.FnExactNeedsSaid :=
  OpenClaim.holds_of_wide 12 Try.f12 rfl rfl rfl rfl rfl rfl rfl ⟨rfl, rfl, rfl, rfl, rfl⟩ rfl rfl rfl rfl rfl (by kernel_rfl) Try.func12 (by kernel_rfl)
    (of_decide_eq_true (by kernel_rfl)) (by unfold Func.isWrapper; first | (rw [if_pos (by decide +kernel)]; kernel_rfl) | (rw [if_neg (by decide +kernel)]; exact ⟨rfl, rfl⟩))
    (fun os started H enc _ => FnExactNeeds_lifted os started H enc)

end Go.Proofs.Ytkcchceoljlnaaa
