/- FnExactMeet: the program's Meet returns what the reference's returns. No condition. -/
import Derived.Test.YtkcchceoljlnaaaMeet
import Derived.Test.YtkcchceoljlnaaaJLaw
import Derived.Test.YtkcchceoljlnaaaOpenI
import Derived.Deep.RegionHeld3
namespace Go.Proofs.Ytkcchceoljlnaaa
set_option linter.unusedSimpArgs false
set_option linter.unusedVariables false
open Go.Joins Go.ChangeShapes Go.WideShapes Go.ChangeAt Go.RowKit Go.Deep
open Go.ChangeMaps (open_string shut_string)
attribute [local go_sem ↓] Go.wp_at_zero Go.wp_at_succ
set_option maxHeartbeats 1600000 in
theorem meet_big1 (A B : Option Addr) (n m c d : Nat) (xs ys : List Int) (w : World) (hI : Ints w A xs) (hn : xs.length = n) (hmx : n ≤ 9223372036854775807) (hJ : Ints w B ys) (hm : ys.length = m) (hmy : m ≤ 9223372036854775807) (hbig : (1048576 : Int) - n < 0) :
    Calls Try.prog 9 #[lab A n c, lab B m d] w fun e w' => e = .returned (.bool true) ∧ Below w.heap.size w w' := by
  clear hI hJ hn hm
  go_enter Try.func9, Try.ntmps9
  go_wp2_with fail
  refine (szLabel_no A n c 1048576 _ hmx (by omega) (by omega) (by omega)).mono ?_
  rintro e w1 ⟨rfl, hb⟩
  have ca : w1.cell? ⟨w.heap.size, 0, none⟩ = some (.slice A n c) := Below.keeps hb (by simp)
  have cb : w1.cell? ⟨w.heap.size + 1, 0, none⟩ = some (.slice B m d) := Below.keeps hb (by simp)
  have lca : w.heap.size < w1.heap.size := lt_of_cell ca
  have lcb : w.heap.size + 1 < w1.heap.size := lt_of_cell cb
  have hB : Below w.heap.size w w1 := Below.trans (by (repeat (first | exact Below.refl _ _ | assumption | refine Below.drew ?_ | refine Below.alloc ?_ ?_ _ | refine Below.setCell ?_ ?_ _)) <;> ((try simp) <;> omega)) (hb.mono (by (try simp) <;> omega))
  have hs := hB.size
  clear hb
  go_wp2_with fail
  go_ret
  exact ⟨rfl, hB⟩
set_option maxHeartbeats 1600000 in
theorem meet_big2 (A B : Option Addr) (n m c d : Nat) (xs ys : List Int) (w : World) (hI : Ints w A xs) (hn : xs.length = n) (hmx : n ≤ 9223372036854775807) (hJ : Ints w B ys) (hm : ys.length = m) (hmy : m ≤ 9223372036854775807) (hok : ¬ (1048576 : Int) - n < 0) (hbig : (1048576 : Int) - n - m < 0) :
    Calls Try.prog 9 #[lab A n c, lab B m d] w fun e w' => e = .returned (.bool true) ∧ Below w.heap.size w w' := by
  clear hI hJ hn hm
  go_enter Try.func9, Try.ntmps9
  go_wp2_with fail
  refine (szLabel_yes A n c 1048576 _ hmx (by omega) (by omega) (by omega)).mono ?_
  rintro e w1 ⟨rfl, hb⟩
  have ca : w1.cell? ⟨w.heap.size, 0, none⟩ = some (.slice A n c) := Below.keeps hb (by simp)
  have cb : w1.cell? ⟨w.heap.size + 1, 0, none⟩ = some (.slice B m d) := Below.keeps hb (by simp)
  have lca : w.heap.size < w1.heap.size := lt_of_cell ca
  have lcb : w.heap.size + 1 < w1.heap.size := lt_of_cell cb
  have hB : Below w.heap.size w w1 := Below.trans (by (repeat (first | exact Below.refl _ _ | assumption | refine Below.drew ?_ | refine Below.alloc ?_ ?_ _ | refine Below.setCell ?_ ?_ _)) <;> ((try simp) <;> omega)) (hb.mono (by (try simp) <;> omega))
  have hs := hB.size
  clear hb
  go_wp2_with fail
  refine (szLabel_no B m d (1048576 - n) _ hmy (by omega) (by omega) (by omega)).mono ?_
  rintro e w2 ⟨rfl, hb⟩
  have ca : w2.cell? ⟨w.heap.size, 0, none⟩ = some (.slice A n c) := Below.keeps hb ca
  have cb : w2.cell? ⟨w.heap.size + 1, 0, none⟩ = some (.slice B m d) := Below.keeps hb cb
  have lca : w.heap.size < w2.heap.size := lt_of_cell ca
  have lcb : w.heap.size + 1 < w2.heap.size := lt_of_cell cb
  have hB : Below w.heap.size w w2 := Below.trans hB (hb.mono hs)
  have hs := hB.size
  clear hb
  go_wp2_with fail
  go_ret
  exact ⟨rfl, hB⟩
set_option maxRecDepth 100000 in
set_option maxHeartbeats 12800000 in
theorem meet_main (A B : Option Addr) (n m c d : Nat) (xs ys : List Int) (w : World) (hI : Ints w A xs) (hn : xs.length = n) (hmx : n ≤ 9223372036854775807) (hJ : Ints w B ys) (hm : ys.length = m) (hmy : m ≤ 9223372036854775807) (hok : ¬ (1048576 : Int) - n < 0) (hok2 : ¬ (1048576 : Int) - n - m < 0) (R : List Int) (hr4 : R.length ≤ 4) (C : Hid (∀ (A B : Option Addr) (c d : Nat) (w : World), Ints w A xs → Ints w B ys → Calls Try.prog 33 #[lab A n c, lab B m d] w (LabPost R w))) (D : Hid (∀ (A B : Option Addr) (c d : Nat) (w : World), Ints w A xs → Ints w B ys → Calls Try.prog 34 #[lab A n c, lab B m d] w (LabPost R w))) :
    Calls Try.prog 9 #[lab A n c, lab B m d] w fun e w' => e = .returned (.bool true) ∧ Below w.heap.size w w' := by
  have HI := Lib.hid hI; have HJ := Lib.hid hJ; have HN := Lib.hid hn; have HM := Lib.hid hm
  clear hI hJ hn hm
  go_enter Try.func9, Try.ntmps9
  have hB := ((Below.refl w.heap.size w).alloc (Nat.le_refl _) (.cells #[.slice A n c] 27)).alloc (by simp) (.cells #[.slice B m d] 27)
  have hs := hB.size
  obtain ⟨ca, cb⟩ : ((w.alloc (.cells #[.slice A n c] 27)).alloc (.cells #[.slice B m d] 27)).cell? ⟨w.heap.size, 0, none⟩ = some (.slice A n c) ∧ ((w.alloc (.cells #[.slice A n c] 27)).alloc (.cells #[.slice B m d] 27)).cell? ⟨w.heap.size + 1, 0, none⟩ = some (.slice B m d) := ⟨by simp, by simp⟩
  go_wp2_with fail
  refine (szLabel_yes A n c 1048576 _ hmx (by omega) (by omega) (by omega)).mono ?_
  rintro e w1 ⟨rfl, hb⟩
  have ca := Below.keeps hb ca
  have cb := Below.keeps hb cb
  have hz1 := hb.size
  have hB := Below.trans hB (hb.mono (by (try simp) <;> omega))
  have hs := hB.size
  clear hb
  have lca : w.heap.size < w1.heap.size := lt_of_cell ca
  have lcb : w.heap.size + 1 < w1.heap.size := lt_of_cell cb
  go_wp2_with fail
  refine (szLabel_yes B m d (1048576 - n) _ hmy (by omega) (by omega) (by omega)).mono ?_
  rintro e w2 ⟨rfl, hb⟩
  have ca := Below.keeps hb ca
  have cb := Below.keeps hb cb
  have hz2 := hb.size
  have hB := Below.trans hB (hb.mono (by (try simp) <;> omega))
  have hs := hB.size
  clear hb
  have lca : w.heap.size < w2.heap.size := lt_of_cell ca
  have lcb : w.heap.size + 1 < w2.heap.size := lt_of_cell cb
  go_wp2_with fail
  refine wp_region_fr (U := Value × Value × Value × Value × Value × Value) [[], [0], [], [2, 1], [1, 3, 3], [], [5, 4, 4, 0, 1, 2, 3, 4, 5]] (fun u => match u with | (u24, u25, u26, u27, u28, u6) => [(24, u24), (25, u25), (26, u26), (27, u27), (28, u28), (6, u6)]) (undef, undef, undef, undef, undef, undef) (fun l u x => match u with | (u24, u25, u26, u27, u28, u6) => (x.cell? ⟨w.heap.size, 0, none⟩ = some (.slice A n c)) ∧ (x.cell? ⟨w.heap.size + 1, 0, none⟩ = some (.slice B m d)) ∧ (Below w.heap.size w x) ∧ (w2.heap.size ≤ x.heap.size) ∧ Hid (l.getD 0 false = true → u24 = lab A n c) ∧ Hid (l.getD 1 false = true → ∃ ga : Nat, u25 = lab (some ⟨ga, 0, none⟩) n n ∧ IBlk x ga xs) ∧ Hid (l.getD 2 false = true → u26 = lab B m d) ∧ Hid (l.getD 3 false = true → ∃ ga : Nat, u27 = lab (some ⟨ga, 0, none⟩) m m ∧ IBlk x ga ys) ∧ Hid (l.getD 4 false = true → ∃ (A0 : Option Addr) (c0 : Nat), u28 = lab A0 R.length c0 ∧ Own x w2.heap.size 3 A0 (R.map (Value.int .i64))) ∧ Hid (l.getD 5 false = true → ∃ (g : Nat) (x0 : Value), u6 = .pointer (some ⟨g, 0, none⟩) ∧ w2.heap.size ≤ g ∧ x.heap[g]? = some (.cells #[x0] 30 (0, 0))) ∧ Hid (l.getD 6 false = true → l.getD 5 false = true ∧ (l.getD 4 false = true ∧ (∃ (g : Nat) (A0 : Option Addr) (c0 : Nat), u6 = .pointer (some ⟨g, 0, none⟩) ∧ w2.heap.size ≤ g ∧ x.heap[g]? = some (.cells #[.slice A0 R.length c0] 30 (0, 0)) ∧ Own x w2.heap.size 3 A0 (R.map (Value.int .i64)))))) (by kernel_rfl) (by kernel_rfl) ?_ ?_ ?_ ?_
  · kernel_rfl
  · exact ⟨(by exact ca), (by exact cb), (by exact hB.drew), (Nat.le_refl _), fun h => repl_off h, fun h => repl_off h, fun h => repl_off h, fun h => repl_off h, fun h => repl_off h, fun h => repl_off h, fun h => repl_off h⟩
  · refine ⟨?_, ?_, ?_, ?_, ?_, ?_, ?_, trivial⟩
    · refine ⟨rfl, ?_⟩
      rintro l ⟨u24, u25, u26, u27, u28, u6⟩ x ⟨ca, cb, hB, hsx, g0, g1, g2, g3, g4, g5, g6⟩ hun hpre K hK
      clear hpre
      refine ⟨?_⟩
      simp only [Prod.forall, putAll, List.setIfInBounds_toArray, List.set_cons_zero, List.set_cons_succ] at hK ⊢
      go_simp
      exact hK _ _ _ _ _ _ _ ⟨ca, cb, hB, hsx, fun _ => rfl, fun h => g1.out (on_set_other (by decide) h), fun h => g2.out (on_set_other (by decide) h), fun h => g3.out (on_set_other (by decide) h), fun h => g4.out (on_set_other (by decide) h), fun h => g5.out (on_set_other (by decide) h), fun h => (fun ⟨o5, o4, h2⟩ => ⟨on_keep o5, on_keep o4, h2⟩) (g6.out (on_set_other (by decide) h))⟩
    · refine ⟨rfl, ?_⟩
      rintro l ⟨u24, u25, u26, u27, u28, u6⟩ x ⟨ca, cb, hB, hsx, g0, g1, g2, g3, g4, g5, g6⟩ hun hpre K hK
      obtain ⟨e0, -⟩ := hpre
      obtain rfl := g0.out e0
      refine ⟨?_⟩
      simp only [Prod.forall, putAll, List.setIfInBounds_toArray, List.set_cons_zero, List.set_cons_succ] at hK ⊢
      go_simp
      refine (toLabel_any A n c xs _ (by exact HI.out.keep fun _ _ h => Below.keeps hB h) HN.out (by omega)).mono ?_
      rintro e x2 ⟨rfl, hb, hgx⟩
      exact hK _ _ _ _ _ _ _ ⟨Below.keeps hb ca, Below.keeps hb cb, hB.trans (hb.mono hB.size), (Nat.le_trans hsx hb.size), fun h => g0.out (on_set_other (by decide) h), fun _ => ⟨_, rfl, hgx⟩, fun h => g2.out (on_set_other (by decide) h), fun h => (fun ⟨g, h1, h2⟩ => ⟨g, h1, h2.below hb⟩) (g3.out (on_set_other (by decide) h)), fun h => (fun ⟨A0, c0, h1, h2⟩ => ⟨A0, c0, h1, h2.below hb⟩) (g4.out (on_set_other (by decide) h)), fun h => (fun ⟨ga, x0, h1, h2, h3⟩ => ⟨ga, x0, h1, h2, keepblk hb h3⟩) (g5.out (on_set_other (by decide) h)), fun h => (fun ⟨o5, o4, h2⟩ => ⟨on_keep o5, on_keep o4, (fun ⟨ga, A0, c0, h1, h2, h3, h4⟩ => ⟨ga, A0, c0, h1, h2, keepblk hb h3, h4.below hb⟩) h2⟩) (g6.out (on_set_other (by decide) h))⟩
    · refine ⟨rfl, ?_⟩
      rintro l ⟨u24, u25, u26, u27, u28, u6⟩ x ⟨ca, cb, hB, hsx, g0, g1, g2, g3, g4, g5, g6⟩ hun hpre K hK
      clear hpre
      refine ⟨?_⟩
      simp only [Prod.forall, putAll, List.setIfInBounds_toArray, List.set_cons_zero, List.set_cons_succ] at hK ⊢
      go_simp
      exact hK _ _ _ _ _ _ _ ⟨ca, cb, hB, hsx, fun h => g0.out (on_set_other (by decide) h), fun h => g1.out (on_set_other (by decide) h), fun _ => rfl, fun h => g3.out (on_set_other (by decide) h), fun h => g4.out (on_set_other (by decide) h), fun h => g5.out (on_set_other (by decide) h), fun h => (fun ⟨o5, o4, h2⟩ => ⟨on_keep o5, on_keep o4, h2⟩) (g6.out (on_set_other (by decide) h))⟩
    · refine ⟨rfl, ?_⟩
      rintro l ⟨u24, u25, u26, u27, u28, u6⟩ x ⟨ca, cb, hB, hsx, g0, g1, g2, g3, g4, g5, g6⟩ hun hpre K hK
      obtain ⟨e2, e1, -⟩ := hpre
      obtain ⟨gx, rfl, hgx⟩ := g1.out e1
      obtain rfl := g2.out e2
      refine ⟨?_⟩
      simp only [Prod.forall, putAll, List.setIfInBounds_toArray, List.set_cons_zero, List.set_cons_succ] at hK ⊢
      go_simp
      refine (toLabel_any B m d ys _ (by exact HJ.out.keep fun _ _ h => Below.keeps hB h) HM.out (by omega)).mono ?_
      rintro e x2 ⟨rfl, hb, hgy⟩
      exact hK _ _ _ _ _ _ _ ⟨Below.keeps hb ca, Below.keeps hb cb, hB.trans (hb.mono hB.size), (Nat.le_trans hsx hb.size), fun h => g0.out (on_set_other (by decide) h), fun h => (fun ⟨g, h1, h2⟩ => ⟨g, h1, h2.below hb⟩) (g1.out (on_set_other (by decide) h)), fun h => g2.out (on_set_other (by decide) h), fun _ => ⟨_, rfl, hgy⟩, fun h => (fun ⟨A0, c0, h1, h2⟩ => ⟨A0, c0, h1, h2.below hb⟩) (g4.out (on_set_other (by decide) h)), fun h => (fun ⟨ga, x0, h1, h2, h3⟩ => ⟨ga, x0, h1, h2, keepblk hb h3⟩) (g5.out (on_set_other (by decide) h)), fun h => (fun ⟨o5, o4, h2⟩ => ⟨on_keep o5, on_keep o4, (fun ⟨ga, A0, c0, h1, h2, h3, h4⟩ => ⟨ga, A0, c0, h1, h2, keepblk hb h3, h4.below hb⟩) h2⟩) (g6.out (on_set_other (by decide) h))⟩
    · refine ⟨rfl, ?_⟩
      rintro l ⟨u24, u25, u26, u27, u28, u6⟩ x ⟨ca, cb, hB, hsx, g0, g1, g2, g3, g4, g5, g6⟩ hun hpre K hK
      obtain ⟨e1, e3, _, -⟩ := hpre
      obtain ⟨gx, rfl, hgx⟩ := g1.out e1
      obtain ⟨gy, rfl, hgy⟩ := g3.out e3
      refine ⟨?_⟩
      simp only [Prod.forall, putAll, List.setIfInBounds_toArray, List.set_cons_zero, List.set_cons_succ] at hK ⊢
      go_simp
      refine (C.out _ _ _ _ _ (by exact hgx.ints) (by exact hgy.ints)).mono ?_
      rintro e x2 ⟨A0, c0, rfl, ho0, hb⟩
      exact hK _ _ _ _ _ _ _ ⟨Below.keeps hb ca, Below.keeps hb cb, hB.trans (hb.mono hB.size), (Nat.le_trans hsx hb.size), fun h => g0.out (on_set_other (by decide) h), fun h => (fun ⟨g, h1, h2⟩ => ⟨g, h1, h2.below hb⟩) (g1.out (on_set_other (by decide) h)), fun h => g2.out (on_set_other (by decide) h), fun h => (fun ⟨g, h1, h2⟩ => ⟨g, h1, h2.below hb⟩) (g3.out (on_set_other (by decide) h)), fun _ => ⟨_, _, rfl, ho0.more (by omega)⟩, fun h => (fun ⟨ga, x0, h1, h2, h3⟩ => ⟨ga, x0, h1, h2, keepblk hb h3⟩) (g5.out (on_set_other (by decide) h)), fun h => off_of_on hun (g6.out (on_set_other (by decide) h)).2.1⟩
    · refine ⟨rfl, ?_⟩
      rintro l ⟨u24, u25, u26, u27, u28, u6⟩ x ⟨ca, cb, hB, hsx, g0, g1, g2, g3, g4, g5, g6⟩ hun hpre K hK
      clear hpre
      refine ⟨?_⟩
      simp only [Prod.forall, putAll, List.setIfInBounds_toArray, List.set_cons_zero, List.set_cons_succ] at hK ⊢
      go_simp
      exact hK _ _ _ _ _ _ _ ⟨cell_alloc_ ca, cell_alloc_ cb, hB.alloc hB.size _, (Nat.le_trans hsx (by simp)), fun h => g0.out (on_set_other (by decide) h), fun h => (fun ⟨g, h1, h2⟩ => ⟨g, h1, h2.alloc _⟩) (g1.out (on_set_other (by decide) h)), fun h => g2.out (on_set_other (by decide) h), fun h => (fun ⟨g, h1, h2⟩ => ⟨g, h1, h2.alloc _⟩) (g3.out (on_set_other (by decide) h)), fun h => (fun ⟨A0, c0, h1, h2⟩ => ⟨A0, c0, h1, h2.alloc _⟩) (g4.out (on_set_other (by decide) h)), fun _ => ⟨_, _, rfl, hsx, heap_alloc_new x _⟩, fun h => off_of_on hun (g6.out (on_set_other (by decide) h)).1⟩
    · refine ⟨rfl, ?_⟩
      rintro l ⟨u24, u25, u26, u27, u28, u6⟩ x ⟨ca, cb, hB, hsx, g0, g1, g2, g3, g4, g5, g6⟩ hun hpre K hK
      obtain ⟨e5, e4, _, e0, e1, e2, e3, _, _, -⟩ := hpre
      obtain rfl := g0.out e0
      obtain ⟨gx, rfl, hgx⟩ := g1.out e1
      obtain rfl := g2.out e2
      obtain ⟨gy, rfl, hgy⟩ := g3.out e3
      obtain ⟨A0, c0, rfl, ho0⟩ := g4.out e4
      obtain ⟨gb0, x0, rfl, hgs, hh⟩ := g5.out e5
      refine ⟨?_⟩
      simp only [Prod.forall, putAll, List.setIfInBounds_toArray, List.set_cons_zero, List.set_cons_succ] at hK ⊢
      have hg1 := hgs
      obtain ⟨hcl, hfr⟩ := blkcell hh
      go_simp
      have hnew := blk_set (i := 0) hh (.slice A0 R.length c0)
      exact hK _ _ _ _ _ _ _ ⟨cell_set_ ca (by (try dsimp only); omega), cell_set_ cb (by (try dsimp only); omega), hB.setCell (by (try dsimp only); omega) _, (by simpa using hsx), fun h => g0.out (on_set_other (by decide) h), fun h => (fun ⟨g, h1, h2⟩ => ⟨g, h1, h2.farT hh (by decide) _ _⟩) (g1.out (on_set_other (by decide) h)), fun h => g2.out (on_set_other (by decide) h), fun h => (fun ⟨g, h1, h2⟩ => ⟨g, h1, h2.farT hh (by decide) _ _⟩) (g3.out (on_set_other (by decide) h)), fun h => (fun ⟨A0, c0, h1, h2⟩ => ⟨A0, c0, h1, h2.farT hh (by decide) _ _⟩) (g4.out (on_set_other (by decide) h)), fun h => ⟨gb0, _, rfl, hgs, hnew⟩, fun _ => ⟨on_keep e5, ⟨on_keep e4, ⟨gb0, A0, c0, rfl, hgs, hnew, ho0.farT hh (by decide) _ _⟩⟩⟩⟩
  · rintro l ⟨u24, u25, u26, u27, u28, u6⟩ x ⟨ca, cb, hB, hsx, g0, g1, g2, g3, g4, g5, g6⟩ hon
    have e0 := hon (j := 0) rfl trivial
    have e1 := hon (j := 1) rfl ⟨e0, trivial⟩
    have e2 := hon (j := 2) rfl trivial
    have e3 := hon (j := 3) rfl ⟨e2, e1, trivial⟩
    have e4 := hon (j := 4) rfl ⟨e1, e3, e3, trivial⟩
    have e5 := hon (j := 5) rfl trivial
    have e6 := hon (j := 6) rfl ⟨e5, e4, e4, e0, e1, e2, e3, e4, e5, trivial⟩
    obtain rfl := g0.out e0; clear g0
    obtain ⟨gx, rfl, hgx⟩ := g1.out e1; clear g1
    obtain rfl := g2.out e2; clear g2
    obtain ⟨gy, rfl, hgy⟩ := g3.out e3; clear g3
    clear g4
    clear g5
    obtain ⟨-, ⟨-, ⟨gb0, A0, c0, rfl, hgb0, hhb0, o0⟩⟩⟩ := g6.out e6; clear g6
    clear hon e0 e1 e2 e3 e4 e5 e6 l
    refine ⟨?_⟩
    simp only [Prod.forall, putAll, List.setIfInBounds_toArray, List.set_cons_zero, List.set_cons_succ]
    skip
    have b0 : x.cell? ⟨gb0, 0, none⟩ = some (.slice A0 R.length c0) := (blkcell hhb0).1 0
    have lgb0 := lt_of_blk hhb0
    have o0 := OwnL.of_own o0
    have hs := hB.size
    clear hhb0 hgx hgy
    obtain ⟨x3, hx3⟩ : ∃ x3, x3 = x := ⟨_, rfl⟩
    subst hx3
    go_wp2_with fail
    refine (toLabel_any A n c xs _ (by exact (HI.out.keep fun _ _ h => Below.keeps hB h)) HN.out (by omega)).mono ?_
    rintro e w41 ⟨rfl, hb, ga⟩
    have o0 := (o0).below hb
    have ca := Below.keeps hb ca
    have cb := Below.keeps hb cb
    have b0 := Below.keeps hb b0
    have hz41 := hb.size
    have hB := Below.trans hB (hb.mono (by (try simp) <;> omega))
    have hs := hB.size
    clear hb
    have lca : w.heap.size < w41.heap.size := lt_of_cell ca
    have lcb : w.heap.size + 1 < w41.heap.size := lt_of_cell cb
    have lb0 : gb0 < w41.heap.size := lt_of_cell b0
    have ga := OwnL.of_blk ga
    go_wp2_with fail
    refine (toLabel_any B m d ys _ (by exact (HJ.out.keep fun _ _ h => Below.keeps hB h).alloc _) HM.out (by omega)).mono ?_
    rintro e w42 ⟨rfl, hb, gy⟩
    have o0 := (o0.alloc _).below hb
    have ga := (ga.alloc _).below hb
    have ca := Below.keeps hb (cell_alloc_ ca)
    have cb := Below.keeps hb (cell_alloc_ cb)
    have b0 := Below.keeps hb (cell_alloc_ b0)
    have xa : w42.cell? ⟨w41.heap.size, 0, none⟩ = some (.slice (some ⟨x3.heap.size + 3, 0, none⟩) n n) := Below.keeps hb (by simp)
    have hz42 := hb.size
    simp only [World.size_alloc] at hz42
    have hB := Below.trans (hB.alloc (by (try simp) <;> omega) _) (hb.mono (by (try simp) <;> omega))
    have hs := hB.size
    clear hb
    have lca : w.heap.size < w42.heap.size := lt_of_cell ca
    have lcb : w.heap.size + 1 < w42.heap.size := lt_of_cell cb
    have lb0 : gb0 < w42.heap.size := lt_of_cell b0
    have lxa : w41.heap.size < w42.heap.size := lt_of_cell xa
    simp only [World.size_alloc] at gy
    have gy : IBlk w42 (w41.heap.size + 4) ys := by simpa only [Nat.add_assoc, Nat.add_comm, Nat.reduceAdd] using gy
    have gy := OwnL.of_blk gy
    go_wp2_with fail
    refine (D.out _ _ _ _ _ (by exact (ga.alloc _).ints) (by exact (gy.alloc _).ints)).mono ?_
    rintro e w43 ⟨A1, c1, rfl, o1, hb⟩
    have o0 := (o0.alloc _).below hb
    have ga := (ga.alloc _).below hb
    have gy := (gy.alloc _).below hb
    have ca := Below.keeps hb (cell_alloc_ ca)
    have cb := Below.keeps hb (cell_alloc_ cb)
    have b0 := Below.keeps hb (cell_alloc_ b0)
    have xa := Below.keeps hb (cell_alloc_ xa)
    have xb : w43.cell? ⟨w42.heap.size, 0, none⟩ = some (.slice (some ⟨w41.heap.size + 4, 0, none⟩) m m) := Below.keeps hb (by simp)
    have hz43 := hb.size
    simp only [World.size_alloc] at hz43
    have hB := Below.trans (hB.alloc (by (try simp) <;> omega) _) (hb.mono (by (try simp) <;> omega))
    have hs := hB.size
    clear hb
    have lca : w.heap.size < w43.heap.size := lt_of_cell ca
    have lcb : w.heap.size + 1 < w43.heap.size := lt_of_cell cb
    have lb0 : gb0 < w43.heap.size := lt_of_cell b0
    have lxa : w41.heap.size < w43.heap.size := lt_of_cell xa
    have lxb : w42.heap.size < w43.heap.size := lt_of_cell xb
    simp only [World.size_alloc] at o1
    have o1 := OwnL.of_own o1
    go_wp2_with fail
    refine (eqLabel_self _ _ _ _ _ R _ (by exact (o1.alloc _).ints) (by exact (o0.alloc _).ints) rfl (by omega)).mono ?_
    rintro e w44 ⟨rfl, hb⟩
    have o0 := (o0.alloc _).below hb
    have ga := (ga.alloc _).below hb
    have gy := (gy.alloc _).below hb
    have o1 := (o1.alloc _).below hb
    have ca := Below.keeps hb (cell_alloc_ ca)
    have cb := Below.keeps hb (cell_alloc_ cb)
    have b0 := Below.keeps hb (cell_alloc_ b0)
    have xa := Below.keeps hb (cell_alloc_ xa)
    have xb := Below.keeps hb (cell_alloc_ xb)
    have b1 : w44.cell? ⟨w43.heap.size, 0, none⟩ = some (.slice A1 R.length c1) := Below.keeps hb (by simp)
    have hz44 := hb.size
    simp only [World.size_alloc] at hz44
    have hB := Below.trans (hB.alloc (by (try simp) <;> omega) _) (hb.mono (by (try simp) <;> omega))
    have hs := hB.size
    clear hb
    have lca : w.heap.size < w44.heap.size := lt_of_cell ca
    have lcb : w.heap.size + 1 < w44.heap.size := lt_of_cell cb
    have lb0 : gb0 < w44.heap.size := lt_of_cell b0
    have lxa : w41.heap.size < w44.heap.size := lt_of_cell xa
    have lxb : w42.heap.size < w44.heap.size := lt_of_cell xb
    have lb1 : w43.heap.size < w44.heap.size := lt_of_cell b1
    go_wp2_with fail
    go_region_held3 (fun x => x.cell? ⟨w.heap.size, 0, none⟩ = some (.slice A n c) ∧ x.cell? ⟨w.heap.size + 1, 0, none⟩ = some (.slice B m d) ∧ x.cell? ⟨gb0, 0, none⟩ = some (.slice A0 R.length c0) ∧ x.cell? ⟨w41.heap.size, 0, none⟩ = some (.slice (some ⟨x3.heap.size + 3, 0, none⟩) n n) ∧ x.cell? ⟨w42.heap.size, 0, none⟩ = some (.slice (some ⟨w41.heap.size + 4, 0, none⟩) m m) ∧ x.cell? ⟨w43.heap.size, 0, none⟩ = some (.slice A1 R.length c1)) ((repeat' apply And.intro) <;> (first | assumption | (simp [*]; done)))
      (first
        | (go_at_call 20; refine (toLabel_any A n c xs _ (by exact HI.out.keep fun _ _ h => Below.keeps hB.drew h) HN.out (by omega)).mono ?_; rintro e w45 ⟨rfl, hb, gt⟩; have o0 := (OwnL.drew o0).below hb; have ga := (OwnL.drew ga).below hb; have gy := (OwnL.drew gy).below hb; have o1 := (OwnL.drew o1).below hb; have ca := Below.keeps hb ca; have cb := Below.keeps hb cb; have b0 := Below.keeps hb b0; have xa := Below.keeps hb xa; have xb := Below.keeps hb xb; have b1 := Below.keeps hb b1; have hz45 := hb.size; (try simp only [World.size_drew] at hz45); have hB := Below.trans hB.drew (hb.mono hs); have hs := hB.size; clear hb)
        | (go_at_call 22; refine (eqLabel_self _ _ _ _ _ xs _ (by exact ga.ints) (by exact gt.ints) HN.out (by omega)).mono ?_; rintro e w46 ⟨rfl, hb⟩; have o0 := o0.below hb; have ga := ga.below hb; have gy := gy.below hb; have o1 := o1.below hb; have ca := Below.keeps hb ca; have cb := Below.keeps hb cb; have b0 := Below.keeps hb b0; have xa := Below.keeps hb xa; have xb := Below.keeps hb xb; have b1 := Below.keeps hb b1; have hz46 := hb.size; (try simp only [World.size_drew] at hz46); have hB := Below.trans hB (hb.mono hs); have hs := hB.size; clear hb))
    clear gt
    go_wp2_with fail
    go_region_held3 (fun x => x.cell? ⟨w.heap.size, 0, none⟩ = some (.slice A n c) ∧ x.cell? ⟨w.heap.size + 1, 0, none⟩ = some (.slice B m d) ∧ x.cell? ⟨gb0, 0, none⟩ = some (.slice A0 R.length c0) ∧ x.cell? ⟨w41.heap.size, 0, none⟩ = some (.slice (some ⟨x3.heap.size + 3, 0, none⟩) n n) ∧ x.cell? ⟨w42.heap.size, 0, none⟩ = some (.slice (some ⟨w41.heap.size + 4, 0, none⟩) m m) ∧ x.cell? ⟨w43.heap.size, 0, none⟩ = some (.slice A1 R.length c1)) ((repeat' apply And.intro) <;> (first | assumption | (simp [*]; done)))
      (first
        | (go_at_call 20; refine (toLabel_any B m d ys _ (by exact HJ.out.keep fun _ _ h => Below.keeps hB.drew h) HM.out (by omega)).mono ?_; rintro e w47 ⟨rfl, hb, gt⟩; have o0 := (OwnL.drew o0).below hb; have ga := (OwnL.drew ga).below hb; have gy := (OwnL.drew gy).below hb; have o1 := (OwnL.drew o1).below hb; have ca := Below.keeps hb ca; have cb := Below.keeps hb cb; have b0 := Below.keeps hb b0; have xa := Below.keeps hb xa; have xb := Below.keeps hb xb; have b1 := Below.keeps hb b1; have hz47 := hb.size; (try simp only [World.size_drew] at hz47); have hB := Below.trans hB.drew (hb.mono hs); have hs := hB.size; clear hb)
        | (go_at_call 22; refine (eqLabel_self _ _ _ _ _ ys _ (by exact gy.ints) (by exact gt.ints) HM.out (by omega)).mono ?_; rintro e w48 ⟨rfl, hb⟩; have o0 := o0.below hb; have ga := ga.below hb; have gy := gy.below hb; have o1 := o1.below hb; have ca := Below.keeps hb ca; have cb := Below.keeps hb cb; have b0 := Below.keeps hb b0; have xa := Below.keeps hb xa; have xb := Below.keeps hb xb; have b1 := Below.keeps hb b1; have hz48 := hb.size; (try simp only [World.size_drew] at hz48); have hB := Below.trans hB (hb.mono hs); have hs := hB.size; clear hb))
    clear gt
    go_wp2_with fail
    refine (markLabel_own _ _ _ n _ xs 1 _ ga HN.out (by omega) (by omega) (by omega)).mono ?_
    rintro e w49 ⟨rfl, ho, row, hg, hr⟩
    have o0 := o0.far hg hr (by omega)
    have gy := gy.far hg hr (by omega)
    have o1 := o1.far hg hr (by omega)
    have ca := cell_grown hg ca (fun g h => by have := hr g h; (try dsimp only); omega)
    have cb := cell_grown hg cb (fun g h => by have := hr g h; (try dsimp only); omega)
    have b0 := cell_grown hg b0 (fun g h => by have := hr g h; (try dsimp only); omega)
    have xa := cell_grown hg xa (fun g h => by have := hr g h; (try dsimp only); omega)
    have xb := cell_grown hg xb (fun g h => by have := hr g h; (try dsimp only); omega)
    have b1 := cell_grown hg b1 (fun g h => by have := hr g h; (try dsimp only); omega)
    have lca : w.heap.size < w49.heap.size := lt_of_cell ca
    have lcb : w.heap.size + 1 < w49.heap.size := lt_of_cell cb
    have lb0 : gb0 < w49.heap.size := lt_of_cell b0
    have lxa : w41.heap.size < w49.heap.size := lt_of_cell xa
    have lxb : w42.heap.size < w49.heap.size := lt_of_cell xb
    have lb1 : w43.heap.size < w49.heap.size := lt_of_cell b1
    have hz49 := hg.size
    have hB := hB.grown hg (by omega) (fun g h => by have := hr g h; omega)
    have hs := hB.size
    have ga := ho
    clear ho hg hr
    clear ga
    go_wp2_with fail
    refine (markLabel_own _ _ _ m _ ys (1 + n) _ gy HM.out (by omega) (by omega) (by omega)).mono ?_
    rintro e w50 ⟨rfl, ho, row, hg, hr⟩
    have o0 := o0.far hg hr (by omega)
    have o1 := o1.far hg hr (by omega)
    have ca := cell_grown hg ca (fun g h => by have := hr g h; (try dsimp only); omega)
    have cb := cell_grown hg cb (fun g h => by have := hr g h; (try dsimp only); omega)
    have b0 := cell_grown hg b0 (fun g h => by have := hr g h; (try dsimp only); omega)
    have xa := cell_grown hg xa (fun g h => by have := hr g h; (try dsimp only); omega)
    have xb := cell_grown hg xb (fun g h => by have := hr g h; (try dsimp only); omega)
    have b1 := cell_grown hg b1 (fun g h => by have := hr g h; (try dsimp only); omega)
    have lca : w.heap.size < w50.heap.size := lt_of_cell ca
    have lcb : w.heap.size + 1 < w50.heap.size := lt_of_cell cb
    have lb0 : gb0 < w50.heap.size := lt_of_cell b0
    have lxa : w41.heap.size < w50.heap.size := lt_of_cell xa
    have lxb : w42.heap.size < w50.heap.size := lt_of_cell xb
    have lb1 : w43.heap.size < w50.heap.size := lt_of_cell b1
    have hz50 := hg.size
    have hB := hB.grown hg (by omega) (fun g h => by have := hr g h; omega)
    have hs := hB.size
    have gy := ho
    clear ho hg hr
    clear gy
    go_wp2_with fail
    refine (eqLabel_self _ _ _ _ _ R _ (by exact o1.ints) (by exact o0.ints) rfl (by omega)).mono ?_
    rintro e w51 ⟨rfl, hb⟩
    have o0 := (o0).below hb
    have o1 := (o1).below hb
    have ca := Below.keeps hb ca
    have cb := Below.keeps hb cb
    have b0 := Below.keeps hb b0
    have xa := Below.keeps hb xa
    have xb := Below.keeps hb xb
    have b1 := Below.keeps hb b1
    have hz51 := hb.size
    have hB := Below.trans hB (hb.mono (by (try simp) <;> omega))
    have hs := hB.size
    clear hb
    have lca : w.heap.size < w51.heap.size := lt_of_cell ca
    have lcb : w.heap.size + 1 < w51.heap.size := lt_of_cell cb
    have lb0 : gb0 < w51.heap.size := lt_of_cell b0
    have lxa : w41.heap.size < w51.heap.size := lt_of_cell xa
    have lxb : w42.heap.size < w51.heap.size := lt_of_cell xb
    have lb1 : w43.heap.size < w51.heap.size := lt_of_cell b1
    go_wp2_with fail
    refine (markLabel_own _ _ _ R.length _ R 1 _ o1 rfl (by omega) (by omega) (by omega)).mono ?_
    rintro e w52 ⟨rfl, ho, row, hg, hr⟩
    have o0 := o0.far hg hr (by omega)
    have ca := cell_grown hg ca (fun g h => by have := hr g h; (try dsimp only); omega)
    have cb := cell_grown hg cb (fun g h => by have := hr g h; (try dsimp only); omega)
    have b0 := cell_grown hg b0 (fun g h => by have := hr g h; (try dsimp only); omega)
    have xa := cell_grown hg xa (fun g h => by have := hr g h; (try dsimp only); omega)
    have xb := cell_grown hg xb (fun g h => by have := hr g h; (try dsimp only); omega)
    have b1 := cell_grown hg b1 (fun g h => by have := hr g h; (try dsimp only); omega)
    have lca : w.heap.size < w52.heap.size := lt_of_cell ca
    have lcb : w.heap.size + 1 < w52.heap.size := lt_of_cell cb
    have lb0 : gb0 < w52.heap.size := lt_of_cell b0
    have lxa : w41.heap.size < w52.heap.size := lt_of_cell xa
    have lxb : w42.heap.size < w52.heap.size := lt_of_cell xb
    have lb1 : w43.heap.size < w52.heap.size := lt_of_cell b1
    have hz52 := hg.size
    have hB := hB.grown hg (by omega) (fun g h => by have := hr g h; omega)
    have hs := hB.size
    have o1 := ho
    clear ho hg hr
    go_wp2_with fail
    refine (heldLabel_any _ R.length _ 1 _ o1.ints (by omega) (by omega) (by omega)).mono ?_
    rintro e w53 ⟨rfl, hb⟩
    have o0 := (o0).below hb
    have o1 := (o1).below hb
    have ca := Below.keeps hb ca
    have cb := Below.keeps hb cb
    have b0 := Below.keeps hb b0
    have xa := Below.keeps hb xa
    have xb := Below.keeps hb xb
    have b1 := Below.keeps hb b1
    have hz53 := hb.size
    have hB := Below.trans hB (hb.mono (by (try simp) <;> omega))
    have hs := hB.size
    clear hb
    have lca : w.heap.size < w53.heap.size := lt_of_cell ca
    have lcb : w.heap.size + 1 < w53.heap.size := lt_of_cell cb
    have lb0 : gb0 < w53.heap.size := lt_of_cell b0
    have lxa : w41.heap.size < w53.heap.size := lt_of_cell xa
    have lxb : w42.heap.size < w53.heap.size := lt_of_cell xb
    have lb1 : w43.heap.size < w53.heap.size := lt_of_cell b1
    go_wp2_with fail
    refine wp_region_fr (U := Value × Value × Value × Value × Value × Value) [[], [0], [], [2, 1], [1, 3, 3], [], [5, 4, 4, 0, 1, 2, 3, 4, 5]] (fun u => match u with | (u75, u76, u77, u78, u79, u13) => [(75, u75), (76, u76), (77, u77), (78, u78), (79, u79), (13, u13)]) (undef, undef, undef, undef, undef, undef) (fun l u x => match u with | (u75, u76, u77, u78, u79, u13) => (x.cell? ⟨w.heap.size, 0, none⟩ = some (.slice A n c)) ∧ (x.cell? ⟨w.heap.size + 1, 0, none⟩ = some (.slice B m d)) ∧ (x.cell? ⟨gb0, 0, none⟩ = some (.slice A0 R.length c0)) ∧ (x.cell? ⟨w43.heap.size, 0, none⟩ = some (.slice A1 R.length c1)) ∧ (OwnL x w2.heap.size x3.heap.size A0 R) ∧ (OwnL x (w42.heap.size + 1) w43.heap.size A1 (markL 1 R.length)) ∧ (Below w.heap.size w x) ∧ (w53.heap.size ≤ x.heap.size) ∧ Hid (l.getD 0 false = true → u75 = lab A n c) ∧ Hid (l.getD 1 false = true → ∃ ga : Nat, u76 = lab (some ⟨ga, 0, none⟩) n n ∧ IBlk x ga xs) ∧ Hid (l.getD 2 false = true → u77 = lab B m d) ∧ Hid (l.getD 3 false = true → ∃ ga : Nat, u78 = lab (some ⟨ga, 0, none⟩) m m ∧ IBlk x ga ys) ∧ Hid (l.getD 4 false = true → ∃ (A0 : Option Addr) (c0 : Nat), u79 = lab A0 R.length c0 ∧ Own x w53.heap.size 3 A0 (R.map (Value.int .i64))) ∧ Hid (l.getD 5 false = true → ∃ (g : Nat) (x0 : Value), u13 = .pointer (some ⟨g, 0, none⟩) ∧ w53.heap.size ≤ g ∧ x.heap[g]? = some (.cells #[x0] 30 (0, 0))) ∧ Hid (l.getD 6 false = true → l.getD 5 false = true ∧ (l.getD 4 false = true ∧ (∃ (g : Nat) (A0 : Option Addr) (c0 : Nat), u13 = .pointer (some ⟨g, 0, none⟩) ∧ w53.heap.size ≤ g ∧ x.heap[g]? = some (.cells #[.slice A0 R.length c0] 30 (0, 0)) ∧ Own x w53.heap.size 3 A0 (R.map (Value.int .i64)))))) (by kernel_rfl) (by kernel_rfl) ?_ ?_ ?_ ?_
    · kernel_rfl
    · exact ⟨(by exact ca), (by exact cb), (by exact b0), (by exact b1), (by exact OwnL.drew o0), (by exact OwnL.drew o1), (by exact hB.drew), (Nat.le_refl _), fun h => repl_off h, fun h => repl_off h, fun h => repl_off h, fun h => repl_off h, fun h => repl_off h, fun h => repl_off h, fun h => repl_off h⟩
    · refine ⟨?_, ?_, ?_, ?_, ?_, ?_, ?_, trivial⟩
      · refine ⟨rfl, ?_⟩
        rintro l ⟨u75, u76, u77, u78, u79, u13⟩ x ⟨ca, cb, b0, b1, o0, o1, hB, hsx, g0, g1, g2, g3, g4, g5, g6⟩ hun hpre K hK
        clear hpre
        refine ⟨?_⟩
        simp only [Prod.forall, putAll, List.setIfInBounds_toArray, List.set_cons_zero, List.set_cons_succ] at hK ⊢
        go_simp
        exact hK _ _ _ _ _ _ _ ⟨ca, cb, b0, b1, o0, o1, hB, hsx, fun _ => rfl, fun h => g1.out (on_set_other (by decide) h), fun h => g2.out (on_set_other (by decide) h), fun h => g3.out (on_set_other (by decide) h), fun h => g4.out (on_set_other (by decide) h), fun h => g5.out (on_set_other (by decide) h), fun h => (fun ⟨o5, o4, h2⟩ => ⟨on_keep o5, on_keep o4, h2⟩) (g6.out (on_set_other (by decide) h))⟩
      · refine ⟨rfl, ?_⟩
        rintro l ⟨u75, u76, u77, u78, u79, u13⟩ x ⟨ca, cb, b0, b1, o0, o1, hB, hsx, g0, g1, g2, g3, g4, g5, g6⟩ hun hpre K hK
        obtain ⟨e0, -⟩ := hpre
        obtain rfl := g0.out e0
        refine ⟨?_⟩
        simp only [Prod.forall, putAll, List.setIfInBounds_toArray, List.set_cons_zero, List.set_cons_succ] at hK ⊢
        go_simp
        refine (toLabel_any A n c xs _ (by exact HI.out.keep fun _ _ h => Below.keeps hB h) HN.out (by omega)).mono ?_
        rintro e x2 ⟨rfl, hb, hgx⟩
        exact hK _ _ _ _ _ _ _ ⟨Below.keeps hb ca, Below.keeps hb cb, Below.keeps hb b0, Below.keeps hb b1, o0.below hb, o1.below hb, hB.trans (hb.mono hB.size), (Nat.le_trans hsx hb.size), fun h => g0.out (on_set_other (by decide) h), fun _ => ⟨_, rfl, hgx⟩, fun h => g2.out (on_set_other (by decide) h), fun h => (fun ⟨g, h1, h2⟩ => ⟨g, h1, h2.below hb⟩) (g3.out (on_set_other (by decide) h)), fun h => (fun ⟨A0, c0, h1, h2⟩ => ⟨A0, c0, h1, h2.below hb⟩) (g4.out (on_set_other (by decide) h)), fun h => (fun ⟨ga, x0, h1, h2, h3⟩ => ⟨ga, x0, h1, h2, keepblk hb h3⟩) (g5.out (on_set_other (by decide) h)), fun h => (fun ⟨o5, o4, h2⟩ => ⟨on_keep o5, on_keep o4, (fun ⟨ga, A0, c0, h1, h2, h3, h4⟩ => ⟨ga, A0, c0, h1, h2, keepblk hb h3, h4.below hb⟩) h2⟩) (g6.out (on_set_other (by decide) h))⟩
      · refine ⟨rfl, ?_⟩
        rintro l ⟨u75, u76, u77, u78, u79, u13⟩ x ⟨ca, cb, b0, b1, o0, o1, hB, hsx, g0, g1, g2, g3, g4, g5, g6⟩ hun hpre K hK
        clear hpre
        refine ⟨?_⟩
        simp only [Prod.forall, putAll, List.setIfInBounds_toArray, List.set_cons_zero, List.set_cons_succ] at hK ⊢
        go_simp
        exact hK _ _ _ _ _ _ _ ⟨ca, cb, b0, b1, o0, o1, hB, hsx, fun h => g0.out (on_set_other (by decide) h), fun h => g1.out (on_set_other (by decide) h), fun _ => rfl, fun h => g3.out (on_set_other (by decide) h), fun h => g4.out (on_set_other (by decide) h), fun h => g5.out (on_set_other (by decide) h), fun h => (fun ⟨o5, o4, h2⟩ => ⟨on_keep o5, on_keep o4, h2⟩) (g6.out (on_set_other (by decide) h))⟩
      · refine ⟨rfl, ?_⟩
        rintro l ⟨u75, u76, u77, u78, u79, u13⟩ x ⟨ca, cb, b0, b1, o0, o1, hB, hsx, g0, g1, g2, g3, g4, g5, g6⟩ hun hpre K hK
        obtain ⟨e2, e1, -⟩ := hpre
        obtain ⟨gx, rfl, hgx⟩ := g1.out e1
        obtain rfl := g2.out e2
        refine ⟨?_⟩
        simp only [Prod.forall, putAll, List.setIfInBounds_toArray, List.set_cons_zero, List.set_cons_succ] at hK ⊢
        go_simp
        refine (toLabel_any B m d ys _ (by exact HJ.out.keep fun _ _ h => Below.keeps hB h) HM.out (by omega)).mono ?_
        rintro e x2 ⟨rfl, hb, hgy⟩
        exact hK _ _ _ _ _ _ _ ⟨Below.keeps hb ca, Below.keeps hb cb, Below.keeps hb b0, Below.keeps hb b1, o0.below hb, o1.below hb, hB.trans (hb.mono hB.size), (Nat.le_trans hsx hb.size), fun h => g0.out (on_set_other (by decide) h), fun h => (fun ⟨g, h1, h2⟩ => ⟨g, h1, h2.below hb⟩) (g1.out (on_set_other (by decide) h)), fun h => g2.out (on_set_other (by decide) h), fun _ => ⟨_, rfl, hgy⟩, fun h => (fun ⟨A0, c0, h1, h2⟩ => ⟨A0, c0, h1, h2.below hb⟩) (g4.out (on_set_other (by decide) h)), fun h => (fun ⟨ga, x0, h1, h2, h3⟩ => ⟨ga, x0, h1, h2, keepblk hb h3⟩) (g5.out (on_set_other (by decide) h)), fun h => (fun ⟨o5, o4, h2⟩ => ⟨on_keep o5, on_keep o4, (fun ⟨ga, A0, c0, h1, h2, h3, h4⟩ => ⟨ga, A0, c0, h1, h2, keepblk hb h3, h4.below hb⟩) h2⟩) (g6.out (on_set_other (by decide) h))⟩
      · refine ⟨rfl, ?_⟩
        rintro l ⟨u75, u76, u77, u78, u79, u13⟩ x ⟨ca, cb, b0, b1, o0, o1, hB, hsx, g0, g1, g2, g3, g4, g5, g6⟩ hun hpre K hK
        obtain ⟨e1, e3, _, -⟩ := hpre
        obtain ⟨gx, rfl, hgx⟩ := g1.out e1
        obtain ⟨gy, rfl, hgy⟩ := g3.out e3
        refine ⟨?_⟩
        simp only [Prod.forall, putAll, List.setIfInBounds_toArray, List.set_cons_zero, List.set_cons_succ] at hK ⊢
        go_simp
        refine (D.out _ _ _ _ _ (by exact hgx.ints) (by exact hgy.ints)).mono ?_
        rintro e x2 ⟨A0, c0, rfl, ho0, hb⟩
        exact hK _ _ _ _ _ _ _ ⟨Below.keeps hb ca, Below.keeps hb cb, Below.keeps hb b0, Below.keeps hb b1, o0.below hb, o1.below hb, hB.trans (hb.mono hB.size), (Nat.le_trans hsx hb.size), fun h => g0.out (on_set_other (by decide) h), fun h => (fun ⟨g, h1, h2⟩ => ⟨g, h1, h2.below hb⟩) (g1.out (on_set_other (by decide) h)), fun h => g2.out (on_set_other (by decide) h), fun h => (fun ⟨g, h1, h2⟩ => ⟨g, h1, h2.below hb⟩) (g3.out (on_set_other (by decide) h)), fun _ => ⟨_, _, rfl, ho0.more (by omega)⟩, fun h => (fun ⟨ga, x0, h1, h2, h3⟩ => ⟨ga, x0, h1, h2, keepblk hb h3⟩) (g5.out (on_set_other (by decide) h)), fun h => off_of_on hun (g6.out (on_set_other (by decide) h)).2.1⟩
      · refine ⟨rfl, ?_⟩
        rintro l ⟨u75, u76, u77, u78, u79, u13⟩ x ⟨ca, cb, b0, b1, o0, o1, hB, hsx, g0, g1, g2, g3, g4, g5, g6⟩ hun hpre K hK
        clear hpre
        refine ⟨?_⟩
        simp only [Prod.forall, putAll, List.setIfInBounds_toArray, List.set_cons_zero, List.set_cons_succ] at hK ⊢
        go_simp
        exact hK _ _ _ _ _ _ _ ⟨cell_alloc_ ca, cell_alloc_ cb, cell_alloc_ b0, cell_alloc_ b1, o0.alloc _, o1.alloc _, hB.alloc hB.size _, (Nat.le_trans hsx (by simp)), fun h => g0.out (on_set_other (by decide) h), fun h => (fun ⟨g, h1, h2⟩ => ⟨g, h1, h2.alloc _⟩) (g1.out (on_set_other (by decide) h)), fun h => g2.out (on_set_other (by decide) h), fun h => (fun ⟨g, h1, h2⟩ => ⟨g, h1, h2.alloc _⟩) (g3.out (on_set_other (by decide) h)), fun h => (fun ⟨A0, c0, h1, h2⟩ => ⟨A0, c0, h1, h2.alloc _⟩) (g4.out (on_set_other (by decide) h)), fun _ => ⟨_, _, rfl, hsx, heap_alloc_new x _⟩, fun h => off_of_on hun (g6.out (on_set_other (by decide) h)).1⟩
      · refine ⟨rfl, ?_⟩
        rintro l ⟨u75, u76, u77, u78, u79, u13⟩ x ⟨ca, cb, b0, b1, o0, o1, hB, hsx, g0, g1, g2, g3, g4, g5, g6⟩ hun hpre K hK
        obtain ⟨e5, e4, _, e0, e1, e2, e3, _, _, -⟩ := hpre
        obtain rfl := g0.out e0
        obtain ⟨gx, rfl, hgx⟩ := g1.out e1
        obtain rfl := g2.out e2
        obtain ⟨gy, rfl, hgy⟩ := g3.out e3
        obtain ⟨A0, c0, rfl, ho0⟩ := g4.out e4
        obtain ⟨gb2, x0, rfl, hgs, hh⟩ := g5.out e5
        refine ⟨?_⟩
        simp only [Prod.forall, putAll, List.setIfInBounds_toArray, List.set_cons_zero, List.set_cons_succ] at hK ⊢
        have hg1 := hgs
        obtain ⟨hcl, hfr⟩ := blkcell hh
        go_simp
        have hnew := blk_set (i := 0) hh (.slice A0 R.length c0)
        exact hK _ _ _ _ _ _ _ ⟨cell_set_ ca (by (try dsimp only); omega), cell_set_ cb (by (try dsimp only); omega), cell_set_ b0 (by (try dsimp only); omega), cell_set_ b1 (by (try dsimp only); omega), o0.setFar (by (try dsimp only); omega) _, o1.setFar (by (try dsimp only); omega) _, hB.setCell (by (try dsimp only); omega) _, (by simpa using hsx), fun h => g0.out (on_set_other (by decide) h), fun h => (fun ⟨g, h1, h2⟩ => ⟨g, h1, h2.farT hh (by decide) _ _⟩) (g1.out (on_set_other (by decide) h)), fun h => g2.out (on_set_other (by decide) h), fun h => (fun ⟨g, h1, h2⟩ => ⟨g, h1, h2.farT hh (by decide) _ _⟩) (g3.out (on_set_other (by decide) h)), fun h => (fun ⟨A0, c0, h1, h2⟩ => ⟨A0, c0, h1, h2.farT hh (by decide) _ _⟩) (g4.out (on_set_other (by decide) h)), fun h => ⟨gb2, _, rfl, hgs, hnew⟩, fun _ => ⟨on_keep e5, ⟨on_keep e4, ⟨gb2, A0, c0, rfl, hgs, hnew, ho0.farT hh (by decide) _ _⟩⟩⟩⟩
    · rintro l ⟨u75, u76, u77, u78, u79, u13⟩ x ⟨ca, cb, b0, b1, o0, o1, hB, hsx, g0, g1, g2, g3, g4, g5, g6⟩ hon
      have e0 := hon (j := 0) rfl trivial
      have e1 := hon (j := 1) rfl ⟨e0, trivial⟩
      have e2 := hon (j := 2) rfl trivial
      have e3 := hon (j := 3) rfl ⟨e2, e1, trivial⟩
      have e4 := hon (j := 4) rfl ⟨e1, e3, e3, trivial⟩
      have e5 := hon (j := 5) rfl trivial
      have e6 := hon (j := 6) rfl ⟨e5, e4, e4, e0, e1, e2, e3, e4, e5, trivial⟩
      obtain rfl := g0.out e0; clear g0
      obtain ⟨gx, rfl, hgx⟩ := g1.out e1; clear g1
      obtain rfl := g2.out e2; clear g2
      obtain ⟨gy, rfl, hgy⟩ := g3.out e3; clear g3
      clear g4
      clear g5
      obtain ⟨-, ⟨-, ⟨gb2, A2, c2, rfl, hgb2, hhb2, o2⟩⟩⟩ := g6.out e6; clear g6
      clear hon e0 e1 e2 e3 e4 e5 e6 l
      refine ⟨?_⟩
      simp only [Prod.forall, putAll, List.setIfInBounds_toArray, List.set_cons_zero, List.set_cons_succ]
      have b2 : x.cell? ⟨gb2, 0, none⟩ = some (.slice A2 R.length c2) := (blkcell hhb2).1 0
      have lgb2 := lt_of_blk hhb2
      have o2 := OwnL.of_own o2
      have hs := hB.size
      have lca := lt_of_cell ca
      have lcb := lt_of_cell cb
      have lb0 := lt_of_cell b0
      have lb1 := lt_of_cell b1
      clear hhb2 hgx hgy
      go_wp2_with fail
      refine (eqLabel_self _ _ _ _ _ R _ (by exact o2.ints) (by exact o0.ints) rfl (by omega)).mono ?_
      rintro e w81 ⟨rfl, hb⟩
      have o0 := (o0).below hb
      have o1 := (o1).below hb
      have o2 := (o2).below hb
      have ca := Below.keeps hb ca
      have cb := Below.keeps hb cb
      have b0 := Below.keeps hb b0
      have b1 := Below.keeps hb b1
      have b2 := Below.keeps hb b2
      have hz81 := hb.size
      have hB := Below.trans hB (hb.mono (by (try simp) <;> omega))
      have hs := hB.size
      clear hb
      have lca : w.heap.size < w81.heap.size := lt_of_cell ca
      have lcb : w.heap.size + 1 < w81.heap.size := lt_of_cell cb
      have lb0 : gb0 < w81.heap.size := lt_of_cell b0
      have lb1 : w43.heap.size < w81.heap.size := lt_of_cell b1
      have lb2 : gb2 < w81.heap.size := lt_of_cell b2
      go_wp2_with fail
      refine (heldLabel_any _ R.length _ 1 _ o1.ints (by omega) (by omega) (by omega)).mono ?_
      rintro e w82 ⟨rfl, hb⟩
      have o0 := (o0).below hb
      have o1 := (o1).below hb
      have o2 := (o2).below hb
      have ca := Below.keeps hb ca
      have cb := Below.keeps hb cb
      have b0 := Below.keeps hb b0
      have b1 := Below.keeps hb b1
      have b2 := Below.keeps hb b2
      have hz82 := hb.size
      have hB := Below.trans hB (hb.mono (by (try simp) <;> omega))
      have hs := hB.size
      clear hb
      have lca : w.heap.size < w82.heap.size := lt_of_cell ca
      have lcb : w.heap.size + 1 < w82.heap.size := lt_of_cell cb
      have lb0 : gb0 < w82.heap.size := lt_of_cell b0
      have lb1 : w43.heap.size < w82.heap.size := lt_of_cell b1
      have lb2 : gb2 < w82.heap.size := lt_of_cell b2
      go_wp2_with fail
      go_ret
      exact ⟨rfl, hB⟩
theorem meet_walk (A : Option Addr) (n c : Nat) (xs : List Int) (B : Option Addr) (m d : Nat) (ys : List Int) (w : World) (hI : Ints w A xs) (hn : xs.length = n) (hmx : n ≤ 9223372036854775807) (hJ : Ints w B ys) (hm : ys.length = m) (hmy : m ≤ 9223372036854775807) :
    Calls Try.prog 9 #[lab A n c, lab B m d] w fun e w' => e = .returned (.bool true) ∧ Below w.heap.size w w' := by
  by_cases h1 : (1048576 : Int) - n < 0
  · exact meet_big1 A B n m c d xs ys w hI hn hmx hJ hm hmy h1
  · by_cases h2 : (1048576 : Int) - n - m < 0
    · exact meet_big2 A B n m c d xs ys w hI hn hmx hJ hm hmy h1 h2
    · exact meet_main A B n m c d xs ys w hI hn hmx hJ hm hmy h1 h2 (joinR min xs ys) (joinR_len _ _ _) (Lib.hid fun A B c d w h1 h2 => specMeet_any A B n m c d xs ys w h1 h2 hn hm (by omega) (by omega)) (Lib.hid fun A B c d w h1 h2 => implMeet_any A B n m c d xs ys w h1 h2 hn hm (by omega) (by omega))
set_option linter.unusedVariables false in
set_option maxRecDepth 100000 in
theorem FnExactMeet_lifted (os : Os) (started : os.Started) (H : Type) (enc : TypeId × Value → H) :
    ReturnsInHanded {} Try.checked os 9 .any (Rows.fnExactMeetSpec.pre6 enc Try.prog Try.f9 Rows.fnExactMeetRow.domain false) (Rows.fnExactMeetSpec.post enc Try.prog Try.f9 false true false false) := by
  refine returnsInHanded_of_change (C := Try.checked) own started (by kernel_rfl) Try.func9
    (ChangeSpec.witness6 (enc := enc) (C := Try.checked) false ⟨#[], #[.agg #[.slice none 0 0], .agg #[.slice none 0 0]], []⟩ 8 (by kernel_rfl) (by kernel_rfl) (by kernel_rfl) (by kernel_rfl)) ?_
  intro W base args ds gs before hval0 hW hcnd _
  have hval : ∀ (j : Nat) t v, Try.f9.params[j]? = some t → args[j]? = some v → Value.okWide Try.prog W .any base t v := hval0
  have hW' := hW
  obtain ⟨p, q, hA0, hV, rfl, hfz, hnd⟩ := hW
  have hA : DataW.TrodAll enc Try.prog W 0 (fun _ => true) true Try.f9.params.toList args.toList ds p := hA0
  rw [Try.params9] at hA hval
  obtain ⟨v0, vs0, d0, ds0, p0, q0, hargs, rfl, rfl, h0, r0⟩ := trodAll_cons hA
  obtain ⟨v1, vs1, d1, ds1, p1, q1, rfl, rfl, rfl, h1, r1⟩ := trodAll_cons r0
  obtain ⟨rfl, rfl, rfl⟩ := trodAll_nil r1
  obtain rfl : args = #[v0, v1] := by cases args; simp_all
  obtain ⟨rfl, rfl⟩ := trodVars_none hV
  have k0 := h0
  have lt0 : ∀ x ∈ p0, x.block < W.heap.size := by obtain ⟨m, hm⟩ := k0; exact DataW.trod_lt m _ _ _ hm
  obtain ⟨b0, len0, cap0, z0, rfl, row0, ln0, mx0⟩ := open_label (hval 0 27 v0 rfl rfl) h0
  have k1 := h1
  have lt1 : ∀ x ∈ p1, x.block < W.heap.size := by obtain ⟨m, hm⟩ := k1; exact DataW.trod_lt m _ _ _ hm
  obtain ⟨b1, len1, cap1, z1, rfl, row1, ln1, mx1⟩ := open_label (hval 1 27 v1 rfl rfl) h1
  clear hA0 hval0
  refine (meet_walk b0 len0 cap0 z0 b1 len1 cap1 z1 W row0 ln0 mx0 row1 ln1 mx1).mono fun e W' ⟨he, bel⟩ => ?_
  subst he
  exact ⟨_, rfl, _, _, _, [], _, [], hW', trodAll_mk1 (shut_bool Try.underlying4 _), (trodAll_cons_mk (Below.trod laidOut (by kernel_rfl) (of_decide_eq_true (by kernel_rfl)) k0 bel lt0) (trodAll_cons_mk (Below.trod laidOut (by kernel_rfl) (of_decide_eq_true (by kernel_rfl)) k1 bel lt1) trodAll_mk0)), rfl, bel.frame _, fun h => by cases h⟩
/-- THE STATEMENT -/
theorem FnExactMeet_holds : Rows.FnExactMeetSaid :=
  OpenClaim.holds_of_wide 9 Try.f9 rfl rfl rfl rfl rfl rfl rfl ⟨rfl, rfl, rfl, rfl, rfl⟩ rfl rfl rfl rfl rfl (by kernel_rfl) Try.func9 (by kernel_rfl)
    (of_decide_eq_true (by kernel_rfl)) (by unfold Func.isWrapper; first | (rw [if_pos (by decide +kernel)]; kernel_rfl) | (rw [if_neg (by decide +kernel)]; exact ⟨rfl, rfl⟩))
    (fun os started H enc _ => FnExactMeet_lifted os started H enc)

end Go.Proofs.Ytkcchceoljlnaaa
