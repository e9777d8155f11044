/- FnExactAmtAdd: the program's AmtAdd returns what the reference's returns. No condition. -/
import Derived.Test.YthjchlefafbfoaaAmt2
import Derived.Test.YthjchlefafbfoaaOpen
import Derived.Test.YthjchlefafbfoaaRegion
namespace Go.Proofs.Ythjchlefafbfoaa
set_option linter.unusedSimpArgs false
set_option linter.unusedVariables false
open Go.Joins Go.ChangeShapes Go.WideShapes Go.ChangeAt Go.RowKit Go.Deep
open Go.ChangeMaps (open_string shut_string)
attribute [local go_sem ↓] Go.wp_at_zero Go.wp_at_succ

set_option maxHeartbeats 6400000 in
theorem AmtAdd_main (p r c p' r' c' r0 r1 r2 : Int) (b : Bool) (w : World) (C : Hid (∀ w, Calls Try.prog 25 #[amt p r c, amt p' r' c'] w fun e w' => e = .returned (.tuple #[amt r0 r1 r2, .bool b]) ∧ Below w.heap.size w w')) (D : Hid (∀ w, Calls Try.prog 26 #[amt p r c, amt p' r' c'] w fun e w' => e = .returned (.tuple #[amt r0 r1 r2, .bool b]) ∧ Below w.heap.size w w')) :
    Calls Try.prog 9 #[amt p r c, amt p' r' c'] w fun e w' => e = .returned (.bool true) ∧ Below w.heap.size w w' := by
  go_enter Try.func9, Try.ntmps9
  go_wp2_with fail
  refine wp_region_fr (U := Value × Value × Value × Value × Value × Value × Value × Value × Value × Value) [[], [0], [], [2, 1], [1, 3, 3], [4], [5], [5], [], [8, 6, 4, 0, 1, 2, 3, 4, 5, 6, 8], [7, 9, 0, 1, 2, 3, 4, 5, 6, 7, 8, 9]] (fun u => match u with | (u10, u11, u12, u13, u14, u9, u15, u16, u5, u6) => [(10, u10), (11, u11), (12, u12), (13, u13), (14, u14), (9, u9), (15, u15), (16, u16), (5, u5), (6, u6)]) (undef, undef, undef, undef, undef, undef, undef, undef, undef, undef) (fun l u x => match u with | (u10, u11, u12, u13, u14, u9, u15, u16, u5, u6) => (x.cell? ⟨w.heap.size, 0, none⟩ = some (.int .i64 p)) ∧ (x.cell? ⟨w.heap.size, 1, none⟩ = some (.int .i64 r)) ∧ (x.cell? ⟨w.heap.size, 2, none⟩ = some (.int .i64 c)) ∧ (x.cell? ⟨w.heap.size + 1, 0, none⟩ = some (.int .i64 p')) ∧ (x.cell? ⟨w.heap.size + 1, 1, none⟩ = some (.int .i64 r')) ∧ (x.cell? ⟨w.heap.size + 1, 2, none⟩ = some (.int .i64 c')) ∧ (Below w.heap.size w x) ∧ Hid (l.getD 0 false = true → u10 = amt p r c) ∧ Hid (l.getD 1 false = true → u11 = amt p r c) ∧ Hid (l.getD 2 false = true → u12 = amt p' r' c') ∧ Hid (l.getD 3 false = true → u13 = amt p' r' c') ∧ Hid (l.getD 4 false = true → u14 = Value.tuple #[amt r0 r1 r2, .bool b]) ∧ Hid (l.getD 5 false = true → u9 = Value.tuple #[amt r0 r1 r2, .bool b]) ∧ Hid (l.getD 6 false = true → u15 = amt r0 r1 r2) ∧ Hid (l.getD 7 false = true → u16 = .bool b) ∧ Hid (l.getD 8 false = true → ∃ (g : Nat) (x0 x1 x2 : Value), u5 = .pointer (some ⟨g, 0, none⟩) ∧ (w.heap.size ≤ g ∧ w.heap.size + 2 ≤ g) ∧ x.heap[g]? = some (.cells #[x0, x1, x2] 26 (0, 0))) ∧ Hid (l.getD 9 false = true → l.getD 8 false = true ∧ (∃ g : Nat, u5 = .pointer (some ⟨g, 0, none⟩) ∧ x.heap[g]? = some (.cells #[.int .i64 r0, .int .i64 r1, .int .i64 r2] 26 (0, 0)))) ∧ Hid (l.getD 10 false = true → u6 = .bool b)) (by kernel_rfl) (by kernel_rfl) ?_ ?_ ?_ ?_
  · kernel_rfl
  · exact ⟨(by simp), (by simp), (by simp), (by simp), (by simp), (by simp), ((by (repeat (first | exact Below.refl _ _ | assumption | refine Below.drew ?_ | refine Below.alloc ?_ ?_ _ | refine Below.setCell ?_ ?_ _)) <;> ((try simp) <;> omega))), fun h => repl_off h, fun h => repl_off h, fun h => repl_off h, fun h => repl_off h, fun h => repl_off h, fun h => repl_off h, fun h => repl_off h, fun h => repl_off h, fun h => repl_off h, fun h => repl_off h, fun h => repl_off h⟩
  · refine ⟨?_, ?_, ?_, ?_, ?_, ?_, ?_, ?_, ?_, ?_, ?_, trivial⟩
    · refine ⟨rfl, ?_⟩
      rintro l ⟨u10, u11, u12, u13, u14, u9, u15, u16, u5, u6⟩ x ⟨ca0, ca1, ca2, cb0, cb1, cb2, hB, g0, g1, g2, g3, g4, g5, g6, g7, g8, g9, g10⟩ hun hpre K hK
      clear hpre
      refine ⟨?_⟩
      simp only [Prod.forall, putAll, List.setIfInBounds_toArray, List.set_cons_zero, List.set_cons_succ] at hK ⊢
      go_simp
      exact hK _ _ _ _ _ _ _ _ _ _ _ ⟨ca0, ca1, ca2, cb0, cb1, cb2, hB, fun _ => rfl, fun h => g1.out (on_set_other (by decide) h), fun h => g2.out (on_set_other (by decide) h), fun h => g3.out (on_set_other (by decide) h), fun h => g4.out (on_set_other (by decide) h), fun h => g5.out (on_set_other (by decide) h), fun h => g6.out (on_set_other (by decide) h), fun h => g7.out (on_set_other (by decide) h), fun h => g8.out (on_set_other (by decide) h), fun h => (fun ⟨o8, h2⟩ => ⟨on_keep o8, h2⟩) (g9.out (on_set_other (by decide) h)), fun h => g10.out (on_set_other (by decide) h)⟩
    · refine ⟨rfl, ?_⟩
      rintro l ⟨u10, u11, u12, u13, u14, u9, u15, u16, u5, u6⟩ x ⟨ca0, ca1, ca2, cb0, cb1, cb2, hB, g0, g1, g2, g3, g4, g5, g6, g7, g8, g9, g10⟩ hun hpre K hK
      obtain ⟨e0, -⟩ := hpre
      obtain rfl := g0.out e0
      refine ⟨?_⟩
      simp only [Prod.forall, putAll, List.setIfInBounds_toArray, List.set_cons_zero, List.set_cons_succ] at hK ⊢
      go_simp
      refine (toAmt_any _ _ _ _).mono ?_
      rintro e x2 ⟨rfl, hb⟩
      have hs := hB.size
      exact hK _ _ _ _ _ _ _ _ _ _ _ ⟨Below.keeps hb (ca0), Below.keeps hb (ca1), Below.keeps hb (ca2), Below.keeps hb (cb0), Below.keeps hb (cb1), Below.keeps hb (cb2), hB.trans (hb.mono hs), fun h => g0.out (on_set_other (by decide) h), fun _ => rfl, fun h => g2.out (on_set_other (by decide) h), fun h => g3.out (on_set_other (by decide) h), fun h => g4.out (on_set_other (by decide) h), fun h => g5.out (on_set_other (by decide) h), fun h => g6.out (on_set_other (by decide) h), fun h => g7.out (on_set_other (by decide) h), fun h => (fun ⟨ga, x0, x1, x2, h1, h2, h3⟩ => ⟨ga, x0, x1, x2, h1, h2, keepblk hb h3⟩) (g8.out (on_set_other (by decide) h)), fun h => (fun ⟨o8, h2⟩ => ⟨on_keep o8, (fun ⟨ga, h1, h3⟩ => ⟨ga, h1, keepblk hb h3⟩) h2⟩) (g9.out (on_set_other (by decide) h)), fun h => g10.out (on_set_other (by decide) h)⟩
    · refine ⟨rfl, ?_⟩
      rintro l ⟨u10, u11, u12, u13, u14, u9, u15, u16, u5, u6⟩ x ⟨ca0, ca1, ca2, cb0, cb1, cb2, hB, g0, g1, g2, g3, g4, g5, g6, g7, g8, g9, g10⟩ hun hpre K hK
      clear hpre
      refine ⟨?_⟩
      simp only [Prod.forall, putAll, List.setIfInBounds_toArray, List.set_cons_zero, List.set_cons_succ] at hK ⊢
      go_simp
      exact hK _ _ _ _ _ _ _ _ _ _ _ ⟨ca0, ca1, ca2, cb0, cb1, cb2, hB, fun h => g0.out (on_set_other (by decide) h), fun h => g1.out (on_set_other (by decide) h), fun _ => rfl, fun h => g3.out (on_set_other (by decide) h), fun h => g4.out (on_set_other (by decide) h), fun h => g5.out (on_set_other (by decide) h), fun h => g6.out (on_set_other (by decide) h), fun h => g7.out (on_set_other (by decide) h), fun h => g8.out (on_set_other (by decide) h), fun h => (fun ⟨o8, h2⟩ => ⟨on_keep o8, h2⟩) (g9.out (on_set_other (by decide) h)), fun h => g10.out (on_set_other (by decide) h)⟩
    · refine ⟨rfl, ?_⟩
      rintro l ⟨u10, u11, u12, u13, u14, u9, u15, u16, u5, u6⟩ x ⟨ca0, ca1, ca2, cb0, cb1, cb2, hB, g0, g1, g2, g3, g4, g5, g6, g7, g8, g9, g10⟩ hun hpre K hK
      obtain ⟨e2, e1, -⟩ := hpre
      obtain rfl := g1.out e1
      obtain rfl := g2.out e2
      refine ⟨?_⟩
      simp only [Prod.forall, putAll, List.setIfInBounds_toArray, List.set_cons_zero, List.set_cons_succ] at hK ⊢
      go_simp
      refine (toAmt_any _ _ _ _).mono ?_
      rintro e x2 ⟨rfl, hb⟩
      have hs := hB.size
      exact hK _ _ _ _ _ _ _ _ _ _ _ ⟨Below.keeps hb (ca0), Below.keeps hb (ca1), Below.keeps hb (ca2), Below.keeps hb (cb0), Below.keeps hb (cb1), Below.keeps hb (cb2), hB.trans (hb.mono hs), fun h => g0.out (on_set_other (by decide) h), fun h => g1.out (on_set_other (by decide) h), fun h => g2.out (on_set_other (by decide) h), fun _ => rfl, fun h => g4.out (on_set_other (by decide) h), fun h => g5.out (on_set_other (by decide) h), fun h => g6.out (on_set_other (by decide) h), fun h => g7.out (on_set_other (by decide) h), fun h => (fun ⟨ga, x0, x1, x2, h1, h2, h3⟩ => ⟨ga, x0, x1, x2, h1, h2, keepblk hb h3⟩) (g8.out (on_set_other (by decide) h)), fun h => (fun ⟨o8, h2⟩ => ⟨on_keep o8, (fun ⟨ga, h1, h3⟩ => ⟨ga, h1, keepblk hb h3⟩) h2⟩) (g9.out (on_set_other (by decide) h)), fun h => g10.out (on_set_other (by decide) h)⟩
    · refine ⟨rfl, ?_⟩
      rintro l ⟨u10, u11, u12, u13, u14, u9, u15, u16, u5, u6⟩ x ⟨ca0, ca1, ca2, cb0, cb1, cb2, hB, g0, g1, g2, g3, g4, g5, g6, g7, g8, g9, g10⟩ hun hpre K hK
      obtain ⟨e1, e3, _, -⟩ := hpre
      obtain rfl := g1.out e1
      obtain rfl := g3.out e3
      refine ⟨?_⟩
      simp only [Prod.forall, putAll, List.setIfInBounds_toArray, List.set_cons_zero, List.set_cons_succ] at hK ⊢
      go_simp
      refine (C.out _).mono ?_
      rintro e x2 ⟨rfl, hb⟩
      have hs := hB.size
      exact hK _ _ _ _ _ _ _ _ _ _ _ ⟨Below.keeps hb (ca0), Below.keeps hb (ca1), Below.keeps hb (ca2), Below.keeps hb (cb0), Below.keeps hb (cb1), Below.keeps hb (cb2), hB.trans (hb.mono hs), fun h => g0.out (on_set_other (by decide) h), fun h => g1.out (on_set_other (by decide) h), fun h => g2.out (on_set_other (by decide) h), fun h => g3.out (on_set_other (by decide) h), fun _ => rfl, fun h => g5.out (on_set_other (by decide) h), fun h => g6.out (on_set_other (by decide) h), fun h => g7.out (on_set_other (by decide) h), fun h => (fun ⟨ga, x0, x1, x2, h1, h2, h3⟩ => ⟨ga, x0, x1, x2, h1, h2, keepblk hb h3⟩) (g8.out (on_set_other (by decide) h)), fun h => (fun ⟨o8, h2⟩ => ⟨on_keep o8, (fun ⟨ga, h1, h3⟩ => ⟨ga, h1, keepblk hb h3⟩) h2⟩) (g9.out (on_set_other (by decide) h)), fun h => g10.out (on_set_other (by decide) h)⟩
    · refine ⟨rfl, ?_⟩
      rintro l ⟨u10, u11, u12, u13, u14, u9, u15, u16, u5, u6⟩ x ⟨ca0, ca1, ca2, cb0, cb1, cb2, hB, g0, g1, g2, g3, g4, g5, g6, g7, g8, g9, g10⟩ hun hpre K hK
      obtain ⟨e4, -⟩ := hpre
      obtain rfl := g4.out e4
      refine ⟨?_⟩
      simp only [Prod.forall, putAll, List.setIfInBounds_toArray, List.set_cons_zero, List.set_cons_succ] at hK ⊢
      go_simp
      exact hK _ _ _ _ _ _ _ _ _ _ _ ⟨ca0, ca1, ca2, cb0, cb1, cb2, hB, fun h => g0.out (on_set_other (by decide) h), fun h => g1.out (on_set_other (by decide) h), fun h => g2.out (on_set_other (by decide) h), fun h => g3.out (on_set_other (by decide) h), fun h => g4.out (on_set_other (by decide) h), fun _ => rfl, fun h => g6.out (on_set_other (by decide) h), fun h => g7.out (on_set_other (by decide) h), fun h => g8.out (on_set_other (by decide) h), fun h => (fun ⟨o8, h2⟩ => ⟨on_keep o8, h2⟩) (g9.out (on_set_other (by decide) h)), fun h => g10.out (on_set_other (by decide) h)⟩
    · refine ⟨rfl, ?_⟩
      rintro l ⟨u10, u11, u12, u13, u14, u9, u15, u16, u5, u6⟩ x ⟨ca0, ca1, ca2, cb0, cb1, cb2, hB, g0, g1, g2, g3, g4, g5, g6, g7, g8, g9, g10⟩ hun hpre K hK
      obtain ⟨e5, -⟩ := hpre
      obtain rfl := g5.out e5
      refine ⟨?_⟩
      simp only [Prod.forall, putAll, List.setIfInBounds_toArray, List.set_cons_zero, List.set_cons_succ] at hK ⊢
      go_simp
      exact hK _ _ _ _ _ _ _ _ _ _ _ ⟨ca0, ca1, ca2, cb0, cb1, cb2, hB, fun h => g0.out (on_set_other (by decide) h), fun h => g1.out (on_set_other (by decide) h), fun h => g2.out (on_set_other (by decide) h), fun h => g3.out (on_set_other (by decide) h), fun h => g4.out (on_set_other (by decide) h), fun h => g5.out (on_set_other (by decide) h), fun _ => rfl, fun h => g7.out (on_set_other (by decide) h), fun h => g8.out (on_set_other (by decide) h), fun h => (fun ⟨o8, h2⟩ => ⟨on_keep o8, h2⟩) (g9.out (on_set_other (by decide) h)), fun h => g10.out (on_set_other (by decide) h)⟩
    · refine ⟨rfl, ?_⟩
      rintro l ⟨u10, u11, u12, u13, u14, u9, u15, u16, u5, u6⟩ x ⟨ca0, ca1, ca2, cb0, cb1, cb2, hB, g0, g1, g2, g3, g4, g5, g6, g7, g8, g9, g10⟩ hun hpre K hK
      obtain ⟨e5, -⟩ := hpre
      obtain rfl := g5.out e5
      refine ⟨?_⟩
      simp only [Prod.forall, putAll, List.setIfInBounds_toArray, List.set_cons_zero, List.set_cons_succ] at hK ⊢
      go_simp
      exact hK _ _ _ _ _ _ _ _ _ _ _ ⟨ca0, ca1, ca2, cb0, cb1, cb2, hB, fun h => g0.out (on_set_other (by decide) h), fun h => g1.out (on_set_other (by decide) h), fun h => g2.out (on_set_other (by decide) h), fun h => g3.out (on_set_other (by decide) h), fun h => g4.out (on_set_other (by decide) h), fun h => g5.out (on_set_other (by decide) h), fun h => g6.out (on_set_other (by decide) h), fun _ => rfl, fun h => g8.out (on_set_other (by decide) h), fun h => (fun ⟨o8, h2⟩ => ⟨on_keep o8, h2⟩) (g9.out (on_set_other (by decide) h)), fun h => g10.out (on_set_other (by decide) h)⟩
    · refine ⟨rfl, ?_⟩
      rintro l ⟨u10, u11, u12, u13, u14, u9, u15, u16, u5, u6⟩ x ⟨ca0, ca1, ca2, cb0, cb1, cb2, hB, g0, g1, g2, g3, g4, g5, g6, g7, g8, g9, g10⟩ hun hpre K hK
      clear hpre
      refine ⟨?_⟩
      simp only [Prod.forall, putAll, List.setIfInBounds_toArray, List.set_cons_zero, List.set_cons_succ] at hK ⊢
      have hs := hB.size
      have hlt : w.heap.size + 2 ≤ x.heap.size := by have h0 : w.heap.size + 1 < x.heap.size := lt_of_cell cb0; omega
      go_simp
      exact hK _ _ _ _ _ _ _ _ _ _ _ ⟨cell_alloc_ (ca0), cell_alloc_ (ca1), cell_alloc_ (ca2), cell_alloc_ (cb0), cell_alloc_ (cb1), cell_alloc_ (cb2), hB.alloc hs _, fun h => g0.out (on_set_other (by decide) h), fun h => g1.out (on_set_other (by decide) h), fun h => g2.out (on_set_other (by decide) h), fun h => g3.out (on_set_other (by decide) h), fun h => g4.out (on_set_other (by decide) h), fun h => g5.out (on_set_other (by decide) h), fun h => g6.out (on_set_other (by decide) h), fun h => g7.out (on_set_other (by decide) h), fun _ => ⟨_, _, _, _, rfl, ⟨hs, hlt⟩, heap_alloc_new x _⟩, fun h => off_of_on hun (g9.out (on_set_other (by decide) h)).1, fun h => g10.out (on_set_other (by decide) h)⟩
    · refine ⟨rfl, ?_⟩
      rintro l ⟨u10, u11, u12, u13, u14, u9, u15, u16, u5, u6⟩ x ⟨ca0, ca1, ca2, cb0, cb1, cb2, hB, g0, g1, g2, g3, g4, g5, g6, g7, g8, g9, g10⟩ hun hpre K hK
      obtain ⟨e8, e6, e4, e0, e1, e2, e3, _, e5, _, _, -⟩ := hpre
      obtain rfl := g0.out e0
      obtain rfl := g1.out e1
      obtain rfl := g2.out e2
      obtain rfl := g3.out e3
      obtain rfl := g4.out e4
      obtain rfl := g5.out e5
      obtain rfl := g6.out e6
      obtain ⟨ga, x0, x1, x2, rfl, hgs, hh⟩ := g8.out e8
      refine ⟨?_⟩
      simp only [Prod.forall, putAll, List.setIfInBounds_toArray, List.set_cons_zero, List.set_cons_succ] at hK ⊢
      have hg1 := hgs.1
      have hg2 := hgs.2
      obtain ⟨hcl, hfr⟩ := blkcell hh
      go_simp
      have hnew := blk_set (i := 2) (blk_set (i := 1) (blk_set (i := 0) hh (.int .i64 r0)) (.int .i64 r1)) (.int .i64 r2)
      exact hK _ _ _ _ _ _ _ _ _ _ _ ⟨cell_set_ (cell_set_ (cell_set_ (ca0) (by (try dsimp only); omega)) (by (try dsimp only); omega)) (by (try dsimp only); omega), cell_set_ (cell_set_ (cell_set_ (ca1) (by (try dsimp only); omega)) (by (try dsimp only); omega)) (by (try dsimp only); omega), cell_set_ (cell_set_ (cell_set_ (ca2) (by (try dsimp only); omega)) (by (try dsimp only); omega)) (by (try dsimp only); omega), cell_set_ (cell_set_ (cell_set_ (cb0) (by (try dsimp only); omega)) (by (try dsimp only); omega)) (by (try dsimp only); omega), cell_set_ (cell_set_ (cell_set_ (cb1) (by (try dsimp only); omega)) (by (try dsimp only); omega)) (by (try dsimp only); omega), cell_set_ (cell_set_ (cell_set_ (cb2) (by (try dsimp only); omega)) (by (try dsimp only); omega)) (by (try dsimp only); omega), ((((((hB).setCell hg1 _)).setCell hg1 _)).setCell hg1 _), fun h => g0.out (on_set_other (by decide) h), fun h => g1.out (on_set_other (by decide) h), fun h => g2.out (on_set_other (by decide) h), fun h => g3.out (on_set_other (by decide) h), fun h => g4.out (on_set_other (by decide) h), fun h => g5.out (on_set_other (by decide) h), fun h => g6.out (on_set_other (by decide) h), fun h => g7.out (on_set_other (by decide) h), fun h => ⟨ga, _, _, _, rfl, hgs, hnew⟩, fun _ => ⟨on_keep e8, ⟨ga, rfl, hnew⟩⟩, fun h => g10.out (on_set_other (by decide) h)⟩
    · refine ⟨rfl, ?_⟩
      rintro l ⟨u10, u11, u12, u13, u14, u9, u15, u16, u5, u6⟩ x ⟨ca0, ca1, ca2, cb0, cb1, cb2, hB, g0, g1, g2, g3, g4, g5, g6, g7, g8, g9, g10⟩ hun hpre K hK
      obtain ⟨e7, e9, e0, e1, e2, e3, e4, e5, e6, _, e8, _, -⟩ := hpre
      obtain rfl := g0.out e0
      obtain rfl := g1.out e1
      obtain rfl := g2.out e2
      obtain rfl := g3.out e3
      obtain rfl := g4.out e4
      obtain rfl := g5.out e5
      obtain rfl := g6.out e6
      obtain rfl := g7.out e7
      obtain ⟨-, ⟨ga, rfl, hhga⟩⟩ := g9.out e9
      refine ⟨?_⟩
      simp only [Prod.forall, putAll, List.setIfInBounds_toArray, List.set_cons_zero, List.set_cons_succ] at hK ⊢
      go_simp
      exact hK _ _ _ _ _ _ _ _ _ _ _ ⟨ca0, ca1, ca2, cb0, cb1, cb2, hB, fun h => g0.out (on_set_other (by decide) h), fun h => g1.out (on_set_other (by decide) h), fun h => g2.out (on_set_other (by decide) h), fun h => g3.out (on_set_other (by decide) h), fun h => g4.out (on_set_other (by decide) h), fun h => g5.out (on_set_other (by decide) h), fun h => g6.out (on_set_other (by decide) h), fun h => g7.out (on_set_other (by decide) h), fun h => g8.out (on_set_other (by decide) h), fun h => (fun ⟨o8, h2⟩ => ⟨on_keep o8, h2⟩) (g9.out (on_set_other (by decide) h)), fun _ => rfl⟩
  · rintro l ⟨u10, u11, u12, u13, u14, u9, u15, u16, u5, u6⟩ x ⟨ca0, ca1, ca2, cb0, cb1, cb2, hB, g0, g1, g2, g3, g4, g5, g6, g7, g8, g9, g10⟩ hon
    have e0 := hon (j := 0) rfl trivial
    have e1 := hon (j := 1) rfl ⟨e0, trivial⟩
    have e2 := hon (j := 2) rfl trivial
    have e3 := hon (j := 3) rfl ⟨e2, e1, trivial⟩
    have e4 := hon (j := 4) rfl ⟨e1, e3, e3, trivial⟩
    have e5 := hon (j := 5) rfl ⟨e4, trivial⟩
    have e6 := hon (j := 6) rfl ⟨e5, trivial⟩
    have e7 := hon (j := 7) rfl ⟨e5, trivial⟩
    have e8 := hon (j := 8) rfl trivial
    have e9 := hon (j := 9) rfl ⟨e8, e6, e4, e0, e1, e2, e3, e4, e5, e6, e8, trivial⟩
    have e10 := hon (j := 10) rfl ⟨e7, e9, e0, e1, e2, e3, e4, e5, e6, e7, e8, e9, trivial⟩
    obtain rfl := g0.out e0; clear g0
    obtain rfl := g1.out e1; clear g1
    obtain rfl := g2.out e2; clear g2
    obtain rfl := g3.out e3; clear g3
    obtain rfl := g4.out e4; clear g4
    obtain rfl := g5.out e5; clear g5
    obtain rfl := g6.out e6; clear g6
    obtain rfl := g7.out e7; clear g7
    clear g8
    obtain ⟨-, ⟨ga, rfl, hhga⟩⟩ := g9.out e9; clear g9
    obtain rfl := g10.out e10; clear g10
    clear hon e0 e1 e2 e3 e4 e5 e6 e7 e8 e9 e10 l
    refine ⟨?_⟩
    simp only [Prod.forall, putAll, List.setIfInBounds_toArray, List.set_cons_zero, List.set_cons_succ]
    go_wp2_with fail
    refine wp_region_fr (U := Value × Value × Value × Value × Value × Value × Value × Value × Value × Value) [[], [0], [], [2, 1], [1, 3, 3], [4], [5], [5], [], [8, 6, 4, 0, 1, 2, 3, 4, 5, 6, 8], [7, 9, 0, 1, 2, 3, 4, 5, 6, 7, 8, 9]] (fun u => match u with | (u18, u19, u20, u21, u22, u17, u23, u24, u7, u8) => [(18, u18), (19, u19), (20, u20), (21, u21), (22, u22), (17, u17), (23, u23), (24, u24), (7, u7), (8, u8)]) (undef, undef, undef, undef, undef, undef, undef, undef, undef, undef) (fun l u x => match u with | (u18, u19, u20, u21, u22, u17, u23, u24, u7, u8) => (x.cell? ⟨w.heap.size, 0, none⟩ = some (.int .i64 p)) ∧ (x.cell? ⟨w.heap.size, 1, none⟩ = some (.int .i64 r)) ∧ (x.cell? ⟨w.heap.size, 2, none⟩ = some (.int .i64 c)) ∧ (x.cell? ⟨w.heap.size + 1, 0, none⟩ = some (.int .i64 p')) ∧ (x.cell? ⟨w.heap.size + 1, 1, none⟩ = some (.int .i64 r')) ∧ (x.cell? ⟨w.heap.size + 1, 2, none⟩ = some (.int .i64 c')) ∧ (x.heap[ga]? = some (.cells #[.int .i64 r0, .int .i64 r1, .int .i64 r2] 26 (0, 0))) ∧ (Below w.heap.size w x) ∧ Hid (l.getD 0 false = true → u18 = amt p r c) ∧ Hid (l.getD 1 false = true → u19 = amt p r c) ∧ Hid (l.getD 2 false = true → u20 = amt p' r' c') ∧ Hid (l.getD 3 false = true → u21 = amt p' r' c') ∧ Hid (l.getD 4 false = true → u22 = Value.tuple #[amt r0 r1 r2, .bool b]) ∧ Hid (l.getD 5 false = true → u17 = Value.tuple #[amt r0 r1 r2, .bool b]) ∧ Hid (l.getD 6 false = true → u23 = amt r0 r1 r2) ∧ Hid (l.getD 7 false = true → u24 = .bool b) ∧ Hid (l.getD 8 false = true → ∃ (g : Nat) (x0 x1 x2 : Value), u7 = .pointer (some ⟨g, 0, none⟩) ∧ (w.heap.size ≤ g ∧ w.heap.size + 2 ≤ g ∧ ga < g) ∧ x.heap[g]? = some (.cells #[x0, x1, x2] 26 (0, 0))) ∧ Hid (l.getD 9 false = true → l.getD 8 false = true ∧ (∃ g : Nat, u7 = .pointer (some ⟨g, 0, none⟩) ∧ x.heap[g]? = some (.cells #[.int .i64 r0, .int .i64 r1, .int .i64 r2] 26 (0, 0)))) ∧ Hid (l.getD 10 false = true → u8 = .bool b)) (by kernel_rfl) (by kernel_rfl) ?_ ?_ ?_ ?_
    · kernel_rfl
    · exact ⟨(by exact ca0), (by exact ca1), (by exact ca2), (by exact cb0), (by exact cb1), (by exact cb2), (by exact hhga), (by exact hB.drew), fun h => repl_off h, fun h => repl_off h, fun h => repl_off h, fun h => repl_off h, fun h => repl_off h, fun h => repl_off h, fun h => repl_off h, fun h => repl_off h, fun h => repl_off h, fun h => repl_off h, fun h => repl_off h⟩
    · refine ⟨?_, ?_, ?_, ?_, ?_, ?_, ?_, ?_, ?_, ?_, ?_, trivial⟩
      · refine ⟨rfl, ?_⟩
        rintro l ⟨u18, u19, u20, u21, u22, u17, u23, u24, u7, u8⟩ x ⟨ca0, ca1, ca2, cb0, cb1, cb2, hhga, hB, g0, g1, g2, g3, g4, g5, g6, g7, g8, g9, g10⟩ hun hpre K hK
        clear hpre
        refine ⟨?_⟩
        simp only [Prod.forall, putAll, List.setIfInBounds_toArray, List.set_cons_zero, List.set_cons_succ] at hK ⊢
        go_simp
        exact hK _ _ _ _ _ _ _ _ _ _ _ ⟨ca0, ca1, ca2, cb0, cb1, cb2, hhga, hB, fun _ => rfl, fun h => g1.out (on_set_other (by decide) h), fun h => g2.out (on_set_other (by decide) h), fun h => g3.out (on_set_other (by decide) h), fun h => g4.out (on_set_other (by decide) h), fun h => g5.out (on_set_other (by decide) h), fun h => g6.out (on_set_other (by decide) h), fun h => g7.out (on_set_other (by decide) h), fun h => g8.out (on_set_other (by decide) h), fun h => (fun ⟨o8, h2⟩ => ⟨on_keep o8, h2⟩) (g9.out (on_set_other (by decide) h)), fun h => g10.out (on_set_other (by decide) h)⟩
      · refine ⟨rfl, ?_⟩
        rintro l ⟨u18, u19, u20, u21, u22, u17, u23, u24, u7, u8⟩ x ⟨ca0, ca1, ca2, cb0, cb1, cb2, hhga, hB, g0, g1, g2, g3, g4, g5, g6, g7, g8, g9, g10⟩ hun hpre K hK
        obtain ⟨e0, -⟩ := hpre
        obtain rfl := g0.out e0
        refine ⟨?_⟩
        simp only [Prod.forall, putAll, List.setIfInBounds_toArray, List.set_cons_zero, List.set_cons_succ] at hK ⊢
        go_simp
        refine (toAmt_any _ _ _ _).mono ?_
        rintro e x2 ⟨rfl, hb⟩
        have hs := hB.size
        exact hK _ _ _ _ _ _ _ _ _ _ _ ⟨Below.keeps hb (ca0), Below.keeps hb (ca1), Below.keeps hb (ca2), Below.keeps hb (cb0), Below.keeps hb (cb1), Below.keeps hb (cb2), keepblk hb (hhga), hB.trans (hb.mono hs), fun h => g0.out (on_set_other (by decide) h), fun _ => rfl, fun h => g2.out (on_set_other (by decide) h), fun h => g3.out (on_set_other (by decide) h), fun h => g4.out (on_set_other (by decide) h), fun h => g5.out (on_set_other (by decide) h), fun h => g6.out (on_set_other (by decide) h), fun h => g7.out (on_set_other (by decide) h), fun h => (fun ⟨ga, x0, x1, x2, h1, h2, h3⟩ => ⟨ga, x0, x1, x2, h1, h2, keepblk hb h3⟩) (g8.out (on_set_other (by decide) h)), fun h => (fun ⟨o8, h2⟩ => ⟨on_keep o8, (fun ⟨ga, h1, h3⟩ => ⟨ga, h1, keepblk hb h3⟩) h2⟩) (g9.out (on_set_other (by decide) h)), fun h => g10.out (on_set_other (by decide) h)⟩
      · refine ⟨rfl, ?_⟩
        rintro l ⟨u18, u19, u20, u21, u22, u17, u23, u24, u7, u8⟩ x ⟨ca0, ca1, ca2, cb0, cb1, cb2, hhga, hB, g0, g1, g2, g3, g4, g5, g6, g7, g8, g9, g10⟩ hun hpre K hK
        clear hpre
        refine ⟨?_⟩
        simp only [Prod.forall, putAll, List.setIfInBounds_toArray, List.set_cons_zero, List.set_cons_succ] at hK ⊢
        go_simp
        exact hK _ _ _ _ _ _ _ _ _ _ _ ⟨ca0, ca1, ca2, cb0, cb1, cb2, hhga, hB, fun h => g0.out (on_set_other (by decide) h), fun h => g1.out (on_set_other (by decide) h), fun _ => rfl, fun h => g3.out (on_set_other (by decide) h), fun h => g4.out (on_set_other (by decide) h), fun h => g5.out (on_set_other (by decide) h), fun h => g6.out (on_set_other (by decide) h), fun h => g7.out (on_set_other (by decide) h), fun h => g8.out (on_set_other (by decide) h), fun h => (fun ⟨o8, h2⟩ => ⟨on_keep o8, h2⟩) (g9.out (on_set_other (by decide) h)), fun h => g10.out (on_set_other (by decide) h)⟩
      · refine ⟨rfl, ?_⟩
        rintro l ⟨u18, u19, u20, u21, u22, u17, u23, u24, u7, u8⟩ x ⟨ca0, ca1, ca2, cb0, cb1, cb2, hhga, hB, g0, g1, g2, g3, g4, g5, g6, g7, g8, g9, g10⟩ hun hpre K hK
        obtain ⟨e2, e1, -⟩ := hpre
        obtain rfl := g1.out e1
        obtain rfl := g2.out e2
        refine ⟨?_⟩
        simp only [Prod.forall, putAll, List.setIfInBounds_toArray, List.set_cons_zero, List.set_cons_succ] at hK ⊢
        go_simp
        refine (toAmt_any _ _ _ _).mono ?_
        rintro e x2 ⟨rfl, hb⟩
        have hs := hB.size
        exact hK _ _ _ _ _ _ _ _ _ _ _ ⟨Below.keeps hb (ca0), Below.keeps hb (ca1), Below.keeps hb (ca2), Below.keeps hb (cb0), Below.keeps hb (cb1), Below.keeps hb (cb2), keepblk hb (hhga), hB.trans (hb.mono hs), fun h => g0.out (on_set_other (by decide) h), fun h => g1.out (on_set_other (by decide) h), fun h => g2.out (on_set_other (by decide) h), fun _ => rfl, fun h => g4.out (on_set_other (by decide) h), fun h => g5.out (on_set_other (by decide) h), fun h => g6.out (on_set_other (by decide) h), fun h => g7.out (on_set_other (by decide) h), fun h => (fun ⟨ga, x0, x1, x2, h1, h2, h3⟩ => ⟨ga, x0, x1, x2, h1, h2, keepblk hb h3⟩) (g8.out (on_set_other (by decide) h)), fun h => (fun ⟨o8, h2⟩ => ⟨on_keep o8, (fun ⟨ga, h1, h3⟩ => ⟨ga, h1, keepblk hb h3⟩) h2⟩) (g9.out (on_set_other (by decide) h)), fun h => g10.out (on_set_other (by decide) h)⟩
      · refine ⟨rfl, ?_⟩
        rintro l ⟨u18, u19, u20, u21, u22, u17, u23, u24, u7, u8⟩ x ⟨ca0, ca1, ca2, cb0, cb1, cb2, hhga, hB, g0, g1, g2, g3, g4, g5, g6, g7, g8, g9, g10⟩ hun hpre K hK
        obtain ⟨e1, e3, _, -⟩ := hpre
        obtain rfl := g1.out e1
        obtain rfl := g3.out e3
        refine ⟨?_⟩
        simp only [Prod.forall, putAll, List.setIfInBounds_toArray, List.set_cons_zero, List.set_cons_succ] at hK ⊢
        go_simp
        refine (D.out _).mono ?_
        rintro e x2 ⟨rfl, hb⟩
        have hs := hB.size
        exact hK _ _ _ _ _ _ _ _ _ _ _ ⟨Below.keeps hb (ca0), Below.keeps hb (ca1), Below.keeps hb (ca2), Below.keeps hb (cb0), Below.keeps hb (cb1), Below.keeps hb (cb2), keepblk hb (hhga), hB.trans (hb.mono hs), fun h => g0.out (on_set_other (by decide) h), fun h => g1.out (on_set_other (by decide) h), fun h => g2.out (on_set_other (by decide) h), fun h => g3.out (on_set_other (by decide) h), fun _ => rfl, fun h => g5.out (on_set_other (by decide) h), fun h => g6.out (on_set_other (by decide) h), fun h => g7.out (on_set_other (by decide) h), fun h => (fun ⟨ga, x0, x1, x2, h1, h2, h3⟩ => ⟨ga, x0, x1, x2, h1, h2, keepblk hb h3⟩) (g8.out (on_set_other (by decide) h)), fun h => (fun ⟨o8, h2⟩ => ⟨on_keep o8, (fun ⟨ga, h1, h3⟩ => ⟨ga, h1, keepblk hb h3⟩) h2⟩) (g9.out (on_set_other (by decide) h)), fun h => g10.out (on_set_other (by decide) h)⟩
      · refine ⟨rfl, ?_⟩
        rintro l ⟨u18, u19, u20, u21, u22, u17, u23, u24, u7, u8⟩ x ⟨ca0, ca1, ca2, cb0, cb1, cb2, hhga, hB, g0, g1, g2, g3, g4, g5, g6, g7, g8, g9, g10⟩ hun hpre K hK
        obtain ⟨e4, -⟩ := hpre
        obtain rfl := g4.out e4
        refine ⟨?_⟩
        simp only [Prod.forall, putAll, List.setIfInBounds_toArray, List.set_cons_zero, List.set_cons_succ] at hK ⊢
        go_simp
        exact hK _ _ _ _ _ _ _ _ _ _ _ ⟨ca0, ca1, ca2, cb0, cb1, cb2, hhga, hB, fun h => g0.out (on_set_other (by decide) h), fun h => g1.out (on_set_other (by decide) h), fun h => g2.out (on_set_other (by decide) h), fun h => g3.out (on_set_other (by decide) h), fun h => g4.out (on_set_other (by decide) h), fun _ => rfl, fun h => g6.out (on_set_other (by decide) h), fun h => g7.out (on_set_other (by decide) h), fun h => g8.out (on_set_other (by decide) h), fun h => (fun ⟨o8, h2⟩ => ⟨on_keep o8, h2⟩) (g9.out (on_set_other (by decide) h)), fun h => g10.out (on_set_other (by decide) h)⟩
      · refine ⟨rfl, ?_⟩
        rintro l ⟨u18, u19, u20, u21, u22, u17, u23, u24, u7, u8⟩ x ⟨ca0, ca1, ca2, cb0, cb1, cb2, hhga, hB, g0, g1, g2, g3, g4, g5, g6, g7, g8, g9, g10⟩ hun hpre K hK
        obtain ⟨e5, -⟩ := hpre
        obtain rfl := g5.out e5
        refine ⟨?_⟩
        simp only [Prod.forall, putAll, List.setIfInBounds_toArray, List.set_cons_zero, List.set_cons_succ] at hK ⊢
        go_simp
        exact hK _ _ _ _ _ _ _ _ _ _ _ ⟨ca0, ca1, ca2, cb0, cb1, cb2, hhga, hB, fun h => g0.out (on_set_other (by decide) h), fun h => g1.out (on_set_other (by decide) h), fun h => g2.out (on_set_other (by decide) h), fun h => g3.out (on_set_other (by decide) h), fun h => g4.out (on_set_other (by decide) h), fun h => g5.out (on_set_other (by decide) h), fun _ => rfl, fun h => g7.out (on_set_other (by decide) h), fun h => g8.out (on_set_other (by decide) h), fun h => (fun ⟨o8, h2⟩ => ⟨on_keep o8, h2⟩) (g9.out (on_set_other (by decide) h)), fun h => g10.out (on_set_other (by decide) h)⟩
      · refine ⟨rfl, ?_⟩
        rintro l ⟨u18, u19, u20, u21, u22, u17, u23, u24, u7, u8⟩ x ⟨ca0, ca1, ca2, cb0, cb1, cb2, hhga, hB, g0, g1, g2, g3, g4, g5, g6, g7, g8, g9, g10⟩ hun hpre K hK
        obtain ⟨e5, -⟩ := hpre
        obtain rfl := g5.out e5
        refine ⟨?_⟩
        simp only [Prod.forall, putAll, List.setIfInBounds_toArray, List.set_cons_zero, List.set_cons_succ] at hK ⊢
        go_simp
        exact hK _ _ _ _ _ _ _ _ _ _ _ ⟨ca0, ca1, ca2, cb0, cb1, cb2, hhga, hB, fun h => g0.out (on_set_other (by decide) h), fun h => g1.out (on_set_other (by decide) h), fun h => g2.out (on_set_other (by decide) h), fun h => g3.out (on_set_other (by decide) h), fun h => g4.out (on_set_other (by decide) h), fun h => g5.out (on_set_other (by decide) h), fun h => g6.out (on_set_other (by decide) h), fun _ => rfl, fun h => g8.out (on_set_other (by decide) h), fun h => (fun ⟨o8, h2⟩ => ⟨on_keep o8, h2⟩) (g9.out (on_set_other (by decide) h)), fun h => g10.out (on_set_other (by decide) h)⟩
      · refine ⟨rfl, ?_⟩
        rintro l ⟨u18, u19, u20, u21, u22, u17, u23, u24, u7, u8⟩ x ⟨ca0, ca1, ca2, cb0, cb1, cb2, hhga, hB, g0, g1, g2, g3, g4, g5, g6, g7, g8, g9, g10⟩ hun hpre K hK
        clear hpre
        refine ⟨?_⟩
        simp only [Prod.forall, putAll, List.setIfInBounds_toArray, List.set_cons_zero, List.set_cons_succ] at hK ⊢
        have hs := hB.size
        have hlt : w.heap.size + 2 ≤ x.heap.size ∧ ga < x.heap.size := by have h0 : w.heap.size + 1 < x.heap.size := lt_of_cell cb0; have h1 := lt_of_blk hhga; omega
        go_simp
        exact hK _ _ _ _ _ _ _ _ _ _ _ ⟨cell_alloc_ (ca0), cell_alloc_ (ca1), cell_alloc_ (ca2), cell_alloc_ (cb0), cell_alloc_ (cb1), cell_alloc_ (cb2), blk_alloc (hhga), hB.alloc hs _, fun h => g0.out (on_set_other (by decide) h), fun h => g1.out (on_set_other (by decide) h), fun h => g2.out (on_set_other (by decide) h), fun h => g3.out (on_set_other (by decide) h), fun h => g4.out (on_set_other (by decide) h), fun h => g5.out (on_set_other (by decide) h), fun h => g6.out (on_set_other (by decide) h), fun h => g7.out (on_set_other (by decide) h), fun _ => ⟨_, _, _, _, rfl, ⟨hs, hlt⟩, heap_alloc_new x _⟩, fun h => off_of_on hun (g9.out (on_set_other (by decide) h)).1, fun h => g10.out (on_set_other (by decide) h)⟩
      · refine ⟨rfl, ?_⟩
        rintro l ⟨u18, u19, u20, u21, u22, u17, u23, u24, u7, u8⟩ x ⟨ca0, ca1, ca2, cb0, cb1, cb2, hhga, hB, g0, g1, g2, g3, g4, g5, g6, g7, g8, g9, g10⟩ hun hpre K hK
        obtain ⟨e8, e6, e4, e0, e1, e2, e3, _, e5, _, _, -⟩ := hpre
        obtain rfl := g0.out e0
        obtain rfl := g1.out e1
        obtain rfl := g2.out e2
        obtain rfl := g3.out e3
        obtain rfl := g4.out e4
        obtain rfl := g5.out e5
        obtain rfl := g6.out e6
        obtain ⟨gb, x0, x1, x2, rfl, hgs, hh⟩ := g8.out e8
        refine ⟨?_⟩
        simp only [Prod.forall, putAll, List.setIfInBounds_toArray, List.set_cons_zero, List.set_cons_succ] at hK ⊢
        have hg1 := hgs.1
        have hg2 := hgs.2
        obtain ⟨hcl, hfr⟩ := blkcell hh
        go_simp
        have hnew := blk_set (i := 2) (blk_set (i := 1) (blk_set (i := 0) hh (.int .i64 r0)) (.int .i64 r1)) (.int .i64 r2)
        exact hK _ _ _ _ _ _ _ _ _ _ _ ⟨cell_set_ (cell_set_ (cell_set_ (ca0) (by (try dsimp only); omega)) (by (try dsimp only); omega)) (by (try dsimp only); omega), cell_set_ (cell_set_ (cell_set_ (ca1) (by (try dsimp only); omega)) (by (try dsimp only); omega)) (by (try dsimp only); omega), cell_set_ (cell_set_ (cell_set_ (ca2) (by (try dsimp only); omega)) (by (try dsimp only); omega)) (by (try dsimp only); omega), cell_set_ (cell_set_ (cell_set_ (cb0) (by (try dsimp only); omega)) (by (try dsimp only); omega)) (by (try dsimp only); omega), cell_set_ (cell_set_ (cell_set_ (cb1) (by (try dsimp only); omega)) (by (try dsimp only); omega)) (by (try dsimp only); omega), cell_set_ (cell_set_ (cell_set_ (cb2) (by (try dsimp only); omega)) (by (try dsimp only); omega)) (by (try dsimp only); omega), blk_far (blk_far (blk_far (hhga) (by (try dsimp only); omega) _) (by (try dsimp only); omega) _) (by (try dsimp only); omega) _, ((((((hB).setCell hg1 _)).setCell hg1 _)).setCell hg1 _), fun h => g0.out (on_set_other (by decide) h), fun h => g1.out (on_set_other (by decide) h), fun h => g2.out (on_set_other (by decide) h), fun h => g3.out (on_set_other (by decide) h), fun h => g4.out (on_set_other (by decide) h), fun h => g5.out (on_set_other (by decide) h), fun h => g6.out (on_set_other (by decide) h), fun h => g7.out (on_set_other (by decide) h), fun h => ⟨gb, _, _, _, rfl, hgs, hnew⟩, fun _ => ⟨on_keep e8, ⟨gb, rfl, hnew⟩⟩, fun h => g10.out (on_set_other (by decide) h)⟩
      · refine ⟨rfl, ?_⟩
        rintro l ⟨u18, u19, u20, u21, u22, u17, u23, u24, u7, u8⟩ x ⟨ca0, ca1, ca2, cb0, cb1, cb2, hhga, hB, g0, g1, g2, g3, g4, g5, g6, g7, g8, g9, g10⟩ hun hpre K hK
        obtain ⟨e7, e9, e0, e1, e2, e3, e4, e5, e6, _, e8, _, -⟩ := hpre
        obtain rfl := g0.out e0
        obtain rfl := g1.out e1
        obtain rfl := g2.out e2
        obtain rfl := g3.out e3
        obtain rfl := g4.out e4
        obtain rfl := g5.out e5
        obtain rfl := g6.out e6
        obtain rfl := g7.out e7
        obtain ⟨-, ⟨gb, rfl, hhgb⟩⟩ := g9.out e9
        refine ⟨?_⟩
        simp only [Prod.forall, putAll, List.setIfInBounds_toArray, List.set_cons_zero, List.set_cons_succ] at hK ⊢
        go_simp
        exact hK _ _ _ _ _ _ _ _ _ _ _ ⟨ca0, ca1, ca2, cb0, cb1, cb2, hhga, hB, fun h => g0.out (on_set_other (by decide) h), fun h => g1.out (on_set_other (by decide) h), fun h => g2.out (on_set_other (by decide) h), fun h => g3.out (on_set_other (by decide) h), fun h => g4.out (on_set_other (by decide) h), fun h => g5.out (on_set_other (by decide) h), fun h => g6.out (on_set_other (by decide) h), fun h => g7.out (on_set_other (by decide) h), fun h => g8.out (on_set_other (by decide) h), fun h => (fun ⟨o8, h2⟩ => ⟨on_keep o8, h2⟩) (g9.out (on_set_other (by decide) h)), fun _ => rfl⟩
    · rintro l ⟨u18, u19, u20, u21, u22, u17, u23, u24, u7, u8⟩ x ⟨ca0, ca1, ca2, cb0, cb1, cb2, hhga, hB, g0, g1, g2, g3, g4, g5, g6, g7, g8, g9, g10⟩ hon
      have e0 := hon (j := 0) rfl trivial
      have e1 := hon (j := 1) rfl ⟨e0, trivial⟩
      have e2 := hon (j := 2) rfl trivial
      have e3 := hon (j := 3) rfl ⟨e2, e1, trivial⟩
      have e4 := hon (j := 4) rfl ⟨e1, e3, e3, trivial⟩
      have e5 := hon (j := 5) rfl ⟨e4, trivial⟩
      have e6 := hon (j := 6) rfl ⟨e5, trivial⟩
      have e7 := hon (j := 7) rfl ⟨e5, trivial⟩
      have e8 := hon (j := 8) rfl trivial
      have e9 := hon (j := 9) rfl ⟨e8, e6, e4, e0, e1, e2, e3, e4, e5, e6, e8, trivial⟩
      have e10 := hon (j := 10) rfl ⟨e7, e9, e0, e1, e2, e3, e4, e5, e6, e7, e8, e9, trivial⟩
      obtain rfl := g0.out e0; clear g0
      obtain rfl := g1.out e1; clear g1
      obtain rfl := g2.out e2; clear g2
      obtain rfl := g3.out e3; clear g3
      obtain rfl := g4.out e4; clear g4
      obtain rfl := g5.out e5; clear g5
      obtain rfl := g6.out e6; clear g6
      obtain rfl := g7.out e7; clear g7
      clear g8
      obtain ⟨-, ⟨gb, rfl, hhgb⟩⟩ := g9.out e9; clear g9
      obtain rfl := g10.out e10; clear g10
      clear hon e0 e1 e2 e3 e4 e5 e6 e7 e8 e9 e10 l
      refine ⟨?_⟩
      simp only [Prod.forall, putAll, List.setIfInBounds_toArray, List.set_cons_zero, List.set_cons_succ]
      obtain ⟨ka, fa⟩ := blkcell hhga
      obtain ⟨kb, fb⟩ := blkcell hhgb
      have hs := hB.size
      go_wp2_with fail
      refine (eqAmt_any _ _ _ _ _ _ _).mono ?_
      rintro e w2 ⟨rfl, hb⟩
      have hB2 := hB.trans (hb.mono hs)
      clear hb ka kb fa fb
      cases b
      all_goals
        go_wp2_with fail
        go_ret
        exact ⟨rfl, hB2⟩
theorem AmtAdd_walk (p r c p' r' c' : Int) (w : World) (_ : (Lit.int .i64 p).wf = true) (_ : (Lit.int .i64 r).wf = true) (_ : (Lit.int .i64 c).wf = true) (_ : (Lit.int .i64 p').wf = true) (_ : (Lit.int .i64 r').wf = true) (_ : (Lit.int .i64 c').wf = true) :
    Calls Try.prog 9 #[amt p r c, amt p' r' c'] w fun e w' => e = .returned (.bool true) ∧ Below w.heap.size w w' := by
  cases h : addB p r c p' r' c'
  · exact AmtAdd_main p r c p' r' c' _ _ _ _ w (Lib.hid fun w => specAmtAdd_no p r c p' r' c' w h) (Lib.hid fun w => implAmtAdd_no p r c p' r' c' w h)
  · exact AmtAdd_main p r c p' r' c' _ _ _ _ w (Lib.hid fun w => specAmtAdd_yes p r c p' r' c' w h) (Lib.hid fun w => implAmtAdd_yes p r c p' r' c' w h)
set_option linter.unusedVariables false in
set_option maxRecDepth 100000 in
theorem FnExactAmtAdd_lifted (os : Os) (started : os.Started) (H : Type) (enc : TypeId × Value → H) :
    ReturnsInHanded {} Try.checked os 9 .any (Rows.fnExactAmtAddSpec.pre6 enc Try.prog Try.f9 Rows.fnExactAmtAddRow.domain false) (Rows.fnExactAmtAddSpec.post enc Try.prog Try.f9 false true false false) := by
  refine returnsInHanded_of_change (C := Try.checked) own started (by kernel_rfl) Try.func9
    (ChangeSpec.witness6 (enc := enc) (C := Try.checked) false ⟨#[], #[.agg #[.int .i64 0, .int .i64 0, .int .i64 0], .agg #[.int .i64 0, .int .i64 0, .int .i64 0]], []⟩ 8 (by kernel_rfl) (by kernel_rfl) (by kernel_rfl) (by kernel_rfl)) ?_
  intro W base args ds gs before hval0 hW hcnd _
  have hval : ∀ (j : Nat) t v, Try.f9.params[j]? = some t → args[j]? = some v → Value.okWide Try.prog W .any base t v := hval0
  have hW' := hW
  obtain ⟨p, q, hA0, hV, rfl, hfz, hnd⟩ := hW
  have hA : DataW.TrodAll enc Try.prog W 0 (fun _ => true) true Try.f9.params.toList args.toList ds p := hA0
  rw [Try.params9] at hA hval
  obtain ⟨v0, vs0, d0, ds0, p0, q0, hargs, rfl, rfl, h0, r0⟩ := trodAll_cons hA
  obtain ⟨v1, vs1, d1, ds1, p1, q1, rfl, rfl, rfl, h1, r1⟩ := trodAll_cons r0
  obtain ⟨rfl, rfl, rfl⟩ := trodAll_nil r1
  obtain rfl : args = #[v0, v1] := by cases args; simp_all
  obtain ⟨rfl, rfl⟩ := trodVars_none hV
  have k0 := h0
  have lt0 : ∀ x ∈ p0, x.block < W.heap.size := by obtain ⟨m, hm⟩ := k0; exact DataW.trod_lt m _ _ _ hm
  obtain ⟨c0_0, c0_1, c0_2, y0_0, y0_1, y0_2, m0, rfl, _, _, g0_0, g0_1, g0_2⟩ := open_agg3 Try.underlying24 (by kernel_rfl) (by kernel_rfl) (hval 0 24 v0 rfl rfl) h0
  obtain ⟨a0_0, e0_0, _, wf0_0⟩ := DataW.trod_int Try.underlying3 g0_0
  simp only [List.cons.injEq, and_true] at e0_0; subst e0_0
  obtain ⟨a0_1, e0_1, _, wf0_1⟩ := DataW.trod_int Try.underlying3 g0_1
  simp only [List.cons.injEq, and_true] at e0_1; subst e0_1
  obtain ⟨a0_2, e0_2, _, wf0_2⟩ := DataW.trod_int Try.underlying3 g0_2
  simp only [List.cons.injEq, and_true] at e0_2; subst e0_2
  have k1 := h1
  have lt1 : ∀ x ∈ p1, x.block < W.heap.size := by obtain ⟨m, hm⟩ := k1; exact DataW.trod_lt m _ _ _ hm
  obtain ⟨c1_0, c1_1, c1_2, y1_0, y1_1, y1_2, m1, rfl, _, _, g1_0, g1_1, g1_2⟩ := open_agg3 Try.underlying24 (by kernel_rfl) (by kernel_rfl) (hval 1 24 v1 rfl rfl) h1
  obtain ⟨a1_0, e1_0, _, wf1_0⟩ := DataW.trod_int Try.underlying3 g1_0
  simp only [List.cons.injEq, and_true] at e1_0; subst e1_0
  obtain ⟨a1_1, e1_1, _, wf1_1⟩ := DataW.trod_int Try.underlying3 g1_1
  simp only [List.cons.injEq, and_true] at e1_1; subst e1_1
  obtain ⟨a1_2, e1_2, _, wf1_2⟩ := DataW.trod_int Try.underlying3 g1_2
  simp only [List.cons.injEq, and_true] at e1_2; subst e1_2
  clear hA0 hval0
  refine (AmtAdd_walk a0_0 a0_1 a0_2 a1_0 a1_1 a1_2 W wf0_0 wf0_1 wf0_2 wf1_0 wf1_1 wf1_2).mono fun e W' ⟨he, bel⟩ => ?_
  subst he
  exact ⟨_, rfl, _, _, _, [], _, [], hW', trodAll_mk1 (shut_bool Try.underlying4 _), (trodAll_cons_mk (Below.trod laidOut (by kernel_rfl) (of_decide_eq_true (by kernel_rfl)) k0 bel lt0) (trodAll_cons_mk (Below.trod laidOut (by kernel_rfl) (of_decide_eq_true (by kernel_rfl)) k1 bel lt1) trodAll_mk0)), rfl, bel.frame _, fun h => by cases h⟩
/-- THE STATEMENT -/
theorem FnExactAmtAdd_holds : Rows.FnExactAmtAddSaid :=
  OpenClaim.holds_of_wide 9 Try.f9 rfl rfl rfl rfl rfl rfl rfl ⟨rfl, rfl, rfl, rfl, rfl⟩ rfl rfl rfl rfl rfl (by kernel_rfl) Try.func9 (by kernel_rfl)
    (of_decide_eq_true (by kernel_rfl)) (by unfold Func.isWrapper; first | (rw [if_pos (by decide +kernel)]; kernel_rfl) | (rw [if_neg (by decide +kernel)]; exact ⟨rfl, rfl⟩))
    (fun os started H enc _ => FnExactAmtAdd_lifted os started H enc)


end Go.Proofs.Ythjchlefafbfoaa
