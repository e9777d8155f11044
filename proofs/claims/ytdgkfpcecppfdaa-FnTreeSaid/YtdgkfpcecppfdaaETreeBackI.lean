/- Contracts of TreeBack (the program's). -/
import Derived.Test.YtdgkfpcecppfdaaETreeBackM
import Derived.Test.YtdgkfpcecppfdaaRegionG
namespace Go.Proofs.Ytdgkfpcecppfdaa
set_option linter.unusedSimpArgs false
set_option linter.unusedVariables false
open Go.RowKit
attribute [local go_sem ↓] Go.wp_at_zero Go.wp_at_succ

set_option maxHeartbeats 6400000 in
theorem implTreeBack_any (A : Option Addr) (n c : Nat) (t : List El) (i : Int) (a : B3) (w : World) (hx : Els w A t) (hn : t.length = n) (hnb : n ≤ 1099511627776) :
    Calls Try.prog 36 #[.slice A n c, .int .i64 i, amt3 a] w (OutB (treeBack t i a).1 (treeBack t i a).2 n w) := by
  have HX := Lib.hid hx; have HN := Lib.hid hn
  have C := Lib.hid (fun w' h => implTreeOk_any A n c t (rightB t) w' h hn hnb (rightB_iff t))
  have D := Lib.hid (fun w' h => implTreeSum_any A n c t (rightB t) w' h hn hnb (rightB_iff t))
  have F := Lib.hid (fun w' => implAmtOk_r a w')
  have G := Lib.hid (fun w' => implAmtOk_r (add33 (sumL t) a) w')
  have CP := Lib.hid (fun w' h => copyTree_any A n c t w' h hn hnb)
  rcases backOk_cases t a with ⟨hR, hk⟩ | ⟨hR, ha, hk⟩ | ⟨hR, ha, hsu, hk⟩ | ⟨hR, ha, hsu, hk⟩
  · have hr := Lib.hid (treeBack_no (i := i) hk)
    rw [hR] at C D
    clear hx hn hR hk
    go_enter Try.func36, Try.ntmps36
    go_wp2_with fail
    refine (CP.out _ (HX.out.alloc _)).mono ?_
    rintro e w1 ⟨A', c', rfl, ho, hb1⟩
    have HO := Lib.hid (ho.more (B' := w.heap.size) (by simp))
    have hB := Below.trans ((Below.refl w.heap.size w).alloc (Nat.le_refl _) _) (hb1.mono (by simp))
    have hbox := keepblk hb1 (heap_alloc_new w _)
    have hs := hB.size
    clear ho hb1
    obtain ⟨d0, d1, d2⟩ : w1.cell? ⟨w.heap.size, 0, none⟩ = some (.int .i64 a.1) ∧ w1.cell? ⟨w.heap.size, 1, none⟩ = some (.int .i64 a.2.1) ∧ w1.cell? ⟨w.heap.size, 2, none⟩ = some (.int .i64 a.2.2) := by
      have h := (blkcell hbox).1
      exact ⟨h 0, h 1, h 2⟩
    clear hbox
    go_wp2_with fail
    refine wp_region_fg (U := Value × Value × Value × Value × Value × Value × Value × Value × Value × Value × Value × Value × Value × Value × Value × Value) [[], [0], [1], [2, 1], [3], [4, 3, 3], [5, 3], [3, 6], [7, 5], [8], [9, 8, 8], [8], [10, 11, 10, 8], [12, 12, 8], [13, 8], [8, 14]] (fun u => match u with | (u11, u12, u13, u14, u15, u16, u17, u18, u19, u20, u21, u22, u23, u24, u25, u26) => [(11, u11), (12, u12), (13, u13), (14, u14), (15, u15), (16, u16), (17, u17), (18, u18), (19, u19), (20, u20), (21, u21), (22, u22), (23, u23), (24, u24), (25, u25), (26, u26)]) (undef, undef, undef, undef, undef, undef, undef, undef, undef, undef, undef, undef, undef, undef, undef, undef) (fun l u x => match u with | (u11, u12, u13, u14, u15, u16, u17, u18, u19, u20, u21, u22, u23, u24, u25, u26) => (x.cell? ⟨w.heap.size, 0, none⟩ = some (.int .i64 a.1)) ∧ (x.cell? ⟨w.heap.size, 1, none⟩ = some (.int .i64 a.2.1)) ∧ (x.cell? ⟨w.heap.size, 2, none⟩ = some (.int .i64 a.2.2)) ∧ (Hid (OwnE x w.heap.size A' t)) ∧ (Hid (Els x A t)) ∧ (Below w.heap.size w x) ∧ Hid (l.getD 0 false = true → u11 = .slice A n c) ∧ Hid (l.getD 1 false = true → u12 = .bool false) ∧ Hid (l.getD 2 false = true → u13 = .bool true) ∧ Hid (l.getD 3 false = true → u14 = .bool true) ∧ Hid (l.getD 4 false = true → u15 = undef) ∧ Hid (l.getD 5 false = true → u16 = undef) ∧ Hid (l.getD 6 false = true → u17 = undef) ∧ Hid (l.getD 7 false = true → u18 = .bool true) ∧ Hid (l.getD 8 false = true → u19 = .bool true) ∧ Hid (l.getD 9 false = true → u20 = undef) ∧ Hid (l.getD 10 false = true → u21 = undef) ∧ Hid (l.getD 11 false = true → u22 = undef) ∧ Hid (l.getD 12 false = true → u23 = undef) ∧ Hid (l.getD 13 false = true → u24 = undef) ∧ Hid (l.getD 14 false = true → u25 = undef) ∧ Hid (l.getD 15 false = true → u26 = .bool true)) (by kernel_rfl) (by kernel_rfl) ?_ ?_ ?_ ?_
    · kernel_rfl
    · exact ⟨(by exact d0), (by exact d1), (by exact d2), (by exact Lib.hid (OwnE.drewN HO.out 1)), (by exact Lib.hid (HX.out.keep (fun _ _ h => Below.keeps hB.drew h))), (by exact hB.drew), fun h => repl_off h, fun h => repl_off h, fun h => repl_off h, fun h => repl_off h, fun h => repl_off h, fun h => repl_off h, fun h => repl_off h, fun h => repl_off h, fun h => repl_off h, fun h => repl_off h, fun h => repl_off h, fun h => repl_off h, fun h => repl_off h, fun h => repl_off h, fun h => repl_off h, fun h => repl_off h⟩
    · refine ⟨?_, ?_, ?_, ?_, ?_, ?_, ?_, ?_, ?_, ?_, ?_, ?_, ?_, ?_, ?_, ?_, trivial⟩
      · skip
        rintro l ⟨u11, u12, u13, u14, u15, u16, u17, u18, u19, u20, u21, u22, u23, u24, u25, u26⟩ x ⟨d0, d1, d2, HO, HE, hB, g0, g1, g2, g3, g4, g5, g6, g7, g8, g9, g10, g11, g12, g13, g14, g15⟩ hun hpre K hK
        clear hpre
        refine ⟨?_⟩
        simp only [Prod.forall, putAll, List.setIfInBounds_toArray, List.set_cons_zero, List.set_cons_succ] at hK ⊢
        refine wanted_yes (by rfl) ?_
        go_simp
        exact hK _ _ _ _ _ _ _ _ _ _ _ _ _ _ _ _ _ ⟨d0, d1, d2, HO, HE, hB, fun _ => rfl, fun h => g1.out (on_set_other (by decide) h), fun h => g2.out (on_set_other (by decide) h), fun h => g3.out (on_set_other (by decide) h), fun h => g4.out (on_set_other (by decide) h), fun h => g5.out (on_set_other (by decide) h), fun h => g6.out (on_set_other (by decide) h), fun h => g7.out (on_set_other (by decide) h), fun h => g8.out (on_set_other (by decide) h), fun h => g9.out (on_set_other (by decide) h), fun h => g10.out (on_set_other (by decide) h), fun h => g11.out (on_set_other (by decide) h), fun h => g12.out (on_set_other (by decide) h), fun h => g13.out (on_set_other (by decide) h), fun h => g14.out (on_set_other (by decide) h), fun h => g15.out (on_set_other (by decide) h)⟩
      · skip
        rintro l ⟨u11, u12, u13, u14, u15, u16, u17, u18, u19, u20, u21, u22, u23, u24, u25, u26⟩ x ⟨d0, d1, d2, HO, HE, hB, g0, g1, g2, g3, g4, g5, g6, g7, g8, g9, g10, g11, g12, g13, g14, g15⟩ hun hpre K hK
        obtain ⟨e0, -⟩ := hpre
        obtain rfl := g0.out e0
        refine ⟨?_⟩
        simp only [Prod.forall, putAll, List.setIfInBounds_toArray, List.set_cons_zero, List.set_cons_succ] at hK ⊢
        refine wanted_yes (by rfl) ?_
        go_simp
        refine (C.out _ (by exact HE.out)).mono ?_
        rintro e x2 ⟨rfl, hb⟩
        have hs := hB.size
        exact hK _ _ _ _ _ _ _ _ _ _ _ _ _ _ _ _ _ ⟨Below.keeps hb (d0), Below.keeps hb (d1), Below.keeps hb (d2), Lib.hid (OwnE.below HO.out hb), Lib.hid (Els.below HE.out hb), hB.trans (hb.mono hs), fun h => g0.out (on_set_other (by decide) h), fun _ => rfl, fun h => g2.out (on_set_other (by decide) h), fun h => g3.out (on_set_other (by decide) h), fun h => g4.out (on_set_other (by decide) h), fun h => g5.out (on_set_other (by decide) h), fun h => g6.out (on_set_other (by decide) h), fun h => g7.out (on_set_other (by decide) h), fun h => g8.out (on_set_other (by decide) h), fun h => g9.out (on_set_other (by decide) h), fun h => g10.out (on_set_other (by decide) h), fun h => g11.out (on_set_other (by decide) h), fun h => g12.out (on_set_other (by decide) h), fun h => g13.out (on_set_other (by decide) h), fun h => g14.out (on_set_other (by decide) h), fun h => g15.out (on_set_other (by decide) h)⟩
      · skip
        rintro l ⟨u11, u12, u13, u14, u15, u16, u17, u18, u19, u20, u21, u22, u23, u24, u25, u26⟩ x ⟨d0, d1, d2, HO, HE, hB, g0, g1, g2, g3, g4, g5, g6, g7, g8, g9, g10, g11, g12, g13, g14, g15⟩ hun hpre K hK
        obtain ⟨e1, -⟩ := hpre
        obtain rfl := g1.out e1
        refine ⟨?_⟩
        simp only [Prod.forall, putAll, List.setIfInBounds_toArray, List.set_cons_zero, List.set_cons_succ] at hK ⊢
        refine wanted_yes (by rfl) ?_
        go_simp
        exact hK _ _ _ _ _ _ _ _ _ _ _ _ _ _ _ _ _ ⟨d0, d1, d2, HO, HE, hB, fun h => g0.out (on_set_other (by decide) h), fun h => g1.out (on_set_other (by decide) h), fun _ => rfl, fun h => g3.out (on_set_other (by decide) h), fun h => g4.out (on_set_other (by decide) h), fun h => g5.out (on_set_other (by decide) h), fun h => g6.out (on_set_other (by decide) h), fun h => g7.out (on_set_other (by decide) h), fun h => g8.out (on_set_other (by decide) h), fun h => g9.out (on_set_other (by decide) h), fun h => g10.out (on_set_other (by decide) h), fun h => g11.out (on_set_other (by decide) h), fun h => g12.out (on_set_other (by decide) h), fun h => g13.out (on_set_other (by decide) h), fun h => g14.out (on_set_other (by decide) h), fun h => g15.out (on_set_other (by decide) h)⟩
      · skip
        rintro l ⟨u11, u12, u13, u14, u15, u16, u17, u18, u19, u20, u21, u22, u23, u24, u25, u26⟩ x ⟨d0, d1, d2, HO, HE, hB, g0, g1, g2, g3, g4, g5, g6, g7, g8, g9, g10, g11, g12, g13, g14, g15⟩ hun hpre K hK
        obtain ⟨e2, e1, -⟩ := hpre
        obtain rfl := g1.out e1
        obtain rfl := g2.out e2
        refine ⟨?_⟩
        simp only [Prod.forall, putAll, List.setIfInBounds_toArray, List.set_cons_zero, List.set_cons_succ] at hK ⊢
        refine wanted_yes (by rfl) ?_
        go_simp
        exact hK _ _ _ _ _ _ _ _ _ _ _ _ _ _ _ _ _ ⟨d0, d1, d2, HO, HE, hB, fun h => g0.out (on_set_other (by decide) h), fun h => g1.out (on_set_other (by decide) h), fun h => g2.out (on_set_other (by decide) h), fun _ => rfl, fun h => g4.out (on_set_other (by decide) h), fun h => g5.out (on_set_other (by decide) h), fun h => g6.out (on_set_other (by decide) h), fun h => g7.out (on_set_other (by decide) h), fun h => g8.out (on_set_other (by decide) h), fun h => g9.out (on_set_other (by decide) h), fun h => g10.out (on_set_other (by decide) h), fun h => g11.out (on_set_other (by decide) h), fun h => g12.out (on_set_other (by decide) h), fun h => g13.out (on_set_other (by decide) h), fun h => g14.out (on_set_other (by decide) h), fun h => g15.out (on_set_other (by decide) h)⟩
      · skip
        rintro l ⟨u11, u12, u13, u14, u15, u16, u17, u18, u19, u20, u21, u22, u23, u24, u25, u26⟩ x ⟨d0, d1, d2, HO, HE, hB, g0, g1, g2, g3, g4, g5, g6, g7, g8, g9, g10, g11, g12, g13, g14, g15⟩ hun hpre K hK
        obtain ⟨e3, -⟩ := hpre
        obtain rfl := g3.out e3
        refine ⟨?_⟩
        simp only [Prod.forall, putAll, List.setIfInBounds_toArray, List.set_cons_zero, List.set_cons_succ] at hK ⊢
        refine wanted_no (by rfl) ?_
        go_simp
        exact hK _ _ _ _ _ _ _ _ _ _ _ _ _ _ _ _ _ ⟨d0, d1, d2, HO, HE, hB, fun h => g0.out (on_set_other (by decide) h), fun h => g1.out (on_set_other (by decide) h), fun h => g2.out (on_set_other (by decide) h), fun h => g3.out (on_set_other (by decide) h), fun _ => rfl, fun h => g5.out (on_set_other (by decide) h), fun h => g6.out (on_set_other (by decide) h), fun h => g7.out (on_set_other (by decide) h), fun h => g8.out (on_set_other (by decide) h), fun h => g9.out (on_set_other (by decide) h), fun h => g10.out (on_set_other (by decide) h), fun h => g11.out (on_set_other (by decide) h), fun h => g12.out (on_set_other (by decide) h), fun h => g13.out (on_set_other (by decide) h), fun h => g14.out (on_set_other (by decide) h), fun h => g15.out (on_set_other (by decide) h)⟩
      · skip
        rintro l ⟨u11, u12, u13, u14, u15, u16, u17, u18, u19, u20, u21, u22, u23, u24, u25, u26⟩ x ⟨d0, d1, d2, HO, HE, hB, g0, g1, g2, g3, g4, g5, g6, g7, g8, g9, g10, g11, g12, g13, g14, g15⟩ hun hpre K hK
        obtain ⟨e4, e3, _, -⟩ := hpre
        obtain rfl := g3.out e3
        obtain rfl := g4.out e4
        refine ⟨?_⟩
        simp only [Prod.forall, putAll, List.setIfInBounds_toArray, List.set_cons_zero, List.set_cons_succ] at hK ⊢
        refine wanted_no (by rfl) ?_
        go_simp
        exact hK _ _ _ _ _ _ _ _ _ _ _ _ _ _ _ _ _ ⟨d0, d1, d2, HO, HE, hB, fun h => g0.out (on_set_other (by decide) h), fun h => g1.out (on_set_other (by decide) h), fun h => g2.out (on_set_other (by decide) h), fun h => g3.out (on_set_other (by decide) h), fun h => g4.out (on_set_other (by decide) h), fun _ => rfl, fun h => g6.out (on_set_other (by decide) h), fun h => g7.out (on_set_other (by decide) h), fun h => g8.out (on_set_other (by decide) h), fun h => g9.out (on_set_other (by decide) h), fun h => g10.out (on_set_other (by decide) h), fun h => g11.out (on_set_other (by decide) h), fun h => g12.out (on_set_other (by decide) h), fun h => g13.out (on_set_other (by decide) h), fun h => g14.out (on_set_other (by decide) h), fun h => g15.out (on_set_other (by decide) h)⟩
      · skip
        rintro l ⟨u11, u12, u13, u14, u15, u16, u17, u18, u19, u20, u21, u22, u23, u24, u25, u26⟩ x ⟨d0, d1, d2, HO, HE, hB, g0, g1, g2, g3, g4, g5, g6, g7, g8, g9, g10, g11, g12, g13, g14, g15⟩ hun hpre K hK
        obtain ⟨e5, e3, -⟩ := hpre
        obtain rfl := g3.out e3
        obtain rfl := g5.out e5
        refine ⟨?_⟩
        simp only [Prod.forall, putAll, List.setIfInBounds_toArray, List.set_cons_zero, List.set_cons_succ] at hK ⊢
        refine wanted_no (by rfl) ?_
        go_simp
        exact hK _ _ _ _ _ _ _ _ _ _ _ _ _ _ _ _ _ ⟨d0, d1, d2, HO, HE, hB, fun h => g0.out (on_set_other (by decide) h), fun h => g1.out (on_set_other (by decide) h), fun h => g2.out (on_set_other (by decide) h), fun h => g3.out (on_set_other (by decide) h), fun h => g4.out (on_set_other (by decide) h), fun h => g5.out (on_set_other (by decide) h), fun _ => rfl, fun h => g7.out (on_set_other (by decide) h), fun h => g8.out (on_set_other (by decide) h), fun h => g9.out (on_set_other (by decide) h), fun h => g10.out (on_set_other (by decide) h), fun h => g11.out (on_set_other (by decide) h), fun h => g12.out (on_set_other (by decide) h), fun h => g13.out (on_set_other (by decide) h), fun h => g14.out (on_set_other (by decide) h), fun h => g15.out (on_set_other (by decide) h)⟩
      · skip
        rintro l ⟨u11, u12, u13, u14, u15, u16, u17, u18, u19, u20, u21, u22, u23, u24, u25, u26⟩ x ⟨d0, d1, d2, HO, HE, hB, g0, g1, g2, g3, g4, g5, g6, g7, g8, g9, g10, g11, g12, g13, g14, g15⟩ hun hpre K hK
        obtain ⟨e3, e6, -⟩ := hpre
        obtain rfl := g3.out e3
        obtain rfl := g6.out e6
        refine ⟨?_⟩
        simp only [Prod.forall, putAll, List.setIfInBounds_toArray, List.set_cons_zero, List.set_cons_succ] at hK ⊢
        refine wanted_yes (by rfl) ?_
        go_simp
        exact hK _ _ _ _ _ _ _ _ _ _ _ _ _ _ _ _ _ ⟨d0, d1, d2, HO, HE, hB, fun h => g0.out (on_set_other (by decide) h), fun h => g1.out (on_set_other (by decide) h), fun h => g2.out (on_set_other (by decide) h), fun h => g3.out (on_set_other (by decide) h), fun h => g4.out (on_set_other (by decide) h), fun h => g5.out (on_set_other (by decide) h), fun h => g6.out (on_set_other (by decide) h), fun _ => rfl, fun h => g8.out (on_set_other (by decide) h), fun h => g9.out (on_set_other (by decide) h), fun h => g10.out (on_set_other (by decide) h), fun h => g11.out (on_set_other (by decide) h), fun h => g12.out (on_set_other (by decide) h), fun h => g13.out (on_set_other (by decide) h), fun h => g14.out (on_set_other (by decide) h), fun h => g15.out (on_set_other (by decide) h)⟩
      · skip
        rintro l ⟨u11, u12, u13, u14, u15, u16, u17, u18, u19, u20, u21, u22, u23, u24, u25, u26⟩ x ⟨d0, d1, d2, HO, HE, hB, g0, g1, g2, g3, g4, g5, g6, g7, g8, g9, g10, g11, g12, g13, g14, g15⟩ hun hpre K hK
        obtain ⟨e7, e5, -⟩ := hpre
        obtain rfl := g5.out e5
        obtain rfl := g7.out e7
        refine ⟨?_⟩
        simp only [Prod.forall, putAll, List.setIfInBounds_toArray, List.set_cons_zero, List.set_cons_succ] at hK ⊢
        refine wanted_yes (by rfl) ?_
        go_simp
        exact hK _ _ _ _ _ _ _ _ _ _ _ _ _ _ _ _ _ ⟨d0, d1, d2, HO, HE, hB, fun h => g0.out (on_set_other (by decide) h), fun h => g1.out (on_set_other (by decide) h), fun h => g2.out (on_set_other (by decide) h), fun h => g3.out (on_set_other (by decide) h), fun h => g4.out (on_set_other (by decide) h), fun h => g5.out (on_set_other (by decide) h), fun h => g6.out (on_set_other (by decide) h), fun h => g7.out (on_set_other (by decide) h), fun _ => rfl, fun h => g9.out (on_set_other (by decide) h), fun h => g10.out (on_set_other (by decide) h), fun h => g11.out (on_set_other (by decide) h), fun h => g12.out (on_set_other (by decide) h), fun h => g13.out (on_set_other (by decide) h), fun h => g14.out (on_set_other (by decide) h), fun h => g15.out (on_set_other (by decide) h)⟩
      · skip
        rintro l ⟨u11, u12, u13, u14, u15, u16, u17, u18, u19, u20, u21, u22, u23, u24, u25, u26⟩ x ⟨d0, d1, d2, HO, HE, hB, g0, g1, g2, g3, g4, g5, g6, g7, g8, g9, g10, g11, g12, g13, g14, g15⟩ hun hpre K hK
        obtain ⟨e8, -⟩ := hpre
        obtain rfl := g8.out e8
        refine ⟨?_⟩
        simp only [Prod.forall, putAll, List.setIfInBounds_toArray, List.set_cons_zero, List.set_cons_succ] at hK ⊢
        refine wanted_no (by rfl) ?_
        go_simp
        exact hK _ _ _ _ _ _ _ _ _ _ _ _ _ _ _ _ _ ⟨d0, d1, d2, HO, HE, hB, fun h => g0.out (on_set_other (by decide) h), fun h => g1.out (on_set_other (by decide) h), fun h => g2.out (on_set_other (by decide) h), fun h => g3.out (on_set_other (by decide) h), fun h => g4.out (on_set_other (by decide) h), fun h => g5.out (on_set_other (by decide) h), fun h => g6.out (on_set_other (by decide) h), fun h => g7.out (on_set_other (by decide) h), fun h => g8.out (on_set_other (by decide) h), fun _ => rfl, fun h => g10.out (on_set_other (by decide) h), fun h => g11.out (on_set_other (by decide) h), fun h => g12.out (on_set_other (by decide) h), fun h => g13.out (on_set_other (by decide) h), fun h => g14.out (on_set_other (by decide) h), fun h => g15.out (on_set_other (by decide) h)⟩
      · skip
        rintro l ⟨u11, u12, u13, u14, u15, u16, u17, u18, u19, u20, u21, u22, u23, u24, u25, u26⟩ x ⟨d0, d1, d2, HO, HE, hB, g0, g1, g2, g3, g4, g5, g6, g7, g8, g9, g10, g11, g12, g13, g14, g15⟩ hun hpre K hK
        obtain ⟨e9, e8, _, -⟩ := hpre
        obtain rfl := g8.out e8
        obtain rfl := g9.out e9
        refine ⟨?_⟩
        simp only [Prod.forall, putAll, List.setIfInBounds_toArray, List.set_cons_zero, List.set_cons_succ] at hK ⊢
        refine wanted_no (by rfl) ?_
        go_simp
        exact hK _ _ _ _ _ _ _ _ _ _ _ _ _ _ _ _ _ ⟨d0, d1, d2, HO, HE, hB, fun h => g0.out (on_set_other (by decide) h), fun h => g1.out (on_set_other (by decide) h), fun h => g2.out (on_set_other (by decide) h), fun h => g3.out (on_set_other (by decide) h), fun h => g4.out (on_set_other (by decide) h), fun h => g5.out (on_set_other (by decide) h), fun h => g6.out (on_set_other (by decide) h), fun h => g7.out (on_set_other (by decide) h), fun h => g8.out (on_set_other (by decide) h), fun h => g9.out (on_set_other (by decide) h), fun _ => rfl, fun h => g11.out (on_set_other (by decide) h), fun h => g12.out (on_set_other (by decide) h), fun h => g13.out (on_set_other (by decide) h), fun h => g14.out (on_set_other (by decide) h), fun h => g15.out (on_set_other (by decide) h)⟩
      · skip
        rintro l ⟨u11, u12, u13, u14, u15, u16, u17, u18, u19, u20, u21, u22, u23, u24, u25, u26⟩ x ⟨d0, d1, d2, HO, HE, hB, g0, g1, g2, g3, g4, g5, g6, g7, g8, g9, g10, g11, g12, g13, g14, g15⟩ hun hpre K hK
        obtain ⟨e8, -⟩ := hpre
        obtain rfl := g8.out e8
        refine ⟨?_⟩
        simp only [Prod.forall, putAll, List.setIfInBounds_toArray, List.set_cons_zero, List.set_cons_succ] at hK ⊢
        refine wanted_no (by rfl) ?_
        go_simp
        exact hK _ _ _ _ _ _ _ _ _ _ _ _ _ _ _ _ _ ⟨d0, d1, d2, HO, HE, hB, fun h => g0.out (on_set_other (by decide) h), fun h => g1.out (on_set_other (by decide) h), fun h => g2.out (on_set_other (by decide) h), fun h => g3.out (on_set_other (by decide) h), fun h => g4.out (on_set_other (by decide) h), fun h => g5.out (on_set_other (by decide) h), fun h => g6.out (on_set_other (by decide) h), fun h => g7.out (on_set_other (by decide) h), fun h => g8.out (on_set_other (by decide) h), fun h => g9.out (on_set_other (by decide) h), fun h => g10.out (on_set_other (by decide) h), fun _ => rfl, fun h => g12.out (on_set_other (by decide) h), fun h => g13.out (on_set_other (by decide) h), fun h => g14.out (on_set_other (by decide) h), fun h => g15.out (on_set_other (by decide) h)⟩
      · skip
        rintro l ⟨u11, u12, u13, u14, u15, u16, u17, u18, u19, u20, u21, u22, u23, u24, u25, u26⟩ x ⟨d0, d1, d2, HO, HE, hB, g0, g1, g2, g3, g4, g5, g6, g7, g8, g9, g10, g11, g12, g13, g14, g15⟩ hun hpre K hK
        obtain ⟨e10, e11, _, e8, -⟩ := hpre
        obtain rfl := g8.out e8
        obtain rfl := g10.out e10
        obtain rfl := g11.out e11
        refine ⟨?_⟩
        simp only [Prod.forall, putAll, List.setIfInBounds_toArray, List.set_cons_zero, List.set_cons_succ] at hK ⊢
        refine wanted_no (by rfl) ?_
        go_simp
        exact hK _ _ _ _ _ _ _ _ _ _ _ _ _ _ _ _ _ ⟨d0, d1, d2, HO, HE, hB, fun h => g0.out (on_set_other (by decide) h), fun h => g1.out (on_set_other (by decide) h), fun h => g2.out (on_set_other (by decide) h), fun h => g3.out (on_set_other (by decide) h), fun h => g4.out (on_set_other (by decide) h), fun h => g5.out (on_set_other (by decide) h), fun h => g6.out (on_set_other (by decide) h), fun h => g7.out (on_set_other (by decide) h), fun h => g8.out (on_set_other (by decide) h), fun h => g9.out (on_set_other (by decide) h), fun h => g10.out (on_set_other (by decide) h), fun h => g11.out (on_set_other (by decide) h), fun _ => rfl, fun h => g13.out (on_set_other (by decide) h), fun h => g14.out (on_set_other (by decide) h), fun h => g15.out (on_set_other (by decide) h)⟩
      · skip
        rintro l ⟨u11, u12, u13, u14, u15, u16, u17, u18, u19, u20, u21, u22, u23, u24, u25, u26⟩ x ⟨d0, d1, d2, HO, HE, hB, g0, g1, g2, g3, g4, g5, g6, g7, g8, g9, g10, g11, g12, g13, g14, g15⟩ hun hpre K hK
        obtain ⟨e12, _, e8, -⟩ := hpre
        obtain rfl := g8.out e8
        obtain rfl := g12.out e12
        refine ⟨?_⟩
        simp only [Prod.forall, putAll, List.setIfInBounds_toArray, List.set_cons_zero, List.set_cons_succ] at hK ⊢
        refine wanted_no (by rfl) ?_
        go_simp
        exact hK _ _ _ _ _ _ _ _ _ _ _ _ _ _ _ _ _ ⟨d0, d1, d2, HO, HE, hB, fun h => g0.out (on_set_other (by decide) h), fun h => g1.out (on_set_other (by decide) h), fun h => g2.out (on_set_other (by decide) h), fun h => g3.out (on_set_other (by decide) h), fun h => g4.out (on_set_other (by decide) h), fun h => g5.out (on_set_other (by decide) h), fun h => g6.out (on_set_other (by decide) h), fun h => g7.out (on_set_other (by decide) h), fun h => g8.out (on_set_other (by decide) h), fun h => g9.out (on_set_other (by decide) h), fun h => g10.out (on_set_other (by decide) h), fun h => g11.out (on_set_other (by decide) h), fun h => g12.out (on_set_other (by decide) h), fun _ => rfl, fun h => g14.out (on_set_other (by decide) h), fun h => g15.out (on_set_other (by decide) h)⟩
      · skip
        rintro l ⟨u11, u12, u13, u14, u15, u16, u17, u18, u19, u20, u21, u22, u23, u24, u25, u26⟩ x ⟨d0, d1, d2, HO, HE, hB, g0, g1, g2, g3, g4, g5, g6, g7, g8, g9, g10, g11, g12, g13, g14, g15⟩ hun hpre K hK
        obtain ⟨e13, e8, -⟩ := hpre
        obtain rfl := g8.out e8
        obtain rfl := g13.out e13
        refine ⟨?_⟩
        simp only [Prod.forall, putAll, List.setIfInBounds_toArray, List.set_cons_zero, List.set_cons_succ] at hK ⊢
        refine wanted_no (by rfl) ?_
        go_simp
        exact hK _ _ _ _ _ _ _ _ _ _ _ _ _ _ _ _ _ ⟨d0, d1, d2, HO, HE, hB, fun h => g0.out (on_set_other (by decide) h), fun h => g1.out (on_set_other (by decide) h), fun h => g2.out (on_set_other (by decide) h), fun h => g3.out (on_set_other (by decide) h), fun h => g4.out (on_set_other (by decide) h), fun h => g5.out (on_set_other (by decide) h), fun h => g6.out (on_set_other (by decide) h), fun h => g7.out (on_set_other (by decide) h), fun h => g8.out (on_set_other (by decide) h), fun h => g9.out (on_set_other (by decide) h), fun h => g10.out (on_set_other (by decide) h), fun h => g11.out (on_set_other (by decide) h), fun h => g12.out (on_set_other (by decide) h), fun h => g13.out (on_set_other (by decide) h), fun _ => rfl, fun h => g15.out (on_set_other (by decide) h)⟩
      · skip
        rintro l ⟨u11, u12, u13, u14, u15, u16, u17, u18, u19, u20, u21, u22, u23, u24, u25, u26⟩ x ⟨d0, d1, d2, HO, HE, hB, g0, g1, g2, g3, g4, g5, g6, g7, g8, g9, g10, g11, g12, g13, g14, g15⟩ hun hpre K hK
        obtain ⟨e8, e14, -⟩ := hpre
        obtain rfl := g8.out e8
        obtain rfl := g14.out e14
        refine ⟨?_⟩
        simp only [Prod.forall, putAll, List.setIfInBounds_toArray, List.set_cons_zero, List.set_cons_succ] at hK ⊢
        refine wanted_yes (by rfl) ?_
        go_simp
        exact hK _ _ _ _ _ _ _ _ _ _ _ _ _ _ _ _ _ ⟨d0, d1, d2, HO, HE, hB, fun h => g0.out (on_set_other (by decide) h), fun h => g1.out (on_set_other (by decide) h), fun h => g2.out (on_set_other (by decide) h), fun h => g3.out (on_set_other (by decide) h), fun h => g4.out (on_set_other (by decide) h), fun h => g5.out (on_set_other (by decide) h), fun h => g6.out (on_set_other (by decide) h), fun h => g7.out (on_set_other (by decide) h), fun h => g8.out (on_set_other (by decide) h), fun h => g9.out (on_set_other (by decide) h), fun h => g10.out (on_set_other (by decide) h), fun h => g11.out (on_set_other (by decide) h), fun h => g12.out (on_set_other (by decide) h), fun h => g13.out (on_set_other (by decide) h), fun h => g14.out (on_set_other (by decide) h), fun _ => rfl⟩
    · rintro l ⟨u11, u12, u13, u14, u15, u16, u17, u18, u19, u20, u21, u22, u23, u24, u25, u26⟩ x ⟨d0, d1, d2, HO, HE, hB, g0, g1, g2, g3, g4, g5, g6, g7, g8, g9, g10, g11, g12, g13, g14, g15⟩ hon
      have e0 := hon (j := 0) rfl trivial
      have e1 := hon (j := 1) rfl ⟨e0, trivial⟩
      have e2 := hon (j := 2) rfl ⟨e1, trivial⟩
      have e3 := hon (j := 3) rfl ⟨e2, e1, trivial⟩
      have e4 := hon (j := 4) rfl ⟨e3, trivial⟩
      have e5 := hon (j := 5) rfl ⟨e4, e3, e3, trivial⟩
      have e6 := hon (j := 6) rfl ⟨e5, e3, trivial⟩
      have e7 := hon (j := 7) rfl ⟨e3, e6, trivial⟩
      have e8 := hon (j := 8) rfl ⟨e7, e5, trivial⟩
      have e9 := hon (j := 9) rfl ⟨e8, trivial⟩
      have e10 := hon (j := 10) rfl ⟨e9, e8, e8, trivial⟩
      have e11 := hon (j := 11) rfl ⟨e8, trivial⟩
      have e12 := hon (j := 12) rfl ⟨e10, e11, e10, e8, trivial⟩
      have e13 := hon (j := 13) rfl ⟨e12, e12, e8, trivial⟩
      have e14 := hon (j := 14) rfl ⟨e13, e8, trivial⟩
      have e15 := hon (j := 15) rfl ⟨e8, e14, trivial⟩
      obtain rfl := g0.out e0; clear g0
      obtain rfl := g1.out e1; clear g1
      obtain rfl := g2.out e2; clear g2
      obtain rfl := g3.out e3; clear g3
      obtain rfl := g4.out e4; clear g4
      obtain rfl := g5.out e5; clear g5
      obtain rfl := g6.out e6; clear g6
      obtain rfl := g7.out e7; clear g7
      obtain rfl := g8.out e8; clear g8
      obtain rfl := g9.out e9; clear g9
      obtain rfl := g10.out e10; clear g10
      obtain rfl := g11.out e11; clear g11
      obtain rfl := g12.out e12; clear g12
      obtain rfl := g13.out e13; clear g13
      obtain rfl := g14.out e14; clear g14
      obtain rfl := g15.out e15; clear g15
      clear hon e0 e1 e2 e3 e4 e5 e6 e7 e8 e9 e10 e11 e12 e13 e14 e15 l
      refine ⟨?_⟩
      simp only [Prod.forall, putAll, List.setIfInBounds_toArray, List.set_cons_zero, List.set_cons_succ]
      go_wp2
      go_ret2
      exact ⟨A', c', by rw [hr.out]; rfl, by rw [hr.out]; exact HO.out, hB⟩
  · have hr := Lib.hid (treeBack_no (i := i) hk)
    rw [hR] at C D
    have hRR := (rightB_iff t).1 hR
    obtain rfl : n = 5 := by rw [← hn]; exact hRR.len
    rw [ha] at F
    clear hx hn hR hk hRR ha
    go_enter Try.func36, Try.ntmps36
    go_wp2_with fail
    refine (CP.out _ (HX.out.alloc _)).mono ?_
    rintro e w1 ⟨A', c', rfl, ho, hb1⟩
    have HO := Lib.hid (ho.more (B' := w.heap.size) (by simp))
    have hB := Below.trans ((Below.refl w.heap.size w).alloc (Nat.le_refl _) _) (hb1.mono (by simp))
    have hbox := keepblk hb1 (heap_alloc_new w _)
    have hs := hB.size
    clear ho hb1
    obtain ⟨d0, d1, d2⟩ : w1.cell? ⟨w.heap.size, 0, none⟩ = some (.int .i64 a.1) ∧ w1.cell? ⟨w.heap.size, 1, none⟩ = some (.int .i64 a.2.1) ∧ w1.cell? ⟨w.heap.size, 2, none⟩ = some (.int .i64 a.2.2) := by
      have h := (blkcell hbox).1
      exact ⟨h 0, h 1, h 2⟩
    clear hbox
    go_wp2_with fail
    refine wp_region_fg (U := Value × Value × Value × Value × Value × Value × Value × Value × Value × Value × Value × Value × Value × Value × Value × Value) [[], [0], [1], [2, 1], [3], [4, 3, 3], [5, 3], [3, 6], [7, 5], [8], [9, 8, 8], [8], [10, 11, 10, 8], [12, 12, 8], [13, 8], [8, 14]] (fun u => match u with | (u11, u12, u13, u14, u15, u16, u17, u18, u19, u20, u21, u22, u23, u24, u25, u26) => [(11, u11), (12, u12), (13, u13), (14, u14), (15, u15), (16, u16), (17, u17), (18, u18), (19, u19), (20, u20), (21, u21), (22, u22), (23, u23), (24, u24), (25, u25), (26, u26)]) (undef, undef, undef, undef, undef, undef, undef, undef, undef, undef, undef, undef, undef, undef, undef, undef) (fun l u x => match u with | (u11, u12, u13, u14, u15, u16, u17, u18, u19, u20, u21, u22, u23, u24, u25, u26) => (x.cell? ⟨w.heap.size, 0, none⟩ = some (.int .i64 a.1)) ∧ (x.cell? ⟨w.heap.size, 1, none⟩ = some (.int .i64 a.2.1)) ∧ (x.cell? ⟨w.heap.size, 2, none⟩ = some (.int .i64 a.2.2)) ∧ (Hid (OwnE x w.heap.size A' t)) ∧ (Hid (Els x A t)) ∧ (Below w.heap.size w x) ∧ Hid (l.getD 0 false = true → u11 = .slice A 5 c) ∧ Hid (l.getD 1 false = true → u12 = .bool true) ∧ Hid (l.getD 2 false = true → u13 = .bool false) ∧ Hid (l.getD 3 false = true → u14 = .bool false) ∧ Hid (l.getD 4 false = true → u15 = amt3 a) ∧ Hid (l.getD 5 false = true → u16 = .bool false) ∧ Hid (l.getD 6 false = true → u17 = .bool true) ∧ Hid (l.getD 7 false = true → u18 = .bool true) ∧ Hid (l.getD 8 false = true → u19 = .bool true) ∧ Hid (l.getD 9 false = true → u20 = undef) ∧ Hid (l.getD 10 false = true → u21 = undef) ∧ Hid (l.getD 11 false = true → u22 = undef) ∧ Hid (l.getD 12 false = true → u23 = undef) ∧ Hid (l.getD 13 false = true → u24 = undef) ∧ Hid (l.getD 14 false = true → u25 = undef) ∧ Hid (l.getD 15 false = true → u26 = .bool true)) (by kernel_rfl) (by kernel_rfl) ?_ ?_ ?_ ?_
    · kernel_rfl
    · exact ⟨(by exact d0), (by exact d1), (by exact d2), (by exact Lib.hid (OwnE.drewN HO.out 1)), (by exact Lib.hid (HX.out.keep (fun _ _ h => Below.keeps hB.drew h))), (by exact hB.drew), fun h => repl_off h, fun h => repl_off h, fun h => repl_off h, fun h => repl_off h, fun h => repl_off h, fun h => repl_off h, fun h => repl_off h, fun h => repl_off h, fun h => repl_off h, fun h => repl_off h, fun h => repl_off h, fun h => repl_off h, fun h => repl_off h, fun h => repl_off h, fun h => repl_off h, fun h => repl_off h⟩
    · refine ⟨?_, ?_, ?_, ?_, ?_, ?_, ?_, ?_, ?_, ?_, ?_, ?_, ?_, ?_, ?_, ?_, trivial⟩
      · skip
        rintro l ⟨u11, u12, u13, u14, u15, u16, u17, u18, u19, u20, u21, u22, u23, u24, u25, u26⟩ x ⟨d0, d1, d2, HO, HE, hB, g0, g1, g2, g3, g4, g5, g6, g7, g8, g9, g10, g11, g12, g13, g14, g15⟩ hun hpre K hK
        clear hpre
        refine ⟨?_⟩
        simp only [Prod.forall, putAll, List.setIfInBounds_toArray, List.set_cons_zero, List.set_cons_succ] at hK ⊢
        refine wanted_yes (by rfl) ?_
        go_simp
        exact hK _ _ _ _ _ _ _ _ _ _ _ _ _ _ _ _ _ ⟨d0, d1, d2, HO, HE, hB, fun _ => rfl, fun h => g1.out (on_set_other (by decide) h), fun h => g2.out (on_set_other (by decide) h), fun h => g3.out (on_set_other (by decide) h), fun h => g4.out (on_set_other (by decide) h), fun h => g5.out (on_set_other (by decide) h), fun h => g6.out (on_set_other (by decide) h), fun h => g7.out (on_set_other (by decide) h), fun h => g8.out (on_set_other (by decide) h), fun h => g9.out (on_set_other (by decide) h), fun h => g10.out (on_set_other (by decide) h), fun h => g11.out (on_set_other (by decide) h), fun h => g12.out (on_set_other (by decide) h), fun h => g13.out (on_set_other (by decide) h), fun h => g14.out (on_set_other (by decide) h), fun h => g15.out (on_set_other (by decide) h)⟩
      · skip
        rintro l ⟨u11, u12, u13, u14, u15, u16, u17, u18, u19, u20, u21, u22, u23, u24, u25, u26⟩ x ⟨d0, d1, d2, HO, HE, hB, g0, g1, g2, g3, g4, g5, g6, g7, g8, g9, g10, g11, g12, g13, g14, g15⟩ hun hpre K hK
        obtain ⟨e0, -⟩ := hpre
        obtain rfl := g0.out e0
        refine ⟨?_⟩
        simp only [Prod.forall, putAll, List.setIfInBounds_toArray, List.set_cons_zero, List.set_cons_succ] at hK ⊢
        refine wanted_yes (by rfl) ?_
        go_simp
        refine (C.out _ (by exact HE.out)).mono ?_
        rintro e x2 ⟨rfl, hb⟩
        have hs := hB.size
        exact hK _ _ _ _ _ _ _ _ _ _ _ _ _ _ _ _ _ ⟨Below.keeps hb (d0), Below.keeps hb (d1), Below.keeps hb (d2), Lib.hid (OwnE.below HO.out hb), Lib.hid (Els.below HE.out hb), hB.trans (hb.mono hs), fun h => g0.out (on_set_other (by decide) h), fun _ => rfl, fun h => g2.out (on_set_other (by decide) h), fun h => g3.out (on_set_other (by decide) h), fun h => g4.out (on_set_other (by decide) h), fun h => g5.out (on_set_other (by decide) h), fun h => g6.out (on_set_other (by decide) h), fun h => g7.out (on_set_other (by decide) h), fun h => g8.out (on_set_other (by decide) h), fun h => g9.out (on_set_other (by decide) h), fun h => g10.out (on_set_other (by decide) h), fun h => g11.out (on_set_other (by decide) h), fun h => g12.out (on_set_other (by decide) h), fun h => g13.out (on_set_other (by decide) h), fun h => g14.out (on_set_other (by decide) h), fun h => g15.out (on_set_other (by decide) h)⟩
      · skip
        rintro l ⟨u11, u12, u13, u14, u15, u16, u17, u18, u19, u20, u21, u22, u23, u24, u25, u26⟩ x ⟨d0, d1, d2, HO, HE, hB, g0, g1, g2, g3, g4, g5, g6, g7, g8, g9, g10, g11, g12, g13, g14, g15⟩ hun hpre K hK
        obtain ⟨e1, -⟩ := hpre
        obtain rfl := g1.out e1
        refine ⟨?_⟩
        simp only [Prod.forall, putAll, List.setIfInBounds_toArray, List.set_cons_zero, List.set_cons_succ] at hK ⊢
        refine wanted_yes (by rfl) ?_
        go_simp
        exact hK _ _ _ _ _ _ _ _ _ _ _ _ _ _ _ _ _ ⟨d0, d1, d2, HO, HE, hB, fun h => g0.out (on_set_other (by decide) h), fun h => g1.out (on_set_other (by decide) h), fun _ => rfl, fun h => g3.out (on_set_other (by decide) h), fun h => g4.out (on_set_other (by decide) h), fun h => g5.out (on_set_other (by decide) h), fun h => g6.out (on_set_other (by decide) h), fun h => g7.out (on_set_other (by decide) h), fun h => g8.out (on_set_other (by decide) h), fun h => g9.out (on_set_other (by decide) h), fun h => g10.out (on_set_other (by decide) h), fun h => g11.out (on_set_other (by decide) h), fun h => g12.out (on_set_other (by decide) h), fun h => g13.out (on_set_other (by decide) h), fun h => g14.out (on_set_other (by decide) h), fun h => g15.out (on_set_other (by decide) h)⟩
      · skip
        rintro l ⟨u11, u12, u13, u14, u15, u16, u17, u18, u19, u20, u21, u22, u23, u24, u25, u26⟩ x ⟨d0, d1, d2, HO, HE, hB, g0, g1, g2, g3, g4, g5, g6, g7, g8, g9, g10, g11, g12, g13, g14, g15⟩ hun hpre K hK
        obtain ⟨e2, e1, -⟩ := hpre
        obtain rfl := g1.out e1
        obtain rfl := g2.out e2
        refine ⟨?_⟩
        simp only [Prod.forall, putAll, List.setIfInBounds_toArray, List.set_cons_zero, List.set_cons_succ] at hK ⊢
        refine wanted_yes (by rfl) ?_
        go_simp
        exact hK _ _ _ _ _ _ _ _ _ _ _ _ _ _ _ _ _ ⟨d0, d1, d2, HO, HE, hB, fun h => g0.out (on_set_other (by decide) h), fun h => g1.out (on_set_other (by decide) h), fun h => g2.out (on_set_other (by decide) h), fun _ => rfl, fun h => g4.out (on_set_other (by decide) h), fun h => g5.out (on_set_other (by decide) h), fun h => g6.out (on_set_other (by decide) h), fun h => g7.out (on_set_other (by decide) h), fun h => g8.out (on_set_other (by decide) h), fun h => g9.out (on_set_other (by decide) h), fun h => g10.out (on_set_other (by decide) h), fun h => g11.out (on_set_other (by decide) h), fun h => g12.out (on_set_other (by decide) h), fun h => g13.out (on_set_other (by decide) h), fun h => g14.out (on_set_other (by decide) h), fun h => g15.out (on_set_other (by decide) h)⟩
      · skip
        rintro l ⟨u11, u12, u13, u14, u15, u16, u17, u18, u19, u20, u21, u22, u23, u24, u25, u26⟩ x ⟨d0, d1, d2, HO, HE, hB, g0, g1, g2, g3, g4, g5, g6, g7, g8, g9, g10, g11, g12, g13, g14, g15⟩ hun hpre K hK
        obtain ⟨e3, -⟩ := hpre
        obtain rfl := g3.out e3
        refine ⟨?_⟩
        simp only [Prod.forall, putAll, List.setIfInBounds_toArray, List.set_cons_zero, List.set_cons_succ] at hK ⊢
        refine wanted_yes (by rfl) ?_
        go_simp
        exact hK _ _ _ _ _ _ _ _ _ _ _ _ _ _ _ _ _ ⟨d0, d1, d2, HO, HE, hB, fun h => g0.out (on_set_other (by decide) h), fun h => g1.out (on_set_other (by decide) h), fun h => g2.out (on_set_other (by decide) h), fun h => g3.out (on_set_other (by decide) h), fun _ => rfl, fun h => g5.out (on_set_other (by decide) h), fun h => g6.out (on_set_other (by decide) h), fun h => g7.out (on_set_other (by decide) h), fun h => g8.out (on_set_other (by decide) h), fun h => g9.out (on_set_other (by decide) h), fun h => g10.out (on_set_other (by decide) h), fun h => g11.out (on_set_other (by decide) h), fun h => g12.out (on_set_other (by decide) h), fun h => g13.out (on_set_other (by decide) h), fun h => g14.out (on_set_other (by decide) h), fun h => g15.out (on_set_other (by decide) h)⟩
      · skip
        rintro l ⟨u11, u12, u13, u14, u15, u16, u17, u18, u19, u20, u21, u22, u23, u24, u25, u26⟩ x ⟨d0, d1, d2, HO, HE, hB, g0, g1, g2, g3, g4, g5, g6, g7, g8, g9, g10, g11, g12, g13, g14, g15⟩ hun hpre K hK
        obtain ⟨e4, e3, _, -⟩ := hpre
        obtain rfl := g3.out e3
        obtain rfl := g4.out e4
        refine ⟨?_⟩
        simp only [Prod.forall, putAll, List.setIfInBounds_toArray, List.set_cons_zero, List.set_cons_succ] at hK ⊢
        refine wanted_yes (by rfl) ?_
        go_simp
        refine (F.out _).mono ?_
        rintro e x2 ⟨rfl, hb⟩
        have hs := hB.size
        exact hK _ _ _ _ _ _ _ _ _ _ _ _ _ _ _ _ _ ⟨Below.keeps hb (d0), Below.keeps hb (d1), Below.keeps hb (d2), Lib.hid (OwnE.below HO.out hb), Lib.hid (Els.below HE.out hb), hB.trans (hb.mono hs), fun h => g0.out (on_set_other (by decide) h), fun h => g1.out (on_set_other (by decide) h), fun h => g2.out (on_set_other (by decide) h), fun h => g3.out (on_set_other (by decide) h), fun h => g4.out (on_set_other (by decide) h), fun _ => rfl, fun h => g6.out (on_set_other (by decide) h), fun h => g7.out (on_set_other (by decide) h), fun h => g8.out (on_set_other (by decide) h), fun h => g9.out (on_set_other (by decide) h), fun h => g10.out (on_set_other (by decide) h), fun h => g11.out (on_set_other (by decide) h), fun h => g12.out (on_set_other (by decide) h), fun h => g13.out (on_set_other (by decide) h), fun h => g14.out (on_set_other (by decide) h), fun h => g15.out (on_set_other (by decide) h)⟩
      · skip
        rintro l ⟨u11, u12, u13, u14, u15, u16, u17, u18, u19, u20, u21, u22, u23, u24, u25, u26⟩ x ⟨d0, d1, d2, HO, HE, hB, g0, g1, g2, g3, g4, g5, g6, g7, g8, g9, g10, g11, g12, g13, g14, g15⟩ hun hpre K hK
        obtain ⟨e5, e3, -⟩ := hpre
        obtain rfl := g3.out e3
        obtain rfl := g5.out e5
        refine ⟨?_⟩
        simp only [Prod.forall, putAll, List.setIfInBounds_toArray, List.set_cons_zero, List.set_cons_succ] at hK ⊢
        refine wanted_yes (by rfl) ?_
        go_simp
        exact hK _ _ _ _ _ _ _ _ _ _ _ _ _ _ _ _ _ ⟨d0, d1, d2, HO, HE, hB, fun h => g0.out (on_set_other (by decide) h), fun h => g1.out (on_set_other (by decide) h), fun h => g2.out (on_set_other (by decide) h), fun h => g3.out (on_set_other (by decide) h), fun h => g4.out (on_set_other (by decide) h), fun h => g5.out (on_set_other (by decide) h), fun _ => rfl, fun h => g7.out (on_set_other (by decide) h), fun h => g8.out (on_set_other (by decide) h), fun h => g9.out (on_set_other (by decide) h), fun h => g10.out (on_set_other (by decide) h), fun h => g11.out (on_set_other (by decide) h), fun h => g12.out (on_set_other (by decide) h), fun h => g13.out (on_set_other (by decide) h), fun h => g14.out (on_set_other (by decide) h), fun h => g15.out (on_set_other (by decide) h)⟩
      · skip
        rintro l ⟨u11, u12, u13, u14, u15, u16, u17, u18, u19, u20, u21, u22, u23, u24, u25, u26⟩ x ⟨d0, d1, d2, HO, HE, hB, g0, g1, g2, g3, g4, g5, g6, g7, g8, g9, g10, g11, g12, g13, g14, g15⟩ hun hpre K hK
        obtain ⟨e3, e6, -⟩ := hpre
        obtain rfl := g3.out e3
        obtain rfl := g6.out e6
        refine ⟨?_⟩
        simp only [Prod.forall, putAll, List.setIfInBounds_toArray, List.set_cons_zero, List.set_cons_succ] at hK ⊢
        refine wanted_yes (by rfl) ?_
        go_simp
        exact hK _ _ _ _ _ _ _ _ _ _ _ _ _ _ _ _ _ ⟨d0, d1, d2, HO, HE, hB, fun h => g0.out (on_set_other (by decide) h), fun h => g1.out (on_set_other (by decide) h), fun h => g2.out (on_set_other (by decide) h), fun h => g3.out (on_set_other (by decide) h), fun h => g4.out (on_set_other (by decide) h), fun h => g5.out (on_set_other (by decide) h), fun h => g6.out (on_set_other (by decide) h), fun _ => rfl, fun h => g8.out (on_set_other (by decide) h), fun h => g9.out (on_set_other (by decide) h), fun h => g10.out (on_set_other (by decide) h), fun h => g11.out (on_set_other (by decide) h), fun h => g12.out (on_set_other (by decide) h), fun h => g13.out (on_set_other (by decide) h), fun h => g14.out (on_set_other (by decide) h), fun h => g15.out (on_set_other (by decide) h)⟩
      · skip
        rintro l ⟨u11, u12, u13, u14, u15, u16, u17, u18, u19, u20, u21, u22, u23, u24, u25, u26⟩ x ⟨d0, d1, d2, HO, HE, hB, g0, g1, g2, g3, g4, g5, g6, g7, g8, g9, g10, g11, g12, g13, g14, g15⟩ hun hpre K hK
        obtain ⟨e7, e5, -⟩ := hpre
        obtain rfl := g5.out e5
        obtain rfl := g7.out e7
        refine ⟨?_⟩
        simp only [Prod.forall, putAll, List.setIfInBounds_toArray, List.set_cons_zero, List.set_cons_succ] at hK ⊢
        refine wanted_yes (by rfl) ?_
        go_simp
        exact hK _ _ _ _ _ _ _ _ _ _ _ _ _ _ _ _ _ ⟨d0, d1, d2, HO, HE, hB, fun h => g0.out (on_set_other (by decide) h), fun h => g1.out (on_set_other (by decide) h), fun h => g2.out (on_set_other (by decide) h), fun h => g3.out (on_set_other (by decide) h), fun h => g4.out (on_set_other (by decide) h), fun h => g5.out (on_set_other (by decide) h), fun h => g6.out (on_set_other (by decide) h), fun h => g7.out (on_set_other (by decide) h), fun _ => rfl, fun h => g9.out (on_set_other (by decide) h), fun h => g10.out (on_set_other (by decide) h), fun h => g11.out (on_set_other (by decide) h), fun h => g12.out (on_set_other (by decide) h), fun h => g13.out (on_set_other (by decide) h), fun h => g14.out (on_set_other (by decide) h), fun h => g15.out (on_set_other (by decide) h)⟩
      · skip
        rintro l ⟨u11, u12, u13, u14, u15, u16, u17, u18, u19, u20, u21, u22, u23, u24, u25, u26⟩ x ⟨d0, d1, d2, HO, HE, hB, g0, g1, g2, g3, g4, g5, g6, g7, g8, g9, g10, g11, g12, g13, g14, g15⟩ hun hpre K hK
        obtain ⟨e8, -⟩ := hpre
        obtain rfl := g8.out e8
        refine ⟨?_⟩
        simp only [Prod.forall, putAll, List.setIfInBounds_toArray, List.set_cons_zero, List.set_cons_succ] at hK ⊢
        refine wanted_no (by rfl) ?_
        go_simp
        exact hK _ _ _ _ _ _ _ _ _ _ _ _ _ _ _ _ _ ⟨d0, d1, d2, HO, HE, hB, fun h => g0.out (on_set_other (by decide) h), fun h => g1.out (on_set_other (by decide) h), fun h => g2.out (on_set_other (by decide) h), fun h => g3.out (on_set_other (by decide) h), fun h => g4.out (on_set_other (by decide) h), fun h => g5.out (on_set_other (by decide) h), fun h => g6.out (on_set_other (by decide) h), fun h => g7.out (on_set_other (by decide) h), fun h => g8.out (on_set_other (by decide) h), fun _ => rfl, fun h => g10.out (on_set_other (by decide) h), fun h => g11.out (on_set_other (by decide) h), fun h => g12.out (on_set_other (by decide) h), fun h => g13.out (on_set_other (by decide) h), fun h => g14.out (on_set_other (by decide) h), fun h => g15.out (on_set_other (by decide) h)⟩
      · skip
        rintro l ⟨u11, u12, u13, u14, u15, u16, u17, u18, u19, u20, u21, u22, u23, u24, u25, u26⟩ x ⟨d0, d1, d2, HO, HE, hB, g0, g1, g2, g3, g4, g5, g6, g7, g8, g9, g10, g11, g12, g13, g14, g15⟩ hun hpre K hK
        obtain ⟨e9, e8, _, -⟩ := hpre
        obtain rfl := g8.out e8
        obtain rfl := g9.out e9
        refine ⟨?_⟩
        simp only [Prod.forall, putAll, List.setIfInBounds_toArray, List.set_cons_zero, List.set_cons_succ] at hK ⊢
        refine wanted_no (by rfl) ?_
        go_simp
        exact hK _ _ _ _ _ _ _ _ _ _ _ _ _ _ _ _ _ ⟨d0, d1, d2, HO, HE, hB, fun h => g0.out (on_set_other (by decide) h), fun h => g1.out (on_set_other (by decide) h), fun h => g2.out (on_set_other (by decide) h), fun h => g3.out (on_set_other (by decide) h), fun h => g4.out (on_set_other (by decide) h), fun h => g5.out (on_set_other (by decide) h), fun h => g6.out (on_set_other (by decide) h), fun h => g7.out (on_set_other (by decide) h), fun h => g8.out (on_set_other (by decide) h), fun h => g9.out (on_set_other (by decide) h), fun _ => rfl, fun h => g11.out (on_set_other (by decide) h), fun h => g12.out (on_set_other (by decide) h), fun h => g13.out (on_set_other (by decide) h), fun h => g14.out (on_set_other (by decide) h), fun h => g15.out (on_set_other (by decide) h)⟩
      · skip
        rintro l ⟨u11, u12, u13, u14, u15, u16, u17, u18, u19, u20, u21, u22, u23, u24, u25, u26⟩ x ⟨d0, d1, d2, HO, HE, hB, g0, g1, g2, g3, g4, g5, g6, g7, g8, g9, g10, g11, g12, g13, g14, g15⟩ hun hpre K hK
        obtain ⟨e8, -⟩ := hpre
        obtain rfl := g8.out e8
        refine ⟨?_⟩
        simp only [Prod.forall, putAll, List.setIfInBounds_toArray, List.set_cons_zero, List.set_cons_succ] at hK ⊢
        refine wanted_no (by rfl) ?_
        go_simp
        exact hK _ _ _ _ _ _ _ _ _ _ _ _ _ _ _ _ _ ⟨d0, d1, d2, HO, HE, hB, fun h => g0.out (on_set_other (by decide) h), fun h => g1.out (on_set_other (by decide) h), fun h => g2.out (on_set_other (by decide) h), fun h => g3.out (on_set_other (by decide) h), fun h => g4.out (on_set_other (by decide) h), fun h => g5.out (on_set_other (by decide) h), fun h => g6.out (on_set_other (by decide) h), fun h => g7.out (on_set_other (by decide) h), fun h => g8.out (on_set_other (by decide) h), fun h => g9.out (on_set_other (by decide) h), fun h => g10.out (on_set_other (by decide) h), fun _ => rfl, fun h => g12.out (on_set_other (by decide) h), fun h => g13.out (on_set_other (by decide) h), fun h => g14.out (on_set_other (by decide) h), fun h => g15.out (on_set_other (by decide) h)⟩
      · skip
        rintro l ⟨u11, u12, u13, u14, u15, u16, u17, u18, u19, u20, u21, u22, u23, u24, u25, u26⟩ x ⟨d0, d1, d2, HO, HE, hB, g0, g1, g2, g3, g4, g5, g6, g7, g8, g9, g10, g11, g12, g13, g14, g15⟩ hun hpre K hK
        obtain ⟨e10, e11, _, e8, -⟩ := hpre
        obtain rfl := g8.out e8
        obtain rfl := g10.out e10
        obtain rfl := g11.out e11
        refine ⟨?_⟩
        simp only [Prod.forall, putAll, List.setIfInBounds_toArray, List.set_cons_zero, List.set_cons_succ] at hK ⊢
        refine wanted_no (by rfl) ?_
        go_simp
        exact hK _ _ _ _ _ _ _ _ _ _ _ _ _ _ _ _ _ ⟨d0, d1, d2, HO, HE, hB, fun h => g0.out (on_set_other (by decide) h), fun h => g1.out (on_set_other (by decide) h), fun h => g2.out (on_set_other (by decide) h), fun h => g3.out (on_set_other (by decide) h), fun h => g4.out (on_set_other (by decide) h), fun h => g5.out (on_set_other (by decide) h), fun h => g6.out (on_set_other (by decide) h), fun h => g7.out (on_set_other (by decide) h), fun h => g8.out (on_set_other (by decide) h), fun h => g9.out (on_set_other (by decide) h), fun h => g10.out (on_set_other (by decide) h), fun h => g11.out (on_set_other (by decide) h), fun _ => rfl, fun h => g13.out (on_set_other (by decide) h), fun h => g14.out (on_set_other (by decide) h), fun h => g15.out (on_set_other (by decide) h)⟩
      · skip
        rintro l ⟨u11, u12, u13, u14, u15, u16, u17, u18, u19, u20, u21, u22, u23, u24, u25, u26⟩ x ⟨d0, d1, d2, HO, HE, hB, g0, g1, g2, g3, g4, g5, g6, g7, g8, g9, g10, g11, g12, g13, g14, g15⟩ hun hpre K hK
        obtain ⟨e12, _, e8, -⟩ := hpre
        obtain rfl := g8.out e8
        obtain rfl := g12.out e12
        refine ⟨?_⟩
        simp only [Prod.forall, putAll, List.setIfInBounds_toArray, List.set_cons_zero, List.set_cons_succ] at hK ⊢
        refine wanted_no (by rfl) ?_
        go_simp
        exact hK _ _ _ _ _ _ _ _ _ _ _ _ _ _ _ _ _ ⟨d0, d1, d2, HO, HE, hB, fun h => g0.out (on_set_other (by decide) h), fun h => g1.out (on_set_other (by decide) h), fun h => g2.out (on_set_other (by decide) h), fun h => g3.out (on_set_other (by decide) h), fun h => g4.out (on_set_other (by decide) h), fun h => g5.out (on_set_other (by decide) h), fun h => g6.out (on_set_other (by decide) h), fun h => g7.out (on_set_other (by decide) h), fun h => g8.out (on_set_other (by decide) h), fun h => g9.out (on_set_other (by decide) h), fun h => g10.out (on_set_other (by decide) h), fun h => g11.out (on_set_other (by decide) h), fun h => g12.out (on_set_other (by decide) h), fun _ => rfl, fun h => g14.out (on_set_other (by decide) h), fun h => g15.out (on_set_other (by decide) h)⟩
      · skip
        rintro l ⟨u11, u12, u13, u14, u15, u16, u17, u18, u19, u20, u21, u22, u23, u24, u25, u26⟩ x ⟨d0, d1, d2, HO, HE, hB, g0, g1, g2, g3, g4, g5, g6, g7, g8, g9, g10, g11, g12, g13, g14, g15⟩ hun hpre K hK
        obtain ⟨e13, e8, -⟩ := hpre
        obtain rfl := g8.out e8
        obtain rfl := g13.out e13
        refine ⟨?_⟩
        simp only [Prod.forall, putAll, List.setIfInBounds_toArray, List.set_cons_zero, List.set_cons_succ] at hK ⊢
        refine wanted_no (by rfl) ?_
        go_simp
        exact hK _ _ _ _ _ _ _ _ _ _ _ _ _ _ _ _ _ ⟨d0, d1, d2, HO, HE, hB, fun h => g0.out (on_set_other (by decide) h), fun h => g1.out (on_set_other (by decide) h), fun h => g2.out (on_set_other (by decide) h), fun h => g3.out (on_set_other (by decide) h), fun h => g4.out (on_set_other (by decide) h), fun h => g5.out (on_set_other (by decide) h), fun h => g6.out (on_set_other (by decide) h), fun h => g7.out (on_set_other (by decide) h), fun h => g8.out (on_set_other (by decide) h), fun h => g9.out (on_set_other (by decide) h), fun h => g10.out (on_set_other (by decide) h), fun h => g11.out (on_set_other (by decide) h), fun h => g12.out (on_set_other (by decide) h), fun h => g13.out (on_set_other (by decide) h), fun _ => rfl, fun h => g15.out (on_set_other (by decide) h)⟩
      · skip
        rintro l ⟨u11, u12, u13, u14, u15, u16, u17, u18, u19, u20, u21, u22, u23, u24, u25, u26⟩ x ⟨d0, d1, d2, HO, HE, hB, g0, g1, g2, g3, g4, g5, g6, g7, g8, g9, g10, g11, g12, g13, g14, g15⟩ hun hpre K hK
        obtain ⟨e8, e14, -⟩ := hpre
        obtain rfl := g8.out e8
        obtain rfl := g14.out e14
        refine ⟨?_⟩
        simp only [Prod.forall, putAll, List.setIfInBounds_toArray, List.set_cons_zero, List.set_cons_succ] at hK ⊢
        refine wanted_yes (by rfl) ?_
        go_simp
        exact hK _ _ _ _ _ _ _ _ _ _ _ _ _ _ _ _ _ ⟨d0, d1, d2, HO, HE, hB, fun h => g0.out (on_set_other (by decide) h), fun h => g1.out (on_set_other (by decide) h), fun h => g2.out (on_set_other (by decide) h), fun h => g3.out (on_set_other (by decide) h), fun h => g4.out (on_set_other (by decide) h), fun h => g5.out (on_set_other (by decide) h), fun h => g6.out (on_set_other (by decide) h), fun h => g7.out (on_set_other (by decide) h), fun h => g8.out (on_set_other (by decide) h), fun h => g9.out (on_set_other (by decide) h), fun h => g10.out (on_set_other (by decide) h), fun h => g11.out (on_set_other (by decide) h), fun h => g12.out (on_set_other (by decide) h), fun h => g13.out (on_set_other (by decide) h), fun h => g14.out (on_set_other (by decide) h), fun _ => rfl⟩
    · rintro l ⟨u11, u12, u13, u14, u15, u16, u17, u18, u19, u20, u21, u22, u23, u24, u25, u26⟩ x ⟨d0, d1, d2, HO, HE, hB, g0, g1, g2, g3, g4, g5, g6, g7, g8, g9, g10, g11, g12, g13, g14, g15⟩ hon
      have e0 := hon (j := 0) rfl trivial
      have e1 := hon (j := 1) rfl ⟨e0, trivial⟩
      have e2 := hon (j := 2) rfl ⟨e1, trivial⟩
      have e3 := hon (j := 3) rfl ⟨e2, e1, trivial⟩
      have e4 := hon (j := 4) rfl ⟨e3, trivial⟩
      have e5 := hon (j := 5) rfl ⟨e4, e3, e3, trivial⟩
      have e6 := hon (j := 6) rfl ⟨e5, e3, trivial⟩
      have e7 := hon (j := 7) rfl ⟨e3, e6, trivial⟩
      have e8 := hon (j := 8) rfl ⟨e7, e5, trivial⟩
      have e9 := hon (j := 9) rfl ⟨e8, trivial⟩
      have e10 := hon (j := 10) rfl ⟨e9, e8, e8, trivial⟩
      have e11 := hon (j := 11) rfl ⟨e8, trivial⟩
      have e12 := hon (j := 12) rfl ⟨e10, e11, e10, e8, trivial⟩
      have e13 := hon (j := 13) rfl ⟨e12, e12, e8, trivial⟩
      have e14 := hon (j := 14) rfl ⟨e13, e8, trivial⟩
      have e15 := hon (j := 15) rfl ⟨e8, e14, trivial⟩
      obtain rfl := g0.out e0; clear g0
      obtain rfl := g1.out e1; clear g1
      obtain rfl := g2.out e2; clear g2
      obtain rfl := g3.out e3; clear g3
      obtain rfl := g4.out e4; clear g4
      obtain rfl := g5.out e5; clear g5
      obtain rfl := g6.out e6; clear g6
      obtain rfl := g7.out e7; clear g7
      obtain rfl := g8.out e8; clear g8
      obtain rfl := g9.out e9; clear g9
      obtain rfl := g10.out e10; clear g10
      obtain rfl := g11.out e11; clear g11
      obtain rfl := g12.out e12; clear g12
      obtain rfl := g13.out e13; clear g13
      obtain rfl := g14.out e14; clear g14
      obtain rfl := g15.out e15; clear g15
      clear hon e0 e1 e2 e3 e4 e5 e6 e7 e8 e9 e10 e11 e12 e13 e14 e15 l
      refine ⟨?_⟩
      simp only [Prod.forall, putAll, List.setIfInBounds_toArray, List.set_cons_zero, List.set_cons_succ]
      go_wp2
      go_ret2
      exact ⟨A', c', by rw [hr.out]; rfl, by rw [hr.out]; exact HO.out, hB⟩
  · have hr := Lib.hid (treeBack_no (i := i) hk)
    rw [hR] at C D
    have hRR := (rightB_iff t).1 hR
    obtain rfl : n = 5 := by rw [← hn]; exact hRR.len
    rw [ha] at F
    rw [hsu] at G
    have HA := Lib.hid ha
    have HSM := Lib.hid (show okB3 (sumL t) = true from hRR.sum)
    have E := Lib.hid (fun w' => implSumOf_r (sumL t) a w' HSM.out HA.out)
    have HRR := Lib.hid hRR
    have HSU := Lib.hid hsu
    clear hsu
    clear hx hn hR hk hRR ha
    go_enter Try.func36, Try.ntmps36
    go_wp2_with fail
    refine (CP.out _ (HX.out.alloc _)).mono ?_
    rintro e w1 ⟨A', c', rfl, ho, hb1⟩
    have HO := Lib.hid (ho.more (B' := w.heap.size) (by simp))
    have hB := Below.trans ((Below.refl w.heap.size w).alloc (Nat.le_refl _) _) (hb1.mono (by simp))
    have hbox := keepblk hb1 (heap_alloc_new w _)
    have hs := hB.size
    clear ho hb1
    obtain ⟨d0, d1, d2⟩ : w1.cell? ⟨w.heap.size, 0, none⟩ = some (.int .i64 a.1) ∧ w1.cell? ⟨w.heap.size, 1, none⟩ = some (.int .i64 a.2.1) ∧ w1.cell? ⟨w.heap.size, 2, none⟩ = some (.int .i64 a.2.2) := by
      have h := (blkcell hbox).1
      exact ⟨h 0, h 1, h 2⟩
    clear hbox
    go_wp2_with fail
    refine wp_region_fg (U := Value × Value × Value × Value × Value × Value × Value × Value × Value × Value × Value × Value × Value × Value × Value × Value) [[], [0], [1], [2, 1], [3], [4, 3, 3], [5, 3], [3, 6], [7, 5], [8], [9, 8, 8], [8], [10, 11, 10, 8], [12, 12, 8], [13, 8], [8, 14]] (fun u => match u with | (u11, u12, u13, u14, u15, u16, u17, u18, u19, u20, u21, u22, u23, u24, u25, u26) => [(11, u11), (12, u12), (13, u13), (14, u14), (15, u15), (16, u16), (17, u17), (18, u18), (19, u19), (20, u20), (21, u21), (22, u22), (23, u23), (24, u24), (25, u25), (26, u26)]) (undef, undef, undef, undef, undef, undef, undef, undef, undef, undef, undef, undef, undef, undef, undef, undef) (fun l u x => match u with | (u11, u12, u13, u14, u15, u16, u17, u18, u19, u20, u21, u22, u23, u24, u25, u26) => (x.cell? ⟨w.heap.size, 0, none⟩ = some (.int .i64 a.1)) ∧ (x.cell? ⟨w.heap.size, 1, none⟩ = some (.int .i64 a.2.1)) ∧ (x.cell? ⟨w.heap.size, 2, none⟩ = some (.int .i64 a.2.2)) ∧ (Hid (OwnE x w.heap.size A' t)) ∧ (Hid (Els x A t)) ∧ (Below w.heap.size w x) ∧ Hid (l.getD 0 false = true → u11 = .slice A 5 c) ∧ Hid (l.getD 1 false = true → u12 = .bool true) ∧ Hid (l.getD 2 false = true → u13 = .bool false) ∧ Hid (l.getD 3 false = true → u14 = .bool false) ∧ Hid (l.getD 4 false = true → u15 = amt3 a) ∧ Hid (l.getD 5 false = true → u16 = .bool true) ∧ Hid (l.getD 6 false = true → u17 = .bool false) ∧ Hid (l.getD 7 false = true → u18 = .bool false) ∧ Hid (l.getD 8 false = true → u19 = .bool false) ∧ Hid (l.getD 9 false = true → u20 = .slice A 5 c) ∧ Hid (l.getD 10 false = true → u21 = amt3 (sumL t)) ∧ Hid (l.getD 11 false = true → u22 = amt3 a) ∧ Hid (l.getD 12 false = true → u23 = amt3 (add33 (sumL t) a)) ∧ Hid (l.getD 13 false = true → u24 = .bool false) ∧ Hid (l.getD 14 false = true → u25 = .bool true) ∧ Hid (l.getD 15 false = true → u26 = .bool true)) (by kernel_rfl) (by kernel_rfl) ?_ ?_ ?_ ?_
    · kernel_rfl
    · exact ⟨(by exact d0), (by exact d1), (by exact d2), (by exact Lib.hid (OwnE.drewN HO.out 1)), (by exact Lib.hid (HX.out.keep (fun _ _ h => Below.keeps hB.drew h))), (by exact hB.drew), fun h => repl_off h, fun h => repl_off h, fun h => repl_off h, fun h => repl_off h, fun h => repl_off h, fun h => repl_off h, fun h => repl_off h, fun h => repl_off h, fun h => repl_off h, fun h => repl_off h, fun h => repl_off h, fun h => repl_off h, fun h => repl_off h, fun h => repl_off h, fun h => repl_off h, fun h => repl_off h⟩
    · refine ⟨?_, ?_, ?_, ?_, ?_, ?_, ?_, ?_, ?_, ?_, ?_, ?_, ?_, ?_, ?_, ?_, trivial⟩
      · skip
        rintro l ⟨u11, u12, u13, u14, u15, u16, u17, u18, u19, u20, u21, u22, u23, u24, u25, u26⟩ x ⟨d0, d1, d2, HO, HE, hB, g0, g1, g2, g3, g4, g5, g6, g7, g8, g9, g10, g11, g12, g13, g14, g15⟩ hun hpre K hK
        clear hpre
        refine ⟨?_⟩
        simp only [Prod.forall, putAll, List.setIfInBounds_toArray, List.set_cons_zero, List.set_cons_succ] at hK ⊢
        refine wanted_yes (by rfl) ?_
        go_simp
        exact hK _ _ _ _ _ _ _ _ _ _ _ _ _ _ _ _ _ ⟨d0, d1, d2, HO, HE, hB, fun _ => rfl, fun h => g1.out (on_set_other (by decide) h), fun h => g2.out (on_set_other (by decide) h), fun h => g3.out (on_set_other (by decide) h), fun h => g4.out (on_set_other (by decide) h), fun h => g5.out (on_set_other (by decide) h), fun h => g6.out (on_set_other (by decide) h), fun h => g7.out (on_set_other (by decide) h), fun h => g8.out (on_set_other (by decide) h), fun h => g9.out (on_set_other (by decide) h), fun h => g10.out (on_set_other (by decide) h), fun h => g11.out (on_set_other (by decide) h), fun h => g12.out (on_set_other (by decide) h), fun h => g13.out (on_set_other (by decide) h), fun h => g14.out (on_set_other (by decide) h), fun h => g15.out (on_set_other (by decide) h)⟩
      · skip
        rintro l ⟨u11, u12, u13, u14, u15, u16, u17, u18, u19, u20, u21, u22, u23, u24, u25, u26⟩ x ⟨d0, d1, d2, HO, HE, hB, g0, g1, g2, g3, g4, g5, g6, g7, g8, g9, g10, g11, g12, g13, g14, g15⟩ hun hpre K hK
        obtain ⟨e0, -⟩ := hpre
        obtain rfl := g0.out e0
        refine ⟨?_⟩
        simp only [Prod.forall, putAll, List.setIfInBounds_toArray, List.set_cons_zero, List.set_cons_succ] at hK ⊢
        refine wanted_yes (by rfl) ?_
        go_simp
        refine (C.out _ (by exact HE.out)).mono ?_
        rintro e x2 ⟨rfl, hb⟩
        have hs := hB.size
        exact hK _ _ _ _ _ _ _ _ _ _ _ _ _ _ _ _ _ ⟨Below.keeps hb (d0), Below.keeps hb (d1), Below.keeps hb (d2), Lib.hid (OwnE.below HO.out hb), Lib.hid (Els.below HE.out hb), hB.trans (hb.mono hs), fun h => g0.out (on_set_other (by decide) h), fun _ => rfl, fun h => g2.out (on_set_other (by decide) h), fun h => g3.out (on_set_other (by decide) h), fun h => g4.out (on_set_other (by decide) h), fun h => g5.out (on_set_other (by decide) h), fun h => g6.out (on_set_other (by decide) h), fun h => g7.out (on_set_other (by decide) h), fun h => g8.out (on_set_other (by decide) h), fun h => g9.out (on_set_other (by decide) h), fun h => g10.out (on_set_other (by decide) h), fun h => g11.out (on_set_other (by decide) h), fun h => g12.out (on_set_other (by decide) h), fun h => g13.out (on_set_other (by decide) h), fun h => g14.out (on_set_other (by decide) h), fun h => g15.out (on_set_other (by decide) h)⟩
      · skip
        rintro l ⟨u11, u12, u13, u14, u15, u16, u17, u18, u19, u20, u21, u22, u23, u24, u25, u26⟩ x ⟨d0, d1, d2, HO, HE, hB, g0, g1, g2, g3, g4, g5, g6, g7, g8, g9, g10, g11, g12, g13, g14, g15⟩ hun hpre K hK
        obtain ⟨e1, -⟩ := hpre
        obtain rfl := g1.out e1
        refine ⟨?_⟩
        simp only [Prod.forall, putAll, List.setIfInBounds_toArray, List.set_cons_zero, List.set_cons_succ] at hK ⊢
        refine wanted_yes (by rfl) ?_
        go_simp
        exact hK _ _ _ _ _ _ _ _ _ _ _ _ _ _ _ _ _ ⟨d0, d1, d2, HO, HE, hB, fun h => g0.out (on_set_other (by decide) h), fun h => g1.out (on_set_other (by decide) h), fun _ => rfl, fun h => g3.out (on_set_other (by decide) h), fun h => g4.out (on_set_other (by decide) h), fun h => g5.out (on_set_other (by decide) h), fun h => g6.out (on_set_other (by decide) h), fun h => g7.out (on_set_other (by decide) h), fun h => g8.out (on_set_other (by decide) h), fun h => g9.out (on_set_other (by decide) h), fun h => g10.out (on_set_other (by decide) h), fun h => g11.out (on_set_other (by decide) h), fun h => g12.out (on_set_other (by decide) h), fun h => g13.out (on_set_other (by decide) h), fun h => g14.out (on_set_other (by decide) h), fun h => g15.out (on_set_other (by decide) h)⟩
      · skip
        rintro l ⟨u11, u12, u13, u14, u15, u16, u17, u18, u19, u20, u21, u22, u23, u24, u25, u26⟩ x ⟨d0, d1, d2, HO, HE, hB, g0, g1, g2, g3, g4, g5, g6, g7, g8, g9, g10, g11, g12, g13, g14, g15⟩ hun hpre K hK
        obtain ⟨e2, e1, -⟩ := hpre
        obtain rfl := g1.out e1
        obtain rfl := g2.out e2
        refine ⟨?_⟩
        simp only [Prod.forall, putAll, List.setIfInBounds_toArray, List.set_cons_zero, List.set_cons_succ] at hK ⊢
        refine wanted_yes (by rfl) ?_
        go_simp
        exact hK _ _ _ _ _ _ _ _ _ _ _ _ _ _ _ _ _ ⟨d0, d1, d2, HO, HE, hB, fun h => g0.out (on_set_other (by decide) h), fun h => g1.out (on_set_other (by decide) h), fun h => g2.out (on_set_other (by decide) h), fun _ => rfl, fun h => g4.out (on_set_other (by decide) h), fun h => g5.out (on_set_other (by decide) h), fun h => g6.out (on_set_other (by decide) h), fun h => g7.out (on_set_other (by decide) h), fun h => g8.out (on_set_other (by decide) h), fun h => g9.out (on_set_other (by decide) h), fun h => g10.out (on_set_other (by decide) h), fun h => g11.out (on_set_other (by decide) h), fun h => g12.out (on_set_other (by decide) h), fun h => g13.out (on_set_other (by decide) h), fun h => g14.out (on_set_other (by decide) h), fun h => g15.out (on_set_other (by decide) h)⟩
      · skip
        rintro l ⟨u11, u12, u13, u14, u15, u16, u17, u18, u19, u20, u21, u22, u23, u24, u25, u26⟩ x ⟨d0, d1, d2, HO, HE, hB, g0, g1, g2, g3, g4, g5, g6, g7, g8, g9, g10, g11, g12, g13, g14, g15⟩ hun hpre K hK
        obtain ⟨e3, -⟩ := hpre
        obtain rfl := g3.out e3
        refine ⟨?_⟩
        simp only [Prod.forall, putAll, List.setIfInBounds_toArray, List.set_cons_zero, List.set_cons_succ] at hK ⊢
        refine wanted_yes (by rfl) ?_
        go_simp
        exact hK _ _ _ _ _ _ _ _ _ _ _ _ _ _ _ _ _ ⟨d0, d1, d2, HO, HE, hB, fun h => g0.out (on_set_other (by decide) h), fun h => g1.out (on_set_other (by decide) h), fun h => g2.out (on_set_other (by decide) h), fun h => g3.out (on_set_other (by decide) h), fun _ => rfl, fun h => g5.out (on_set_other (by decide) h), fun h => g6.out (on_set_other (by decide) h), fun h => g7.out (on_set_other (by decide) h), fun h => g8.out (on_set_other (by decide) h), fun h => g9.out (on_set_other (by decide) h), fun h => g10.out (on_set_other (by decide) h), fun h => g11.out (on_set_other (by decide) h), fun h => g12.out (on_set_other (by decide) h), fun h => g13.out (on_set_other (by decide) h), fun h => g14.out (on_set_other (by decide) h), fun h => g15.out (on_set_other (by decide) h)⟩
      · skip
        rintro l ⟨u11, u12, u13, u14, u15, u16, u17, u18, u19, u20, u21, u22, u23, u24, u25, u26⟩ x ⟨d0, d1, d2, HO, HE, hB, g0, g1, g2, g3, g4, g5, g6, g7, g8, g9, g10, g11, g12, g13, g14, g15⟩ hun hpre K hK
        obtain ⟨e4, e3, _, -⟩ := hpre
        obtain rfl := g3.out e3
        obtain rfl := g4.out e4
        refine ⟨?_⟩
        simp only [Prod.forall, putAll, List.setIfInBounds_toArray, List.set_cons_zero, List.set_cons_succ] at hK ⊢
        refine wanted_yes (by rfl) ?_
        go_simp
        refine (F.out _).mono ?_
        rintro e x2 ⟨rfl, hb⟩
        have hs := hB.size
        exact hK _ _ _ _ _ _ _ _ _ _ _ _ _ _ _ _ _ ⟨Below.keeps hb (d0), Below.keeps hb (d1), Below.keeps hb (d2), Lib.hid (OwnE.below HO.out hb), Lib.hid (Els.below HE.out hb), hB.trans (hb.mono hs), fun h => g0.out (on_set_other (by decide) h), fun h => g1.out (on_set_other (by decide) h), fun h => g2.out (on_set_other (by decide) h), fun h => g3.out (on_set_other (by decide) h), fun h => g4.out (on_set_other (by decide) h), fun _ => rfl, fun h => g6.out (on_set_other (by decide) h), fun h => g7.out (on_set_other (by decide) h), fun h => g8.out (on_set_other (by decide) h), fun h => g9.out (on_set_other (by decide) h), fun h => g10.out (on_set_other (by decide) h), fun h => g11.out (on_set_other (by decide) h), fun h => g12.out (on_set_other (by decide) h), fun h => g13.out (on_set_other (by decide) h), fun h => g14.out (on_set_other (by decide) h), fun h => g15.out (on_set_other (by decide) h)⟩
      · skip
        rintro l ⟨u11, u12, u13, u14, u15, u16, u17, u18, u19, u20, u21, u22, u23, u24, u25, u26⟩ x ⟨d0, d1, d2, HO, HE, hB, g0, g1, g2, g3, g4, g5, g6, g7, g8, g9, g10, g11, g12, g13, g14, g15⟩ hun hpre K hK
        obtain ⟨e5, e3, -⟩ := hpre
        obtain rfl := g3.out e3
        obtain rfl := g5.out e5
        refine ⟨?_⟩
        simp only [Prod.forall, putAll, List.setIfInBounds_toArray, List.set_cons_zero, List.set_cons_succ] at hK ⊢
        refine wanted_yes (by rfl) ?_
        go_simp
        exact hK _ _ _ _ _ _ _ _ _ _ _ _ _ _ _ _ _ ⟨d0, d1, d2, HO, HE, hB, fun h => g0.out (on_set_other (by decide) h), fun h => g1.out (on_set_other (by decide) h), fun h => g2.out (on_set_other (by decide) h), fun h => g3.out (on_set_other (by decide) h), fun h => g4.out (on_set_other (by decide) h), fun h => g5.out (on_set_other (by decide) h), fun _ => rfl, fun h => g7.out (on_set_other (by decide) h), fun h => g8.out (on_set_other (by decide) h), fun h => g9.out (on_set_other (by decide) h), fun h => g10.out (on_set_other (by decide) h), fun h => g11.out (on_set_other (by decide) h), fun h => g12.out (on_set_other (by decide) h), fun h => g13.out (on_set_other (by decide) h), fun h => g14.out (on_set_other (by decide) h), fun h => g15.out (on_set_other (by decide) h)⟩
      · skip
        rintro l ⟨u11, u12, u13, u14, u15, u16, u17, u18, u19, u20, u21, u22, u23, u24, u25, u26⟩ x ⟨d0, d1, d2, HO, HE, hB, g0, g1, g2, g3, g4, g5, g6, g7, g8, g9, g10, g11, g12, g13, g14, g15⟩ hun hpre K hK
        obtain ⟨e3, e6, -⟩ := hpre
        obtain rfl := g3.out e3
        obtain rfl := g6.out e6
        refine ⟨?_⟩
        simp only [Prod.forall, putAll, List.setIfInBounds_toArray, List.set_cons_zero, List.set_cons_succ] at hK ⊢
        refine wanted_yes (by rfl) ?_
        go_simp
        exact hK _ _ _ _ _ _ _ _ _ _ _ _ _ _ _ _ _ ⟨d0, d1, d2, HO, HE, hB, fun h => g0.out (on_set_other (by decide) h), fun h => g1.out (on_set_other (by decide) h), fun h => g2.out (on_set_other (by decide) h), fun h => g3.out (on_set_other (by decide) h), fun h => g4.out (on_set_other (by decide) h), fun h => g5.out (on_set_other (by decide) h), fun h => g6.out (on_set_other (by decide) h), fun _ => rfl, fun h => g8.out (on_set_other (by decide) h), fun h => g9.out (on_set_other (by decide) h), fun h => g10.out (on_set_other (by decide) h), fun h => g11.out (on_set_other (by decide) h), fun h => g12.out (on_set_other (by decide) h), fun h => g13.out (on_set_other (by decide) h), fun h => g14.out (on_set_other (by decide) h), fun h => g15.out (on_set_other (by decide) h)⟩
      · skip
        rintro l ⟨u11, u12, u13, u14, u15, u16, u17, u18, u19, u20, u21, u22, u23, u24, u25, u26⟩ x ⟨d0, d1, d2, HO, HE, hB, g0, g1, g2, g3, g4, g5, g6, g7, g8, g9, g10, g11, g12, g13, g14, g15⟩ hun hpre K hK
        obtain ⟨e7, e5, -⟩ := hpre
        obtain rfl := g5.out e5
        obtain rfl := g7.out e7
        refine ⟨?_⟩
        simp only [Prod.forall, putAll, List.setIfInBounds_toArray, List.set_cons_zero, List.set_cons_succ] at hK ⊢
        refine wanted_yes (by rfl) ?_
        go_simp
        exact hK _ _ _ _ _ _ _ _ _ _ _ _ _ _ _ _ _ ⟨d0, d1, d2, HO, HE, hB, fun h => g0.out (on_set_other (by decide) h), fun h => g1.out (on_set_other (by decide) h), fun h => g2.out (on_set_other (by decide) h), fun h => g3.out (on_set_other (by decide) h), fun h => g4.out (on_set_other (by decide) h), fun h => g5.out (on_set_other (by decide) h), fun h => g6.out (on_set_other (by decide) h), fun h => g7.out (on_set_other (by decide) h), fun _ => rfl, fun h => g9.out (on_set_other (by decide) h), fun h => g10.out (on_set_other (by decide) h), fun h => g11.out (on_set_other (by decide) h), fun h => g12.out (on_set_other (by decide) h), fun h => g13.out (on_set_other (by decide) h), fun h => g14.out (on_set_other (by decide) h), fun h => g15.out (on_set_other (by decide) h)⟩
      · skip
        rintro l ⟨u11, u12, u13, u14, u15, u16, u17, u18, u19, u20, u21, u22, u23, u24, u25, u26⟩ x ⟨d0, d1, d2, HO, HE, hB, g0, g1, g2, g3, g4, g5, g6, g7, g8, g9, g10, g11, g12, g13, g14, g15⟩ hun hpre K hK
        obtain ⟨e8, -⟩ := hpre
        obtain rfl := g8.out e8
        refine ⟨?_⟩
        simp only [Prod.forall, putAll, List.setIfInBounds_toArray, List.set_cons_zero, List.set_cons_succ] at hK ⊢
        refine wanted_yes (by rfl) ?_
        go_simp
        exact hK _ _ _ _ _ _ _ _ _ _ _ _ _ _ _ _ _ ⟨d0, d1, d2, HO, HE, hB, fun h => g0.out (on_set_other (by decide) h), fun h => g1.out (on_set_other (by decide) h), fun h => g2.out (on_set_other (by decide) h), fun h => g3.out (on_set_other (by decide) h), fun h => g4.out (on_set_other (by decide) h), fun h => g5.out (on_set_other (by decide) h), fun h => g6.out (on_set_other (by decide) h), fun h => g7.out (on_set_other (by decide) h), fun h => g8.out (on_set_other (by decide) h), fun _ => rfl, fun h => g10.out (on_set_other (by decide) h), fun h => g11.out (on_set_other (by decide) h), fun h => g12.out (on_set_other (by decide) h), fun h => g13.out (on_set_other (by decide) h), fun h => g14.out (on_set_other (by decide) h), fun h => g15.out (on_set_other (by decide) h)⟩
      · skip
        rintro l ⟨u11, u12, u13, u14, u15, u16, u17, u18, u19, u20, u21, u22, u23, u24, u25, u26⟩ x ⟨d0, d1, d2, HO, HE, hB, g0, g1, g2, g3, g4, g5, g6, g7, g8, g9, g10, g11, g12, g13, g14, g15⟩ hun hpre K hK
        obtain ⟨e9, e8, _, -⟩ := hpre
        obtain rfl := g8.out e8
        obtain rfl := g9.out e9
        refine ⟨?_⟩
        simp only [Prod.forall, putAll, List.setIfInBounds_toArray, List.set_cons_zero, List.set_cons_succ] at hK ⊢
        refine wanted_yes (by rfl) ?_
        go_simp
        refine (D.out _ (by exact HE.out)).mono ?_
        rintro e x2 ⟨rfl, hb⟩
        have hs := hB.size
        exact hK _ _ _ _ _ _ _ _ _ _ _ _ _ _ _ _ _ ⟨Below.keeps hb (d0), Below.keeps hb (d1), Below.keeps hb (d2), Lib.hid (OwnE.below HO.out hb), Lib.hid (Els.below HE.out hb), hB.trans (hb.mono hs), fun h => g0.out (on_set_other (by decide) h), fun h => g1.out (on_set_other (by decide) h), fun h => g2.out (on_set_other (by decide) h), fun h => g3.out (on_set_other (by decide) h), fun h => g4.out (on_set_other (by decide) h), fun h => g5.out (on_set_other (by decide) h), fun h => g6.out (on_set_other (by decide) h), fun h => g7.out (on_set_other (by decide) h), fun h => g8.out (on_set_other (by decide) h), fun h => g9.out (on_set_other (by decide) h), fun _ => rfl, fun h => g11.out (on_set_other (by decide) h), fun h => g12.out (on_set_other (by decide) h), fun h => g13.out (on_set_other (by decide) h), fun h => g14.out (on_set_other (by decide) h), fun h => g15.out (on_set_other (by decide) h)⟩
      · skip
        rintro l ⟨u11, u12, u13, u14, u15, u16, u17, u18, u19, u20, u21, u22, u23, u24, u25, u26⟩ x ⟨d0, d1, d2, HO, HE, hB, g0, g1, g2, g3, g4, g5, g6, g7, g8, g9, g10, g11, g12, g13, g14, g15⟩ hun hpre K hK
        obtain ⟨e8, -⟩ := hpre
        obtain rfl := g8.out e8
        refine ⟨?_⟩
        simp only [Prod.forall, putAll, List.setIfInBounds_toArray, List.set_cons_zero, List.set_cons_succ] at hK ⊢
        refine wanted_yes (by rfl) ?_
        go_simp
        exact hK _ _ _ _ _ _ _ _ _ _ _ _ _ _ _ _ _ ⟨d0, d1, d2, HO, HE, hB, fun h => g0.out (on_set_other (by decide) h), fun h => g1.out (on_set_other (by decide) h), fun h => g2.out (on_set_other (by decide) h), fun h => g3.out (on_set_other (by decide) h), fun h => g4.out (on_set_other (by decide) h), fun h => g5.out (on_set_other (by decide) h), fun h => g6.out (on_set_other (by decide) h), fun h => g7.out (on_set_other (by decide) h), fun h => g8.out (on_set_other (by decide) h), fun h => g9.out (on_set_other (by decide) h), fun h => g10.out (on_set_other (by decide) h), fun _ => rfl, fun h => g12.out (on_set_other (by decide) h), fun h => g13.out (on_set_other (by decide) h), fun h => g14.out (on_set_other (by decide) h), fun h => g15.out (on_set_other (by decide) h)⟩
      · skip
        rintro l ⟨u11, u12, u13, u14, u15, u16, u17, u18, u19, u20, u21, u22, u23, u24, u25, u26⟩ x ⟨d0, d1, d2, HO, HE, hB, g0, g1, g2, g3, g4, g5, g6, g7, g8, g9, g10, g11, g12, g13, g14, g15⟩ hun hpre K hK
        obtain ⟨e10, e11, _, e8, -⟩ := hpre
        obtain rfl := g8.out e8
        obtain rfl := g10.out e10
        obtain rfl := g11.out e11
        refine ⟨?_⟩
        simp only [Prod.forall, putAll, List.setIfInBounds_toArray, List.set_cons_zero, List.set_cons_succ] at hK ⊢
        refine wanted_yes (by rfl) ?_
        go_simp
        refine (E.out _).mono ?_
        rintro e x2 ⟨rfl, hb⟩
        have hs := hB.size
        exact hK _ _ _ _ _ _ _ _ _ _ _ _ _ _ _ _ _ ⟨Below.keeps hb (d0), Below.keeps hb (d1), Below.keeps hb (d2), Lib.hid (OwnE.below HO.out hb), Lib.hid (Els.below HE.out hb), hB.trans (hb.mono hs), fun h => g0.out (on_set_other (by decide) h), fun h => g1.out (on_set_other (by decide) h), fun h => g2.out (on_set_other (by decide) h), fun h => g3.out (on_set_other (by decide) h), fun h => g4.out (on_set_other (by decide) h), fun h => g5.out (on_set_other (by decide) h), fun h => g6.out (on_set_other (by decide) h), fun h => g7.out (on_set_other (by decide) h), fun h => g8.out (on_set_other (by decide) h), fun h => g9.out (on_set_other (by decide) h), fun h => g10.out (on_set_other (by decide) h), fun h => g11.out (on_set_other (by decide) h), fun _ => rfl, fun h => g13.out (on_set_other (by decide) h), fun h => g14.out (on_set_other (by decide) h), fun h => g15.out (on_set_other (by decide) h)⟩
      · skip
        rintro l ⟨u11, u12, u13, u14, u15, u16, u17, u18, u19, u20, u21, u22, u23, u24, u25, u26⟩ x ⟨d0, d1, d2, HO, HE, hB, g0, g1, g2, g3, g4, g5, g6, g7, g8, g9, g10, g11, g12, g13, g14, g15⟩ hun hpre K hK
        obtain ⟨e12, _, e8, -⟩ := hpre
        obtain rfl := g8.out e8
        obtain rfl := g12.out e12
        refine ⟨?_⟩
        simp only [Prod.forall, putAll, List.setIfInBounds_toArray, List.set_cons_zero, List.set_cons_succ] at hK ⊢
        refine wanted_yes (by rfl) ?_
        go_simp
        refine (G.out _).mono ?_
        rintro e x2 ⟨rfl, hb⟩
        have hs := hB.size
        exact hK _ _ _ _ _ _ _ _ _ _ _ _ _ _ _ _ _ ⟨Below.keeps hb (d0), Below.keeps hb (d1), Below.keeps hb (d2), Lib.hid (OwnE.below HO.out hb), Lib.hid (Els.below HE.out hb), hB.trans (hb.mono hs), fun h => g0.out (on_set_other (by decide) h), fun h => g1.out (on_set_other (by decide) h), fun h => g2.out (on_set_other (by decide) h), fun h => g3.out (on_set_other (by decide) h), fun h => g4.out (on_set_other (by decide) h), fun h => g5.out (on_set_other (by decide) h), fun h => g6.out (on_set_other (by decide) h), fun h => g7.out (on_set_other (by decide) h), fun h => g8.out (on_set_other (by decide) h), fun h => g9.out (on_set_other (by decide) h), fun h => g10.out (on_set_other (by decide) h), fun h => g11.out (on_set_other (by decide) h), fun h => g12.out (on_set_other (by decide) h), fun _ => rfl, fun h => g14.out (on_set_other (by decide) h), fun h => g15.out (on_set_other (by decide) h)⟩
      · skip
        rintro l ⟨u11, u12, u13, u14, u15, u16, u17, u18, u19, u20, u21, u22, u23, u24, u25, u26⟩ x ⟨d0, d1, d2, HO, HE, hB, g0, g1, g2, g3, g4, g5, g6, g7, g8, g9, g10, g11, g12, g13, g14, g15⟩ hun hpre K hK
        obtain ⟨e13, e8, -⟩ := hpre
        obtain rfl := g8.out e8
        obtain rfl := g13.out e13
        refine ⟨?_⟩
        simp only [Prod.forall, putAll, List.setIfInBounds_toArray, List.set_cons_zero, List.set_cons_succ] at hK ⊢
        refine wanted_yes (by rfl) ?_
        go_simp
        exact hK _ _ _ _ _ _ _ _ _ _ _ _ _ _ _ _ _ ⟨d0, d1, d2, HO, HE, hB, fun h => g0.out (on_set_other (by decide) h), fun h => g1.out (on_set_other (by decide) h), fun h => g2.out (on_set_other (by decide) h), fun h => g3.out (on_set_other (by decide) h), fun h => g4.out (on_set_other (by decide) h), fun h => g5.out (on_set_other (by decide) h), fun h => g6.out (on_set_other (by decide) h), fun h => g7.out (on_set_other (by decide) h), fun h => g8.out (on_set_other (by decide) h), fun h => g9.out (on_set_other (by decide) h), fun h => g10.out (on_set_other (by decide) h), fun h => g11.out (on_set_other (by decide) h), fun h => g12.out (on_set_other (by decide) h), fun h => g13.out (on_set_other (by decide) h), fun _ => rfl, fun h => g15.out (on_set_other (by decide) h)⟩
      · skip
        rintro l ⟨u11, u12, u13, u14, u15, u16, u17, u18, u19, u20, u21, u22, u23, u24, u25, u26⟩ x ⟨d0, d1, d2, HO, HE, hB, g0, g1, g2, g3, g4, g5, g6, g7, g8, g9, g10, g11, g12, g13, g14, g15⟩ hun hpre K hK
        obtain ⟨e8, e14, -⟩ := hpre
        obtain rfl := g8.out e8
        obtain rfl := g14.out e14
        refine ⟨?_⟩
        simp only [Prod.forall, putAll, List.setIfInBounds_toArray, List.set_cons_zero, List.set_cons_succ] at hK ⊢
        refine wanted_yes (by rfl) ?_
        go_simp
        exact hK _ _ _ _ _ _ _ _ _ _ _ _ _ _ _ _ _ ⟨d0, d1, d2, HO, HE, hB, fun h => g0.out (on_set_other (by decide) h), fun h => g1.out (on_set_other (by decide) h), fun h => g2.out (on_set_other (by decide) h), fun h => g3.out (on_set_other (by decide) h), fun h => g4.out (on_set_other (by decide) h), fun h => g5.out (on_set_other (by decide) h), fun h => g6.out (on_set_other (by decide) h), fun h => g7.out (on_set_other (by decide) h), fun h => g8.out (on_set_other (by decide) h), fun h => g9.out (on_set_other (by decide) h), fun h => g10.out (on_set_other (by decide) h), fun h => g11.out (on_set_other (by decide) h), fun h => g12.out (on_set_other (by decide) h), fun h => g13.out (on_set_other (by decide) h), fun h => g14.out (on_set_other (by decide) h), fun _ => rfl⟩
    · rintro l ⟨u11, u12, u13, u14, u15, u16, u17, u18, u19, u20, u21, u22, u23, u24, u25, u26⟩ x ⟨d0, d1, d2, HO, HE, hB, g0, g1, g2, g3, g4, g5, g6, g7, g8, g9, g10, g11, g12, g13, g14, g15⟩ hon
      have e0 := hon (j := 0) rfl trivial
      have e1 := hon (j := 1) rfl ⟨e0, trivial⟩
      have e2 := hon (j := 2) rfl ⟨e1, trivial⟩
      have e3 := hon (j := 3) rfl ⟨e2, e1, trivial⟩
      have e4 := hon (j := 4) rfl ⟨e3, trivial⟩
      have e5 := hon (j := 5) rfl ⟨e4, e3, e3, trivial⟩
      have e6 := hon (j := 6) rfl ⟨e5, e3, trivial⟩
      have e7 := hon (j := 7) rfl ⟨e3, e6, trivial⟩
      have e8 := hon (j := 8) rfl ⟨e7, e5, trivial⟩
      have e9 := hon (j := 9) rfl ⟨e8, trivial⟩
      have e10 := hon (j := 10) rfl ⟨e9, e8, e8, trivial⟩
      have e11 := hon (j := 11) rfl ⟨e8, trivial⟩
      have e12 := hon (j := 12) rfl ⟨e10, e11, e10, e8, trivial⟩
      have e13 := hon (j := 13) rfl ⟨e12, e12, e8, trivial⟩
      have e14 := hon (j := 14) rfl ⟨e13, e8, trivial⟩
      have e15 := hon (j := 15) rfl ⟨e8, e14, trivial⟩
      obtain rfl := g0.out e0; clear g0
      obtain rfl := g1.out e1; clear g1
      obtain rfl := g2.out e2; clear g2
      obtain rfl := g3.out e3; clear g3
      obtain rfl := g4.out e4; clear g4
      obtain rfl := g5.out e5; clear g5
      obtain rfl := g6.out e6; clear g6
      obtain rfl := g7.out e7; clear g7
      obtain rfl := g8.out e8; clear g8
      obtain rfl := g9.out e9; clear g9
      obtain rfl := g10.out e10; clear g10
      obtain rfl := g11.out e11; clear g11
      obtain rfl := g12.out e12; clear g12
      obtain rfl := g13.out e13; clear g13
      obtain rfl := g14.out e14; clear g14
      obtain rfl := g15.out e15; clear g15
      clear hon e0 e1 e2 e3 e4 e5 e6 e7 e8 e9 e10 e11 e12 e13 e14 e15 l
      refine ⟨?_⟩
      simp only [Prod.forall, putAll, List.setIfInBounds_toArray, List.set_cons_zero, List.set_cons_succ]
      go_wp2
      go_ret2
      exact ⟨A', c', by rw [hr.out]; rfl, by rw [hr.out]; exact HO.out, hB⟩
  · skip
    rw [hR] at C D
    have hRR := (rightB_iff t).1 hR
    obtain rfl : n = 5 := by rw [← hn]; exact hRR.len
    rw [ha] at F
    rw [hsu] at G
    have HA := Lib.hid ha
    have HSM := Lib.hid (show okB3 (sumL t) = true from hRR.sum)
    have E := Lib.hid (fun w' => implSumOf_r (sumL t) a w' HSM.out HA.out)
    have HRR := Lib.hid hRR
    have HSU := Lib.hid hsu
    clear hsu
    have HK := Lib.hid hk
    clear hx hn hR hk hRR ha
    go_enter Try.func36, Try.ntmps36
    go_wp2_with fail
    refine (CP.out _ (HX.out.alloc _)).mono ?_
    rintro e w1 ⟨A', c', rfl, ho, hb1⟩
    have HO := Lib.hid (ho.more (B' := w.heap.size) (by simp))
    have hB := Below.trans ((Below.refl w.heap.size w).alloc (Nat.le_refl _) _) (hb1.mono (by simp))
    have hbox := keepblk hb1 (heap_alloc_new w _)
    have hs := hB.size
    clear ho hb1
    obtain ⟨d0, d1, d2⟩ : w1.cell? ⟨w.heap.size, 0, none⟩ = some (.int .i64 a.1) ∧ w1.cell? ⟨w.heap.size, 1, none⟩ = some (.int .i64 a.2.1) ∧ w1.cell? ⟨w.heap.size, 2, none⟩ = some (.int .i64 a.2.2) := by
      have h := (blkcell hbox).1
      exact ⟨h 0, h 1, h 2⟩
    clear hbox
    go_wp2_with fail
    refine wp_region_fg (U := Value × Value × Value × Value × Value × Value × Value × Value × Value × Value × Value × Value × Value × Value × Value × Value) [[], [0], [1], [2, 1], [3], [4, 3, 3], [5, 3], [3, 6], [7, 5], [8], [9, 8, 8], [8], [10, 11, 10, 8], [12, 12, 8], [13, 8], [8, 14]] (fun u => match u with | (u11, u12, u13, u14, u15, u16, u17, u18, u19, u20, u21, u22, u23, u24, u25, u26) => [(11, u11), (12, u12), (13, u13), (14, u14), (15, u15), (16, u16), (17, u17), (18, u18), (19, u19), (20, u20), (21, u21), (22, u22), (23, u23), (24, u24), (25, u25), (26, u26)]) (undef, undef, undef, undef, undef, undef, undef, undef, undef, undef, undef, undef, undef, undef, undef, undef) (fun l u x => match u with | (u11, u12, u13, u14, u15, u16, u17, u18, u19, u20, u21, u22, u23, u24, u25, u26) => (x.cell? ⟨w.heap.size, 0, none⟩ = some (.int .i64 a.1)) ∧ (x.cell? ⟨w.heap.size, 1, none⟩ = some (.int .i64 a.2.1)) ∧ (x.cell? ⟨w.heap.size, 2, none⟩ = some (.int .i64 a.2.2)) ∧ (Hid (OwnE x w.heap.size A' t)) ∧ (Hid (Els x A t)) ∧ (Below w.heap.size w x) ∧ Hid (l.getD 0 false = true → u11 = .slice A 5 c) ∧ Hid (l.getD 1 false = true → u12 = .bool true) ∧ Hid (l.getD 2 false = true → u13 = .bool false) ∧ Hid (l.getD 3 false = true → u14 = .bool false) ∧ Hid (l.getD 4 false = true → u15 = amt3 a) ∧ Hid (l.getD 5 false = true → u16 = .bool true) ∧ Hid (l.getD 6 false = true → u17 = .bool false) ∧ Hid (l.getD 7 false = true → u18 = .bool false) ∧ Hid (l.getD 8 false = true → u19 = .bool false) ∧ Hid (l.getD 9 false = true → u20 = .slice A 5 c) ∧ Hid (l.getD 10 false = true → u21 = amt3 (sumL t)) ∧ Hid (l.getD 11 false = true → u22 = amt3 a) ∧ Hid (l.getD 12 false = true → u23 = amt3 (add33 (sumL t) a)) ∧ Hid (l.getD 13 false = true → u24 = .bool true) ∧ Hid (l.getD 14 false = true → u25 = .bool false) ∧ Hid (l.getD 15 false = true → u26 = .bool false)) (by kernel_rfl) (by kernel_rfl) ?_ ?_ ?_ ?_
    · kernel_rfl
    · exact ⟨(by exact d0), (by exact d1), (by exact d2), (by exact Lib.hid (OwnE.drewN HO.out 1)), (by exact Lib.hid (HX.out.keep (fun _ _ h => Below.keeps hB.drew h))), (by exact hB.drew), fun h => repl_off h, fun h => repl_off h, fun h => repl_off h, fun h => repl_off h, fun h => repl_off h, fun h => repl_off h, fun h => repl_off h, fun h => repl_off h, fun h => repl_off h, fun h => repl_off h, fun h => repl_off h, fun h => repl_off h, fun h => repl_off h, fun h => repl_off h, fun h => repl_off h, fun h => repl_off h⟩
    · refine ⟨?_, ?_, ?_, ?_, ?_, ?_, ?_, ?_, ?_, ?_, ?_, ?_, ?_, ?_, ?_, ?_, trivial⟩
      · skip
        rintro l ⟨u11, u12, u13, u14, u15, u16, u17, u18, u19, u20, u21, u22, u23, u24, u25, u26⟩ x ⟨d0, d1, d2, HO, HE, hB, g0, g1, g2, g3, g4, g5, g6, g7, g8, g9, g10, g11, g12, g13, g14, g15⟩ hun hpre K hK
        clear hpre
        refine ⟨?_⟩
        simp only [Prod.forall, putAll, List.setIfInBounds_toArray, List.set_cons_zero, List.set_cons_succ] at hK ⊢
        refine wanted_yes (by rfl) ?_
        go_simp
        exact hK _ _ _ _ _ _ _ _ _ _ _ _ _ _ _ _ _ ⟨d0, d1, d2, HO, HE, hB, fun _ => rfl, fun h => g1.out (on_set_other (by decide) h), fun h => g2.out (on_set_other (by decide) h), fun h => g3.out (on_set_other (by decide) h), fun h => g4.out (on_set_other (by decide) h), fun h => g5.out (on_set_other (by decide) h), fun h => g6.out (on_set_other (by decide) h), fun h => g7.out (on_set_other (by decide) h), fun h => g8.out (on_set_other (by decide) h), fun h => g9.out (on_set_other (by decide) h), fun h => g10.out (on_set_other (by decide) h), fun h => g11.out (on_set_other (by decide) h), fun h => g12.out (on_set_other (by decide) h), fun h => g13.out (on_set_other (by decide) h), fun h => g14.out (on_set_other (by decide) h), fun h => g15.out (on_set_other (by decide) h)⟩
      · skip
        rintro l ⟨u11, u12, u13, u14, u15, u16, u17, u18, u19, u20, u21, u22, u23, u24, u25, u26⟩ x ⟨d0, d1, d2, HO, HE, hB, g0, g1, g2, g3, g4, g5, g6, g7, g8, g9, g10, g11, g12, g13, g14, g15⟩ hun hpre K hK
        obtain ⟨e0, -⟩ := hpre
        obtain rfl := g0.out e0
        refine ⟨?_⟩
        simp only [Prod.forall, putAll, List.setIfInBounds_toArray, List.set_cons_zero, List.set_cons_succ] at hK ⊢
        refine wanted_yes (by rfl) ?_
        go_simp
        refine (C.out _ (by exact HE.out)).mono ?_
        rintro e x2 ⟨rfl, hb⟩
        have hs := hB.size
        exact hK _ _ _ _ _ _ _ _ _ _ _ _ _ _ _ _ _ ⟨Below.keeps hb (d0), Below.keeps hb (d1), Below.keeps hb (d2), Lib.hid (OwnE.below HO.out hb), Lib.hid (Els.below HE.out hb), hB.trans (hb.mono hs), fun h => g0.out (on_set_other (by decide) h), fun _ => rfl, fun h => g2.out (on_set_other (by decide) h), fun h => g3.out (on_set_other (by decide) h), fun h => g4.out (on_set_other (by decide) h), fun h => g5.out (on_set_other (by decide) h), fun h => g6.out (on_set_other (by decide) h), fun h => g7.out (on_set_other (by decide) h), fun h => g8.out (on_set_other (by decide) h), fun h => g9.out (on_set_other (by decide) h), fun h => g10.out (on_set_other (by decide) h), fun h => g11.out (on_set_other (by decide) h), fun h => g12.out (on_set_other (by decide) h), fun h => g13.out (on_set_other (by decide) h), fun h => g14.out (on_set_other (by decide) h), fun h => g15.out (on_set_other (by decide) h)⟩
      · skip
        rintro l ⟨u11, u12, u13, u14, u15, u16, u17, u18, u19, u20, u21, u22, u23, u24, u25, u26⟩ x ⟨d0, d1, d2, HO, HE, hB, g0, g1, g2, g3, g4, g5, g6, g7, g8, g9, g10, g11, g12, g13, g14, g15⟩ hun hpre K hK
        obtain ⟨e1, -⟩ := hpre
        obtain rfl := g1.out e1
        refine ⟨?_⟩
        simp only [Prod.forall, putAll, List.setIfInBounds_toArray, List.set_cons_zero, List.set_cons_succ] at hK ⊢
        refine wanted_yes (by rfl) ?_
        go_simp
        exact hK _ _ _ _ _ _ _ _ _ _ _ _ _ _ _ _ _ ⟨d0, d1, d2, HO, HE, hB, fun h => g0.out (on_set_other (by decide) h), fun h => g1.out (on_set_other (by decide) h), fun _ => rfl, fun h => g3.out (on_set_other (by decide) h), fun h => g4.out (on_set_other (by decide) h), fun h => g5.out (on_set_other (by decide) h), fun h => g6.out (on_set_other (by decide) h), fun h => g7.out (on_set_other (by decide) h), fun h => g8.out (on_set_other (by decide) h), fun h => g9.out (on_set_other (by decide) h), fun h => g10.out (on_set_other (by decide) h), fun h => g11.out (on_set_other (by decide) h), fun h => g12.out (on_set_other (by decide) h), fun h => g13.out (on_set_other (by decide) h), fun h => g14.out (on_set_other (by decide) h), fun h => g15.out (on_set_other (by decide) h)⟩
      · skip
        rintro l ⟨u11, u12, u13, u14, u15, u16, u17, u18, u19, u20, u21, u22, u23, u24, u25, u26⟩ x ⟨d0, d1, d2, HO, HE, hB, g0, g1, g2, g3, g4, g5, g6, g7, g8, g9, g10, g11, g12, g13, g14, g15⟩ hun hpre K hK
        obtain ⟨e2, e1, -⟩ := hpre
        obtain rfl := g1.out e1
        obtain rfl := g2.out e2
        refine ⟨?_⟩
        simp only [Prod.forall, putAll, List.setIfInBounds_toArray, List.set_cons_zero, List.set_cons_succ] at hK ⊢
        refine wanted_yes (by rfl) ?_
        go_simp
        exact hK _ _ _ _ _ _ _ _ _ _ _ _ _ _ _ _ _ ⟨d0, d1, d2, HO, HE, hB, fun h => g0.out (on_set_other (by decide) h), fun h => g1.out (on_set_other (by decide) h), fun h => g2.out (on_set_other (by decide) h), fun _ => rfl, fun h => g4.out (on_set_other (by decide) h), fun h => g5.out (on_set_other (by decide) h), fun h => g6.out (on_set_other (by decide) h), fun h => g7.out (on_set_other (by decide) h), fun h => g8.out (on_set_other (by decide) h), fun h => g9.out (on_set_other (by decide) h), fun h => g10.out (on_set_other (by decide) h), fun h => g11.out (on_set_other (by decide) h), fun h => g12.out (on_set_other (by decide) h), fun h => g13.out (on_set_other (by decide) h), fun h => g14.out (on_set_other (by decide) h), fun h => g15.out (on_set_other (by decide) h)⟩
      · skip
        rintro l ⟨u11, u12, u13, u14, u15, u16, u17, u18, u19, u20, u21, u22, u23, u24, u25, u26⟩ x ⟨d0, d1, d2, HO, HE, hB, g0, g1, g2, g3, g4, g5, g6, g7, g8, g9, g10, g11, g12, g13, g14, g15⟩ hun hpre K hK
        obtain ⟨e3, -⟩ := hpre
        obtain rfl := g3.out e3
        refine ⟨?_⟩
        simp only [Prod.forall, putAll, List.setIfInBounds_toArray, List.set_cons_zero, List.set_cons_succ] at hK ⊢
        refine wanted_yes (by rfl) ?_
        go_simp
        exact hK _ _ _ _ _ _ _ _ _ _ _ _ _ _ _ _ _ ⟨d0, d1, d2, HO, HE, hB, fun h => g0.out (on_set_other (by decide) h), fun h => g1.out (on_set_other (by decide) h), fun h => g2.out (on_set_other (by decide) h), fun h => g3.out (on_set_other (by decide) h), fun _ => rfl, fun h => g5.out (on_set_other (by decide) h), fun h => g6.out (on_set_other (by decide) h), fun h => g7.out (on_set_other (by decide) h), fun h => g8.out (on_set_other (by decide) h), fun h => g9.out (on_set_other (by decide) h), fun h => g10.out (on_set_other (by decide) h), fun h => g11.out (on_set_other (by decide) h), fun h => g12.out (on_set_other (by decide) h), fun h => g13.out (on_set_other (by decide) h), fun h => g14.out (on_set_other (by decide) h), fun h => g15.out (on_set_other (by decide) h)⟩
      · skip
        rintro l ⟨u11, u12, u13, u14, u15, u16, u17, u18, u19, u20, u21, u22, u23, u24, u25, u26⟩ x ⟨d0, d1, d2, HO, HE, hB, g0, g1, g2, g3, g4, g5, g6, g7, g8, g9, g10, g11, g12, g13, g14, g15⟩ hun hpre K hK
        obtain ⟨e4, e3, _, -⟩ := hpre
        obtain rfl := g3.out e3
        obtain rfl := g4.out e4
        refine ⟨?_⟩
        simp only [Prod.forall, putAll, List.setIfInBounds_toArray, List.set_cons_zero, List.set_cons_succ] at hK ⊢
        refine wanted_yes (by rfl) ?_
        go_simp
        refine (F.out _).mono ?_
        rintro e x2 ⟨rfl, hb⟩
        have hs := hB.size
        exact hK _ _ _ _ _ _ _ _ _ _ _ _ _ _ _ _ _ ⟨Below.keeps hb (d0), Below.keeps hb (d1), Below.keeps hb (d2), Lib.hid (OwnE.below HO.out hb), Lib.hid (Els.below HE.out hb), hB.trans (hb.mono hs), fun h => g0.out (on_set_other (by decide) h), fun h => g1.out (on_set_other (by decide) h), fun h => g2.out (on_set_other (by decide) h), fun h => g3.out (on_set_other (by decide) h), fun h => g4.out (on_set_other (by decide) h), fun _ => rfl, fun h => g6.out (on_set_other (by decide) h), fun h => g7.out (on_set_other (by decide) h), fun h => g8.out (on_set_other (by decide) h), fun h => g9.out (on_set_other (by decide) h), fun h => g10.out (on_set_other (by decide) h), fun h => g11.out (on_set_other (by decide) h), fun h => g12.out (on_set_other (by decide) h), fun h => g13.out (on_set_other (by decide) h), fun h => g14.out (on_set_other (by decide) h), fun h => g15.out (on_set_other (by decide) h)⟩
      · skip
        rintro l ⟨u11, u12, u13, u14, u15, u16, u17, u18, u19, u20, u21, u22, u23, u24, u25, u26⟩ x ⟨d0, d1, d2, HO, HE, hB, g0, g1, g2, g3, g4, g5, g6, g7, g8, g9, g10, g11, g12, g13, g14, g15⟩ hun hpre K hK
        obtain ⟨e5, e3, -⟩ := hpre
        obtain rfl := g3.out e3
        obtain rfl := g5.out e5
        refine ⟨?_⟩
        simp only [Prod.forall, putAll, List.setIfInBounds_toArray, List.set_cons_zero, List.set_cons_succ] at hK ⊢
        refine wanted_yes (by rfl) ?_
        go_simp
        exact hK _ _ _ _ _ _ _ _ _ _ _ _ _ _ _ _ _ ⟨d0, d1, d2, HO, HE, hB, fun h => g0.out (on_set_other (by decide) h), fun h => g1.out (on_set_other (by decide) h), fun h => g2.out (on_set_other (by decide) h), fun h => g3.out (on_set_other (by decide) h), fun h => g4.out (on_set_other (by decide) h), fun h => g5.out (on_set_other (by decide) h), fun _ => rfl, fun h => g7.out (on_set_other (by decide) h), fun h => g8.out (on_set_other (by decide) h), fun h => g9.out (on_set_other (by decide) h), fun h => g10.out (on_set_other (by decide) h), fun h => g11.out (on_set_other (by decide) h), fun h => g12.out (on_set_other (by decide) h), fun h => g13.out (on_set_other (by decide) h), fun h => g14.out (on_set_other (by decide) h), fun h => g15.out (on_set_other (by decide) h)⟩
      · skip
        rintro l ⟨u11, u12, u13, u14, u15, u16, u17, u18, u19, u20, u21, u22, u23, u24, u25, u26⟩ x ⟨d0, d1, d2, HO, HE, hB, g0, g1, g2, g3, g4, g5, g6, g7, g8, g9, g10, g11, g12, g13, g14, g15⟩ hun hpre K hK
        obtain ⟨e3, e6, -⟩ := hpre
        obtain rfl := g3.out e3
        obtain rfl := g6.out e6
        refine ⟨?_⟩
        simp only [Prod.forall, putAll, List.setIfInBounds_toArray, List.set_cons_zero, List.set_cons_succ] at hK ⊢
        refine wanted_yes (by rfl) ?_
        go_simp
        exact hK _ _ _ _ _ _ _ _ _ _ _ _ _ _ _ _ _ ⟨d0, d1, d2, HO, HE, hB, fun h => g0.out (on_set_other (by decide) h), fun h => g1.out (on_set_other (by decide) h), fun h => g2.out (on_set_other (by decide) h), fun h => g3.out (on_set_other (by decide) h), fun h => g4.out (on_set_other (by decide) h), fun h => g5.out (on_set_other (by decide) h), fun h => g6.out (on_set_other (by decide) h), fun _ => rfl, fun h => g8.out (on_set_other (by decide) h), fun h => g9.out (on_set_other (by decide) h), fun h => g10.out (on_set_other (by decide) h), fun h => g11.out (on_set_other (by decide) h), fun h => g12.out (on_set_other (by decide) h), fun h => g13.out (on_set_other (by decide) h), fun h => g14.out (on_set_other (by decide) h), fun h => g15.out (on_set_other (by decide) h)⟩
      · skip
        rintro l ⟨u11, u12, u13, u14, u15, u16, u17, u18, u19, u20, u21, u22, u23, u24, u25, u26⟩ x ⟨d0, d1, d2, HO, HE, hB, g0, g1, g2, g3, g4, g5, g6, g7, g8, g9, g10, g11, g12, g13, g14, g15⟩ hun hpre K hK
        obtain ⟨e7, e5, -⟩ := hpre
        obtain rfl := g5.out e5
        obtain rfl := g7.out e7
        refine ⟨?_⟩
        simp only [Prod.forall, putAll, List.setIfInBounds_toArray, List.set_cons_zero, List.set_cons_succ] at hK ⊢
        refine wanted_yes (by rfl) ?_
        go_simp
        exact hK _ _ _ _ _ _ _ _ _ _ _ _ _ _ _ _ _ ⟨d0, d1, d2, HO, HE, hB, fun h => g0.out (on_set_other (by decide) h), fun h => g1.out (on_set_other (by decide) h), fun h => g2.out (on_set_other (by decide) h), fun h => g3.out (on_set_other (by decide) h), fun h => g4.out (on_set_other (by decide) h), fun h => g5.out (on_set_other (by decide) h), fun h => g6.out (on_set_other (by decide) h), fun h => g7.out (on_set_other (by decide) h), fun _ => rfl, fun h => g9.out (on_set_other (by decide) h), fun h => g10.out (on_set_other (by decide) h), fun h => g11.out (on_set_other (by decide) h), fun h => g12.out (on_set_other (by decide) h), fun h => g13.out (on_set_other (by decide) h), fun h => g14.out (on_set_other (by decide) h), fun h => g15.out (on_set_other (by decide) h)⟩
      · skip
        rintro l ⟨u11, u12, u13, u14, u15, u16, u17, u18, u19, u20, u21, u22, u23, u24, u25, u26⟩ x ⟨d0, d1, d2, HO, HE, hB, g0, g1, g2, g3, g4, g5, g6, g7, g8, g9, g10, g11, g12, g13, g14, g15⟩ hun hpre K hK
        obtain ⟨e8, -⟩ := hpre
        obtain rfl := g8.out e8
        refine ⟨?_⟩
        simp only [Prod.forall, putAll, List.setIfInBounds_toArray, List.set_cons_zero, List.set_cons_succ] at hK ⊢
        refine wanted_yes (by rfl) ?_
        go_simp
        exact hK _ _ _ _ _ _ _ _ _ _ _ _ _ _ _ _ _ ⟨d0, d1, d2, HO, HE, hB, fun h => g0.out (on_set_other (by decide) h), fun h => g1.out (on_set_other (by decide) h), fun h => g2.out (on_set_other (by decide) h), fun h => g3.out (on_set_other (by decide) h), fun h => g4.out (on_set_other (by decide) h), fun h => g5.out (on_set_other (by decide) h), fun h => g6.out (on_set_other (by decide) h), fun h => g7.out (on_set_other (by decide) h), fun h => g8.out (on_set_other (by decide) h), fun _ => rfl, fun h => g10.out (on_set_other (by decide) h), fun h => g11.out (on_set_other (by decide) h), fun h => g12.out (on_set_other (by decide) h), fun h => g13.out (on_set_other (by decide) h), fun h => g14.out (on_set_other (by decide) h), fun h => g15.out (on_set_other (by decide) h)⟩
      · skip
        rintro l ⟨u11, u12, u13, u14, u15, u16, u17, u18, u19, u20, u21, u22, u23, u24, u25, u26⟩ x ⟨d0, d1, d2, HO, HE, hB, g0, g1, g2, g3, g4, g5, g6, g7, g8, g9, g10, g11, g12, g13, g14, g15⟩ hun hpre K hK
        obtain ⟨e9, e8, _, -⟩ := hpre
        obtain rfl := g8.out e8
        obtain rfl := g9.out e9
        refine ⟨?_⟩
        simp only [Prod.forall, putAll, List.setIfInBounds_toArray, List.set_cons_zero, List.set_cons_succ] at hK ⊢
        refine wanted_yes (by rfl) ?_
        go_simp
        refine (D.out _ (by exact HE.out)).mono ?_
        rintro e x2 ⟨rfl, hb⟩
        have hs := hB.size
        exact hK _ _ _ _ _ _ _ _ _ _ _ _ _ _ _ _ _ ⟨Below.keeps hb (d0), Below.keeps hb (d1), Below.keeps hb (d2), Lib.hid (OwnE.below HO.out hb), Lib.hid (Els.below HE.out hb), hB.trans (hb.mono hs), fun h => g0.out (on_set_other (by decide) h), fun h => g1.out (on_set_other (by decide) h), fun h => g2.out (on_set_other (by decide) h), fun h => g3.out (on_set_other (by decide) h), fun h => g4.out (on_set_other (by decide) h), fun h => g5.out (on_set_other (by decide) h), fun h => g6.out (on_set_other (by decide) h), fun h => g7.out (on_set_other (by decide) h), fun h => g8.out (on_set_other (by decide) h), fun h => g9.out (on_set_other (by decide) h), fun _ => rfl, fun h => g11.out (on_set_other (by decide) h), fun h => g12.out (on_set_other (by decide) h), fun h => g13.out (on_set_other (by decide) h), fun h => g14.out (on_set_other (by decide) h), fun h => g15.out (on_set_other (by decide) h)⟩
      · skip
        rintro l ⟨u11, u12, u13, u14, u15, u16, u17, u18, u19, u20, u21, u22, u23, u24, u25, u26⟩ x ⟨d0, d1, d2, HO, HE, hB, g0, g1, g2, g3, g4, g5, g6, g7, g8, g9, g10, g11, g12, g13, g14, g15⟩ hun hpre K hK
        obtain ⟨e8, -⟩ := hpre
        obtain rfl := g8.out e8
        refine ⟨?_⟩
        simp only [Prod.forall, putAll, List.setIfInBounds_toArray, List.set_cons_zero, List.set_cons_succ] at hK ⊢
        refine wanted_yes (by rfl) ?_
        go_simp
        exact hK _ _ _ _ _ _ _ _ _ _ _ _ _ _ _ _ _ ⟨d0, d1, d2, HO, HE, hB, fun h => g0.out (on_set_other (by decide) h), fun h => g1.out (on_set_other (by decide) h), fun h => g2.out (on_set_other (by decide) h), fun h => g3.out (on_set_other (by decide) h), fun h => g4.out (on_set_other (by decide) h), fun h => g5.out (on_set_other (by decide) h), fun h => g6.out (on_set_other (by decide) h), fun h => g7.out (on_set_other (by decide) h), fun h => g8.out (on_set_other (by decide) h), fun h => g9.out (on_set_other (by decide) h), fun h => g10.out (on_set_other (by decide) h), fun _ => rfl, fun h => g12.out (on_set_other (by decide) h), fun h => g13.out (on_set_other (by decide) h), fun h => g14.out (on_set_other (by decide) h), fun h => g15.out (on_set_other (by decide) h)⟩
      · skip
        rintro l ⟨u11, u12, u13, u14, u15, u16, u17, u18, u19, u20, u21, u22, u23, u24, u25, u26⟩ x ⟨d0, d1, d2, HO, HE, hB, g0, g1, g2, g3, g4, g5, g6, g7, g8, g9, g10, g11, g12, g13, g14, g15⟩ hun hpre K hK
        obtain ⟨e10, e11, _, e8, -⟩ := hpre
        obtain rfl := g8.out e8
        obtain rfl := g10.out e10
        obtain rfl := g11.out e11
        refine ⟨?_⟩
        simp only [Prod.forall, putAll, List.setIfInBounds_toArray, List.set_cons_zero, List.set_cons_succ] at hK ⊢
        refine wanted_yes (by rfl) ?_
        go_simp
        refine (E.out _).mono ?_
        rintro e x2 ⟨rfl, hb⟩
        have hs := hB.size
        exact hK _ _ _ _ _ _ _ _ _ _ _ _ _ _ _ _ _ ⟨Below.keeps hb (d0), Below.keeps hb (d1), Below.keeps hb (d2), Lib.hid (OwnE.below HO.out hb), Lib.hid (Els.below HE.out hb), hB.trans (hb.mono hs), fun h => g0.out (on_set_other (by decide) h), fun h => g1.out (on_set_other (by decide) h), fun h => g2.out (on_set_other (by decide) h), fun h => g3.out (on_set_other (by decide) h), fun h => g4.out (on_set_other (by decide) h), fun h => g5.out (on_set_other (by decide) h), fun h => g6.out (on_set_other (by decide) h), fun h => g7.out (on_set_other (by decide) h), fun h => g8.out (on_set_other (by decide) h), fun h => g9.out (on_set_other (by decide) h), fun h => g10.out (on_set_other (by decide) h), fun h => g11.out (on_set_other (by decide) h), fun _ => rfl, fun h => g13.out (on_set_other (by decide) h), fun h => g14.out (on_set_other (by decide) h), fun h => g15.out (on_set_other (by decide) h)⟩
      · skip
        rintro l ⟨u11, u12, u13, u14, u15, u16, u17, u18, u19, u20, u21, u22, u23, u24, u25, u26⟩ x ⟨d0, d1, d2, HO, HE, hB, g0, g1, g2, g3, g4, g5, g6, g7, g8, g9, g10, g11, g12, g13, g14, g15⟩ hun hpre K hK
        obtain ⟨e12, _, e8, -⟩ := hpre
        obtain rfl := g8.out e8
        obtain rfl := g12.out e12
        refine ⟨?_⟩
        simp only [Prod.forall, putAll, List.setIfInBounds_toArray, List.set_cons_zero, List.set_cons_succ] at hK ⊢
        refine wanted_yes (by rfl) ?_
        go_simp
        refine (G.out _).mono ?_
        rintro e x2 ⟨rfl, hb⟩
        have hs := hB.size
        exact hK _ _ _ _ _ _ _ _ _ _ _ _ _ _ _ _ _ ⟨Below.keeps hb (d0), Below.keeps hb (d1), Below.keeps hb (d2), Lib.hid (OwnE.below HO.out hb), Lib.hid (Els.below HE.out hb), hB.trans (hb.mono hs), fun h => g0.out (on_set_other (by decide) h), fun h => g1.out (on_set_other (by decide) h), fun h => g2.out (on_set_other (by decide) h), fun h => g3.out (on_set_other (by decide) h), fun h => g4.out (on_set_other (by decide) h), fun h => g5.out (on_set_other (by decide) h), fun h => g6.out (on_set_other (by decide) h), fun h => g7.out (on_set_other (by decide) h), fun h => g8.out (on_set_other (by decide) h), fun h => g9.out (on_set_other (by decide) h), fun h => g10.out (on_set_other (by decide) h), fun h => g11.out (on_set_other (by decide) h), fun h => g12.out (on_set_other (by decide) h), fun _ => rfl, fun h => g14.out (on_set_other (by decide) h), fun h => g15.out (on_set_other (by decide) h)⟩
      · skip
        rintro l ⟨u11, u12, u13, u14, u15, u16, u17, u18, u19, u20, u21, u22, u23, u24, u25, u26⟩ x ⟨d0, d1, d2, HO, HE, hB, g0, g1, g2, g3, g4, g5, g6, g7, g8, g9, g10, g11, g12, g13, g14, g15⟩ hun hpre K hK
        obtain ⟨e13, e8, -⟩ := hpre
        obtain rfl := g8.out e8
        obtain rfl := g13.out e13
        refine ⟨?_⟩
        simp only [Prod.forall, putAll, List.setIfInBounds_toArray, List.set_cons_zero, List.set_cons_succ] at hK ⊢
        refine wanted_yes (by rfl) ?_
        go_simp
        exact hK _ _ _ _ _ _ _ _ _ _ _ _ _ _ _ _ _ ⟨d0, d1, d2, HO, HE, hB, fun h => g0.out (on_set_other (by decide) h), fun h => g1.out (on_set_other (by decide) h), fun h => g2.out (on_set_other (by decide) h), fun h => g3.out (on_set_other (by decide) h), fun h => g4.out (on_set_other (by decide) h), fun h => g5.out (on_set_other (by decide) h), fun h => g6.out (on_set_other (by decide) h), fun h => g7.out (on_set_other (by decide) h), fun h => g8.out (on_set_other (by decide) h), fun h => g9.out (on_set_other (by decide) h), fun h => g10.out (on_set_other (by decide) h), fun h => g11.out (on_set_other (by decide) h), fun h => g12.out (on_set_other (by decide) h), fun h => g13.out (on_set_other (by decide) h), fun _ => rfl, fun h => g15.out (on_set_other (by decide) h)⟩
      · skip
        rintro l ⟨u11, u12, u13, u14, u15, u16, u17, u18, u19, u20, u21, u22, u23, u24, u25, u26⟩ x ⟨d0, d1, d2, HO, HE, hB, g0, g1, g2, g3, g4, g5, g6, g7, g8, g9, g10, g11, g12, g13, g14, g15⟩ hun hpre K hK
        obtain ⟨e8, e14, -⟩ := hpre
        obtain rfl := g8.out e8
        obtain rfl := g14.out e14
        refine ⟨?_⟩
        simp only [Prod.forall, putAll, List.setIfInBounds_toArray, List.set_cons_zero, List.set_cons_succ] at hK ⊢
        refine wanted_yes (by rfl) ?_
        go_simp
        exact hK _ _ _ _ _ _ _ _ _ _ _ _ _ _ _ _ _ ⟨d0, d1, d2, HO, HE, hB, fun h => g0.out (on_set_other (by decide) h), fun h => g1.out (on_set_other (by decide) h), fun h => g2.out (on_set_other (by decide) h), fun h => g3.out (on_set_other (by decide) h), fun h => g4.out (on_set_other (by decide) h), fun h => g5.out (on_set_other (by decide) h), fun h => g6.out (on_set_other (by decide) h), fun h => g7.out (on_set_other (by decide) h), fun h => g8.out (on_set_other (by decide) h), fun h => g9.out (on_set_other (by decide) h), fun h => g10.out (on_set_other (by decide) h), fun h => g11.out (on_set_other (by decide) h), fun h => g12.out (on_set_other (by decide) h), fun h => g13.out (on_set_other (by decide) h), fun h => g14.out (on_set_other (by decide) h), fun _ => rfl⟩
    · rintro l ⟨u11, u12, u13, u14, u15, u16, u17, u18, u19, u20, u21, u22, u23, u24, u25, u26⟩ x ⟨d0, d1, d2, HO, HE, hB, g0, g1, g2, g3, g4, g5, g6, g7, g8, g9, g10, g11, g12, g13, g14, g15⟩ hon
      have e0 := hon (j := 0) rfl trivial
      have e1 := hon (j := 1) rfl ⟨e0, trivial⟩
      have e2 := hon (j := 2) rfl ⟨e1, trivial⟩
      have e3 := hon (j := 3) rfl ⟨e2, e1, trivial⟩
      have e4 := hon (j := 4) rfl ⟨e3, trivial⟩
      have e5 := hon (j := 5) rfl ⟨e4, e3, e3, trivial⟩
      have e6 := hon (j := 6) rfl ⟨e5, e3, trivial⟩
      have e7 := hon (j := 7) rfl ⟨e3, e6, trivial⟩
      have e8 := hon (j := 8) rfl ⟨e7, e5, trivial⟩
      have e9 := hon (j := 9) rfl ⟨e8, trivial⟩
      have e10 := hon (j := 10) rfl ⟨e9, e8, e8, trivial⟩
      have e11 := hon (j := 11) rfl ⟨e8, trivial⟩
      have e12 := hon (j := 12) rfl ⟨e10, e11, e10, e8, trivial⟩
      have e13 := hon (j := 13) rfl ⟨e12, e12, e8, trivial⟩
      have e14 := hon (j := 14) rfl ⟨e13, e8, trivial⟩
      have e15 := hon (j := 15) rfl ⟨e8, e14, trivial⟩
      obtain rfl := g0.out e0; clear g0
      obtain rfl := g1.out e1; clear g1
      obtain rfl := g2.out e2; clear g2
      obtain rfl := g3.out e3; clear g3
      obtain rfl := g4.out e4; clear g4
      obtain rfl := g5.out e5; clear g5
      obtain rfl := g6.out e6; clear g6
      obtain rfl := g7.out e7; clear g7
      obtain rfl := g8.out e8; clear g8
      obtain rfl := g9.out e9; clear g9
      obtain rfl := g10.out e10; clear g10
      obtain rfl := g11.out e11; clear g11
      obtain rfl := g12.out e12; clear g12
      obtain rfl := g13.out e13; clear g13
      obtain rfl := g14.out e14; clear g14
      obtain rfl := g15.out e15; clear g15
      clear hon e0 e1 e2 e3 e4 e5 e6 e7 e8 e9 e10 e11 e12 e13 e14 e15 l
      refine ⟨?_⟩
      simp only [Prod.forall, putAll, List.setIfInBounds_toArray, List.set_cons_zero, List.set_cons_succ]
      go_wp2_with fail
      refine (isLive_any A c t i _ HE.out HN.out).mono ?_
      rintro e _ ⟨rfl, rfl⟩
      obtain ⟨gO, full, rfl, hBg, hh0, hp⟩ := HO.out.block HN.out
      have HP := Lib.hid hp
      clear hp HO HE
      cases hla : liveAt t i
      · obtain ⟨y, hy⟩ : ∃ y, t[0]? = some y := ⟨_, List.getElem?_eq_getElem (by have := HN.out; omega)⟩
        have ex := Lib.hid hy
        have hr := Lib.hid (treeBack_at HK.out (show toOf t i = 0 by simp [toOf, hla]) hy)
        have H1 := Lib.hid (show okB3 y.2.2 = true from HRR.out.bal hy)
        clear hla hy
        obtain ⟨e0, e1, e2, e3, e4⟩ := pre_at hh0 HP.out ex.out
        simp only [Nat.zero_mul, Nat.zero_add] at e0 e1 e2 e3 e4
        have fo := (blkcell hh0).2
        clear e0 e1
        go_wp2_with fail
        go_region_with (go_at_call 52; refine (implSumOf_r y.2.2 a _ (by exact H1.out) (by exact HA.out)).mono ?_; rintro e w4 ⟨rfl, hb⟩; have hh0 := keepblk hb hh0; have d0 := Below.keeps hb d0; have d1 := Below.keeps hb d1; have d2 := Below.keeps hb d2; have e2 := Below.keeps hb e2; have e3 := Below.keeps hb e3; have e4 := Below.keeps hb e4; have hs := hB.size; have hB := Below.trans hB.drew (hb.mono hs); clear hb; have fo := (blkcell hh0).2)
        all_goals
          have HS := Lib.hid (OwnE.setBal hBg hh0 HP.out ex.out (add33 y.2.2 a))
          have HBS := Lib.hid (below_set (b := gO) (o := 4) (below_set (b := gO) (o := 3) (below_set (b := gO) (o := 2) hB hBg (.int .i64 (add33 y.2.2 a).1)) hBg (.int .i64 (add33 y.2.2 a).2.1)) hBg (.int .i64 (add33 y.2.2 a).2.2))
          clear hh0 d0 d1 d2
          go_wp2
          go_ret2
          exact ⟨_, _, by rw [hr.out]; rfl, by rw [hr.out]; exact HS.out, HBS.out⟩
      · obtain ⟨q, y, rfl, hq, hy, hyl⟩ := liveAt_range hla
        have ex := Lib.hid hy
        have hr := Lib.hid (treeBack_at HK.out (show toOf t q = q by simp [toOf, hla]) hy)
        have H1 := Lib.hid (show okB3 y.2.2 = true from HRR.out.bal hy)
        clear hla hy hyl
        have hq0 : (0 : Int) ≤ (q : Int) := by omega
        have hq5 : (q : Int) < 5 := by omega
        obtain ⟨e0, e1, e2, e3, e4⟩ := pre_at hh0 HP.out ex.out
        have e3 : x.cell? ⟨gO, q * 5 + 2 + 1, none⟩ = some (.int .i64 y.2.2.2.1) := e3
        have e4 : x.cell? ⟨gO, q * 5 + 2 + 2, none⟩ = some (.int .i64 y.2.2.2.2) := e4
        have fo := (blkcell hh0).2
        clear e0 e1
        go_wp2_with fail
        go_region_with (go_at_call 52; refine (implSumOf_r y.2.2 a _ (by exact H1.out) (by exact HA.out)).mono ?_; rintro e w4 ⟨rfl, hb⟩; have hh0 := keepblk hb hh0; have d0 := Below.keeps hb d0; have d1 := Below.keeps hb d1; have d2 := Below.keeps hb d2; have e2 := Below.keeps hb e2; have e3 := Below.keeps hb e3; have e4 := Below.keeps hb e4; have hs := hB.size; have hB := Below.trans hB.drew (hb.mono hs); clear hb; have fo := (blkcell hh0).2)
        all_goals
          have HS := Lib.hid (OwnE.setBal hBg hh0 HP.out ex.out (add33 y.2.2 a))
          have HBS := Lib.hid (below_set (b := gO) (o := q * 5 + 2 + 2) (below_set (b := gO) (o := q * 5 + 2 + 1) (below_set (b := gO) (o := q * 5 + 2) hB hBg (.int .i64 (add33 y.2.2 a).1)) hBg (.int .i64 (add33 y.2.2 a).2.1)) hBg (.int .i64 (add33 y.2.2 a).2.2))
          clear hh0 d0 d1 d2
          go_wp2
          go_ret2
          exact ⟨_, _, by rw [hr.out]; rfl, by rw [hr.out]; exact HS.out, HBS.out⟩
end Go.Proofs.Ytdgkfpcecppfdaa
