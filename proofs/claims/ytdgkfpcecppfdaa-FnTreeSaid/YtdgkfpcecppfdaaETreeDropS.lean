/- Contracts of TreeDrop. -/
import Derived.Test.YtdgkfpcecppfdaaETreeDropM
import Derived.Test.YtdgkfpcecppfdaaRegionG
import Derived.Deep.Cut
import Derived.Test.YtdgkfpcecppfdaaETreeBackS
namespace Go.Proofs.Ytdgkfpcecppfdaa
set_option linter.unusedSimpArgs false
set_option linter.unusedVariables false
open Go.RowKit
attribute [local go_sem ↓] Go.wp_at_zero Go.wp_at_succ

set_option maxHeartbeats 6400000 in
theorem specTreeDrop_any (A : Option Addr) (n c : Nat) (t : List El) (i : Int) (w : World) (hx : Els w A t) (hn : t.length = n) (hnb : n ≤ 1099511627776) :
    Calls Try.prog 33 #[.slice A n c, .int .i64 i] w (OutB (treeDrop t i).1 (treeDrop t i).2 n w) := by
  have HX := Lib.hid hx; have HN := Lib.hid hn
  have CP := Lib.hid (fun w' h => l6Copy_any A n c t w' h hn hnb)
  have C := Lib.hid (fun w' h => l6Live_any A n c t i w' h hn hnb)
  cases hl : (rightB t && liveAt t i)
  · have hr := Lib.hid (treeDrop_no (t := t) (i := i) (by simp [hl]))
    rw [hl] at C
    clear hx hn hl
    go_enter Try.func33, Try.ntmps33
    go_wp2_with fail
    refine (CP.out _ HX.out).mono ?_
    rintro e w1 ⟨A', c', rfl, ho, hB⟩
    have HO := Lib.hid ho
    have hs := hB.size
    clear ho
    go_wp2_with fail
    refine (C.out _ (HX.out.keep fun _ _ h => Below.keeps hB h)).mono ?_
    rintro e w2 ⟨rfl, hb2⟩
    have HO := Lib.hid (HO.out.below hb2)
    have hB := Below.trans hB (hb2.mono hs)
    have hs := hB.size
    clear hb2
    go_wp2
    go_ret2
    exact ⟨_, _, by rw [hr.out]; rfl, by rw [hr.out]; exact HO.out, hB⟩
  · have hR := (Bool.and_eq_true_iff.1 hl).1
    have hla := (Bool.and_eq_true_iff.1 hl).2
    have hRR := (rightB_iff t).1 hR
    obtain rfl : n = 5 := by rw [← hn]; exact hRR.len
    rw [hl] at C
    by_cases h0 : i = 0
    · have hr := Lib.hid (treeDrop_no (t := t) (i := i) (by simp [h0]))
      have h1 : ((i : Int) == 0) = true := by simp [h0]
      have H0 := Lib.hid h0
      clear hx hn hR h0 hRR hla hl
      go_enter Try.func33, Try.ntmps33
      go_wp2_with fail
      refine (CP.out _ HX.out).mono ?_
      rintro e w1 ⟨A', c', rfl, ho, hB⟩
      have HO := Lib.hid ho
      have hs := hB.size
      clear ho
      go_wp2_with fail
      refine (C.out _ (HX.out.keep fun _ _ h => Below.keeps hB h)).mono ?_
      rintro e w2 ⟨rfl, hb2⟩
      have HO := Lib.hid (HO.out.below hb2)
      have hB := Below.trans hB (hb2.mono hs)
      have hs := hB.size
      clear hb2
      go_wp2
      go_ret2
      exact ⟨_, _, by rw [hr.out]; rfl, by rw [hr.out]; exact HO.out, hB⟩
    · have h1 : ((i : Int) == 0) = false := by simp [h0]
      obtain ⟨q, z, rfl, hq, hz, hzl⟩ := liveAt_range hla
      have hq1 : q ≠ 0 := by omega
      obtain ⟨p, y, hp, hzp, hy, hyl, hpq⟩ := hRR.up hq hz hzl hq1
      have hr := Lib.hid (treeDrop_at hR hq1 hz hzl hq hy hzp)
      have H1 := Lib.hid (show okB3 y.2.2 = true from hRR.bal hy); have H2 := Lib.hid (show okB3 z.2.2 = true from hRR.bal hz)
      have H3 := Lib.hid (hRR.bal_two hy hz hpq)
      have AD := Lib.hid (fun w' => show Calls Try.prog 59 #[amt3 y.2.2, amt3 z.2.2] w' fun e w2 => e = .returned (.tuple #[amt3 (add33 y.2.2 z.2.2), .bool true]) ∧ Below w'.heap.size w' w2 by
        have h := specAmtAdd_r y.2.2 z.2.2 w'
        rw [addR_yes H1.out H2.out H3.out] at h
        exact h)
      have EZ := Lib.hid hz; have EY := Lib.hid hy
      obtain ⟨b, off, rfl, hbx, c0, c1, c2, c3, c4⟩ := hx.at_ hz
      rw [hzp] at c1
      obtain ⟨bb, off2, hA2, -, -, -, y2, y3, y4⟩ := hx.at_ hy
      obtain ⟨rfl, rfl⟩ : b = bb ∧ off = off2 := by injection hA2 with hA2; injection hA2 with h1 h2; exact ⟨h1, h2⟩
      have hq0 : (0 : Int) ≤ (q : Int) := by omega
      have hq5 : (q : Int) < 5 := by omega
      have hp0 : (0 : Int) ≤ (p : Int) := by omega
      have hp5 : (p : Int) < 5 := by omega
      have HPQ := Lib.hid hpq
      clear hx hn hR hRR hz hy hzl hyl hzp hpq hq1 h0 hA2 c0 hl hla
      go_enter Try.func33, Try.ntmps33
      go_wp2_with fail
      refine (CP.out _ HX.out).mono ?_
      rintro e w1 ⟨A', c', rfl, ho, hB⟩
      have HO := Lib.hid ho
      have hs := hB.size
      clear ho
      go_wp2_with fail
      refine (C.out _ (HX.out.keep fun _ _ h => Below.keeps hB h)).mono ?_
      rintro e w2 ⟨rfl, hb2⟩
      have HO := Lib.hid (HO.out.below hb2)
      have hB := Below.trans hB (hb2.mono hs)
      have hs := hB.size
      clear hb2
      obtain ⟨gO, rfl, hBg, hob⟩ := HO.out.ob HN.out
      have HOB := Lib.hid hob
      clear hob HO
      have c1 := Below.keeps hB c1
      have c2 := Below.keeps hB c2
      have c3 := Below.keeps hB c3
      have c4 := Below.keeps hB c4
      have y2 := Below.keeps hB y2
      have y3 := Below.keeps hB y3
      have y4 := Below.keeps hB y4
      go_wp2_with fail
      refine wp_region_fr (U := Value × Value × Value × Value × Value × Value × Value × Value × Value × Value × Value × Value × Value × Value × Value × Value) [[], [], [0, 1], [2], [3], [], [], [5, 6], [7], [8], [4, 9], [10], [11], [11], [], [14, 12, 10, 0, 1, 2, 3, 4, 5, 6, 7, 8, 9, 10, 11, 12, 14], [13, 15, 0, 1, 2, 3, 4, 5, 6, 7, 8, 9, 10, 11, 12, 13, 14, 15]] (fun u => match u with | (u28, u29, u30, u31, u32, u33, u34, u35, u36, u37, u38, u27, u39, u40, u8, u9) => [(28, u28), (29, u29), (30, u30), (31, u31), (32, u32), (33, u33), (34, u34), (35, u35), (36, u36), (37, u37), (38, u38), (27, u27), (39, u39), (40, u40), (8, u8), (9, u9)]) (undef, undef, undef, undef, undef, undef, undef, undef, undef, undef, undef, undef, undef, undef, undef, undef) (fun l u x => match u with | (u28, u29, u30, u31, u32, u33, u34, u35, u36, u37, u38, u27, u39, u40, u8, u9) => (x.cell? ⟨b, off + q * 5 + 2, none⟩ = some (.int .i64 z.2.2.1)) ∧ (x.cell? ⟨b, off + q * 5 + 3, none⟩ = some (.int .i64 z.2.2.2.1)) ∧ (x.cell? ⟨b, off + q * 5 + 4, none⟩ = some (.int .i64 z.2.2.2.2)) ∧ (x.cell? ⟨b, off + p * 5 + 2, none⟩ = some (.int .i64 y.2.2.1)) ∧ (x.cell? ⟨b, off + p * 5 + 3, none⟩ = some (.int .i64 y.2.2.2.1)) ∧ (x.cell? ⟨b, off + p * 5 + 4, none⟩ = some (.int .i64 y.2.2.2.2)) ∧ (Hid (OB x gO t)) ∧ (Below w.heap.size w x) ∧ Hid (l.getD 0 false = true → u28 = .slice (some ⟨b, off, none⟩) 5 c) ∧ Hid (l.getD 1 false = true → u29 = .int .i64 (p : Int)) ∧ Hid (l.getD 2 false = true → u30 = .pointer (some ⟨b, off + p * 5, none⟩)) ∧ Hid (l.getD 3 false = true → u31 = .pointer (some ⟨b, off + p * 5 + 2, none⟩)) ∧ Hid (l.getD 4 false = true → u32 = amt3 y.2.2) ∧ Hid (l.getD 5 false = true → u33 = .slice (some ⟨b, off, none⟩) 5 c) ∧ Hid (l.getD 6 false = true → u34 = .int .i64 (q : Int)) ∧ Hid (l.getD 7 false = true → u35 = .pointer (some ⟨b, off + q * 5, none⟩)) ∧ Hid (l.getD 8 false = true → u36 = .pointer (some ⟨b, off + q * 5 + 2, none⟩)) ∧ Hid (l.getD 9 false = true → u37 = amt3 z.2.2) ∧ Hid (l.getD 10 false = true → u38 = .tuple #[amt3 (add33 y.2.2 z.2.2), .bool true]) ∧ Hid (l.getD 11 false = true → u27 = .tuple #[amt3 (add33 y.2.2 z.2.2), .bool true]) ∧ Hid (l.getD 12 false = true → u39 = amt3 (add33 y.2.2 z.2.2)) ∧ Hid (l.getD 13 false = true → u40 = .bool true) ∧ Hid (l.getD 14 false = true → ∃ (g : Nat) (x0 x1 x2 : Value), u8 = .pointer (some ⟨g, 0, none⟩) ∧ (w.heap.size ≤ g ∧ gO < g) ∧ x.heap[g]? = some (.cells #[x0, x1, x2] 27 (0, 0))) ∧ Hid (l.getD 15 false = true → l.getD 14 false = true ∧ (∃ g : Nat, u8 = .pointer (some ⟨g, 0, none⟩) ∧ (w.heap.size ≤ g ∧ gO < g) ∧ x.heap[g]? = some (.cells #[.int .i64 (add33 y.2.2 z.2.2).1, .int .i64 (add33 y.2.2 z.2.2).2.1, .int .i64 (add33 y.2.2 z.2.2).2.2] 27 (0, 0)))) ∧ Hid (l.getD 16 false = true → u9 = .bool true)) (by kernel_rfl) (by kernel_rfl) ?_ ?_ ?_ ?_
      · kernel_rfl
      · exact ⟨(by exact c2), (by exact c3), (by exact c4), (by exact y2), (by exact y3), (by exact y4), (by exact Lib.hid HOB.out.drew), (by exact hB.drew), fun h => repl_off h, fun h => repl_off h, fun h => repl_off h, fun h => repl_off h, fun h => repl_off h, fun h => repl_off h, fun h => repl_off h, fun h => repl_off h, fun h => repl_off h, fun h => repl_off h, fun h => repl_off h, fun h => repl_off h, fun h => repl_off h, fun h => repl_off h, fun h => repl_off h, fun h => repl_off h, fun h => repl_off h⟩
      · refine ⟨?_, ?_, ?_, ?_, ?_, ?_, ?_, ?_, ?_, ?_, ?_, ?_, ?_, ?_, ?_, ?_, ?_, trivial⟩
        · refine ⟨rfl, ?_⟩
          rintro l ⟨u28, u29, u30, u31, u32, u33, u34, u35, u36, u37, u38, u27, u39, u40, u8, u9⟩ x ⟨c2, c3, c4, y2, y3, y4, HOB, hB, g0, g1, g2, g3, g4, g5, g6, g7, g8, g9, g10, g11, g12, g13, g14, g15, g16⟩ hun hpre K hK
          clear hpre
          refine ⟨?_⟩
          simp only [Prod.forall, putAll, List.setIfInBounds_toArray, List.set_cons_zero, List.set_cons_succ] at hK ⊢
          go_simp
          exact hK _ _ _ _ _ _ _ _ _ _ _ _ _ _ _ _ _ ⟨c2, c3, c4, y2, y3, y4, HOB, hB, fun _ => rfl, fun h => g1.out (on_set_other (by decide) h), fun h => g2.out (on_set_other (by decide) h), fun h => g3.out (on_set_other (by decide) h), fun h => g4.out (on_set_other (by decide) h), fun h => g5.out (on_set_other (by decide) h), fun h => g6.out (on_set_other (by decide) h), fun h => g7.out (on_set_other (by decide) h), fun h => g8.out (on_set_other (by decide) h), fun h => g9.out (on_set_other (by decide) h), fun h => g10.out (on_set_other (by decide) h), fun h => g11.out (on_set_other (by decide) h), fun h => g12.out (on_set_other (by decide) h), fun h => g13.out (on_set_other (by decide) h), fun h => g14.out (on_set_other (by decide) h), fun h => (fun ⟨o14, h2⟩ => ⟨on_keep o14, h2⟩) (g15.out (on_set_other (by decide) h)), fun h => g16.out (on_set_other (by decide) h)⟩
        · refine ⟨rfl, ?_⟩
          rintro l ⟨u28, u29, u30, u31, u32, u33, u34, u35, u36, u37, u38, u27, u39, u40, u8, u9⟩ x ⟨c2, c3, c4, y2, y3, y4, HOB, hB, g0, g1, g2, g3, g4, g5, g6, g7, g8, g9, g10, g11, g12, g13, g14, g15, g16⟩ hun hpre K hK
          clear hpre
          refine ⟨?_⟩
          simp only [Prod.forall, putAll, List.setIfInBounds_toArray, List.set_cons_zero, List.set_cons_succ] at hK ⊢
          go_simp
          exact hK _ _ _ _ _ _ _ _ _ _ _ _ _ _ _ _ _ ⟨c2, c3, c4, y2, y3, y4, HOB, hB, fun h => g0.out (on_set_other (by decide) h), fun _ => rfl, fun h => g2.out (on_set_other (by decide) h), fun h => g3.out (on_set_other (by decide) h), fun h => g4.out (on_set_other (by decide) h), fun h => g5.out (on_set_other (by decide) h), fun h => g6.out (on_set_other (by decide) h), fun h => g7.out (on_set_other (by decide) h), fun h => g8.out (on_set_other (by decide) h), fun h => g9.out (on_set_other (by decide) h), fun h => g10.out (on_set_other (by decide) h), fun h => g11.out (on_set_other (by decide) h), fun h => g12.out (on_set_other (by decide) h), fun h => g13.out (on_set_other (by decide) h), fun h => g14.out (on_set_other (by decide) h), fun h => (fun ⟨o14, h2⟩ => ⟨on_keep o14, h2⟩) (g15.out (on_set_other (by decide) h)), fun h => g16.out (on_set_other (by decide) h)⟩
        · refine ⟨rfl, ?_⟩
          rintro l ⟨u28, u29, u30, u31, u32, u33, u34, u35, u36, u37, u38, u27, u39, u40, u8, u9⟩ x ⟨c2, c3, c4, y2, y3, y4, HOB, hB, g0, g1, g2, g3, g4, g5, g6, g7, g8, g9, g10, g11, g12, g13, g14, g15, g16⟩ hun hpre K hK
          obtain ⟨e0, e1, -⟩ := hpre
          obtain rfl := g0.out e0
          obtain rfl := g1.out e1
          refine ⟨?_⟩
          simp only [Prod.forall, putAll, List.setIfInBounds_toArray, List.set_cons_zero, List.set_cons_succ] at hK ⊢
          go_simp
          exact hK _ _ _ _ _ _ _ _ _ _ _ _ _ _ _ _ _ ⟨c2, c3, c4, y2, y3, y4, HOB, hB, fun h => g0.out (on_set_other (by decide) h), fun h => g1.out (on_set_other (by decide) h), fun _ => rfl, fun h => g3.out (on_set_other (by decide) h), fun h => g4.out (on_set_other (by decide) h), fun h => g5.out (on_set_other (by decide) h), fun h => g6.out (on_set_other (by decide) h), fun h => g7.out (on_set_other (by decide) h), fun h => g8.out (on_set_other (by decide) h), fun h => g9.out (on_set_other (by decide) h), fun h => g10.out (on_set_other (by decide) h), fun h => g11.out (on_set_other (by decide) h), fun h => g12.out (on_set_other (by decide) h), fun h => g13.out (on_set_other (by decide) h), fun h => g14.out (on_set_other (by decide) h), fun h => (fun ⟨o14, h2⟩ => ⟨on_keep o14, h2⟩) (g15.out (on_set_other (by decide) h)), fun h => g16.out (on_set_other (by decide) h)⟩
        · refine ⟨rfl, ?_⟩
          rintro l ⟨u28, u29, u30, u31, u32, u33, u34, u35, u36, u37, u38, u27, u39, u40, u8, u9⟩ x ⟨c2, c3, c4, y2, y3, y4, HOB, hB, g0, g1, g2, g3, g4, g5, g6, g7, g8, g9, g10, g11, g12, g13, g14, g15, g16⟩ hun hpre K hK
          obtain ⟨e2, -⟩ := hpre
          obtain rfl := g2.out e2
          refine ⟨?_⟩
          simp only [Prod.forall, putAll, List.setIfInBounds_toArray, List.set_cons_zero, List.set_cons_succ] at hK ⊢
          go_simp
          exact hK _ _ _ _ _ _ _ _ _ _ _ _ _ _ _ _ _ ⟨c2, c3, c4, y2, y3, y4, HOB, hB, fun h => g0.out (on_set_other (by decide) h), fun h => g1.out (on_set_other (by decide) h), fun h => g2.out (on_set_other (by decide) h), fun _ => rfl, fun h => g4.out (on_set_other (by decide) h), fun h => g5.out (on_set_other (by decide) h), fun h => g6.out (on_set_other (by decide) h), fun h => g7.out (on_set_other (by decide) h), fun h => g8.out (on_set_other (by decide) h), fun h => g9.out (on_set_other (by decide) h), fun h => g10.out (on_set_other (by decide) h), fun h => g11.out (on_set_other (by decide) h), fun h => g12.out (on_set_other (by decide) h), fun h => g13.out (on_set_other (by decide) h), fun h => g14.out (on_set_other (by decide) h), fun h => (fun ⟨o14, h2⟩ => ⟨on_keep o14, h2⟩) (g15.out (on_set_other (by decide) h)), fun h => g16.out (on_set_other (by decide) h)⟩
        · refine ⟨rfl, ?_⟩
          rintro l ⟨u28, u29, u30, u31, u32, u33, u34, u35, u36, u37, u38, u27, u39, u40, u8, u9⟩ x ⟨c2, c3, c4, y2, y3, y4, HOB, hB, g0, g1, g2, g3, g4, g5, g6, g7, g8, g9, g10, g11, g12, g13, g14, g15, g16⟩ hun hpre K hK
          obtain ⟨e3, -⟩ := hpre
          obtain rfl := g3.out e3
          refine ⟨?_⟩
          simp only [Prod.forall, putAll, List.setIfInBounds_toArray, List.set_cons_zero, List.set_cons_succ] at hK ⊢
          go_simp
          exact hK _ _ _ _ _ _ _ _ _ _ _ _ _ _ _ _ _ ⟨c2, c3, c4, y2, y3, y4, HOB, hB, fun h => g0.out (on_set_other (by decide) h), fun h => g1.out (on_set_other (by decide) h), fun h => g2.out (on_set_other (by decide) h), fun h => g3.out (on_set_other (by decide) h), fun _ => rfl, fun h => g5.out (on_set_other (by decide) h), fun h => g6.out (on_set_other (by decide) h), fun h => g7.out (on_set_other (by decide) h), fun h => g8.out (on_set_other (by decide) h), fun h => g9.out (on_set_other (by decide) h), fun h => g10.out (on_set_other (by decide) h), fun h => g11.out (on_set_other (by decide) h), fun h => g12.out (on_set_other (by decide) h), fun h => g13.out (on_set_other (by decide) h), fun h => g14.out (on_set_other (by decide) h), fun h => (fun ⟨o14, h2⟩ => ⟨on_keep o14, h2⟩) (g15.out (on_set_other (by decide) h)), fun h => g16.out (on_set_other (by decide) h)⟩
        · refine ⟨rfl, ?_⟩
          rintro l ⟨u28, u29, u30, u31, u32, u33, u34, u35, u36, u37, u38, u27, u39, u40, u8, u9⟩ x ⟨c2, c3, c4, y2, y3, y4, HOB, hB, g0, g1, g2, g3, g4, g5, g6, g7, g8, g9, g10, g11, g12, g13, g14, g15, g16⟩ hun hpre K hK
          clear hpre
          refine ⟨?_⟩
          simp only [Prod.forall, putAll, List.setIfInBounds_toArray, List.set_cons_zero, List.set_cons_succ] at hK ⊢
          go_simp
          exact hK _ _ _ _ _ _ _ _ _ _ _ _ _ _ _ _ _ ⟨c2, c3, c4, y2, y3, y4, HOB, hB, fun h => g0.out (on_set_other (by decide) h), fun h => g1.out (on_set_other (by decide) h), fun h => g2.out (on_set_other (by decide) h), fun h => g3.out (on_set_other (by decide) h), fun h => g4.out (on_set_other (by decide) h), fun _ => rfl, fun h => g6.out (on_set_other (by decide) h), fun h => g7.out (on_set_other (by decide) h), fun h => g8.out (on_set_other (by decide) h), fun h => g9.out (on_set_other (by decide) h), fun h => g10.out (on_set_other (by decide) h), fun h => g11.out (on_set_other (by decide) h), fun h => g12.out (on_set_other (by decide) h), fun h => g13.out (on_set_other (by decide) h), fun h => g14.out (on_set_other (by decide) h), fun h => (fun ⟨o14, h2⟩ => ⟨on_keep o14, h2⟩) (g15.out (on_set_other (by decide) h)), fun h => g16.out (on_set_other (by decide) h)⟩
        · refine ⟨rfl, ?_⟩
          rintro l ⟨u28, u29, u30, u31, u32, u33, u34, u35, u36, u37, u38, u27, u39, u40, u8, u9⟩ x ⟨c2, c3, c4, y2, y3, y4, HOB, hB, g0, g1, g2, g3, g4, g5, g6, g7, g8, g9, g10, g11, g12, g13, g14, g15, g16⟩ hun hpre K hK
          clear hpre
          refine ⟨?_⟩
          simp only [Prod.forall, putAll, List.setIfInBounds_toArray, List.set_cons_zero, List.set_cons_succ] at hK ⊢
          go_simp
          exact hK _ _ _ _ _ _ _ _ _ _ _ _ _ _ _ _ _ ⟨c2, c3, c4, y2, y3, y4, HOB, hB, fun h => g0.out (on_set_other (by decide) h), fun h => g1.out (on_set_other (by decide) h), fun h => g2.out (on_set_other (by decide) h), fun h => g3.out (on_set_other (by decide) h), fun h => g4.out (on_set_other (by decide) h), fun h => g5.out (on_set_other (by decide) h), fun _ => rfl, fun h => g7.out (on_set_other (by decide) h), fun h => g8.out (on_set_other (by decide) h), fun h => g9.out (on_set_other (by decide) h), fun h => g10.out (on_set_other (by decide) h), fun h => g11.out (on_set_other (by decide) h), fun h => g12.out (on_set_other (by decide) h), fun h => g13.out (on_set_other (by decide) h), fun h => g14.out (on_set_other (by decide) h), fun h => (fun ⟨o14, h2⟩ => ⟨on_keep o14, h2⟩) (g15.out (on_set_other (by decide) h)), fun h => g16.out (on_set_other (by decide) h)⟩
        · refine ⟨rfl, ?_⟩
          rintro l ⟨u28, u29, u30, u31, u32, u33, u34, u35, u36, u37, u38, u27, u39, u40, u8, u9⟩ x ⟨c2, c3, c4, y2, y3, y4, HOB, hB, g0, g1, g2, g3, g4, g5, g6, g7, g8, g9, g10, g11, g12, g13, g14, g15, g16⟩ hun hpre K hK
          obtain ⟨e5, e6, -⟩ := hpre
          obtain rfl := g5.out e5
          obtain rfl := g6.out e6
          refine ⟨?_⟩
          simp only [Prod.forall, putAll, List.setIfInBounds_toArray, List.set_cons_zero, List.set_cons_succ] at hK ⊢
          go_simp
          exact hK _ _ _ _ _ _ _ _ _ _ _ _ _ _ _ _ _ ⟨c2, c3, c4, y2, y3, y4, HOB, hB, fun h => g0.out (on_set_other (by decide) h), fun h => g1.out (on_set_other (by decide) h), fun h => g2.out (on_set_other (by decide) h), fun h => g3.out (on_set_other (by decide) h), fun h => g4.out (on_set_other (by decide) h), fun h => g5.out (on_set_other (by decide) h), fun h => g6.out (on_set_other (by decide) h), fun _ => rfl, fun h => g8.out (on_set_other (by decide) h), fun h => g9.out (on_set_other (by decide) h), fun h => g10.out (on_set_other (by decide) h), fun h => g11.out (on_set_other (by decide) h), fun h => g12.out (on_set_other (by decide) h), fun h => g13.out (on_set_other (by decide) h), fun h => g14.out (on_set_other (by decide) h), fun h => (fun ⟨o14, h2⟩ => ⟨on_keep o14, h2⟩) (g15.out (on_set_other (by decide) h)), fun h => g16.out (on_set_other (by decide) h)⟩
        · refine ⟨rfl, ?_⟩
          rintro l ⟨u28, u29, u30, u31, u32, u33, u34, u35, u36, u37, u38, u27, u39, u40, u8, u9⟩ x ⟨c2, c3, c4, y2, y3, y4, HOB, hB, g0, g1, g2, g3, g4, g5, g6, g7, g8, g9, g10, g11, g12, g13, g14, g15, g16⟩ hun hpre K hK
          obtain ⟨e7, -⟩ := hpre
          obtain rfl := g7.out e7
          refine ⟨?_⟩
          simp only [Prod.forall, putAll, List.setIfInBounds_toArray, List.set_cons_zero, List.set_cons_succ] at hK ⊢
          go_simp
          exact hK _ _ _ _ _ _ _ _ _ _ _ _ _ _ _ _ _ ⟨c2, c3, c4, y2, y3, y4, HOB, hB, fun h => g0.out (on_set_other (by decide) h), fun h => g1.out (on_set_other (by decide) h), fun h => g2.out (on_set_other (by decide) h), fun h => g3.out (on_set_other (by decide) h), fun h => g4.out (on_set_other (by decide) h), fun h => g5.out (on_set_other (by decide) h), fun h => g6.out (on_set_other (by decide) h), fun h => g7.out (on_set_other (by decide) h), fun _ => rfl, fun h => g9.out (on_set_other (by decide) h), fun h => g10.out (on_set_other (by decide) h), fun h => g11.out (on_set_other (by decide) h), fun h => g12.out (on_set_other (by decide) h), fun h => g13.out (on_set_other (by decide) h), fun h => g14.out (on_set_other (by decide) h), fun h => (fun ⟨o14, h2⟩ => ⟨on_keep o14, h2⟩) (g15.out (on_set_other (by decide) h)), fun h => g16.out (on_set_other (by decide) h)⟩
        · refine ⟨rfl, ?_⟩
          rintro l ⟨u28, u29, u30, u31, u32, u33, u34, u35, u36, u37, u38, u27, u39, u40, u8, u9⟩ x ⟨c2, c3, c4, y2, y3, y4, HOB, hB, g0, g1, g2, g3, g4, g5, g6, g7, g8, g9, g10, g11, g12, g13, g14, g15, g16⟩ hun hpre K hK
          obtain ⟨e8, -⟩ := hpre
          obtain rfl := g8.out e8
          refine ⟨?_⟩
          simp only [Prod.forall, putAll, List.setIfInBounds_toArray, List.set_cons_zero, List.set_cons_succ] at hK ⊢
          go_simp
          exact hK _ _ _ _ _ _ _ _ _ _ _ _ _ _ _ _ _ ⟨c2, c3, c4, y2, y3, y4, HOB, hB, fun h => g0.out (on_set_other (by decide) h), fun h => g1.out (on_set_other (by decide) h), fun h => g2.out (on_set_other (by decide) h), fun h => g3.out (on_set_other (by decide) h), fun h => g4.out (on_set_other (by decide) h), fun h => g5.out (on_set_other (by decide) h), fun h => g6.out (on_set_other (by decide) h), fun h => g7.out (on_set_other (by decide) h), fun h => g8.out (on_set_other (by decide) h), fun _ => rfl, fun h => g10.out (on_set_other (by decide) h), fun h => g11.out (on_set_other (by decide) h), fun h => g12.out (on_set_other (by decide) h), fun h => g13.out (on_set_other (by decide) h), fun h => g14.out (on_set_other (by decide) h), fun h => (fun ⟨o14, h2⟩ => ⟨on_keep o14, h2⟩) (g15.out (on_set_other (by decide) h)), fun h => g16.out (on_set_other (by decide) h)⟩
        · refine ⟨rfl, ?_⟩
          rintro l ⟨u28, u29, u30, u31, u32, u33, u34, u35, u36, u37, u38, u27, u39, u40, u8, u9⟩ x ⟨c2, c3, c4, y2, y3, y4, HOB, hB, g0, g1, g2, g3, g4, g5, g6, g7, g8, g9, g10, g11, g12, g13, g14, g15, g16⟩ hun hpre K hK
          obtain ⟨e4, e9, -⟩ := hpre
          obtain rfl := g4.out e4
          obtain rfl := g9.out e9
          refine ⟨?_⟩
          simp only [Prod.forall, putAll, List.setIfInBounds_toArray, List.set_cons_zero, List.set_cons_succ] at hK ⊢
          go_simp
          refine (AD.out _).mono ?_
          rintro e x2 ⟨rfl, hb⟩
          have hs := hB.size
          exact hK _ _ _ _ _ _ _ _ _ _ _ _ _ _ _ _ _ ⟨Below.keeps hb (c2), Below.keeps hb (c3), Below.keeps hb (c4), Below.keeps hb (y2), Below.keeps hb (y3), Below.keeps hb (y4), Lib.hid (HOB.out.below hb), hB.trans (hb.mono hs), fun h => g0.out (on_set_other (by decide) h), fun h => g1.out (on_set_other (by decide) h), fun h => g2.out (on_set_other (by decide) h), fun h => g3.out (on_set_other (by decide) h), fun h => g4.out (on_set_other (by decide) h), fun h => g5.out (on_set_other (by decide) h), fun h => g6.out (on_set_other (by decide) h), fun h => g7.out (on_set_other (by decide) h), fun h => g8.out (on_set_other (by decide) h), fun h => g9.out (on_set_other (by decide) h), fun _ => rfl, fun h => g11.out (on_set_other (by decide) h), fun h => g12.out (on_set_other (by decide) h), fun h => g13.out (on_set_other (by decide) h), fun h => (fun ⟨ga, x0, x1, x2, h1, h2, h3⟩ => ⟨ga, x0, x1, x2, h1, h2, keepblk hb h3⟩) (g14.out (on_set_other (by decide) h)), fun h => (fun ⟨o14, h2⟩ => ⟨on_keep o14, (fun ⟨ga, h1, h2, h3⟩ => ⟨ga, h1, h2, keepblk hb h3⟩) h2⟩) (g15.out (on_set_other (by decide) h)), fun h => g16.out (on_set_other (by decide) h)⟩
        · refine ⟨rfl, ?_⟩
          rintro l ⟨u28, u29, u30, u31, u32, u33, u34, u35, u36, u37, u38, u27, u39, u40, u8, u9⟩ x ⟨c2, c3, c4, y2, y3, y4, HOB, hB, g0, g1, g2, g3, g4, g5, g6, g7, g8, g9, g10, g11, g12, g13, g14, g15, g16⟩ hun hpre K hK
          obtain ⟨e10, -⟩ := hpre
          obtain rfl := g10.out e10
          refine ⟨?_⟩
          simp only [Prod.forall, putAll, List.setIfInBounds_toArray, List.set_cons_zero, List.set_cons_succ] at hK ⊢
          go_simp
          exact hK _ _ _ _ _ _ _ _ _ _ _ _ _ _ _ _ _ ⟨c2, c3, c4, y2, y3, y4, HOB, hB, fun h => g0.out (on_set_other (by decide) h), fun h => g1.out (on_set_other (by decide) h), fun h => g2.out (on_set_other (by decide) h), fun h => g3.out (on_set_other (by decide) h), fun h => g4.out (on_set_other (by decide) h), fun h => g5.out (on_set_other (by decide) h), fun h => g6.out (on_set_other (by decide) h), fun h => g7.out (on_set_other (by decide) h), fun h => g8.out (on_set_other (by decide) h), fun h => g9.out (on_set_other (by decide) h), fun h => g10.out (on_set_other (by decide) h), fun _ => rfl, fun h => g12.out (on_set_other (by decide) h), fun h => g13.out (on_set_other (by decide) h), fun h => g14.out (on_set_other (by decide) h), fun h => (fun ⟨o14, h2⟩ => ⟨on_keep o14, h2⟩) (g15.out (on_set_other (by decide) h)), fun h => g16.out (on_set_other (by decide) h)⟩
        · refine ⟨rfl, ?_⟩
          rintro l ⟨u28, u29, u30, u31, u32, u33, u34, u35, u36, u37, u38, u27, u39, u40, u8, u9⟩ x ⟨c2, c3, c4, y2, y3, y4, HOB, hB, g0, g1, g2, g3, g4, g5, g6, g7, g8, g9, g10, g11, g12, g13, g14, g15, g16⟩ hun hpre K hK
          obtain ⟨e11, -⟩ := hpre
          obtain rfl := g11.out e11
          refine ⟨?_⟩
          simp only [Prod.forall, putAll, List.setIfInBounds_toArray, List.set_cons_zero, List.set_cons_succ] at hK ⊢
          go_simp
          exact hK _ _ _ _ _ _ _ _ _ _ _ _ _ _ _ _ _ ⟨c2, c3, c4, y2, y3, y4, HOB, hB, fun h => g0.out (on_set_other (by decide) h), fun h => g1.out (on_set_other (by decide) h), fun h => g2.out (on_set_other (by decide) h), fun h => g3.out (on_set_other (by decide) h), fun h => g4.out (on_set_other (by decide) h), fun h => g5.out (on_set_other (by decide) h), fun h => g6.out (on_set_other (by decide) h), fun h => g7.out (on_set_other (by decide) h), fun h => g8.out (on_set_other (by decide) h), fun h => g9.out (on_set_other (by decide) h), fun h => g10.out (on_set_other (by decide) h), fun h => g11.out (on_set_other (by decide) h), fun _ => rfl, fun h => g13.out (on_set_other (by decide) h), fun h => g14.out (on_set_other (by decide) h), fun h => (fun ⟨o14, h2⟩ => ⟨on_keep o14, h2⟩) (g15.out (on_set_other (by decide) h)), fun h => g16.out (on_set_other (by decide) h)⟩
        · refine ⟨rfl, ?_⟩
          rintro l ⟨u28, u29, u30, u31, u32, u33, u34, u35, u36, u37, u38, u27, u39, u40, u8, u9⟩ x ⟨c2, c3, c4, y2, y3, y4, HOB, hB, g0, g1, g2, g3, g4, g5, g6, g7, g8, g9, g10, g11, g12, g13, g14, g15, g16⟩ hun hpre K hK
          obtain ⟨e11, -⟩ := hpre
          obtain rfl := g11.out e11
          refine ⟨?_⟩
          simp only [Prod.forall, putAll, List.setIfInBounds_toArray, List.set_cons_zero, List.set_cons_succ] at hK ⊢
          go_simp
          exact hK _ _ _ _ _ _ _ _ _ _ _ _ _ _ _ _ _ ⟨c2, c3, c4, y2, y3, y4, HOB, hB, fun h => g0.out (on_set_other (by decide) h), fun h => g1.out (on_set_other (by decide) h), fun h => g2.out (on_set_other (by decide) h), fun h => g3.out (on_set_other (by decide) h), fun h => g4.out (on_set_other (by decide) h), fun h => g5.out (on_set_other (by decide) h), fun h => g6.out (on_set_other (by decide) h), fun h => g7.out (on_set_other (by decide) h), fun h => g8.out (on_set_other (by decide) h), fun h => g9.out (on_set_other (by decide) h), fun h => g10.out (on_set_other (by decide) h), fun h => g11.out (on_set_other (by decide) h), fun h => g12.out (on_set_other (by decide) h), fun _ => rfl, fun h => g14.out (on_set_other (by decide) h), fun h => (fun ⟨o14, h2⟩ => ⟨on_keep o14, h2⟩) (g15.out (on_set_other (by decide) h)), fun h => g16.out (on_set_other (by decide) h)⟩
        · refine ⟨rfl, ?_⟩
          rintro l ⟨u28, u29, u30, u31, u32, u33, u34, u35, u36, u37, u38, u27, u39, u40, u8, u9⟩ x ⟨c2, c3, c4, y2, y3, y4, HOB, hB, g0, g1, g2, g3, g4, g5, g6, g7, g8, g9, g10, g11, g12, g13, g14, g15, g16⟩ hun hpre K hK
          clear hpre
          refine ⟨?_⟩
          simp only [Prod.forall, putAll, List.setIfInBounds_toArray, List.set_cons_zero, List.set_cons_succ] at hK ⊢
          have hs := hB.size
          have hlt : gO < x.heap.size := HOB.out.lt
          go_simp
          exact hK _ _ _ _ _ _ _ _ _ _ _ _ _ _ _ _ _ ⟨cell_alloc_ (c2), cell_alloc_ (c3), cell_alloc_ (c4), cell_alloc_ (y2), cell_alloc_ (y3), cell_alloc_ (y4), Lib.hid (HOB.out.alloc _), hB.alloc hs _, fun h => g0.out (on_set_other (by decide) h), fun h => g1.out (on_set_other (by decide) h), fun h => g2.out (on_set_other (by decide) h), fun h => g3.out (on_set_other (by decide) h), fun h => g4.out (on_set_other (by decide) h), fun h => g5.out (on_set_other (by decide) h), fun h => g6.out (on_set_other (by decide) h), fun h => g7.out (on_set_other (by decide) h), fun h => g8.out (on_set_other (by decide) h), fun h => g9.out (on_set_other (by decide) h), fun h => g10.out (on_set_other (by decide) h), fun h => g11.out (on_set_other (by decide) h), fun h => g12.out (on_set_other (by decide) h), fun h => g13.out (on_set_other (by decide) h), fun _ => ⟨_, _, _, _, rfl, ⟨hs, hlt⟩, heap_alloc_new x _⟩, fun h => off_of_on hun (g15.out (on_set_other (by decide) h)).1, fun h => g16.out (on_set_other (by decide) h)⟩
        · refine ⟨rfl, ?_⟩
          rintro l ⟨u28, u29, u30, u31, u32, u33, u34, u35, u36, u37, u38, u27, u39, u40, u8, u9⟩ x ⟨c2, c3, c4, y2, y3, y4, HOB, hB, g0, g1, g2, g3, g4, g5, g6, g7, g8, g9, g10, g11, g12, g13, g14, g15, g16⟩ hun hpre K hK
          obtain ⟨e14, e12, e10, e0, e1, e2, e3, e4, e5, e6, e7, e8, e9, _, e11, _, _, -⟩ := hpre
          obtain rfl := g0.out e0
          obtain rfl := g1.out e1
          obtain rfl := g2.out e2
          obtain rfl := g3.out e3
          obtain rfl := g4.out e4
          obtain rfl := g5.out e5
          obtain rfl := g6.out e6
          obtain rfl := g7.out e7
          obtain rfl := g8.out e8
          obtain rfl := g9.out e9
          obtain rfl := g10.out e10
          obtain rfl := g11.out e11
          obtain rfl := g12.out e12
          obtain ⟨gb, x0, x1, x2, rfl, hgs, hh⟩ := g14.out e14
          refine ⟨?_⟩
          simp only [Prod.forall, putAll, List.setIfInBounds_toArray, List.set_cons_zero, List.set_cons_succ] at hK ⊢
          have hg1 := hgs.1
          have hg2 := hgs.2
          obtain ⟨hcl, hfr⟩ := blkcell hh
          go_simp
          have hnew := blk_set (i := 2) (blk_set (i := 1) (blk_set (i := 0) hh (.int .i64 (add33 y.2.2 z.2.2).1)) (.int .i64 (add33 y.2.2 z.2.2).2.1)) (.int .i64 (add33 y.2.2 z.2.2).2.2)
          exact hK _ _ _ _ _ _ _ _ _ _ _ _ _ _ _ _ _ ⟨cell_set_ (cell_set_ (cell_set_ (c2) (by (try dsimp only); omega)) (by (try dsimp only); omega)) (by (try dsimp only); omega), cell_set_ (cell_set_ (cell_set_ (c3) (by (try dsimp only); omega)) (by (try dsimp only); omega)) (by (try dsimp only); omega), cell_set_ (cell_set_ (cell_set_ (c4) (by (try dsimp only); omega)) (by (try dsimp only); omega)) (by (try dsimp only); omega), cell_set_ (cell_set_ (cell_set_ (y2) (by (try dsimp only); omega)) (by (try dsimp only); omega)) (by (try dsimp only); omega), cell_set_ (cell_set_ (cell_set_ (y3) (by (try dsimp only); omega)) (by (try dsimp only); omega)) (by (try dsimp only); omega), cell_set_ (cell_set_ (cell_set_ (y4) (by (try dsimp only); omega)) (by (try dsimp only); omega)) (by (try dsimp only); omega), Lib.hid (((HOB.out.far (by (try dsimp only); omega) _).far (by (try dsimp only); omega) _).far (by (try dsimp only); omega) _), ((((((hB).setCell hg1 _)).setCell hg1 _)).setCell hg1 _), fun h => g0.out (on_set_other (by decide) h), fun h => g1.out (on_set_other (by decide) h), fun h => g2.out (on_set_other (by decide) h), fun h => g3.out (on_set_other (by decide) h), fun h => g4.out (on_set_other (by decide) h), fun h => g5.out (on_set_other (by decide) h), fun h => g6.out (on_set_other (by decide) h), fun h => g7.out (on_set_other (by decide) h), fun h => g8.out (on_set_other (by decide) h), fun h => g9.out (on_set_other (by decide) h), fun h => g10.out (on_set_other (by decide) h), fun h => g11.out (on_set_other (by decide) h), fun h => g12.out (on_set_other (by decide) h), fun h => g13.out (on_set_other (by decide) h), fun h => ⟨gb, _, _, _, rfl, hgs, hnew⟩, fun _ => ⟨on_keep e14, ⟨gb, rfl, hgs, hnew⟩⟩, fun h => g16.out (on_set_other (by decide) h)⟩
        · refine ⟨rfl, ?_⟩
          rintro l ⟨u28, u29, u30, u31, u32, u33, u34, u35, u36, u37, u38, u27, u39, u40, u8, u9⟩ x ⟨c2, c3, c4, y2, y3, y4, HOB, hB, g0, g1, g2, g3, g4, g5, g6, g7, g8, g9, g10, g11, g12, g13, g14, g15, g16⟩ hun hpre K hK
          obtain ⟨e13, e15, e0, e1, e2, e3, e4, e5, e6, e7, e8, e9, e10, e11, e12, _, e14, _, -⟩ := hpre
          obtain rfl := g0.out e0
          obtain rfl := g1.out e1
          obtain rfl := g2.out e2
          obtain rfl := g3.out e3
          obtain rfl := g4.out e4
          obtain rfl := g5.out e5
          obtain rfl := g6.out e6
          obtain rfl := g7.out e7
          obtain rfl := g8.out e8
          obtain rfl := g9.out e9
          obtain rfl := g10.out e10
          obtain rfl := g11.out e11
          obtain rfl := g12.out e12
          obtain rfl := g13.out e13
          obtain ⟨-, ⟨gb, rfl, hgsgb, hhgb⟩⟩ := g15.out e15
          refine ⟨?_⟩
          simp only [Prod.forall, putAll, List.setIfInBounds_toArray, List.set_cons_zero, List.set_cons_succ] at hK ⊢
          go_simp
          exact hK _ _ _ _ _ _ _ _ _ _ _ _ _ _ _ _ _ ⟨c2, c3, c4, y2, y3, y4, HOB, hB, fun h => g0.out (on_set_other (by decide) h), fun h => g1.out (on_set_other (by decide) h), fun h => g2.out (on_set_other (by decide) h), fun h => g3.out (on_set_other (by decide) h), fun h => g4.out (on_set_other (by decide) h), fun h => g5.out (on_set_other (by decide) h), fun h => g6.out (on_set_other (by decide) h), fun h => g7.out (on_set_other (by decide) h), fun h => g8.out (on_set_other (by decide) h), fun h => g9.out (on_set_other (by decide) h), fun h => g10.out (on_set_other (by decide) h), fun h => g11.out (on_set_other (by decide) h), fun h => g12.out (on_set_other (by decide) h), fun h => g13.out (on_set_other (by decide) h), fun h => g14.out (on_set_other (by decide) h), fun h => (fun ⟨o14, h2⟩ => ⟨on_keep o14, h2⟩) (g15.out (on_set_other (by decide) h)), fun _ => rfl⟩
      · rintro l ⟨u28, u29, u30, u31, u32, u33, u34, u35, u36, u37, u38, u27, u39, u40, u8, u9⟩ x ⟨c2, c3, c4, y2, y3, y4, HOB, hB, g0, g1, g2, g3, g4, g5, g6, g7, g8, g9, g10, g11, g12, g13, g14, g15, g16⟩ hon
        have e0 := hon (j := 0) rfl trivial
        have e1 := hon (j := 1) rfl trivial
        have e2 := hon (j := 2) rfl ⟨e0, e1, trivial⟩
        have e3 := hon (j := 3) rfl ⟨e2, trivial⟩
        have e4 := hon (j := 4) rfl ⟨e3, trivial⟩
        have e5 := hon (j := 5) rfl trivial
        have e6 := hon (j := 6) rfl trivial
        have e7 := hon (j := 7) rfl ⟨e5, e6, trivial⟩
        have e8 := hon (j := 8) rfl ⟨e7, trivial⟩
        have e9 := hon (j := 9) rfl ⟨e8, trivial⟩
        have e10 := hon (j := 10) rfl ⟨e4, e9, trivial⟩
        have e11 := hon (j := 11) rfl ⟨e10, trivial⟩
        have e12 := hon (j := 12) rfl ⟨e11, trivial⟩
        have e13 := hon (j := 13) rfl ⟨e11, trivial⟩
        have e14 := hon (j := 14) rfl trivial
        have e15 := hon (j := 15) rfl ⟨e14, e12, e10, e0, e1, e2, e3, e4, e5, e6, e7, e8, e9, e10, e11, e12, e14, trivial⟩
        have e16 := hon (j := 16) rfl ⟨e13, e15, e0, e1, e2, e3, e4, e5, e6, e7, e8, e9, e10, e11, e12, e13, e14, e15, trivial⟩
        obtain rfl := g0.out e0; clear g0
        obtain rfl := g1.out e1; clear g1
        obtain rfl := g2.out e2; clear g2
        obtain rfl := g3.out e3; clear g3
        obtain rfl := g4.out e4; clear g4
        obtain rfl := g5.out e5; clear g5
        obtain rfl := g6.out e6; clear g6
        obtain rfl := g7.out e7; clear g7
        obtain rfl := g8.out e8; clear g8
        obtain rfl := g9.out e9; clear g9
        obtain rfl := g10.out e10; clear g10
        obtain rfl := g11.out e11; clear g11
        obtain rfl := g12.out e12; clear g12
        obtain rfl := g13.out e13; clear g13
        clear g14
        obtain ⟨-, ⟨gb, rfl, hgsgb, hhgb⟩⟩ := g15.out e15; clear g15
        obtain rfl := g16.out e16; clear g16
        clear hon e0 e1 e2 e3 e4 e5 e6 e7 e8 e9 e10 e11 e12 e13 e14 e15 e16 l
        refine ⟨?_⟩
        simp only [Prod.forall, putAll, List.setIfInBounds_toArray, List.set_cons_zero, List.set_cons_succ]
        obtain ⟨kb, fb⟩ := blkcell hhgb
        have hlb := lt_of_blk hhgb
        obtain ⟨e0, e1, e2, e3, e4⟩ := HOB.out.at_ EY.out
        have fo := HOB.out.fro
        have HB1 := Lib.hid (HOB.out.setBal EY.out (add33 y.2.2 z.2.2))
        have hB1 := below_set (b := gO) (o := p * 5 + 2 + 2) (below_set (b := gO) (o := p * 5 + 2 + 1) (below_set (b := gO) (o := p * 5 + 2) hB hBg (.int .i64 (add33 y.2.2 z.2.2).1)) hBg (.int .i64 (add33 y.2.2 z.2.2).2.1)) hBg (.int .i64 (add33 y.2.2 z.2.2).2.2)
        clear c1 c2 c3 c4 y2 y3 y4 hgsgb hB
        go_upto_region 7 with (fail)
        have EZ2 := Lib.hid (show (t.set p (setBal y (add33 y.2.2 z.2.2)))[q]? = some z by rw [List.getElem?_set]; rw [if_neg HPQ.out]; exact EZ.out)
        obtain ⟨W, hW⟩ : ∃ W, W = (((x.setCell ⟨gO, p * 5 + 2, none⟩ (.int .i64 (add33 y.2.2 z.2.2).1)).setCell ⟨gO, p * 5 + 2 + 1, none⟩ (.int .i64 (add33 y.2.2 z.2.2).2.1)).setCell ⟨gO, p * 5 + 2 + 2, none⟩ (.int .i64 (add33 y.2.2 z.2.2).2.2)) := ⟨_, rfl⟩
        rw [← hW] at HB1 hB1 ⊢
        clear hW
        obtain ⟨e0, e1, e2, e3, e4⟩ := HB1.out.at_ EZ2.out
        have fo := HB1.out.fro
        have HB2 := Lib.hid (show OB (((((W.setCell ⟨gO, q * 5, none⟩ (.bool false)).setCell ⟨gO, q * 5 + 1, none⟩ (.int .i64 0)).setCell ⟨gO, q * 5 + 2, none⟩ (.int .i64 0)).setCell ⟨gO, q * 5 + 3, none⟩ (.int .i64 0)).setCell ⟨gO, q * 5 + 4, none⟩ (.int .i64 0)) gO (dropT t q p z y) from HB1.out.setEl q zEl)
        have hB2 := below_set (b := gO) (o := q * 5 + 4) (below_set (b := gO) (o := q * 5 + 3) (below_set (b := gO) (o := q * 5 + 2) (below_set (b := gO) (o := q * 5 + 1) (below_set (b := gO) (o := q * 5) hB1 hBg (.bool false)) hBg (.int .i64 0)) hBg (.int .i64 0)) hBg (.int .i64 0)) hBg (.int .i64 0)
        have HT5 := Lib.hid (show (dropT t q p z y).length = 5 by rw [dropT_len]; exact HN.out)
        generalize dropT t q p z y = T2 at HB2 HT5 hr
        have hB2 := Lib.hid hB2
        clear HB1 hB1
        go_wp2
        go_loopw [10] (fun v wr => ∃ k : Nat, k ≤ 5 ∧ v = .int .i64 k ∧ Hid (OB wr gO (relTo (q : Int) (p : Int) T2 k)) ∧ Hid (Below w.heap.size w wr)) (fun v _ => 5 - (intOf v).toNat)
        case atStart => exact ⟨0, Nat.zero_le _, rfl, by rw [relTo_0]; exact HB2.out, hB2.out⟩
        case round =>
          obtain ⟨k, hk, rfl, hob, hBr⟩ := hrel
          by_cases hlt : k < 5
          · have ev := Lib.hid (List.getElem?_eq_getElem (l := T2) (i := k) (by have := HT5.out; omega))
            generalize T2[k]'(by have := HT5.out; omega) = v at *
            obtain ⟨a0, a1, -, -, -⟩ := hob.out.at_ (relTo_at ev.out)
            have fo := hob.out.fro
            have hlt2 : (k : Int) < 5 := by omega
            have hk0 : (0 : Int) ≤ (k : Int) := by omega
            cases hl : v.1
            · have hs := Lib.hid (show OB wr gO (relTo (q : Int) (p : Int) T2 (k + 1)) by rw [relTo_same ev.out (by simp [relF, hl])]; exact hob.out)
              rw [hl] at a0
              clear hl
              go_wp2
              exact ⟨⟨k + 1, by omega, by go_num, hs, hBr⟩, by simp [intOf]; omega⟩
            · rw [hl] at a0
              by_cases hpar : v.2.1 = (q : Int)
              · have hs := Lib.hid (show OB (wr.setCell ⟨gO, k * 5 + 1, none⟩ (.int .i64 (p : Int))) gO (relTo (q : Int) (p : Int) T2 (k + 1)) by
                  rw [← relTo_set ev.out, show relF (q : Int) (p : Int) v = (v.1, (p : Int), v.2.2) by simp [relF, hl, hpar]]
                  exact hob.out.setPar (relTo_at ev.out) _)
                have hb2 := Lib.hid (below_set (b := gO) (o := k * 5 + 1) hBr.out hBg (.int .i64 (p : Int)))
                have hp1 : ((v.2.1 : Int) == (q : Int)) = true := by simp [hpar]
                clear hl hpar
                go_wp2
                exact ⟨⟨k + 1, by omega, by go_num, hs, hb2⟩, by simp [intOf]; omega⟩
              · have hs := Lib.hid (show OB wr gO (relTo (q : Int) (p : Int) T2 (k + 1)) by rw [relTo_same ev.out (by simp [relF, hpar])]; exact hob.out)
                have hp1 : ((v.2.1 : Int) == (q : Int)) = false := by simp [hpar]
                clear hl hpar
                go_wp2
                exact ⟨⟨k + 1, by omega, by go_num, hs, hBr⟩, by simp [intOf]; omega⟩
          · obtain rfl : k = 5 := by omega
            have HS := Lib.hid (show OB wr gO (T2.map (relF (q : Int) (p : Int))) by rw [← relTo_n _ _ HT5.out]; exact hob.out)
            clear hob
            go_wp2
            go_ret2
            exact ⟨_, _, by rw [hr.out]; rfl, by rw [hr.out]; exact HS.out.own hBg, hBr.out⟩
end Go.Proofs.Ytdgkfpcecppfdaa
