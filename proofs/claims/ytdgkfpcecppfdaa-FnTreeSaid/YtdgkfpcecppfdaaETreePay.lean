/- Contracts of TreePay. -/
import Derived.Test.YtdgkfpcecppfdaaETreeFn
namespace Go.Proofs.Ytdgkfpcecppfdaa
set_option linter.unusedSimpArgs false
set_option linter.unusedVariables false
open Go.RowKit
attribute [local go_sem ↓] Go.wp_at_zero Go.wp_at_succ


noncomputable def treePay (t : List El) (i : Int) (a : B3) : List El × Bool :=
  if rightB t && liveAt t i then (match t[i.toNat]? with | some x => (t.set i.toNat (setBal x (subR x.2.2 a).1), (subR x.2.2 a).2) | none => (t, false)) else (t, false)
theorem treePay_no {t : List El} {i : Int} {a : B3} (h : (rightB t && liveAt t i) = false) : treePay t i a = (t, false) := by simp [treePay, h]
theorem treePay_at {t : List El} {q : Nat} {x : El} {a : B3} (h : rightB t = true) (h2 : liveAt t q = true) (hx : t[q]? = some x) : treePay t q a = (t.set q (setBal x (subR x.2.2 a).1), (subR x.2.2 a).2) := by
  simp [treePay, h, h2, hx]
theorem treePay_len (t : List El) (i : Int) (a : B3) : (treePay t i a).1.length = t.length := by
  unfold treePay
  split
  · split <;> simp
  · rfl
theorem set_same {t : List El} {q : Nat} {x : El} (hx : t[q]? = some x) : t.set q x = t := by
  apply List.ext_getElem?
  intro i
  rw [List.getElem?_set]
  by_cases e : q = i
  · subst e
    rw [if_pos rfl, hx, if_pos (List.getElem?_eq_some_iff.1 hx).1]
  · rw [if_neg e]
set_option maxHeartbeats 6400000 in
theorem implTreePay_any (A : Option Addr) (n c : Nat) (t : List El) (i : Int) (a : B3) (w : World) (hx : Els w A t) (hn : t.length = n) (hnb : n ≤ 1099511627776) :
    Calls Try.prog 32 #[.slice A n c, .int .i64 i, amt3 a] w (OutB (treePay t i a).1 (treePay t i a).2 n w) := by
  have HX := Lib.hid hx; have HN := Lib.hid hn
  have C := Lib.hid (fun w' h => implTreeOk_any A n c t (rightB t) w' h hn hnb (rightB_iff t))
  have CP := Lib.hid (fun w' h => copyTree_any A n c t w' h hn hnb)
  cases hl : (rightB t && liveAt t i)
  · have hr := Lib.hid (treePay_no (a := a) hl)
    cases hb : rightB t
    · rw [hb] at C
      clear hx hn hl hb
      go_enter Try.func32, Try.ntmps32
      go_wp2_with fail
      refine (CP.out _ (HX.out.alloc _)).mono ?_
      rintro e w1 ⟨A', c', rfl, ho, hb1⟩
      have HO := Lib.hid (ho.more (B' := w.heap.size) (by simp))
      have hB := Below.trans ((Below.refl w.heap.size w).alloc (Nat.le_refl _) _) (hb1.mono (by simp))
      have hbox := keepblk hb1 (heap_alloc_new w _)
      have hs := hB.size
      clear ho hb1
      go_wp2_with fail
      refine (C.out _ (HX.out.keep fun _ _ h => Below.keeps hB h)).mono ?_
      rintro e w2 ⟨rfl, hb2⟩
      have HO := Lib.hid (HO.out.below hb2)
      have hbox := keepblk hb2 hbox
      have hB := Below.trans hB (hb2.mono hs)
      have hs := hB.size
      clear hb2
      go_wp2
      go_ret2
      exact ⟨A', c', by rw [hr.out]; rfl, by rw [hr.out]; exact HO.out, hB⟩
    · have hR := (rightB_iff t).1 hb
      rw [hb] at hl C
      rw [Bool.true_and] at hl
      obtain rfl : n = 5 := by rw [← hn]; exact hR.len
      clear hx hb hR
      go_enter Try.func32, Try.ntmps32
      go_wp2_with fail
      refine (CP.out _ (HX.out.alloc _)).mono ?_
      rintro e w1 ⟨A', c', rfl, ho, hb1⟩
      have HO := Lib.hid (ho.more (B' := w.heap.size) (by simp))
      have hB := Below.trans ((Below.refl w.heap.size w).alloc (Nat.le_refl _) _) (hb1.mono (by simp))
      have hbox := keepblk hb1 (heap_alloc_new w _)
      have hs := hB.size
      clear ho hb1
      go_wp2_with fail
      refine (C.out _ (HX.out.keep fun _ _ h => Below.keeps hB h)).mono ?_
      rintro e w2 ⟨rfl, hb2⟩
      have HO := Lib.hid (HO.out.below hb2)
      have hbox := keepblk hb2 hbox
      have hB := Below.trans hB (hb2.mono hs)
      have hs := hB.size
      clear hb2
      go_wp2_with fail
      refine (isLive_any A c t i _ (HX.out.keep fun _ _ h => Below.keeps hB h) HN.out).mono ?_
      rintro e _ ⟨rfl, rfl⟩
      rw [hl]
      clear hl

      go_wp2
      go_ret2
      exact ⟨A', c', by rw [hr.out]; rfl, by rw [hr.out]; exact HO.out, hB⟩
  · have hl0 := Bool.and_eq_true_iff.1 hl
    have hR := (rightB_iff t).1 hl0.1
    obtain rfl : n = 5 := by rw [← hn]; exact hR.len
    obtain ⟨q, y, rfl, hq, hxq, hxl⟩ := liveAt_range hl0.2
    have hr := Lib.hid (treePay_at (a := a) hl0.1 hl0.2 hxq)
    have ex := Lib.hid hxq
    have hla := hl0.2
    rw [hl0.1] at C
    have S := Lib.hid (implAmtSub_r y.2.2 a)
    obtain ⟨r, hre⟩ : ∃ r, (subR y.2.2 a).1 = r := ⟨_, rfl⟩
    obtain ⟨k, hke⟩ : ∃ k, (subR y.2.2 a).2 = k := ⟨_, rfl⟩
    have hk0 := Lib.hid (show k = false → r = y.2.2 by rw [← hre, ← hke]; unfold subR; split <;> simp)
    rw [hre, hke] at S hr
    obtain ⟨b, off, rfl, hbx, c0, c1, c2, c3, c4⟩ := hx.at_ ex.out
    have hq0 : (0 : Int) ≤ (q : Int) := by omega
    have hq5 : (q : Int) < 5 := by omega
    clear hx hn hl hl0 hR hxq hxl hre hke
    go_enter Try.func32, Try.ntmps32
    go_wp2_with fail
    refine (CP.out _ (HX.out.alloc _)).mono ?_
    rintro e w1 ⟨A', c', rfl, ho, hb1⟩
    have HO := Lib.hid (ho.more (B' := w.heap.size) (by simp))
    have hB := Below.trans ((Below.refl w.heap.size w).alloc (Nat.le_refl _) _) (hb1.mono (by simp))
    have hbox := keepblk hb1 (heap_alloc_new w _)
    have hs := hB.size
    clear ho hb1
    go_wp2_with fail
    refine (C.out _ (HX.out.keep fun _ _ h => Below.keeps hB h)).mono ?_
    rintro e w2 ⟨rfl, hb2⟩
    have HO := Lib.hid (HO.out.below hb2)
    have hbox := keepblk hb2 hbox
    have hB := Below.trans hB (hb2.mono hs)
    have hs := hB.size
    clear hb2
    go_wp2_with fail
    refine (isLive_any _ c t q _ (HX.out.keep fun _ _ h => Below.keeps hB h) HN.out).mono ?_
    rintro e _ ⟨rfl, rfl⟩
    rw [hla]
    clear hla
    obtain ⟨gO, full, rfl, hBg, hh0, hp⟩ := HO.out.block HN.out
    have HP := Lib.hid hp
    obtain ⟨d0, d1, d2⟩ : w2.cell? ⟨w.heap.size, 0, none⟩ = some (.int .i64 a.1) ∧ w2.cell? ⟨w.heap.size, 1, none⟩ = some (.int .i64 a.2.1) ∧ w2.cell? ⟨w.heap.size, 2, none⟩ = some (.int .i64 a.2.2) := by
      have h := (blkcell hbox).1
      exact ⟨h 0, h 1, h 2⟩
    have c2 := Below.keeps hB c2; have c3 := Below.keeps hB c3; have c4 := Below.keeps hB c4
    clear c0 c1 hp hbox HO
    go_wp2_with fail
    refine wp_region_fr (U := Value × Value × Value × Value × Value × Value × Value × Value × Value × Value × Value × Value) [[], [], [0, 1], [2], [3], [], [4, 5], [6], [7], [7], [], [10, 8, 6, 0, 1, 2, 3, 4, 5, 6, 7, 8, 10], [9, 11, 0, 1, 2, 3, 4, 5, 6, 7, 8, 9, 10, 11]] (fun u => match u with | (u24, u25, u26, u27, u28, u29, u30, u23, u31, u32, u9, u10) => [(24, u24), (25, u25), (26, u26), (27, u27), (28, u28), (29, u29), (30, u30), (23, u23), (31, u31), (32, u32), (9, u9), (10, u10)]) (undef, undef, undef, undef, undef, undef, undef, undef, undef, undef, undef, undef) (fun l u x => match u with | (u24, u25, u26, u27, u28, u29, u30, u23, u31, u32, u9, u10) => (x.cell? ⟨b, off + q * 5 + 2, none⟩ = some (.int .i64 y.2.2.1)) ∧ (x.cell? ⟨b, off + q * 5 + 3, none⟩ = some (.int .i64 y.2.2.2.1)) ∧ (x.cell? ⟨b, off + q * 5 + 4, none⟩ = some (.int .i64 y.2.2.2.2)) ∧ (x.cell? ⟨w.heap.size, 0, none⟩ = some (.int .i64 a.1)) ∧ (x.cell? ⟨w.heap.size, 1, none⟩ = some (.int .i64 a.2.1)) ∧ (x.cell? ⟨w.heap.size, 2, none⟩ = some (.int .i64 a.2.2)) ∧ (x.heap[gO]? = some (.cells full 56 (0, 0))) ∧ (Below w.heap.size w x) ∧ Hid (l.getD 0 false = true → u24 = .slice (some ⟨b, off, none⟩) 5 c) ∧ Hid (l.getD 1 false = true → u25 = .int .i64 (q : Int)) ∧ Hid (l.getD 2 false = true → u26 = .pointer (some ⟨b, off + q * 5, none⟩)) ∧ Hid (l.getD 3 false = true → u27 = .pointer (some ⟨b, off + q * 5 + 2, none⟩)) ∧ Hid (l.getD 4 false = true → u28 = amt3 y.2.2) ∧ Hid (l.getD 5 false = true → u29 = amt3 a) ∧ Hid (l.getD 6 false = true → u30 = .tuple #[amt3 r, .bool k]) ∧ Hid (l.getD 7 false = true → u23 = .tuple #[amt3 r, .bool k]) ∧ Hid (l.getD 8 false = true → u31 = amt3 r) ∧ Hid (l.getD 9 false = true → u32 = .bool k) ∧ Hid (l.getD 10 false = true → ∃ (g : Nat) (x0 x1 x2 : Value), u9 = .pointer (some ⟨g, 0, none⟩) ∧ (w.heap.size ≤ g ∧ w.heap.size < g ∧ gO < g) ∧ x.heap[g]? = some (.cells #[x0, x1, x2] 27 (0, 0))) ∧ Hid (l.getD 11 false = true → l.getD 10 false = true ∧ (∃ g : Nat, u9 = .pointer (some ⟨g, 0, none⟩) ∧ (w.heap.size ≤ g ∧ w.heap.size < g ∧ gO < g) ∧ x.heap[g]? = some (.cells #[.int .i64 r.1, .int .i64 r.2.1, .int .i64 r.2.2] 27 (0, 0)))) ∧ Hid (l.getD 12 false = true → u10 = .bool k)) (by kernel_rfl) (by kernel_rfl) ?_ ?_ ?_ ?_
    · kernel_rfl
    · exact ⟨(by exact c2), (by exact c3), (by exact c4), (by exact d0), (by exact d1), (by exact d2), (by exact hh0), (by exact hB.drew), fun h => repl_off h, fun h => repl_off h, fun h => repl_off h, fun h => repl_off h, fun h => repl_off h, fun h => repl_off h, fun h => repl_off h, fun h => repl_off h, fun h => repl_off h, fun h => repl_off h, fun h => repl_off h, fun h => repl_off h, fun h => repl_off h⟩
    · refine ⟨?_, ?_, ?_, ?_, ?_, ?_, ?_, ?_, ?_, ?_, ?_, ?_, ?_, trivial⟩
      · refine ⟨rfl, ?_⟩
        rintro l ⟨u24, u25, u26, u27, u28, u29, u30, u23, u31, u32, u9, u10⟩ x ⟨c2, c3, c4, d0, d1, d2, hh0, hB, g0, g1, g2, g3, g4, g5, g6, g7, g8, g9, g10, g11, g12⟩ hun hpre K hK
        clear hpre
        refine ⟨?_⟩
        simp only [Prod.forall, putAll, List.setIfInBounds_toArray, List.set_cons_zero, List.set_cons_succ] at hK ⊢
        go_simp
        exact hK _ _ _ _ _ _ _ _ _ _ _ _ _ ⟨c2, c3, c4, d0, d1, d2, hh0, hB, fun _ => rfl, fun h => g1.out (on_set_other (by decide) h), fun h => g2.out (on_set_other (by decide) h), fun h => g3.out (on_set_other (by decide) h), fun h => g4.out (on_set_other (by decide) h), fun h => g5.out (on_set_other (by decide) h), fun h => g6.out (on_set_other (by decide) h), fun h => g7.out (on_set_other (by decide) h), fun h => g8.out (on_set_other (by decide) h), fun h => g9.out (on_set_other (by decide) h), fun h => g10.out (on_set_other (by decide) h), fun h => (fun ⟨o10, h2⟩ => ⟨on_keep o10, h2⟩) (g11.out (on_set_other (by decide) h)), fun h => g12.out (on_set_other (by decide) h)⟩
      · refine ⟨rfl, ?_⟩
        rintro l ⟨u24, u25, u26, u27, u28, u29, u30, u23, u31, u32, u9, u10⟩ x ⟨c2, c3, c4, d0, d1, d2, hh0, hB, g0, g1, g2, g3, g4, g5, g6, g7, g8, g9, g10, g11, g12⟩ hun hpre K hK
        clear hpre
        refine ⟨?_⟩
        simp only [Prod.forall, putAll, List.setIfInBounds_toArray, List.set_cons_zero, List.set_cons_succ] at hK ⊢
        go_simp
        exact hK _ _ _ _ _ _ _ _ _ _ _ _ _ ⟨c2, c3, c4, d0, d1, d2, hh0, hB, fun h => g0.out (on_set_other (by decide) h), fun _ => rfl, fun h => g2.out (on_set_other (by decide) h), fun h => g3.out (on_set_other (by decide) h), fun h => g4.out (on_set_other (by decide) h), fun h => g5.out (on_set_other (by decide) h), fun h => g6.out (on_set_other (by decide) h), fun h => g7.out (on_set_other (by decide) h), fun h => g8.out (on_set_other (by decide) h), fun h => g9.out (on_set_other (by decide) h), fun h => g10.out (on_set_other (by decide) h), fun h => (fun ⟨o10, h2⟩ => ⟨on_keep o10, h2⟩) (g11.out (on_set_other (by decide) h)), fun h => g12.out (on_set_other (by decide) h)⟩
      · refine ⟨rfl, ?_⟩
        rintro l ⟨u24, u25, u26, u27, u28, u29, u30, u23, u31, u32, u9, u10⟩ x ⟨c2, c3, c4, d0, d1, d2, hh0, hB, g0, g1, g2, g3, g4, g5, g6, g7, g8, g9, g10, g11, g12⟩ hun hpre K hK
        obtain ⟨e0, e1, -⟩ := hpre
        obtain rfl := g0.out e0
        obtain rfl := g1.out e1
        refine ⟨?_⟩
        simp only [Prod.forall, putAll, List.setIfInBounds_toArray, List.set_cons_zero, List.set_cons_succ] at hK ⊢
        go_simp
        exact hK _ _ _ _ _ _ _ _ _ _ _ _ _ ⟨c2, c3, c4, d0, d1, d2, hh0, hB, fun h => g0.out (on_set_other (by decide) h), fun h => g1.out (on_set_other (by decide) h), fun _ => rfl, fun h => g3.out (on_set_other (by decide) h), fun h => g4.out (on_set_other (by decide) h), fun h => g5.out (on_set_other (by decide) h), fun h => g6.out (on_set_other (by decide) h), fun h => g7.out (on_set_other (by decide) h), fun h => g8.out (on_set_other (by decide) h), fun h => g9.out (on_set_other (by decide) h), fun h => g10.out (on_set_other (by decide) h), fun h => (fun ⟨o10, h2⟩ => ⟨on_keep o10, h2⟩) (g11.out (on_set_other (by decide) h)), fun h => g12.out (on_set_other (by decide) h)⟩
      · refine ⟨rfl, ?_⟩
        rintro l ⟨u24, u25, u26, u27, u28, u29, u30, u23, u31, u32, u9, u10⟩ x ⟨c2, c3, c4, d0, d1, d2, hh0, hB, g0, g1, g2, g3, g4, g5, g6, g7, g8, g9, g10, g11, g12⟩ hun hpre K hK
        obtain ⟨e2, -⟩ := hpre
        obtain rfl := g2.out e2
        refine ⟨?_⟩
        simp only [Prod.forall, putAll, List.setIfInBounds_toArray, List.set_cons_zero, List.set_cons_succ] at hK ⊢
        go_simp
        exact hK _ _ _ _ _ _ _ _ _ _ _ _ _ ⟨c2, c3, c4, d0, d1, d2, hh0, hB, fun h => g0.out (on_set_other (by decide) h), fun h => g1.out (on_set_other (by decide) h), fun h => g2.out (on_set_other (by decide) h), fun _ => rfl, fun h => g4.out (on_set_other (by decide) h), fun h => g5.out (on_set_other (by decide) h), fun h => g6.out (on_set_other (by decide) h), fun h => g7.out (on_set_other (by decide) h), fun h => g8.out (on_set_other (by decide) h), fun h => g9.out (on_set_other (by decide) h), fun h => g10.out (on_set_other (by decide) h), fun h => (fun ⟨o10, h2⟩ => ⟨on_keep o10, h2⟩) (g11.out (on_set_other (by decide) h)), fun h => g12.out (on_set_other (by decide) h)⟩
      · refine ⟨rfl, ?_⟩
        rintro l ⟨u24, u25, u26, u27, u28, u29, u30, u23, u31, u32, u9, u10⟩ x ⟨c2, c3, c4, d0, d1, d2, hh0, hB, g0, g1, g2, g3, g4, g5, g6, g7, g8, g9, g10, g11, g12⟩ hun hpre K hK
        obtain ⟨e3, -⟩ := hpre
        obtain rfl := g3.out e3
        refine ⟨?_⟩
        simp only [Prod.forall, putAll, List.setIfInBounds_toArray, List.set_cons_zero, List.set_cons_succ] at hK ⊢
        go_simp
        exact hK _ _ _ _ _ _ _ _ _ _ _ _ _ ⟨c2, c3, c4, d0, d1, d2, hh0, hB, fun h => g0.out (on_set_other (by decide) h), fun h => g1.out (on_set_other (by decide) h), fun h => g2.out (on_set_other (by decide) h), fun h => g3.out (on_set_other (by decide) h), fun _ => rfl, fun h => g5.out (on_set_other (by decide) h), fun h => g6.out (on_set_other (by decide) h), fun h => g7.out (on_set_other (by decide) h), fun h => g8.out (on_set_other (by decide) h), fun h => g9.out (on_set_other (by decide) h), fun h => g10.out (on_set_other (by decide) h), fun h => (fun ⟨o10, h2⟩ => ⟨on_keep o10, h2⟩) (g11.out (on_set_other (by decide) h)), fun h => g12.out (on_set_other (by decide) h)⟩
      · refine ⟨rfl, ?_⟩
        rintro l ⟨u24, u25, u26, u27, u28, u29, u30, u23, u31, u32, u9, u10⟩ x ⟨c2, c3, c4, d0, d1, d2, hh0, hB, g0, g1, g2, g3, g4, g5, g6, g7, g8, g9, g10, g11, g12⟩ hun hpre K hK
        clear hpre
        refine ⟨?_⟩
        simp only [Prod.forall, putAll, List.setIfInBounds_toArray, List.set_cons_zero, List.set_cons_succ] at hK ⊢
        go_simp
        exact hK _ _ _ _ _ _ _ _ _ _ _ _ _ ⟨c2, c3, c4, d0, d1, d2, hh0, hB, fun h => g0.out (on_set_other (by decide) h), fun h => g1.out (on_set_other (by decide) h), fun h => g2.out (on_set_other (by decide) h), fun h => g3.out (on_set_other (by decide) h), fun h => g4.out (on_set_other (by decide) h), fun _ => rfl, fun h => g6.out (on_set_other (by decide) h), fun h => g7.out (on_set_other (by decide) h), fun h => g8.out (on_set_other (by decide) h), fun h => g9.out (on_set_other (by decide) h), fun h => g10.out (on_set_other (by decide) h), fun h => (fun ⟨o10, h2⟩ => ⟨on_keep o10, h2⟩) (g11.out (on_set_other (by decide) h)), fun h => g12.out (on_set_other (by decide) h)⟩
      · refine ⟨rfl, ?_⟩
        rintro l ⟨u24, u25, u26, u27, u28, u29, u30, u23, u31, u32, u9, u10⟩ x ⟨c2, c3, c4, d0, d1, d2, hh0, hB, g0, g1, g2, g3, g4, g5, g6, g7, g8, g9, g10, g11, g12⟩ hun hpre K hK
        obtain ⟨e4, e5, -⟩ := hpre
        obtain rfl := g4.out e4
        obtain rfl := g5.out e5
        refine ⟨?_⟩
        simp only [Prod.forall, putAll, List.setIfInBounds_toArray, List.set_cons_zero, List.set_cons_succ] at hK ⊢
        go_simp
        refine (S.out _).mono ?_
        rintro e x2 ⟨rfl, hb⟩
        have hs := hB.size
        exact hK _ _ _ _ _ _ _ _ _ _ _ _ _ ⟨Below.keeps hb (c2), Below.keeps hb (c3), Below.keeps hb (c4), Below.keeps hb (d0), Below.keeps hb (d1), Below.keeps hb (d2), keepblk hb (hh0), hB.trans (hb.mono hs), fun h => g0.out (on_set_other (by decide) h), fun h => g1.out (on_set_other (by decide) h), fun h => g2.out (on_set_other (by decide) h), fun h => g3.out (on_set_other (by decide) h), fun h => g4.out (on_set_other (by decide) h), fun h => g5.out (on_set_other (by decide) h), fun _ => rfl, fun h => g7.out (on_set_other (by decide) h), fun h => g8.out (on_set_other (by decide) h), fun h => g9.out (on_set_other (by decide) h), fun h => (fun ⟨ga, x0, x1, x2, h1, h2, h3⟩ => ⟨ga, x0, x1, x2, h1, h2, keepblk hb h3⟩) (g10.out (on_set_other (by decide) h)), fun h => (fun ⟨o10, h2⟩ => ⟨on_keep o10, (fun ⟨ga, h1, h2, h3⟩ => ⟨ga, h1, h2, keepblk hb h3⟩) h2⟩) (g11.out (on_set_other (by decide) h)), fun h => g12.out (on_set_other (by decide) h)⟩
      · refine ⟨rfl, ?_⟩
        rintro l ⟨u24, u25, u26, u27, u28, u29, u30, u23, u31, u32, u9, u10⟩ x ⟨c2, c3, c4, d0, d1, d2, hh0, hB, g0, g1, g2, g3, g4, g5, g6, g7, g8, g9, g10, g11, g12⟩ hun hpre K hK
        obtain ⟨e6, -⟩ := hpre
        obtain rfl := g6.out e6
        refine ⟨?_⟩
        simp only [Prod.forall, putAll, List.setIfInBounds_toArray, List.set_cons_zero, List.set_cons_succ] at hK ⊢
        go_simp
        exact hK _ _ _ _ _ _ _ _ _ _ _ _ _ ⟨c2, c3, c4, d0, d1, d2, hh0, hB, fun h => g0.out (on_set_other (by decide) h), fun h => g1.out (on_set_other (by decide) h), fun h => g2.out (on_set_other (by decide) h), fun h => g3.out (on_set_other (by decide) h), fun h => g4.out (on_set_other (by decide) h), fun h => g5.out (on_set_other (by decide) h), fun h => g6.out (on_set_other (by decide) h), fun _ => rfl, fun h => g8.out (on_set_other (by decide) h), fun h => g9.out (on_set_other (by decide) h), fun h => g10.out (on_set_other (by decide) h), fun h => (fun ⟨o10, h2⟩ => ⟨on_keep o10, h2⟩) (g11.out (on_set_other (by decide) h)), fun h => g12.out (on_set_other (by decide) h)⟩
      · refine ⟨rfl, ?_⟩
        rintro l ⟨u24, u25, u26, u27, u28, u29, u30, u23, u31, u32, u9, u10⟩ x ⟨c2, c3, c4, d0, d1, d2, hh0, hB, g0, g1, g2, g3, g4, g5, g6, g7, g8, g9, g10, g11, g12⟩ hun hpre K hK
        obtain ⟨e7, -⟩ := hpre
        obtain rfl := g7.out e7
        refine ⟨?_⟩
        simp only [Prod.forall, putAll, List.setIfInBounds_toArray, List.set_cons_zero, List.set_cons_succ] at hK ⊢
        go_simp
        exact hK _ _ _ _ _ _ _ _ _ _ _ _ _ ⟨c2, c3, c4, d0, d1, d2, hh0, hB, fun h => g0.out (on_set_other (by decide) h), fun h => g1.out (on_set_other (by decide) h), fun h => g2.out (on_set_other (by decide) h), fun h => g3.out (on_set_other (by decide) h), fun h => g4.out (on_set_other (by decide) h), fun h => g5.out (on_set_other (by decide) h), fun h => g6.out (on_set_other (by decide) h), fun h => g7.out (on_set_other (by decide) h), fun _ => rfl, fun h => g9.out (on_set_other (by decide) h), fun h => g10.out (on_set_other (by decide) h), fun h => (fun ⟨o10, h2⟩ => ⟨on_keep o10, h2⟩) (g11.out (on_set_other (by decide) h)), fun h => g12.out (on_set_other (by decide) h)⟩
      · refine ⟨rfl, ?_⟩
        rintro l ⟨u24, u25, u26, u27, u28, u29, u30, u23, u31, u32, u9, u10⟩ x ⟨c2, c3, c4, d0, d1, d2, hh0, hB, g0, g1, g2, g3, g4, g5, g6, g7, g8, g9, g10, g11, g12⟩ hun hpre K hK
        obtain ⟨e7, -⟩ := hpre
        obtain rfl := g7.out e7
        refine ⟨?_⟩
        simp only [Prod.forall, putAll, List.setIfInBounds_toArray, List.set_cons_zero, List.set_cons_succ] at hK ⊢
        go_simp
        exact hK _ _ _ _ _ _ _ _ _ _ _ _ _ ⟨c2, c3, c4, d0, d1, d2, hh0, hB, fun h => g0.out (on_set_other (by decide) h), fun h => g1.out (on_set_other (by decide) h), fun h => g2.out (on_set_other (by decide) h), fun h => g3.out (on_set_other (by decide) h), fun h => g4.out (on_set_other (by decide) h), fun h => g5.out (on_set_other (by decide) h), fun h => g6.out (on_set_other (by decide) h), fun h => g7.out (on_set_other (by decide) h), fun h => g8.out (on_set_other (by decide) h), fun _ => rfl, fun h => g10.out (on_set_other (by decide) h), fun h => (fun ⟨o10, h2⟩ => ⟨on_keep o10, h2⟩) (g11.out (on_set_other (by decide) h)), fun h => g12.out (on_set_other (by decide) h)⟩
      · refine ⟨rfl, ?_⟩
        rintro l ⟨u24, u25, u26, u27, u28, u29, u30, u23, u31, u32, u9, u10⟩ x ⟨c2, c3, c4, d0, d1, d2, hh0, hB, g0, g1, g2, g3, g4, g5, g6, g7, g8, g9, g10, g11, g12⟩ hun hpre K hK
        clear hpre
        refine ⟨?_⟩
        simp only [Prod.forall, putAll, List.setIfInBounds_toArray, List.set_cons_zero, List.set_cons_succ] at hK ⊢
        have hs := hB.size
        have hlt : w.heap.size < x.heap.size ∧ gO < x.heap.size := by have h0 : w.heap.size < x.heap.size := lt_of_cell d0; have h1 := lt_of_blk hh0; omega
        go_simp
        exact hK _ _ _ _ _ _ _ _ _ _ _ _ _ ⟨cell_alloc_ (c2), cell_alloc_ (c3), cell_alloc_ (c4), cell_alloc_ (d0), cell_alloc_ (d1), cell_alloc_ (d2), blk_alloc (hh0), hB.alloc hs _, fun h => g0.out (on_set_other (by decide) h), fun h => g1.out (on_set_other (by decide) h), fun h => g2.out (on_set_other (by decide) h), fun h => g3.out (on_set_other (by decide) h), fun h => g4.out (on_set_other (by decide) h), fun h => g5.out (on_set_other (by decide) h), fun h => g6.out (on_set_other (by decide) h), fun h => g7.out (on_set_other (by decide) h), fun h => g8.out (on_set_other (by decide) h), fun h => g9.out (on_set_other (by decide) h), fun _ => ⟨_, _, _, _, rfl, ⟨hs, hlt⟩, heap_alloc_new x _⟩, fun h => off_of_on hun (g11.out (on_set_other (by decide) h)).1, fun h => g12.out (on_set_other (by decide) h)⟩
      · refine ⟨rfl, ?_⟩
        rintro l ⟨u24, u25, u26, u27, u28, u29, u30, u23, u31, u32, u9, u10⟩ x ⟨c2, c3, c4, d0, d1, d2, hh0, hB, g0, g1, g2, g3, g4, g5, g6, g7, g8, g9, g10, g11, g12⟩ hun hpre K hK
        obtain ⟨e10, e8, e6, e0, e1, e2, e3, e4, e5, _, e7, _, _, -⟩ := hpre
        obtain rfl := g0.out e0
        obtain rfl := g1.out e1
        obtain rfl := g2.out e2
        obtain rfl := g3.out e3
        obtain rfl := g4.out e4
        obtain rfl := g5.out e5
        obtain rfl := g6.out e6
        obtain rfl := g7.out e7
        obtain rfl := g8.out e8
        obtain ⟨gb, x0, x1, x2, rfl, hgs, hh⟩ := g10.out e10
        refine ⟨?_⟩
        simp only [Prod.forall, putAll, List.setIfInBounds_toArray, List.set_cons_zero, List.set_cons_succ] at hK ⊢
        have hg1 := hgs.1
        have hg2 := hgs.2
        obtain ⟨hcl, hfr⟩ := blkcell hh
        go_simp
        have hnew := blk_set (i := 2) (blk_set (i := 1) (blk_set (i := 0) hh (.int .i64 r.1)) (.int .i64 r.2.1)) (.int .i64 r.2.2)
        exact hK _ _ _ _ _ _ _ _ _ _ _ _ _ ⟨cell_set_ (cell_set_ (cell_set_ (c2) (by (try dsimp only); omega)) (by (try dsimp only); omega)) (by (try dsimp only); omega), cell_set_ (cell_set_ (cell_set_ (c3) (by (try dsimp only); omega)) (by (try dsimp only); omega)) (by (try dsimp only); omega), cell_set_ (cell_set_ (cell_set_ (c4) (by (try dsimp only); omega)) (by (try dsimp only); omega)) (by (try dsimp only); omega), cell_set_ (cell_set_ (cell_set_ (d0) (by (try dsimp only); omega)) (by (try dsimp only); omega)) (by (try dsimp only); omega), cell_set_ (cell_set_ (cell_set_ (d1) (by (try dsimp only); omega)) (by (try dsimp only); omega)) (by (try dsimp only); omega), cell_set_ (cell_set_ (cell_set_ (d2) (by (try dsimp only); omega)) (by (try dsimp only); omega)) (by (try dsimp only); omega), blk_far (blk_far (blk_far (hh0) (by (try dsimp only); omega) _) (by (try dsimp only); omega) _) (by (try dsimp only); omega) _, ((((((hB).setCell hg1 _)).setCell hg1 _)).setCell hg1 _), fun h => g0.out (on_set_other (by decide) h), fun h => g1.out (on_set_other (by decide) h), fun h => g2.out (on_set_other (by decide) h), fun h => g3.out (on_set_other (by decide) h), fun h => g4.out (on_set_other (by decide) h), fun h => g5.out (on_set_other (by decide) h), fun h => g6.out (on_set_other (by decide) h), fun h => g7.out (on_set_other (by decide) h), fun h => g8.out (on_set_other (by decide) h), fun h => g9.out (on_set_other (by decide) h), fun h => ⟨gb, _, _, _, rfl, hgs, hnew⟩, fun _ => ⟨on_keep e10, ⟨gb, rfl, hgs, hnew⟩⟩, fun h => g12.out (on_set_other (by decide) h)⟩
      · refine ⟨rfl, ?_⟩
        rintro l ⟨u24, u25, u26, u27, u28, u29, u30, u23, u31, u32, u9, u10⟩ x ⟨c2, c3, c4, d0, d1, d2, hh0, hB, g0, g1, g2, g3, g4, g5, g6, g7, g8, g9, g10, g11, g12⟩ hun hpre K hK
        obtain ⟨e9, e11, e0, e1, e2, e3, e4, e5, e6, e7, e8, _, e10, _, -⟩ := hpre
        obtain rfl := g0.out e0
        obtain rfl := g1.out e1
        obtain rfl := g2.out e2
        obtain rfl := g3.out e3
        obtain rfl := g4.out e4
        obtain rfl := g5.out e5
        obtain rfl := g6.out e6
        obtain rfl := g7.out e7
        obtain rfl := g8.out e8
        obtain rfl := g9.out e9
        obtain ⟨-, ⟨gb, rfl, hgsgb, hhgb⟩⟩ := g11.out e11
        refine ⟨?_⟩
        simp only [Prod.forall, putAll, List.setIfInBounds_toArray, List.set_cons_zero, List.set_cons_succ] at hK ⊢
        go_simp
        exact hK _ _ _ _ _ _ _ _ _ _ _ _ _ ⟨c2, c3, c4, d0, d1, d2, hh0, hB, fun h => g0.out (on_set_other (by decide) h), fun h => g1.out (on_set_other (by decide) h), fun h => g2.out (on_set_other (by decide) h), fun h => g3.out (on_set_other (by decide) h), fun h => g4.out (on_set_other (by decide) h), fun h => g5.out (on_set_other (by decide) h), fun h => g6.out (on_set_other (by decide) h), fun h => g7.out (on_set_other (by decide) h), fun h => g8.out (on_set_other (by decide) h), fun h => g9.out (on_set_other (by decide) h), fun h => g10.out (on_set_other (by decide) h), fun h => (fun ⟨o10, h2⟩ => ⟨on_keep o10, h2⟩) (g11.out (on_set_other (by decide) h)), fun _ => rfl⟩
    · rintro l ⟨u24, u25, u26, u27, u28, u29, u30, u23, u31, u32, u9, u10⟩ x ⟨c2, c3, c4, d0, d1, d2, hh0, hB, g0, g1, g2, g3, g4, g5, g6, g7, g8, g9, g10, g11, g12⟩ hon
      have e0 := hon (j := 0) rfl trivial
      have e1 := hon (j := 1) rfl trivial
      have e2 := hon (j := 2) rfl ⟨e0, e1, trivial⟩
      have e3 := hon (j := 3) rfl ⟨e2, trivial⟩
      have e4 := hon (j := 4) rfl ⟨e3, trivial⟩
      have e5 := hon (j := 5) rfl trivial
      have e6 := hon (j := 6) rfl ⟨e4, e5, trivial⟩
      have e7 := hon (j := 7) rfl ⟨e6, trivial⟩
      have e8 := hon (j := 8) rfl ⟨e7, trivial⟩
      have e9 := hon (j := 9) rfl ⟨e7, trivial⟩
      have e10 := hon (j := 10) rfl trivial
      have e11 := hon (j := 11) rfl ⟨e10, e8, e6, e0, e1, e2, e3, e4, e5, e6, e7, e8, e10, trivial⟩
      have e12 := hon (j := 12) rfl ⟨e9, e11, e0, e1, e2, e3, e4, e5, e6, e7, e8, e9, e10, e11, trivial⟩
      obtain rfl := g0.out e0; clear g0
      obtain rfl := g1.out e1; clear g1
      obtain rfl := g2.out e2; clear g2
      obtain rfl := g3.out e3; clear g3
      obtain rfl := g4.out e4; clear g4
      obtain rfl := g5.out e5; clear g5
      obtain rfl := g6.out e6; clear g6
      obtain rfl := g7.out e7; clear g7
      obtain rfl := g8.out e8; clear g8
      obtain rfl := g9.out e9; clear g9
      clear g10
      obtain ⟨-, ⟨gb, rfl, hgsgb, hhgb⟩⟩ := g11.out e11; clear g11
      obtain rfl := g12.out e12; clear g12
      clear hon e0 e1 e2 e3 e4 e5 e6 e7 e8 e9 e10 e11 e12 l
      refine ⟨?_⟩
      simp only [Prod.forall, putAll, List.setIfInBounds_toArray, List.set_cons_zero, List.set_cons_succ]
      obtain ⟨kb, fb⟩ := blkcell hhgb
      have hlb := lt_of_blk hhgb
      obtain ⟨e0, e1, e2, e3, e4⟩ := pre_at hh0 HP.out ex.out
      have fo := (blkcell hh0).2
      have HS := Lib.hid (OwnE.setBal hBg hh0 HP.out ex.out r)
      have HBS := Lib.hid (below_set (b := gO) (o := q * 5 + 2 + 2) (below_set (b := gO) (o := q * 5 + 2 + 1) (below_set (b := gO) (o := q * 5 + 2) hB hBg (.int .i64 r.1)) hBg (.int .i64 r.2.1)) hBg (.int .i64 r.2.2))
      clear hh0 c2 c3 c4 d0 d1 d2 hgsgb
      go_wp2
      go_ret2
      exact ⟨_, _, by rw [hr.out]; rfl, by rw [hr.out]; exact HS.out, HBS.out⟩
set_option maxHeartbeats 6400000 in
theorem specTreePay_any (A : Option Addr) (n c : Nat) (t : List El) (i : Int) (a : B3) (w : World) (hx : Els w A t) (hn : t.length = n) (hnb : n ≤ 1099511627776) :
    Calls Try.prog 31 #[.slice A n c, .int .i64 i, amt3 a] w (OutB (treePay t i a).1 (treePay t i a).2 n w) := by
  have HX := Lib.hid hx; have HN := Lib.hid hn
  have C := Lib.hid (fun w' h => l6Live_any A n c t i w' h hn hnb)
  have CP := Lib.hid (fun w' h => l6Copy_any A n c t w' h hn hnb)
  cases hl : (rightB t && liveAt t i)
  · have hr := Lib.hid (treePay_no (a := a) hl)
    rw [hl] at C
    clear hx hn hl
    go_enter Try.func31, Try.ntmps31
    go_wp2_with fail
    refine (CP.out _ (HX.out.alloc _)).mono ?_
    rintro e w1 ⟨A', c', rfl, ho, hb1⟩
    have HO := Lib.hid (ho.more (B' := w.heap.size) (by simp))
    have hB := Below.trans ((Below.refl w.heap.size w).alloc (Nat.le_refl _) _) (hb1.mono (by simp))
    have hbox := keepblk hb1 (heap_alloc_new w _)
    have hs := hB.size
    clear ho hb1
    go_wp2_with fail
    refine (C.out _ (HX.out.keep fun _ _ h => Below.keeps hB h)).mono ?_
    rintro e w2 ⟨rfl, hb2⟩
    have HO := Lib.hid (HO.out.below hb2)
    have hbox := keepblk hb2 hbox
    have hB := Below.trans hB (hb2.mono hs)
    have hs := hB.size
    clear hb2
    go_wp2
    go_ret2
    exact ⟨A', c', by rw [hr.out]; rfl, by rw [hr.out]; exact HO.out, hB⟩
  · have hl0 := Bool.and_eq_true_iff.1 hl
    have hR := (rightB_iff t).1 hl0.1
    obtain rfl : n = 5 := by rw [← hn]; exact hR.len
    obtain ⟨q, y, rfl, hq, hxq, hxl⟩ := liveAt_range hl0.2
    have hr := Lib.hid (treePay_at (a := a) hl0.1 hl0.2 hxq)
    have ex := Lib.hid hxq
    have hla := hl0.2
    rw [hl] at C
    have S := Lib.hid (specAmtSub_r y.2.2 a)
    obtain ⟨r, hre⟩ : ∃ r, (subR y.2.2 a).1 = r := ⟨_, rfl⟩
    obtain ⟨k, hke⟩ : ∃ k, (subR y.2.2 a).2 = k := ⟨_, rfl⟩
    have hk0 := Lib.hid (show k = false → r = y.2.2 by rw [← hre, ← hke]; unfold subR; split <;> simp)
    rw [hre, hke] at S hr
    obtain ⟨b, off, rfl, hbx, c0, c1, c2, c3, c4⟩ := hx.at_ ex.out
    have hq0 : (0 : Int) ≤ (q : Int) := by omega
    have hq5 : (q : Int) < 5 := by omega
    clear hx hn hl hl0 hR hxq hxl hre hke
    go_enter Try.func31, Try.ntmps31
    go_wp2_with fail
    refine (CP.out _ (HX.out.alloc _)).mono ?_
    rintro e w1 ⟨A', c', rfl, ho, hb1⟩
    have HO := Lib.hid (ho.more (B' := w.heap.size) (by simp))
    have hB := Below.trans ((Below.refl w.heap.size w).alloc (Nat.le_refl _) _) (hb1.mono (by simp))
    have hbox := keepblk hb1 (heap_alloc_new w _)
    have hs := hB.size
    clear ho hb1
    go_wp2_with fail
    refine (C.out _ (HX.out.keep fun _ _ h => Below.keeps hB h)).mono ?_
    rintro e w2 ⟨rfl, hb2⟩
    have HO := Lib.hid (HO.out.below hb2)
    have hbox := keepblk hb2 hbox
    have hB := Below.trans hB (hb2.mono hs)
    have hs := hB.size
    clear hb2
    clear hla
    obtain ⟨gO, full, rfl, hBg, hh0, hp⟩ := HO.out.block HN.out
    have HP := Lib.hid hp
    obtain ⟨d0, d1, d2⟩ : w2.cell? ⟨w.heap.size, 0, none⟩ = some (.int .i64 a.1) ∧ w2.cell? ⟨w.heap.size, 1, none⟩ = some (.int .i64 a.2.1) ∧ w2.cell? ⟨w.heap.size, 2, none⟩ = some (.int .i64 a.2.2) := by
      have h := (blkcell hbox).1
      exact ⟨h 0, h 1, h 2⟩
    have c2 := Below.keeps hB c2; have c3 := Below.keeps hB c3; have c4 := Below.keeps hB c4
    clear c0 c1 hp hbox HO
    go_wp2_with fail
    refine wp_region_fr (U := Value × Value × Value × Value × Value × Value × Value × Value × Value × Value × Value × Value) [[], [], [0, 1], [2], [3], [], [4, 5], [6], [7], [7], [], [10, 8, 6, 0, 1, 2, 3, 4, 5, 6, 7, 8, 10], [9, 11, 0, 1, 2, 3, 4, 5, 6, 7, 8, 9, 10, 11]] (fun u => match u with | (u19, u20, u21, u22, u23, u24, u25, u18, u26, u27, u9, u10) => [(19, u19), (20, u20), (21, u21), (22, u22), (23, u23), (24, u24), (25, u25), (18, u18), (26, u26), (27, u27), (9, u9), (10, u10)]) (undef, undef, undef, undef, undef, undef, undef, undef, undef, undef, undef, undef) (fun l u x => match u with | (u19, u20, u21, u22, u23, u24, u25, u18, u26, u27, u9, u10) => (x.cell? ⟨b, off + q * 5 + 2, none⟩ = some (.int .i64 y.2.2.1)) ∧ (x.cell? ⟨b, off + q * 5 + 3, none⟩ = some (.int .i64 y.2.2.2.1)) ∧ (x.cell? ⟨b, off + q * 5 + 4, none⟩ = some (.int .i64 y.2.2.2.2)) ∧ (x.cell? ⟨w.heap.size, 0, none⟩ = some (.int .i64 a.1)) ∧ (x.cell? ⟨w.heap.size, 1, none⟩ = some (.int .i64 a.2.1)) ∧ (x.cell? ⟨w.heap.size, 2, none⟩ = some (.int .i64 a.2.2)) ∧ (x.heap[gO]? = some (.cells full 56 (0, 0))) ∧ (Below w.heap.size w x) ∧ Hid (l.getD 0 false = true → u19 = .slice (some ⟨b, off, none⟩) 5 c) ∧ Hid (l.getD 1 false = true → u20 = .int .i64 (q : Int)) ∧ Hid (l.getD 2 false = true → u21 = .pointer (some ⟨b, off + q * 5, none⟩)) ∧ Hid (l.getD 3 false = true → u22 = .pointer (some ⟨b, off + q * 5 + 2, none⟩)) ∧ Hid (l.getD 4 false = true → u23 = amt3 y.2.2) ∧ Hid (l.getD 5 false = true → u24 = amt3 a) ∧ Hid (l.getD 6 false = true → u25 = .tuple #[amt3 r, .bool k]) ∧ Hid (l.getD 7 false = true → u18 = .tuple #[amt3 r, .bool k]) ∧ Hid (l.getD 8 false = true → u26 = amt3 r) ∧ Hid (l.getD 9 false = true → u27 = .bool k) ∧ Hid (l.getD 10 false = true → ∃ (g : Nat) (x0 x1 x2 : Value), u9 = .pointer (some ⟨g, 0, none⟩) ∧ (w.heap.size ≤ g ∧ w.heap.size < g ∧ gO < g) ∧ x.heap[g]? = some (.cells #[x0, x1, x2] 27 (0, 0))) ∧ Hid (l.getD 11 false = true → l.getD 10 false = true ∧ (∃ g : Nat, u9 = .pointer (some ⟨g, 0, none⟩) ∧ (w.heap.size ≤ g ∧ w.heap.size < g ∧ gO < g) ∧ x.heap[g]? = some (.cells #[.int .i64 r.1, .int .i64 r.2.1, .int .i64 r.2.2] 27 (0, 0)))) ∧ Hid (l.getD 12 false = true → u10 = .bool k)) (by kernel_rfl) (by kernel_rfl) ?_ ?_ ?_ ?_
    · kernel_rfl
    · exact ⟨(by exact c2), (by exact c3), (by exact c4), (by exact d0), (by exact d1), (by exact d2), (by exact hh0), (by exact hB.drew), fun h => repl_off h, fun h => repl_off h, fun h => repl_off h, fun h => repl_off h, fun h => repl_off h, fun h => repl_off h, fun h => repl_off h, fun h => repl_off h, fun h => repl_off h, fun h => repl_off h, fun h => repl_off h, fun h => repl_off h, fun h => repl_off h⟩
    · refine ⟨?_, ?_, ?_, ?_, ?_, ?_, ?_, ?_, ?_, ?_, ?_, ?_, ?_, trivial⟩
      · refine ⟨rfl, ?_⟩
        rintro l ⟨u19, u20, u21, u22, u23, u24, u25, u18, u26, u27, u9, u10⟩ x ⟨c2, c3, c4, d0, d1, d2, hh0, hB, g0, g1, g2, g3, g4, g5, g6, g7, g8, g9, g10, g11, g12⟩ hun hpre K hK
        clear hpre
        refine ⟨?_⟩
        simp only [Prod.forall, putAll, List.setIfInBounds_toArray, List.set_cons_zero, List.set_cons_succ] at hK ⊢
        go_simp
        exact hK _ _ _ _ _ _ _ _ _ _ _ _ _ ⟨c2, c3, c4, d0, d1, d2, hh0, hB, fun _ => rfl, fun h => g1.out (on_set_other (by decide) h), fun h => g2.out (on_set_other (by decide) h), fun h => g3.out (on_set_other (by decide) h), fun h => g4.out (on_set_other (by decide) h), fun h => g5.out (on_set_other (by decide) h), fun h => g6.out (on_set_other (by decide) h), fun h => g7.out (on_set_other (by decide) h), fun h => g8.out (on_set_other (by decide) h), fun h => g9.out (on_set_other (by decide) h), fun h => g10.out (on_set_other (by decide) h), fun h => (fun ⟨o10, h2⟩ => ⟨on_keep o10, h2⟩) (g11.out (on_set_other (by decide) h)), fun h => g12.out (on_set_other (by decide) h)⟩
      · refine ⟨rfl, ?_⟩
        rintro l ⟨u19, u20, u21, u22, u23, u24, u25, u18, u26, u27, u9, u10⟩ x ⟨c2, c3, c4, d0, d1, d2, hh0, hB, g0, g1, g2, g3, g4, g5, g6, g7, g8, g9, g10, g11, g12⟩ hun hpre K hK
        clear hpre
        refine ⟨?_⟩
        simp only [Prod.forall, putAll, List.setIfInBounds_toArray, List.set_cons_zero, List.set_cons_succ] at hK ⊢
        go_simp
        exact hK _ _ _ _ _ _ _ _ _ _ _ _ _ ⟨c2, c3, c4, d0, d1, d2, hh0, hB, fun h => g0.out (on_set_other (by decide) h), fun _ => rfl, fun h => g2.out (on_set_other (by decide) h), fun h => g3.out (on_set_other (by decide) h), fun h => g4.out (on_set_other (by decide) h), fun h => g5.out (on_set_other (by decide) h), fun h => g6.out (on_set_other (by decide) h), fun h => g7.out (on_set_other (by decide) h), fun h => g8.out (on_set_other (by decide) h), fun h => g9.out (on_set_other (by decide) h), fun h => g10.out (on_set_other (by decide) h), fun h => (fun ⟨o10, h2⟩ => ⟨on_keep o10, h2⟩) (g11.out (on_set_other (by decide) h)), fun h => g12.out (on_set_other (by decide) h)⟩
      · refine ⟨rfl, ?_⟩
        rintro l ⟨u19, u20, u21, u22, u23, u24, u25, u18, u26, u27, u9, u10⟩ x ⟨c2, c3, c4, d0, d1, d2, hh0, hB, g0, g1, g2, g3, g4, g5, g6, g7, g8, g9, g10, g11, g12⟩ hun hpre K hK
        obtain ⟨e0, e1, -⟩ := hpre
        obtain rfl := g0.out e0
        obtain rfl := g1.out e1
        refine ⟨?_⟩
        simp only [Prod.forall, putAll, List.setIfInBounds_toArray, List.set_cons_zero, List.set_cons_succ] at hK ⊢
        go_simp
        exact hK _ _ _ _ _ _ _ _ _ _ _ _ _ ⟨c2, c3, c4, d0, d1, d2, hh0, hB, fun h => g0.out (on_set_other (by decide) h), fun h => g1.out (on_set_other (by decide) h), fun _ => rfl, fun h => g3.out (on_set_other (by decide) h), fun h => g4.out (on_set_other (by decide) h), fun h => g5.out (on_set_other (by decide) h), fun h => g6.out (on_set_other (by decide) h), fun h => g7.out (on_set_other (by decide) h), fun h => g8.out (on_set_other (by decide) h), fun h => g9.out (on_set_other (by decide) h), fun h => g10.out (on_set_other (by decide) h), fun h => (fun ⟨o10, h2⟩ => ⟨on_keep o10, h2⟩) (g11.out (on_set_other (by decide) h)), fun h => g12.out (on_set_other (by decide) h)⟩
      · refine ⟨rfl, ?_⟩
        rintro l ⟨u19, u20, u21, u22, u23, u24, u25, u18, u26, u27, u9, u10⟩ x ⟨c2, c3, c4, d0, d1, d2, hh0, hB, g0, g1, g2, g3, g4, g5, g6, g7, g8, g9, g10, g11, g12⟩ hun hpre K hK
        obtain ⟨e2, -⟩ := hpre
        obtain rfl := g2.out e2
        refine ⟨?_⟩
        simp only [Prod.forall, putAll, List.setIfInBounds_toArray, List.set_cons_zero, List.set_cons_succ] at hK ⊢
        go_simp
        exact hK _ _ _ _ _ _ _ _ _ _ _ _ _ ⟨c2, c3, c4, d0, d1, d2, hh0, hB, fun h => g0.out (on_set_other (by decide) h), fun h => g1.out (on_set_other (by decide) h), fun h => g2.out (on_set_other (by decide) h), fun _ => rfl, fun h => g4.out (on_set_other (by decide) h), fun h => g5.out (on_set_other (by decide) h), fun h => g6.out (on_set_other (by decide) h), fun h => g7.out (on_set_other (by decide) h), fun h => g8.out (on_set_other (by decide) h), fun h => g9.out (on_set_other (by decide) h), fun h => g10.out (on_set_other (by decide) h), fun h => (fun ⟨o10, h2⟩ => ⟨on_keep o10, h2⟩) (g11.out (on_set_other (by decide) h)), fun h => g12.out (on_set_other (by decide) h)⟩
      · refine ⟨rfl, ?_⟩
        rintro l ⟨u19, u20, u21, u22, u23, u24, u25, u18, u26, u27, u9, u10⟩ x ⟨c2, c3, c4, d0, d1, d2, hh0, hB, g0, g1, g2, g3, g4, g5, g6, g7, g8, g9, g10, g11, g12⟩ hun hpre K hK
        obtain ⟨e3, -⟩ := hpre
        obtain rfl := g3.out e3
        refine ⟨?_⟩
        simp only [Prod.forall, putAll, List.setIfInBounds_toArray, List.set_cons_zero, List.set_cons_succ] at hK ⊢
        go_simp
        exact hK _ _ _ _ _ _ _ _ _ _ _ _ _ ⟨c2, c3, c4, d0, d1, d2, hh0, hB, fun h => g0.out (on_set_other (by decide) h), fun h => g1.out (on_set_other (by decide) h), fun h => g2.out (on_set_other (by decide) h), fun h => g3.out (on_set_other (by decide) h), fun _ => rfl, fun h => g5.out (on_set_other (by decide) h), fun h => g6.out (on_set_other (by decide) h), fun h => g7.out (on_set_other (by decide) h), fun h => g8.out (on_set_other (by decide) h), fun h => g9.out (on_set_other (by decide) h), fun h => g10.out (on_set_other (by decide) h), fun h => (fun ⟨o10, h2⟩ => ⟨on_keep o10, h2⟩) (g11.out (on_set_other (by decide) h)), fun h => g12.out (on_set_other (by decide) h)⟩
      · refine ⟨rfl, ?_⟩
        rintro l ⟨u19, u20, u21, u22, u23, u24, u25, u18, u26, u27, u9, u10⟩ x ⟨c2, c3, c4, d0, d1, d2, hh0, hB, g0, g1, g2, g3, g4, g5, g6, g7, g8, g9, g10, g11, g12⟩ hun hpre K hK
        clear hpre
        refine ⟨?_⟩
        simp only [Prod.forall, putAll, List.setIfInBounds_toArray, List.set_cons_zero, List.set_cons_succ] at hK ⊢
        go_simp
        exact hK _ _ _ _ _ _ _ _ _ _ _ _ _ ⟨c2, c3, c4, d0, d1, d2, hh0, hB, fun h => g0.out (on_set_other (by decide) h), fun h => g1.out (on_set_other (by decide) h), fun h => g2.out (on_set_other (by decide) h), fun h => g3.out (on_set_other (by decide) h), fun h => g4.out (on_set_other (by decide) h), fun _ => rfl, fun h => g6.out (on_set_other (by decide) h), fun h => g7.out (on_set_other (by decide) h), fun h => g8.out (on_set_other (by decide) h), fun h => g9.out (on_set_other (by decide) h), fun h => g10.out (on_set_other (by decide) h), fun h => (fun ⟨o10, h2⟩ => ⟨on_keep o10, h2⟩) (g11.out (on_set_other (by decide) h)), fun h => g12.out (on_set_other (by decide) h)⟩
      · refine ⟨rfl, ?_⟩
        rintro l ⟨u19, u20, u21, u22, u23, u24, u25, u18, u26, u27, u9, u10⟩ x ⟨c2, c3, c4, d0, d1, d2, hh0, hB, g0, g1, g2, g3, g4, g5, g6, g7, g8, g9, g10, g11, g12⟩ hun hpre K hK
        obtain ⟨e4, e5, -⟩ := hpre
        obtain rfl := g4.out e4
        obtain rfl := g5.out e5
        refine ⟨?_⟩
        simp only [Prod.forall, putAll, List.setIfInBounds_toArray, List.set_cons_zero, List.set_cons_succ] at hK ⊢
        go_simp
        refine (S.out _).mono ?_
        rintro e x2 ⟨rfl, hb⟩
        have hs := hB.size
        exact hK _ _ _ _ _ _ _ _ _ _ _ _ _ ⟨Below.keeps hb (c2), Below.keeps hb (c3), Below.keeps hb (c4), Below.keeps hb (d0), Below.keeps hb (d1), Below.keeps hb (d2), keepblk hb (hh0), hB.trans (hb.mono hs), fun h => g0.out (on_set_other (by decide) h), fun h => g1.out (on_set_other (by decide) h), fun h => g2.out (on_set_other (by decide) h), fun h => g3.out (on_set_other (by decide) h), fun h => g4.out (on_set_other (by decide) h), fun h => g5.out (on_set_other (by decide) h), fun _ => rfl, fun h => g7.out (on_set_other (by decide) h), fun h => g8.out (on_set_other (by decide) h), fun h => g9.out (on_set_other (by decide) h), fun h => (fun ⟨ga, x0, x1, x2, h1, h2, h3⟩ => ⟨ga, x0, x1, x2, h1, h2, keepblk hb h3⟩) (g10.out (on_set_other (by decide) h)), fun h => (fun ⟨o10, h2⟩ => ⟨on_keep o10, (fun ⟨ga, h1, h2, h3⟩ => ⟨ga, h1, h2, keepblk hb h3⟩) h2⟩) (g11.out (on_set_other (by decide) h)), fun h => g12.out (on_set_other (by decide) h)⟩
      · refine ⟨rfl, ?_⟩
        rintro l ⟨u19, u20, u21, u22, u23, u24, u25, u18, u26, u27, u9, u10⟩ x ⟨c2, c3, c4, d0, d1, d2, hh0, hB, g0, g1, g2, g3, g4, g5, g6, g7, g8, g9, g10, g11, g12⟩ hun hpre K hK
        obtain ⟨e6, -⟩ := hpre
        obtain rfl := g6.out e6
        refine ⟨?_⟩
        simp only [Prod.forall, putAll, List.setIfInBounds_toArray, List.set_cons_zero, List.set_cons_succ] at hK ⊢
        go_simp
        exact hK _ _ _ _ _ _ _ _ _ _ _ _ _ ⟨c2, c3, c4, d0, d1, d2, hh0, hB, fun h => g0.out (on_set_other (by decide) h), fun h => g1.out (on_set_other (by decide) h), fun h => g2.out (on_set_other (by decide) h), fun h => g3.out (on_set_other (by decide) h), fun h => g4.out (on_set_other (by decide) h), fun h => g5.out (on_set_other (by decide) h), fun h => g6.out (on_set_other (by decide) h), fun _ => rfl, fun h => g8.out (on_set_other (by decide) h), fun h => g9.out (on_set_other (by decide) h), fun h => g10.out (on_set_other (by decide) h), fun h => (fun ⟨o10, h2⟩ => ⟨on_keep o10, h2⟩) (g11.out (on_set_other (by decide) h)), fun h => g12.out (on_set_other (by decide) h)⟩
      · refine ⟨rfl, ?_⟩
        rintro l ⟨u19, u20, u21, u22, u23, u24, u25, u18, u26, u27, u9, u10⟩ x ⟨c2, c3, c4, d0, d1, d2, hh0, hB, g0, g1, g2, g3, g4, g5, g6, g7, g8, g9, g10, g11, g12⟩ hun hpre K hK
        obtain ⟨e7, -⟩ := hpre
        obtain rfl := g7.out e7
        refine ⟨?_⟩
        simp only [Prod.forall, putAll, List.setIfInBounds_toArray, List.set_cons_zero, List.set_cons_succ] at hK ⊢
        go_simp
        exact hK _ _ _ _ _ _ _ _ _ _ _ _ _ ⟨c2, c3, c4, d0, d1, d2, hh0, hB, fun h => g0.out (on_set_other (by decide) h), fun h => g1.out (on_set_other (by decide) h), fun h => g2.out (on_set_other (by decide) h), fun h => g3.out (on_set_other (by decide) h), fun h => g4.out (on_set_other (by decide) h), fun h => g5.out (on_set_other (by decide) h), fun h => g6.out (on_set_other (by decide) h), fun h => g7.out (on_set_other (by decide) h), fun _ => rfl, fun h => g9.out (on_set_other (by decide) h), fun h => g10.out (on_set_other (by decide) h), fun h => (fun ⟨o10, h2⟩ => ⟨on_keep o10, h2⟩) (g11.out (on_set_other (by decide) h)), fun h => g12.out (on_set_other (by decide) h)⟩
      · refine ⟨rfl, ?_⟩
        rintro l ⟨u19, u20, u21, u22, u23, u24, u25, u18, u26, u27, u9, u10⟩ x ⟨c2, c3, c4, d0, d1, d2, hh0, hB, g0, g1, g2, g3, g4, g5, g6, g7, g8, g9, g10, g11, g12⟩ hun hpre K hK
        obtain ⟨e7, -⟩ := hpre
        obtain rfl := g7.out e7
        refine ⟨?_⟩
        simp only [Prod.forall, putAll, List.setIfInBounds_toArray, List.set_cons_zero, List.set_cons_succ] at hK ⊢
        go_simp
        exact hK _ _ _ _ _ _ _ _ _ _ _ _ _ ⟨c2, c3, c4, d0, d1, d2, hh0, hB, fun h => g0.out (on_set_other (by decide) h), fun h => g1.out (on_set_other (by decide) h), fun h => g2.out (on_set_other (by decide) h), fun h => g3.out (on_set_other (by decide) h), fun h => g4.out (on_set_other (by decide) h), fun h => g5.out (on_set_other (by decide) h), fun h => g6.out (on_set_other (by decide) h), fun h => g7.out (on_set_other (by decide) h), fun h => g8.out (on_set_other (by decide) h), fun _ => rfl, fun h => g10.out (on_set_other (by decide) h), fun h => (fun ⟨o10, h2⟩ => ⟨on_keep o10, h2⟩) (g11.out (on_set_other (by decide) h)), fun h => g12.out (on_set_other (by decide) h)⟩
      · refine ⟨rfl, ?_⟩
        rintro l ⟨u19, u20, u21, u22, u23, u24, u25, u18, u26, u27, u9, u10⟩ x ⟨c2, c3, c4, d0, d1, d2, hh0, hB, g0, g1, g2, g3, g4, g5, g6, g7, g8, g9, g10, g11, g12⟩ hun hpre K hK
        clear hpre
        refine ⟨?_⟩
        simp only [Prod.forall, putAll, List.setIfInBounds_toArray, List.set_cons_zero, List.set_cons_succ] at hK ⊢
        have hs := hB.size
        have hlt : w.heap.size < x.heap.size ∧ gO < x.heap.size := by have h0 : w.heap.size < x.heap.size := lt_of_cell d0; have h1 := lt_of_blk hh0; omega
        go_simp
        exact hK _ _ _ _ _ _ _ _ _ _ _ _ _ ⟨cell_alloc_ (c2), cell_alloc_ (c3), cell_alloc_ (c4), cell_alloc_ (d0), cell_alloc_ (d1), cell_alloc_ (d2), blk_alloc (hh0), hB.alloc hs _, fun h => g0.out (on_set_other (by decide) h), fun h => g1.out (on_set_other (by decide) h), fun h => g2.out (on_set_other (by decide) h), fun h => g3.out (on_set_other (by decide) h), fun h => g4.out (on_set_other (by decide) h), fun h => g5.out (on_set_other (by decide) h), fun h => g6.out (on_set_other (by decide) h), fun h => g7.out (on_set_other (by decide) h), fun h => g8.out (on_set_other (by decide) h), fun h => g9.out (on_set_other (by decide) h), fun _ => ⟨_, _, _, _, rfl, ⟨hs, hlt⟩, heap_alloc_new x _⟩, fun h => off_of_on hun (g11.out (on_set_other (by decide) h)).1, fun h => g12.out (on_set_other (by decide) h)⟩
      · refine ⟨rfl, ?_⟩
        rintro l ⟨u19, u20, u21, u22, u23, u24, u25, u18, u26, u27, u9, u10⟩ x ⟨c2, c3, c4, d0, d1, d2, hh0, hB, g0, g1, g2, g3, g4, g5, g6, g7, g8, g9, g10, g11, g12⟩ hun hpre K hK
        obtain ⟨e10, e8, e6, e0, e1, e2, e3, e4, e5, _, e7, _, _, -⟩ := hpre
        obtain rfl := g0.out e0
        obtain rfl := g1.out e1
        obtain rfl := g2.out e2
        obtain rfl := g3.out e3
        obtain rfl := g4.out e4
        obtain rfl := g5.out e5
        obtain rfl := g6.out e6
        obtain rfl := g7.out e7
        obtain rfl := g8.out e8
        obtain ⟨gb, x0, x1, x2, rfl, hgs, hh⟩ := g10.out e10
        refine ⟨?_⟩
        simp only [Prod.forall, putAll, List.setIfInBounds_toArray, List.set_cons_zero, List.set_cons_succ] at hK ⊢
        have hg1 := hgs.1
        have hg2 := hgs.2
        obtain ⟨hcl, hfr⟩ := blkcell hh
        go_simp
        have hnew := blk_set (i := 2) (blk_set (i := 1) (blk_set (i := 0) hh (.int .i64 r.1)) (.int .i64 r.2.1)) (.int .i64 r.2.2)
        exact hK _ _ _ _ _ _ _ _ _ _ _ _ _ ⟨cell_set_ (cell_set_ (cell_set_ (c2) (by (try dsimp only); omega)) (by (try dsimp only); omega)) (by (try dsimp only); omega), cell_set_ (cell_set_ (cell_set_ (c3) (by (try dsimp only); omega)) (by (try dsimp only); omega)) (by (try dsimp only); omega), cell_set_ (cell_set_ (cell_set_ (c4) (by (try dsimp only); omega)) (by (try dsimp only); omega)) (by (try dsimp only); omega), cell_set_ (cell_set_ (cell_set_ (d0) (by (try dsimp only); omega)) (by (try dsimp only); omega)) (by (try dsimp only); omega), cell_set_ (cell_set_ (cell_set_ (d1) (by (try dsimp only); omega)) (by (try dsimp only); omega)) (by (try dsimp only); omega), cell_set_ (cell_set_ (cell_set_ (d2) (by (try dsimp only); omega)) (by (try dsimp only); omega)) (by (try dsimp only); omega), blk_far (blk_far (blk_far (hh0) (by (try dsimp only); omega) _) (by (try dsimp only); omega) _) (by (try dsimp only); omega) _, ((((((hB).setCell hg1 _)).setCell hg1 _)).setCell hg1 _), fun h => g0.out (on_set_other (by decide) h), fun h => g1.out (on_set_other (by decide) h), fun h => g2.out (on_set_other (by decide) h), fun h => g3.out (on_set_other (by decide) h), fun h => g4.out (on_set_other (by decide) h), fun h => g5.out (on_set_other (by decide) h), fun h => g6.out (on_set_other (by decide) h), fun h => g7.out (on_set_other (by decide) h), fun h => g8.out (on_set_other (by decide) h), fun h => g9.out (on_set_other (by decide) h), fun h => ⟨gb, _, _, _, rfl, hgs, hnew⟩, fun _ => ⟨on_keep e10, ⟨gb, rfl, hgs, hnew⟩⟩, fun h => g12.out (on_set_other (by decide) h)⟩
      · refine ⟨rfl, ?_⟩
        rintro l ⟨u19, u20, u21, u22, u23, u24, u25, u18, u26, u27, u9, u10⟩ x ⟨c2, c3, c4, d0, d1, d2, hh0, hB, g0, g1, g2, g3, g4, g5, g6, g7, g8, g9, g10, g11, g12⟩ hun hpre K hK
        obtain ⟨e9, e11, e0, e1, e2, e3, e4, e5, e6, e7, e8, _, e10, _, -⟩ := hpre
        obtain rfl := g0.out e0
        obtain rfl := g1.out e1
        obtain rfl := g2.out e2
        obtain rfl := g3.out e3
        obtain rfl := g4.out e4
        obtain rfl := g5.out e5
        obtain rfl := g6.out e6
        obtain rfl := g7.out e7
        obtain rfl := g8.out e8
        obtain rfl := g9.out e9
        obtain ⟨-, ⟨gb, rfl, hgsgb, hhgb⟩⟩ := g11.out e11
        refine ⟨?_⟩
        simp only [Prod.forall, putAll, List.setIfInBounds_toArray, List.set_cons_zero, List.set_cons_succ] at hK ⊢
        go_simp
        exact hK _ _ _ _ _ _ _ _ _ _ _ _ _ ⟨c2, c3, c4, d0, d1, d2, hh0, hB, fun h => g0.out (on_set_other (by decide) h), fun h => g1.out (on_set_other (by decide) h), fun h => g2.out (on_set_other (by decide) h), fun h => g3.out (on_set_other (by decide) h), fun h => g4.out (on_set_other (by decide) h), fun h => g5.out (on_set_other (by decide) h), fun h => g6.out (on_set_other (by decide) h), fun h => g7.out (on_set_other (by decide) h), fun h => g8.out (on_set_other (by decide) h), fun h => g9.out (on_set_other (by decide) h), fun h => g10.out (on_set_other (by decide) h), fun h => (fun ⟨o10, h2⟩ => ⟨on_keep o10, h2⟩) (g11.out (on_set_other (by decide) h)), fun _ => rfl⟩
    · rintro l ⟨u19, u20, u21, u22, u23, u24, u25, u18, u26, u27, u9, u10⟩ x ⟨c2, c3, c4, d0, d1, d2, hh0, hB, g0, g1, g2, g3, g4, g5, g6, g7, g8, g9, g10, g11, g12⟩ hon
      have e0 := hon (j := 0) rfl trivial
      have e1 := hon (j := 1) rfl trivial
      have e2 := hon (j := 2) rfl ⟨e0, e1, trivial⟩
      have e3 := hon (j := 3) rfl ⟨e2, trivial⟩
      have e4 := hon (j := 4) rfl ⟨e3, trivial⟩
      have e5 := hon (j := 5) rfl trivial
      have e6 := hon (j := 6) rfl ⟨e4, e5, trivial⟩
      have e7 := hon (j := 7) rfl ⟨e6, trivial⟩
      have e8 := hon (j := 8) rfl ⟨e7, trivial⟩
      have e9 := hon (j := 9) rfl ⟨e7, trivial⟩
      have e10 := hon (j := 10) rfl trivial
      have e11 := hon (j := 11) rfl ⟨e10, e8, e6, e0, e1, e2, e3, e4, e5, e6, e7, e8, e10, trivial⟩
      have e12 := hon (j := 12) rfl ⟨e9, e11, e0, e1, e2, e3, e4, e5, e6, e7, e8, e9, e10, e11, trivial⟩
      obtain rfl := g0.out e0; clear g0
      obtain rfl := g1.out e1; clear g1
      obtain rfl := g2.out e2; clear g2
      obtain rfl := g3.out e3; clear g3
      obtain rfl := g4.out e4; clear g4
      obtain rfl := g5.out e5; clear g5
      obtain rfl := g6.out e6; clear g6
      obtain rfl := g7.out e7; clear g7
      obtain rfl := g8.out e8; clear g8
      obtain rfl := g9.out e9; clear g9
      clear g10
      obtain ⟨-, ⟨gb, rfl, hgsgb, hhgb⟩⟩ := g11.out e11; clear g11
      obtain rfl := g12.out e12; clear g12
      clear hon e0 e1 e2 e3 e4 e5 e6 e7 e8 e9 e10 e11 e12 l
      refine ⟨?_⟩
      simp only [Prod.forall, putAll, List.setIfInBounds_toArray, List.set_cons_zero, List.set_cons_succ]
      have hlb := lt_of_blk hhgb
      cases k
      · have hS := Lib.hid (show t.set q (setBal y r) = t by rw [hk0.out rfl, setBal_self]; exact set_same ex.out)
        have HO := Lib.hid (show OwnE x w.heap.size (some ⟨gO, 0, none⟩) t from .inr ⟨gO, full, rfl, hBg, hh0, HP.out⟩)
        clear hh0 c2 c3 c4 d0 d1 d2 hgsgb
        go_wp2
        go_ret2
        exact ⟨_, _, by rw [hr.out]; rfl, by rw [hr.out]; show OwnE _ _ _ (t.set q (setBal y r)); rw [hS.out]; exact HO.out, hB⟩
      · obtain ⟨kb, fb⟩ := blkcell hhgb
        obtain ⟨e0, e1, e2, e3, e4⟩ := pre_at hh0 HP.out ex.out
        have fo := (blkcell hh0).2
        have HS := Lib.hid (OwnE.setBal hBg hh0 HP.out ex.out r)
        have HBS := Lib.hid (below_set (b := gO) (o := q * 5 + 2 + 2) (below_set (b := gO) (o := q * 5 + 2 + 1) (below_set (b := gO) (o := q * 5 + 2) hB hBg (.int .i64 r.1)) hBg (.int .i64 r.2.1)) hBg (.int .i64 r.2.2))
        clear hh0 c2 c3 c4 d0 d1 d2 hgsgb
        go_wp2
        go_ret2
        exact ⟨_, _, by rw [hr.out]; rfl, by rw [hr.out]; exact HS.out, HBS.out⟩
end Go.Proofs.Ytdgkfpcecppfdaa
