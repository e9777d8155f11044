/- Contracts of TreeSplit. -/
import Derived.Test.YtdgkfpcecppfdaaETreeSplitM
namespace Go.Proofs.Ytdgkfpcecppfdaa
set_option linter.unusedSimpArgs false
set_option linter.unusedVariables false
open Go.RowKit
attribute [local go_sem ↓] Go.wp_at_zero Go.wp_at_succ

set_option maxHeartbeats 6400000 in
theorem implTreeSplit_any (A : Option Addr) (n c : Nat) (t : List El) (i : Int) (a : B3) (w : World) (hx : Els w A t) (hn : t.length = n) (hnb : n ≤ 1099511627776) :
    Calls Try.prog 38 #[.slice A n c, .int .i64 i, amt3 a] w (OutN (treeSplit t i a).1 (treeSplit t i a).2.1 (treeSplit t i a).2.2 n w) := by
  have HX := Lib.hid hx; have HN := Lib.hid hn
  have PAY := Lib.hid (fun w' h => implTreePay_any A n c t i a w' h hn hnb)
  have CP := Lib.hid (fun w' h => copyTree_any A n c t w' h hn hnb)
  cases hk : (treePay t i a).2
  · have hr := Lib.hid (treeSplit_no hk)
    have hf := Lib.hid (treePay_false hk)
    rw [hk, hf.out] at PAY
    clear hx hn hk
    go_enter Try.func38, Try.ntmps38
    go_wp2_with fail
    refine (PAY.out _ (HX.out.alloc _)).mono ?_
    rintro e w1 ⟨A', c', rfl, ho, hb1⟩
    have HO := Lib.hid (ho.more (B' := w.heap.size) (by simp))
    have hB := Below.trans ((Below.refl w.heap.size w).alloc (Nat.le_refl _) _) (hb1.mono (by simp))
    have hs := hB.size
    have hbox := keepblk hb1 (heap_alloc_new w _)
    clear ho hb1
    obtain ⟨d0, d1, d2⟩ : w1.cell? ⟨w.heap.size, 0, none⟩ = some (.int .i64 a.1) ∧ w1.cell? ⟨w.heap.size, 1, none⟩ = some (.int .i64 a.2.1) ∧ w1.cell? ⟨w.heap.size, 2, none⟩ = some (.int .i64 a.2.2) := by
      have h := (blkcell hbox).1
      exact ⟨h 0, h 1, h 2⟩
    have ld := lt_of_blk hbox
    clear hbox
    go_wp2
    go_ret3
    exact ⟨A', c', by rw [hr.out]; rfl, by rw [hr.out]; exact HO.out, hB⟩
  · obtain ⟨hRR, _⟩ := treePay_true hk
    obtain rfl : n = 5 := by rw [← hn]; exact hRR.len
    have HK := Lib.hid hk
    have HRL := Lib.hid (show (treePay t i a).1.length = 5 by rw [treePay_len]; exact hRR.len)
    rw [hk] at PAY
    obtain ⟨R, hR⟩ : ∃ R, R = (treePay t i a).1 := ⟨_, rfl⟩
    have HR := Lib.hid hR
    rw [← hR] at PAY HRL
    clear hx hn hk hRR hR
    go_enter Try.func38, Try.ntmps38
    go_wp2_with fail
    refine (PAY.out _ (HX.out.alloc _)).mono ?_
    rintro e w1 ⟨A', c', rfl, ho, hb1⟩
    have HO := Lib.hid (ho.more (B' := w.heap.size) (by simp))
    have hB := Below.trans ((Below.refl w.heap.size w).alloc (Nat.le_refl _) _) (hb1.mono (by simp))
    have hs := hB.size
    have hbox := keepblk hb1 (heap_alloc_new w _)
    clear ho hb1
    obtain ⟨d0, d1, d2⟩ : w1.cell? ⟨w.heap.size, 0, none⟩ = some (.int .i64 a.1) ∧ w1.cell? ⟨w.heap.size, 1, none⟩ = some (.int .i64 a.2.1) ∧ w1.cell? ⟨w.heap.size, 2, none⟩ = some (.int .i64 a.2.2) := by
      have h := (blkcell hbox).1
      exact ⟨h 0, h 1, h 2⟩
    have ld := lt_of_blk hbox
    clear hbox
    obtain ⟨gO, rfl, hBg, hob⟩ := HO.out.ob HRL.out
    have HOB := Lib.hid hob
    clear hob HO
    go_wp2
    go_loopw [25] (fun v wr => ∃ k : Nat, k ≤ 5 ∧ v = .int .i64 k ∧ Hid (∀ j, j < k → ∀ c, t[j]? = some c → c.1 = true) ∧ Below w1.heap.size w1 wr) (fun v _ => 5 - (intOf v).toNat)
    case atStart => exact ⟨0, Nat.zero_le _, rfl, fun j hj => by omega, Below.refl _ _⟩
    case round =>
      obtain ⟨k, hk, rfl, hprev, hBr⟩ := hrel
      have HOB := Lib.hid (HOB.out.below hBr)
      have d0 := Below.keeps hBr d0; have d1 := Below.keeps hBr d1; have d2 := Below.keeps hBr d2
      have hB := Below.trans hB (hBr.mono hs)
      have hs1 := hBr.size
      have hs := hB.size
      have ld2 : w.heap.size < wr.heap.size := by omega
      by_cases hlt : k < 5
      · have ex := Lib.hid (List.getElem?_eq_getElem (l := t) (i := k) (by have := HN.out; omega))
        generalize t[k]'(by have := HN.out; omega) = x at *
        have ey := Lib.hid (List.getElem?_eq_getElem (l := R) (i := k) (by have := HRL.out; omega))
        generalize R[k]'(by have := HRL.out; omega) = y at *
        have hyx := Lib.hid (show y.1 = x.1 by obtain ⟨x2, h1, h2⟩ := treePay_live (HR.out ▸ ey.out); rw [ex.out] at h1; cases h1; exact h2)
        have hlt2 : (k : Int) < 5 := by omega
        have hk0 : (0 : Int) ≤ (k : Int) := by omega
        obtain ⟨b, off, rfl, hbx, c0, c1, c2, c3, c4⟩ := HX.out.at_ ex.out
        have c0 := Below.keeps hB c0
        have c1 := Below.keeps hB c1
        have c2 := Below.keeps hB c2
        have c3 := Below.keeps hB c3
        have c4 := Below.keeps hB c4
        obtain ⟨e0, e1, e2, e3, e4⟩ := HOB.out.at_ ey.out
        have fo := HOB.out.fro
        have hgl := HOB.out.lt
        cases hl : x.1
        · have hr := Lib.hid (treeSplit_some HK.out ex.out hl hprev.out)
          rw [← HR.out] at hr
          have HS := Lib.hid (show OB ((((((wr.setCell ⟨gO, k * 5, none⟩ (.bool true)).setCell ⟨gO, k * 5 + 1, none⟩ (.int .i64 i)).setCell ⟨gO, k * 5 + 2, none⟩ (.int .i64 a.1)).setCell ⟨gO, k * 5 + 3, none⟩ (.int .i64 a.2.1)).setCell ⟨gO, k * 5 + 4, none⟩ (.int .i64 a.2.2)).alloc (.cells #[.bool false, .int .i64 x.2.1, .int .i64 x.2.2.1, .int .i64 x.2.2.2.1, .int .i64 x.2.2.2.2] 56)) gO (R.set k (true, i, a)) from (HOB.out.setEl k (true, i, a)).alloc _)
          have HBS := Lib.hid (show Below w.heap.size w ((((((wr.setCell ⟨gO, k * 5, none⟩ (.bool true)).setCell ⟨gO, k * 5 + 1, none⟩ (.int .i64 i)).setCell ⟨gO, k * 5 + 2, none⟩ (.int .i64 a.1)).setCell ⟨gO, k * 5 + 3, none⟩ (.int .i64 a.2.1)).setCell ⟨gO, k * 5 + 4, none⟩ (.int .i64 a.2.2)).alloc (.cells #[.bool false, .int .i64 x.2.1, .int .i64 x.2.2.1, .int .i64 x.2.2.2.1, .int .i64 x.2.2.2.2] 56)) from (below_set (below_set (below_set (below_set (below_set hB hBg _) hBg _) hBg _) hBg _) hBg _).alloc (by simpa using hs) _)
          rw [hl] at c0
          clear hl
          go_wp2
          go_ret3
          exact ⟨_, _, by rw [hr.out]; rfl, by rw [hr.out]; exact HS.out.own hBg, HBS.out⟩
        · have hsn := Lib.hid (live_snoc hprev.out ex.out hl)
          rw [hl] at c0
          clear hl
          go_wp2
          exact ⟨⟨k + 1, by omega, by go_num, hsn, hBr.alloc hs1 _⟩, by simp [intOf]; omega⟩
      · obtain rfl : k = 5 := by omega
        have hr := Lib.hid (treeSplit_none (i := i) (a := a) (fun j hj => hprev.out j (by have := HN.out; omega)))
        go_wp2_with fail
        refine (CP.out _ (HX.out.keep fun _ _ h => Below.keeps hB h)).mono ?_
        rintro e w5 ⟨A2, c2', rfl, ho, hb⟩
        have HO2 := Lib.hid (ho.more hs)
        have hB := Below.trans hB (hb.mono hs)
        clear ho hb
        go_wp2
        go_ret3
        exact ⟨A2, c2', by rw [hr.out]; rfl, by rw [hr.out]; exact HO2.out, hB⟩
set_option maxHeartbeats 6400000 in
theorem specTreeSplit_any (A : Option Addr) (n c : Nat) (t : List El) (i : Int) (a : B3) (w : World) (hx : Els w A t) (hn : t.length = n) (hnb : n ≤ 1099511627776) :
    Calls Try.prog 37 #[.slice A n c, .int .i64 i, amt3 a] w (OutN (treeSplit t i a).1 (treeSplit t i a).2.1 (treeSplit t i a).2.2 n w) := by
  have HX := Lib.hid hx; have HN := Lib.hid hn
  have PAY := Lib.hid (fun w' h => specTreePay_any A n c t i a w' h hn hnb)
  have CP := Lib.hid (fun w' h => l6Copy_any A n c t w' h hn hnb)
  cases hk : (treePay t i a).2
  · have hr := Lib.hid (treeSplit_no hk)
    have hf := Lib.hid (treePay_false hk)
    rw [hk, hf.out] at PAY
    clear hx hn hk
    go_enter Try.func37, Try.ntmps37
    go_wp2_with fail
    refine (PAY.out _ (HX.out.alloc _)).mono ?_
    rintro e w1 ⟨A', c', rfl, ho, hb1⟩
    have HO := Lib.hid (ho.more (B' := w.heap.size) (by simp))
    have hB := Below.trans ((Below.refl w.heap.size w).alloc (Nat.le_refl _) _) (hb1.mono (by simp))
    have hs := hB.size
    have hbox := keepblk hb1 (heap_alloc_new w _)
    clear ho hb1
    obtain ⟨d0, d1, d2⟩ : w1.cell? ⟨w.heap.size, 0, none⟩ = some (.int .i64 a.1) ∧ w1.cell? ⟨w.heap.size, 1, none⟩ = some (.int .i64 a.2.1) ∧ w1.cell? ⟨w.heap.size, 2, none⟩ = some (.int .i64 a.2.2) := by
      have h := (blkcell hbox).1
      exact ⟨h 0, h 1, h 2⟩
    have ld := lt_of_blk hbox
    clear hbox
    go_wp2_with fail
    refine (CP.out _ (HX.out.keep fun _ _ h => Below.keeps hB h)).mono ?_
    rintro e w5 ⟨A2, c2', rfl, ho, hb⟩
    have HO2 := Lib.hid (ho.more hs)
    have hB := Below.trans hB (hb.mono hs)
    clear ho hb
    go_wp2
    go_ret3
    exact ⟨A2, c2', by rw [hr.out]; rfl, by rw [hr.out]; exact HO2.out, hB⟩
  · obtain ⟨hRR, _⟩ := treePay_true hk
    obtain rfl : n = 5 := by rw [← hn]; exact hRR.len
    have HK := Lib.hid hk
    have HRL := Lib.hid (show (treePay t i a).1.length = 5 by rw [treePay_len]; exact hRR.len)
    rw [hk] at PAY
    obtain ⟨R, hR⟩ : ∃ R, R = (treePay t i a).1 := ⟨_, rfl⟩
    have HR := Lib.hid hR
    rw [← hR] at PAY HRL
    clear hx hn hk hRR hR
    go_enter Try.func37, Try.ntmps37
    go_wp2_with fail
    refine (PAY.out _ (HX.out.alloc _)).mono ?_
    rintro e w1 ⟨A', c', rfl, ho, hb1⟩
    have HO := Lib.hid (ho.more (B' := w.heap.size) (by simp))
    have hB := Below.trans ((Below.refl w.heap.size w).alloc (Nat.le_refl _) _) (hb1.mono (by simp))
    have hs := hB.size
    have hbox := keepblk hb1 (heap_alloc_new w _)
    clear ho hb1
    obtain ⟨d0, d1, d2⟩ : w1.cell? ⟨w.heap.size, 0, none⟩ = some (.int .i64 a.1) ∧ w1.cell? ⟨w.heap.size, 1, none⟩ = some (.int .i64 a.2.1) ∧ w1.cell? ⟨w.heap.size, 2, none⟩ = some (.int .i64 a.2.2) := by
      have h := (blkcell hbox).1
      exact ⟨h 0, h 1, h 2⟩
    have ld := lt_of_blk hbox
    clear hbox
    obtain ⟨gO, rfl, hBg, hob⟩ := HO.out.ob HRL.out
    have HOB := Lib.hid hob
    clear hob HO
    go_wp2
    go_loop [11] (fun v => ∃ k : Nat, k ≤ 5 ∧ v = .int .i64 k ∧ Hid (∀ j, j < k → ∀ c, t[j]? = some c → c.1 = true)) (fun v => 5 - (intOf v).toNat)
    case atStart => exact ⟨0, Nat.zero_le _, rfl, fun j hj => by omega⟩
    case round =>
      obtain ⟨k, hk, rfl, hprev⟩ := hrel
      by_cases hlt : k < 5
      · have ex := Lib.hid (List.getElem?_eq_getElem (l := t) (i := k) (by have := HN.out; omega))
        generalize t[k]'(by have := HN.out; omega) = x at *
        have ey := Lib.hid (List.getElem?_eq_getElem (l := R) (i := k) (by have := HRL.out; omega))
        generalize R[k]'(by have := HRL.out; omega) = y at *
        have hyx := Lib.hid (show y.1 = x.1 by obtain ⟨x2, h1, h2⟩ := treePay_live (HR.out ▸ ey.out); rw [ex.out] at h1; cases h1; exact h2)
        have hlt2 : (k : Int) < 5 := by omega
        have hk0 : (0 : Int) ≤ (k : Int) := by omega
        obtain ⟨e0, e1, e2, e3, e4⟩ := HOB.out.at_ ey.out
        have fo := HOB.out.fro
        have hgl := HOB.out.lt
        cases hl : x.1
        · have hr := Lib.hid (treeSplit_some HK.out ex.out hl hprev.out)
          rw [← HR.out] at hr
          have HS := Lib.hid (show OB (((((w1.setCell ⟨gO, k * 5, none⟩ (.bool true)).setCell ⟨gO, k * 5 + 1, none⟩ (.int .i64 i)).setCell ⟨gO, k * 5 + 2, none⟩ (.int .i64 a.1)).setCell ⟨gO, k * 5 + 3, none⟩ (.int .i64 a.2.1)).setCell ⟨gO, k * 5 + 4, none⟩ (.int .i64 a.2.2)) gO (R.set k (true, i, a)) from HOB.out.setEl k (true, i, a))
          have HBS := Lib.hid (show Below w.heap.size w (((((w1.setCell ⟨gO, k * 5, none⟩ (.bool true)).setCell ⟨gO, k * 5 + 1, none⟩ (.int .i64 i)).setCell ⟨gO, k * 5 + 2, none⟩ (.int .i64 a.1)).setCell ⟨gO, k * 5 + 3, none⟩ (.int .i64 a.2.1)).setCell ⟨gO, k * 5 + 4, none⟩ (.int .i64 a.2.2)) from below_set (below_set (below_set (below_set (below_set hB hBg _) hBg _) hBg _) hBg _) hBg _)
          rw [hyx.out, hl] at e0
          clear hl
          go_wp2
          go_ret3
          exact ⟨_, _, by rw [hr.out]; rfl, by rw [hr.out]; exact HS.out.own hBg, HBS.out⟩
        · have hsn := Lib.hid (live_snoc hprev.out ex.out hl)
          rw [hyx.out, hl] at e0
          clear hl
          go_wp2
          exact ⟨⟨k + 1, by omega, by go_num, hsn⟩, by simp [intOf]; omega⟩
      · obtain rfl : k = 5 := by omega
        have hr := Lib.hid (treeSplit_none (i := i) (a := a) (fun j hj => hprev.out j (by have := HN.out; omega)))
        go_wp2_with fail
        refine (CP.out _ (HX.out.keep fun _ _ h => Below.keeps hB h)).mono ?_
        rintro e w5 ⟨A2, c2', rfl, ho, hb⟩
        have HO2 := Lib.hid (ho.more hs)
        have hB := Below.trans hB (hb.mono hs)
        clear ho hb
        go_wp2
        go_ret3
        exact ⟨A2, c2', by rw [hr.out]; rfl, by rw [hr.out]; exact HO2.out, hB⟩
end Go.Proofs.Ytdgkfpcecppfdaa
