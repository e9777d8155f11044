/- Contracts of TreeGive. -/
import Derived.Test.YtdgkfpcecppfdaaETreeSplitM
import Derived.Test.YtdgkfpcecppfdaaETreeBackI
import Derived.Test.YtdgkfpcecppfdaaETreeBackS
namespace Go.Proofs.Ytdgkfpcecppfdaa
set_option linter.unusedSimpArgs false
set_option linter.unusedVariables false
open Go.RowKit
attribute [local go_sem ↓] Go.wp_at_zero Go.wp_at_succ

set_option maxHeartbeats 6400000 in
theorem implTreeGive_any (A : Option Addr) (n c : Nat) (t : List El) (i j : Int) (a : B3) (w : World) (hx : Els w A t) (hn : t.length = n) (hnb : n ≤ 1099511627776) :
    Calls Try.prog 40 #[.slice A n c, .int .i64 i, .int .i64 j, amt3 a] w (OutB (treeGive t i j a).1 (treeGive t i j a).2 n w) := by
  have HX := Lib.hid hx; have HN := Lib.hid hn
  have PAY := Lib.hid (fun w' h => implTreePay_any A n c t i a w' h hn hnb)
  have CP := Lib.hid (fun w' h => copyTree_any A n c t w' h hn hnb)
  obtain ⟨R, hR⟩ : ∃ R, R = (treePay t i a).1 := ⟨_, rfl⟩
  have HR := Lib.hid hR
  rw [← hR] at PAY
  have HRL := Lib.hid (show R.length = n by rw [hR, treePay_len, hn])
  clear hR
  have BACK := Lib.hid (fun A c w' h => implTreeBack_any A n c R j a w' h HRL.out hnb)
  cases hk : (treePay t i a).2
  · have hr := Lib.hid (treeGive_no (j := j) (show ((treePay t i a).2 && liveAt t j) = false by rw [hk]; rfl))
    rw [hk] at PAY
    clear hx hn hk
    go_enter Try.func40, Try.ntmps40
    go_wp2_with fail
    refine (PAY.out _ (HX.out.alloc _)).mono ?_
    rintro e w1 ⟨A', c', rfl, ho, hb1⟩
    have HO := Lib.hid (ho.more (B' := w.heap.size) (by simp))
    have hB := Below.trans ((Below.refl w.heap.size w).alloc (Nat.le_refl _) _) (hb1.mono (by simp))
    have hs := hB.size
    have hbox := keepblk hb1 (heap_alloc_new w _)
    clear ho hb1
    obtain ⟨d0, d1, d2⟩ : w1.cell? ⟨w.heap.size, 0, none⟩ = some (.int .i64 a.1) ∧ w1.cell? ⟨w.heap.size, 1, none⟩ = some (.int .i64 a.2.1) ∧ w1.cell? ⟨w.heap.size, 2, none⟩ = some (.int .i64 a.2.2) := by
      have h := (blkcell hbox).1
      exact ⟨h 0, h 1, h 2⟩
    have ld := lt_of_blk hbox
    clear hbox
    go_wp2_with fail
    refine (CP.out _ (HX.out.keep fun _ _ h => Below.keeps hB h)).mono ?_
    rintro e w5 ⟨A2, c2', rfl, ho, hb⟩
    have HO2 := Lib.hid (ho.more hs)
    have hB := Below.trans hB (hb.mono hs)
    clear ho hb
    go_wp2
    go_ret2
    exact ⟨A2, c2', by rw [hr.out]; rfl, by rw [hr.out]; exact HO2.out, hB⟩
  · obtain ⟨hRR, _⟩ := treePay_true hk
    obtain rfl : n = 5 := by rw [← hn]; exact hRR.len
    rw [hk] at PAY
    cases hla : liveAt t j
    · have hr := Lib.hid (treeGive_no (show ((treePay t i a).2 && liveAt t j) = false by rw [hla]; simp))
      clear hx hn hk hRR
      go_enter Try.func40, Try.ntmps40
      go_wp2_with fail
      refine (PAY.out _ (HX.out.alloc _)).mono ?_
      rintro e w1 ⟨A', c', rfl, ho, hb1⟩
      have HO := Lib.hid (ho.more (B' := w.heap.size) (by simp))
      have hB := Below.trans ((Below.refl w.heap.size w).alloc (Nat.le_refl _) _) (hb1.mono (by simp))
      have hs := hB.size
      have hbox := keepblk hb1 (heap_alloc_new w _)
      clear ho hb1
      obtain ⟨d0, d1, d2⟩ : w1.cell? ⟨w.heap.size, 0, none⟩ = some (.int .i64 a.1) ∧ w1.cell? ⟨w.heap.size, 1, none⟩ = some (.int .i64 a.2.1) ∧ w1.cell? ⟨w.heap.size, 2, none⟩ = some (.int .i64 a.2.2) := by
        have h := (blkcell hbox).1
        exact ⟨h 0, h 1, h 2⟩
      have ld := lt_of_blk hbox
      clear hbox
      go_wp2_with fail
      refine (isLive_any A c t j _ (HX.out.keep fun _ _ h => Below.keeps hB h) HN.out).mono ?_
      rintro e _ ⟨rfl, rfl⟩
      rw [hla]
      clear hla
      go_wp2_with fail
      refine (CP.out _ (HX.out.keep fun _ _ h => Below.keeps hB h)).mono ?_
      rintro e w5 ⟨A2, c2', rfl, ho, hb⟩
      have HO2 := Lib.hid (ho.more hs)
      have hB := Below.trans hB (hb.mono hs)
      clear ho hb
      go_wp2
      go_ret2
      exact ⟨A2, c2', by rw [hr.out]; rfl, by rw [hr.out]; exact HO2.out, hB⟩
    · have hr := Lib.hid (treeGive_yes (show ((treePay t i a).2 && liveAt t j) = true by rw [hla, hk]; rfl))
      rw [← HR.out] at hr
      clear hx hn hk hRR
      go_enter Try.func40, Try.ntmps40
      go_wp2_with fail
      refine (PAY.out _ (HX.out.alloc _)).mono ?_
      rintro e w1 ⟨A', c', rfl, ho, hb1⟩
      have HO := Lib.hid (ho.more (B' := w.heap.size) (by simp))
      have hB := Below.trans ((Below.refl w.heap.size w).alloc (Nat.le_refl _) _) (hb1.mono (by simp))
      have hs := hB.size
      have hbox := keepblk hb1 (heap_alloc_new w _)
      clear ho hb1
      obtain ⟨d0, d1, d2⟩ : w1.cell? ⟨w.heap.size, 0, none⟩ = some (.int .i64 a.1) ∧ w1.cell? ⟨w.heap.size, 1, none⟩ = some (.int .i64 a.2.1) ∧ w1.cell? ⟨w.heap.size, 2, none⟩ = some (.int .i64 a.2.2) := by
        have h := (blkcell hbox).1
        exact ⟨h 0, h 1, h 2⟩
      have ld := lt_of_blk hbox
      clear hbox
      go_wp2_with fail
      refine (isLive_any A c t j _ (HX.out.keep fun _ _ h => Below.keeps hB h) HN.out).mono ?_
      rintro e _ ⟨rfl, rfl⟩
      rw [hla]
      clear hla
      go_wp2_with fail
      refine (BACK.out _ _ _ HO.out.els).mono ?_
      rintro e w5 ⟨A2, c2', rfl, ho, hb⟩
      have HO2 := Lib.hid (ho.more hs)
      have hB := Below.trans hB (hb.mono hs)
      clear ho hb
      go_wp2
      go_ret2
      exact ⟨A2, c2', by rw [hr.out]; rfl, by rw [hr.out]; exact HO2.out, hB⟩
set_option maxHeartbeats 6400000 in
theorem specTreeGive_any (A : Option Addr) (n c : Nat) (t : List El) (i j : Int) (a : B3) (w : World) (hx : Els w A t) (hn : t.length = n) (hnb : n ≤ 1099511627776) :
    Calls Try.prog 39 #[.slice A n c, .int .i64 i, .int .i64 j, amt3 a] w (OutB (treeGive t i j a).1 (treeGive t i j a).2 n w) := by
  have HX := Lib.hid hx; have HN := Lib.hid hn
  have PAY := Lib.hid (fun w' h => specTreePay_any A n c t i a w' h hn hnb)
  have CP := Lib.hid (fun w' h => l6Copy_any A n c t w' h hn hnb)
  obtain ⟨R, hR⟩ : ∃ R, R = (treePay t i a).1 := ⟨_, rfl⟩
  have HR := Lib.hid hR
  rw [← hR] at PAY
  have HRL := Lib.hid (show R.length = n by rw [hR, treePay_len, hn])
  clear hR
  have BACK := Lib.hid (fun A c w' h => specTreeBack_any A n c R j a w' h HRL.out hnb)
  have C := Lib.hid (fun w' h => l6Live_any A n c t j w' h hn hnb)
  cases hl : (rightB t && liveAt t j)
  · have hr := Lib.hid (treeGive_no (i := i) (a := a) (show ((treePay t i a).2 && liveAt t j) = false by
      cases hk : (treePay t i a).2
      · rfl
      · rw [(rightB_iff t).2 (treePay_true hk).1] at hl; simpa using hl))
    rw [hl] at C
    clear hx hn hl
    go_enter Try.func39, Try.ntmps39
    go_wp2_with fail
    refine (C.out _ (HX.out.alloc _)).mono ?_
    rintro e w0 ⟨rfl, hb0⟩
    have hB0 := Below.trans ((Below.refl w.heap.size w).alloc (Nat.le_refl _) _) (hb0.mono (by simp))
    have hs0 := hB0.size
    have hbox := keepblk hb0 (heap_alloc_new w _)
    clear hb0
    go_wp2_with fail
    refine (CP.out _ (HX.out.keep fun _ _ h => Below.keeps hB0 h)).mono ?_
    rintro e w5 ⟨A2, c2', rfl, ho, hb⟩
    have HO2 := Lib.hid (ho.more hs0)
    have hB := Below.trans hB0 (hb.mono hs0)
    clear ho hb
    go_wp2
    go_ret2
    exact ⟨A2, c2', by rw [hr.out]; rfl, by rw [hr.out]; exact HO2.out, hB⟩
  · have hla := (Bool.and_eq_true_iff.1 hl).2
    rw [hl] at C
    clear hl
    have D3 : ∀ x : World, x.heap[w.heap.size]? = some (.cells #[.int .i64 a.1, .int .i64 a.2.1, .int .i64 a.2.2] 27 (0, 0)) → x.cell? ⟨w.heap.size, 0, none⟩ = some (.int .i64 a.1) ∧ x.cell? ⟨w.heap.size, 1, none⟩ = some (.int .i64 a.2.1) ∧ x.cell? ⟨w.heap.size, 2, none⟩ = some (.int .i64 a.2.2) := fun x h => ⟨(blkcell h).1 0, (blkcell h).1 1, (blkcell h).1 2⟩
    have D3 := Lib.hid D3
    cases hk : (treePay t i a).2
    · have hr := Lib.hid (treeGive_no (j := j) (show ((treePay t i a).2 && liveAt t j) = false by rw [hk]; rfl))
      rw [hk] at PAY
      clear hx hn hk hla
      go_enter Try.func39, Try.ntmps39
      go_wp2_with fail
      refine (C.out _ (HX.out.alloc _)).mono ?_
      rintro e w0 ⟨rfl, hb0⟩
      have hB0 := Below.trans ((Below.refl w.heap.size w).alloc (Nat.le_refl _) _) (hb0.mono (by simp))
      have hs0 := hB0.size
      have hbox := keepblk hb0 (heap_alloc_new w _)
      clear hb0
      obtain ⟨d0, d1, d2⟩ := D3.out _ hbox
      have ld0 := lt_of_blk hbox
      go_wp2_with fail
      refine (PAY.out _ (HX.out.keep fun _ _ h => Below.keeps hB0 h)).mono ?_
      rintro e w1 ⟨A', c', rfl, ho, hb1⟩
      have HO := Lib.hid (ho.more (B' := w.heap.size) (by omega))
      have hB := Below.trans hB0 (hb1.mono (by omega))
      have hs := hB.size
      have hbox := keepblk hb1 hbox
      clear ho hb1 d0 d1 d2
      obtain ⟨d0, d1, d2⟩ := D3.out _ hbox
      have ld := lt_of_blk hbox
      clear hbox
      go_wp2_with fail
      refine (CP.out _ (HX.out.keep fun _ _ h => Below.keeps hB h)).mono ?_
      rintro e w5 ⟨A2, c2', rfl, ho, hb⟩
      have HO2 := Lib.hid (ho.more hs)
      have hB := Below.trans hB (hb.mono hs)
      clear ho hb
      go_wp2
      go_ret2
      exact ⟨A2, c2', by rw [hr.out]; rfl, by rw [hr.out]; exact HO2.out, hB⟩
    · have hr := Lib.hid (treeGive_yes (show ((treePay t i a).2 && liveAt t j) = true by rw [hk, hla]; rfl))
      rw [← HR.out] at hr
      rw [hk] at PAY
      clear hx hn hk hla
      go_enter Try.func39, Try.ntmps39
      go_wp2_with fail
      refine (C.out _ (HX.out.alloc _)).mono ?_
      rintro e w0 ⟨rfl, hb0⟩
      have hB0 := Below.trans ((Below.refl w.heap.size w).alloc (Nat.le_refl _) _) (hb0.mono (by simp))
      have hs0 := hB0.size
      have hbox := keepblk hb0 (heap_alloc_new w _)
      clear hb0
      obtain ⟨d0, d1, d2⟩ := D3.out _ hbox
      have ld0 := lt_of_blk hbox
      go_wp2_with fail
      refine (PAY.out _ (HX.out.keep fun _ _ h => Below.keeps hB0 h)).mono ?_
      rintro e w1 ⟨A', c', rfl, ho, hb1⟩
      have HO := Lib.hid (ho.more (B' := w.heap.size) (by omega))
      have hB := Below.trans hB0 (hb1.mono (by omega))
      have hs := hB.size
      have hbox := keepblk hb1 hbox
      clear ho hb1 d0 d1 d2
      obtain ⟨d0, d1, d2⟩ := D3.out _ hbox
      have ld := lt_of_blk hbox
      clear hbox
      go_wp2_with fail
      refine (BACK.out _ _ _ HO.out.els).mono ?_
      rintro e w5 ⟨A2, c2', rfl, ho, hb⟩
      have HO2 := Lib.hid (ho.more hs)
      have hB := Below.trans hB (hb.mono hs)
      clear ho hb
      go_wp2
      go_ret2
      exact ⟨A2, c2', by rw [hr.out]; rfl, by rw [hr.out]; exact HO2.out, hB⟩
end Go.Proofs.Ytdgkfpcecppfdaa
