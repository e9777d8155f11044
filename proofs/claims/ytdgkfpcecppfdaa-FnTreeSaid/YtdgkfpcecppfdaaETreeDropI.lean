/- Contracts of TreeDrop. -/
import Derived.Test.YtdgkfpcecppfdaaETreeDropM
import Derived.Test.YtdgkfpcecppfdaaRegionG
namespace Go.Proofs.Ytdgkfpcecppfdaa
set_option linter.unusedSimpArgs false
set_option linter.unusedVariables false
open Go.RowKit
attribute [local go_sem ↓] Go.wp_at_zero Go.wp_at_succ

set_option maxHeartbeats 6400000 in
theorem implTreeDrop_any (A : Option Addr) (n c : Nat) (t : List El) (i : Int) (w : World) (hx : Els w A t) (hn : t.length = n) (hnb : n ≤ 1099511627776) :
    Calls Try.prog 34 #[.slice A n c, .int .i64 i] w (OutB (treeDrop t i).1 (treeDrop t i).2 n w) := by
  have HX := Lib.hid hx; have HN := Lib.hid hn
  have CP := Lib.hid (fun w' h => copyTree_any A n c t w' h hn hnb)
  have C := Lib.hid (fun w' h => implTreeOk_any A n c t (rightB t) w' h hn hnb (rightB_iff t))
  cases hR : rightB t
  · have hr := Lib.hid (treeDrop_no (t := t) (i := i) (by simp [hR]))
    rw [hR] at C
    clear hx hn hR
    go_enter Try.func34, Try.ntmps34
    go_wp2_with fail
    refine (CP.out _ HX.out).mono ?_
    rintro e w1 ⟨A', c', rfl, ho, hB⟩
    have HO := Lib.hid ho
    have hs := hB.size
    clear ho
    go_wp2_with fail
    refine (C.out _ (HX.out.keep fun _ _ h => Below.keeps hB h)).mono ?_
    rintro e w2 ⟨rfl, hb2⟩
    have HO := Lib.hid (HO.out.below hb2)
    have hB := Below.trans hB (hb2.mono hs)
    have hs := hB.size
    clear hb2
    go_wp2
    go_ret2
    exact ⟨_, _, by rw [hr.out]; rfl, by rw [hr.out]; exact HO.out, hB⟩
  · have hRR := (rightB_iff t).1 hR
    obtain rfl : n = 5 := by rw [← hn]; exact hRR.len
    rw [hR] at C
    by_cases h0 : i = 0
    · have hr := Lib.hid (treeDrop_no (t := t) (i := i) (by simp [h0]))
      have h1 : ((i : Int) == 0) = true := by simp [h0]
      have H0 := Lib.hid h0
      clear hx hn hR h0 hRR
      go_enter Try.func34, Try.ntmps34
      go_wp2_with fail
      refine (CP.out _ HX.out).mono ?_
      rintro e w1 ⟨A', c', rfl, ho, hB⟩
      have HO := Lib.hid ho
      have hs := hB.size
      clear ho
      go_wp2_with fail
      refine (C.out _ (HX.out.keep fun _ _ h => Below.keeps hB h)).mono ?_
      rintro e w2 ⟨rfl, hb2⟩
      have HO := Lib.hid (HO.out.below hb2)
      have hB := Below.trans hB (hb2.mono hs)
      have hs := hB.size
      clear hb2
      go_wp2
      go_ret2
      exact ⟨_, _, by rw [hr.out]; rfl, by rw [hr.out]; exact HO.out, hB⟩
    · have h1 : ((i : Int) == 0) = false := by simp [h0]
      cases hla : liveAt t i
      · have hr := Lib.hid (treeDrop_no (t := t) (i := i) (by simp [hla]))
        have H0 := Lib.hid h0
        clear hx hn hR h0 hRR
        go_enter Try.func34, Try.ntmps34
        go_wp2_with fail
        refine (CP.out _ HX.out).mono ?_
        rintro e w1 ⟨A', c', rfl, ho, hB⟩
        have HO := Lib.hid ho
        have hs := hB.size
        clear ho
        go_wp2_with fail
        refine (C.out _ (HX.out.keep fun _ _ h => Below.keeps hB h)).mono ?_
        rintro e w2 ⟨rfl, hb2⟩
        have HO := Lib.hid (HO.out.below hb2)
        have hB := Below.trans hB (hb2.mono hs)
        have hs := hB.size
        clear hb2
        go_wp2_with fail
        refine (isLive_any A c t i _ (HX.out.keep fun _ _ h => Below.keeps hB h) HN.out).mono ?_
        rintro e _ ⟨rfl, rfl⟩
        rw [hla]
        clear hla
        go_wp2
        go_ret2
        exact ⟨_, _, by rw [hr.out]; rfl, by rw [hr.out]; exact HO.out, hB⟩
      · obtain ⟨q, z, rfl, hq, hz, hzl⟩ := liveAt_range hla
        have hq1 : q ≠ 0 := by omega
        obtain ⟨p, y, hp, hzp, hy, hyl, hpq⟩ := hRR.up hq hz hzl hq1
        have hr := Lib.hid (treeDrop_at hR hq1 hz hzl hq hy hzp)
        have H1 := Lib.hid (show okB3 y.2.2 = true from hRR.bal hy); have H2 := Lib.hid (show okB3 z.2.2 = true from hRR.bal hz)
        have EZ := Lib.hid hz; have EY := Lib.hid hy
        obtain ⟨b, off, rfl, hbx, c0, c1, c2, c3, c4⟩ := hx.at_ hz
        rw [hzp] at c1
        obtain ⟨bb, off2, hA2, -, -, -, y2, y3, y4⟩ := hx.at_ hy
        obtain ⟨rfl, rfl⟩ : b = bb ∧ off = off2 := by injection hA2 with hA2; injection hA2 with h1 h2; exact ⟨h1, h2⟩
        have hq0 : (0 : Int) ≤ (q : Int) := by omega
        have hq5 : (q : Int) < 5 := by omega
        have hp0 : (0 : Int) ≤ (p : Int) := by omega
        have hp5 : (p : Int) < 5 := by omega
        have HPQ := Lib.hid hpq
        clear hx hn hR hRR hz hy hzl hyl hzp hpq hq1 h0 hA2 c0
        go_enter Try.func34, Try.ntmps34
        go_wp2_with fail
        refine (CP.out _ HX.out).mono ?_
        rintro e w1 ⟨A', c', rfl, ho, hB⟩
        have HO := Lib.hid ho
        have hs := hB.size
        clear ho
        go_wp2_with fail
        refine (C.out _ (HX.out.keep fun _ _ h => Below.keeps hB h)).mono ?_
        rintro e w2 ⟨rfl, hb2⟩
        have HO := Lib.hid (HO.out.below hb2)
        have hB := Below.trans hB (hb2.mono hs)
        have hs := hB.size
        clear hb2
        go_wp2_with fail
        refine (isLive_any _ c t q _ (HX.out.keep fun _ _ h => Below.keeps hB h) HN.out).mono ?_
        rintro e _ ⟨rfl, rfl⟩
        rw [hla]
        clear hla
        obtain ⟨gO, rfl, hBg, hob⟩ := HO.out.ob HN.out
        have HOB := Lib.hid hob
        clear hob HO
        have c1 := Below.keeps hB c1
        have c2 := Below.keeps hB c2
        have c3 := Below.keeps hB c3
        have c4 := Below.keeps hB c4
        have y2 := Below.keeps hB y2
        have y3 := Below.keeps hB y3
        have y4 := Below.keeps hB y4
        obtain ⟨e0, e1, e2, e3, e4⟩ := HOB.out.at_ EY.out
        have e3 : w2.cell? ⟨gO, p * 5 + 2 + 1, none⟩ = some (.int .i64 y.2.2.2.1) := e3
        have e4 : w2.cell? ⟨gO, p * 5 + 2 + 2, none⟩ = some (.int .i64 y.2.2.2.2) := e4
        have fo := HOB.out.fro
        clear e0 e1
        go_wp2_with fail
        go_region_with (go_at_call 52; refine (implSumOf_r y.2.2 z.2.2 _ (by exact H1.out) (by exact H2.out)).mono ?_; rintro e w4 ⟨rfl, hb⟩; have HOB := Lib.hid (HOB.out.drew.below hb); have e2 := Below.keeps hb e2; have e3 := Below.keeps hb e3; have e4 := Below.keeps hb e4; have c2 := Below.keeps hb c2; have c3 := Below.keeps hb c3; have c4 := Below.keeps hb c4; have hs := hB.size; have hB := Below.trans hB.drew (hb.mono hs); clear hb; have fo := HOB.out.fro)
        all_goals
          have HB1 := Lib.hid (HOB.out.setBal EY.out (add33 y.2.2 z.2.2))
          have hB1 := below_set (b := gO) (o := p * 5 + 2 + 2) (below_set (b := gO) (o := p * 5 + 2 + 1) (below_set (b := gO) (o := p * 5 + 2) hB hBg (.int .i64 (add33 y.2.2 z.2.2).1)) hBg (.int .i64 (add33 y.2.2 z.2.2).2.1)) hBg (.int .i64 (add33 y.2.2 z.2.2).2.2)
          clear c1 c2 c3 c4 y2 y3 y4 e2 e3 e4 fo hB
          have EZ2 := Lib.hid (show (t.set p (setBal y (add33 y.2.2 z.2.2)))[q]? = some z by rw [List.getElem?_set]; rw [if_neg HPQ.out]; exact EZ.out)
          obtain ⟨W, hW⟩ : ∃ W, W = (((w4.setCell ⟨gO, p * 5 + 2, none⟩ (.int .i64 (add33 y.2.2 z.2.2).1)).setCell ⟨gO, p * 5 + 2 + 1, none⟩ (.int .i64 (add33 y.2.2 z.2.2).2.1)).setCell ⟨gO, p * 5 + 2 + 2, none⟩ (.int .i64 (add33 y.2.2 z.2.2).2.2)) := ⟨_, rfl⟩
          rw [← hW] at HB1 hB1 ⊢
          clear hW
          obtain ⟨e0, e1, e2, e3, e4⟩ := HB1.out.at_ EZ2.out
          have fo := HB1.out.fro
          have HB2 := Lib.hid (show OB (((((W.setCell ⟨gO, q * 5, none⟩ (.bool false)).setCell ⟨gO, q * 5 + 1, none⟩ (.int .i64 0)).setCell ⟨gO, q * 5 + 2, none⟩ (.int .i64 0)).setCell ⟨gO, q * 5 + 3, none⟩ (.int .i64 0)).setCell ⟨gO, q * 5 + 4, none⟩ (.int .i64 0)) gO (dropT t q p z y) from HB1.out.setEl q zEl)
          have hB2 := below_set (b := gO) (o := q * 5 + 4) (below_set (b := gO) (o := q * 5 + 3) (below_set (b := gO) (o := q * 5 + 2) (below_set (b := gO) (o := q * 5 + 1) (below_set (b := gO) (o := q * 5) hB1 hBg (.bool false)) hBg (.int .i64 0)) hBg (.int .i64 0)) hBg (.int .i64 0)) hBg (.int .i64 0)
          have HT5 := Lib.hid (show (dropT t q p z y).length = 5 by rw [dropT_len]; exact HN.out)
          generalize dropT t q p z y = T2 at HB2 HT5 hr
          have hB2 := Lib.hid hB2
          clear HB1 hB1
          go_wp2
          go_loopw [51] (fun v wr => ∃ k : Nat, k ≤ 5 ∧ v = .int .i64 k ∧ Hid (OB wr gO (relTo (q : Int) (p : Int) T2 k)) ∧ Hid (Below w.heap.size w wr)) (fun v _ => 5 - (intOf v).toNat)
          case atStart => exact ⟨0, Nat.zero_le _, rfl, by rw [relTo_0]; exact HB2.out, hB2.out⟩
          case round =>
            obtain ⟨k, hk, rfl, hob, hBr⟩ := hrel
            by_cases hlt : k < 5
            · have ev := Lib.hid (List.getElem?_eq_getElem (l := T2) (i := k) (by have := HT5.out; omega))
              generalize T2[k]'(by have := HT5.out; omega) = v at *
              obtain ⟨a0, a1, -, -, -⟩ := hob.out.at_ (relTo_at ev.out)
              have fo := hob.out.fro
              have hlt2 : (k : Int) < 5 := by omega
              have hk0 : (0 : Int) ≤ (k : Int) := by omega
              cases hl : v.1
              · have hs := Lib.hid (show OB wr gO (relTo (q : Int) (p : Int) T2 (k + 1)) by rw [relTo_same ev.out (by simp [relF, hl])]; exact hob.out)
                rw [hl] at a0
                clear hl
                go_wp2
                exact ⟨⟨k + 1, by omega, by go_num, hs, hBr⟩, by simp [intOf]; omega⟩
              · rw [hl] at a0
                by_cases hpar : v.2.1 = (q : Int)
                · have hs := Lib.hid (show OB (wr.setCell ⟨gO, k * 5 + 1, none⟩ (.int .i64 (p : Int))) gO (relTo (q : Int) (p : Int) T2 (k + 1)) by
                    rw [← relTo_set ev.out, show relF (q : Int) (p : Int) v = (v.1, (p : Int), v.2.2) by simp [relF, hl, hpar]]
                    exact hob.out.setPar (relTo_at ev.out) _)
                  have hb2 := Lib.hid (below_set (b := gO) (o := k * 5 + 1) hBr.out hBg (.int .i64 (p : Int)))
                  have hp1 : ((v.2.1 : Int) == (q : Int)) = true := by simp [hpar]
                  clear hl hpar
                  go_wp2
                  exact ⟨⟨k + 1, by omega, by go_num, hs, hb2⟩, by simp [intOf]; omega⟩
                · have hs := Lib.hid (show OB wr gO (relTo (q : Int) (p : Int) T2 (k + 1)) by rw [relTo_same ev.out (by simp [relF, hpar])]; exact hob.out)
                  have hp1 : ((v.2.1 : Int) == (q : Int)) = false := by simp [hpar]
                  clear hl hpar
                  go_wp2
                  exact ⟨⟨k + 1, by omega, by go_num, hs, hBr⟩, by simp [intOf]; omega⟩
            · obtain rfl : k = 5 := by omega
              have HS := Lib.hid (show OB wr gO (T2.map (relF (q : Int) (p : Int))) by rw [← relTo_n _ _ HT5.out]; exact hob.out)
              clear hob
              go_wp2
              go_ret2
              exact ⟨_, _, by rw [hr.out]; rfl, by rw [hr.out]; exact HS.out.own hBg, hBr.out⟩
end Go.Proofs.Ytdgkfpcecppfdaa
