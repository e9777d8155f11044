/- FnTree: whatever is split off, given, dropped, paid and brought back: a tree stays right, and its sum is what it should be; what is refused changes nothing. No condition. -/
import Derived.Test.YtdgkfpcecppfdaaTreeSame
import Derived.Test.YtdgkfpcecppfdaaETreeGive
import Derived.Test.YtdgkfpcecppfdaaETreeDropI
import Derived.Test.YtdgkfpcecppfdaaETreeAbove
import Derived.Deep.Cut
namespace Go.Proofs.Ytdgkfpcecppfdaa
set_option linter.unusedSimpArgs false
set_option linter.unusedVariables false
open Go.Joins Go.ChangeShapes Go.WideShapes Go.ChangeAt Go.RowKit Go.Deep
open Go.ChangeMaps (open_string shut_string)
attribute [local go_sem ↓] Go.wp_at_zero Go.wp_at_succ

theorem Els.re {w : World} {A : Option Addr} {xs : List El} (h : Els w A xs) (d : Nat) (os : Array Obj) : Els (Sort.grow (redrawn w d) os) A xs := h.keep fun _ _ hc => cell_regrown hc d os
theorem implSum_of (A : Option Addr) (n c : Nat) (t : List El) (S : B3) (w : World) (hx : Els w A t) (hn : t.length = n) (hnb : n ≤ 1099511627776) (hR : Right t) (hS : sumL t = S) :
    Calls Try.prog 24 #[.slice A n c] w fun e w' => e = .returned (amt3 S) ∧ Below w.heap.size w w' := by
  have h := implTreeSum_any A n c t true w hx hn hnb (by simp [hR])
  rw [show sumB true t = S from hS] at h
  exact h
theorem specSum_of (A : Option Addr) (n c : Nat) (t : List El) (S : B3) (w : World) (hx : Els w A t) (hn : t.length = n) (hnb : n ≤ 1099511627776) (hR : Right t) (hS : sumL t = S) :
    Calls Try.prog 23 #[.slice A n c] w fun e w' => e = .returned (amt3 S) ∧ Below w.heap.size w w' := by
  have h := specTreeSum_any A n c t true w hx hn hnb (by simp [hR])
  rw [show sumB true t = S from hS] at h
  exact h
theorem specOk_of (A : Option Addr) (n c : Nat) (t : List El) (w : World) (hx : Els w A t) (hn : t.length = n) (hnb : n ≤ 1099511627776) (hR : Right t) :
    Calls Try.prog 20 #[.slice A n c] w fun e w' => e = .returned (.bool true) ∧ Below w.heap.size w w' := specTreeOk_any A n c t true w hx hn hnb (by simp [hR])
abbrev AmtBox (w : World) (g : Nat) (a : B3) : Prop := w.heap[g]? = some (.cells #[.int .i64 a.1, .int .i64 a.2.1, .int .i64 a.2.2] 27 (0, 0))
theorem ints_head {w : World} {A : Option Addr} {xs : List Int} {m : Nat} {p : Int} (h : II.Ints w A xs) (hl : xs.length = m + 1) (h0 : xs[0]? = some p) (hz : xs[m]? = some 0) :
    ∃ b off, A = some ⟨b, off, none⟩ ∧ w.cell? ⟨b, off, none⟩ = some (.int .i64 p) ∧ w.cell? ⟨b, off + m, none⟩ = some (.int .i64 0) := by
  rcases h with rfl | ⟨b, off, rfl, hc⟩
  · simp at hl
  · exact ⟨b, off, rfl, by have := hc 0 p h0; simpa using this, hc m 0 hz⟩
theorem AmtBox.cells {w : World} {g : Nat} {a : B3} (h : AmtBox w g a) : w.cell? ⟨g, 0, none⟩ = some (.int .i64 a.1) ∧ w.cell? ⟨g, 1, none⟩ = some (.int .i64 a.2.1) ∧ w.cell? ⟨g, 2, none⟩ = some (.int .i64 a.2.2) := by
  have h := (blkcell h).1
  exact ⟨h 0, h 1, h 2⟩
set_option maxRecDepth 100000 in
set_option maxHeartbeats 800000 in
theorem tree_big (A : Option Addr) (n c : Nat) (w : World) (hmx : n ≤ 9223372036854775807) (hbig : 1048576 < n) :
    Calls Try.prog 12 #[.slice A n c] w fun e w' => e = .returned (.bool true) ∧ Below w.heap.size w w' := by
  go_enter Try.func12, Try.ntmps12
  go_wp2_with fail
  refine (big_any A n c _ hmx).mono ?_
  rintro e _ ⟨rfl, rfl⟩
  have hbg : decide ((1048576 : Int) < (n : Int)) = true := decide_eq_true (by omega)
  rw [hbg]
  go_wp2
  go_ret
  exact ⟨rfl, Below.refl _ _⟩
set_option maxRecDepth 100000 in
set_option maxHeartbeats 12800000 in
theorem tree_main (A : Option Addr) (n c : Nat) (w : World) (hA : Bys w A n) (hn : n ≤ 1048576) :
    Calls Try.prog 12 #[.slice A n c] w fun e w' => e = .returned (.bool true) ∧ Below w.heap.size w w' := by
  have HA := Lib.hid hA
  clear hA
  go_enter Try.func12, Try.ntmps12
  go_wp2_with fail
  refine (big_any A n c _ (by omega)).mono ?_
  rintro e _ ⟨rfl, rfl⟩
  have hbg : decide ((1048576 : Int) < (n : Int)) = false := decide_eq_false (by omega)
  rw [hbg]
  clear hbg
  go_wp2_with fail
  refine (DrawTreeSplit_any A n c _ HA.out hn).mono ?_
  rintro e w1 ⟨AT, m, cT, t, i, a, rfl, hlen, hm, ht, hB⟩
  have HT := Lib.hid (ht.alloc (.cells #[.int .i64 a.1, .int .i64 a.2.1, .int .i64 a.2.2] 27))
  have hL := Lib.hid hlen
  have b5 := Lib.hid (show AmtBox _ _ a from heap_alloc_new w1 (.cells #[.int .i64 a.1, .int .i64 a.2.1, .int .i64 a.2.2] 27))
  have hs := hB.size
  replace hB := Lib.hid (hB.alloc hs (.cells #[.int .i64 a.1, .int .i64 a.2.1, .int .i64 a.2.2] 27))
  clear ht hlen
  have OK := Lib.hid (fun w' h => specTreeOk_any AT m cT t (rightB t) w' h hL.out (by omega) (rightB_iff t))
  have SP := Lib.hid (fun w' h => implTreeSplit_any AT m cT t i a w' h hL.out (by omega))
  cases hR : rightB t
  · rw [hR] at OK
    rw [treeSplit_no (show (treePay t i a).2 = false by rw [treePay_no (by rw [hR]; rfl)])] at SP
    have SU := Lib.hid (fun w' h => implTreeSum_any AT m cT t false w' h hL.out (by omega) (by rw [← rightB_iff, hR]))
    clear hR

    go_wp2_with fail
    refine (OK.out _ HT.out).mono ?_
    rintro e w2 ⟨rfl, hb⟩
    replace HT := Lib.hid (HT.out.below hb)
    replace b5 := Lib.hid (show AmtBox _ _ _ from keepblk hb b5.out)
    replace hB := Lib.hid (Below.trans hB.out (hb.mono hB.out.size))
    clear hb
    have lb5 := lt_of_blk b5.out
    obtain ⟨b5x, b5y, b5z⟩ := AmtBox.cells b5.out
    go_wp2_with fail
    refine (SP.out _ HT.out).mono ?_
    rintro e w3 ⟨A2, c2, rfl, -, hb⟩
    replace HT := Lib.hid (HT.out.below hb)
    replace b5 := Lib.hid (show AmtBox _ _ _ from keepblk hb b5.out)
    replace hB := Lib.hid (Below.trans hB.out (hb.mono hB.out.size))
    clear hb
    have lb5 := lt_of_blk b5.out
    clear b5x b5y b5z
    go_wp2_with fail
    refine (SU.out _ HT.out).mono ?_
    rintro e w4 ⟨rfl, hb⟩
    replace HT := Lib.hid (HT.out.below hb)
    replace b5 := Lib.hid (show AmtBox _ _ _ from keepblk hb b5.out)
    replace hB := Lib.hid (Below.trans hB.out (hb.mono hB.out.size))
    clear hb
    have lb5 := lt_of_blk b5.out
    go_wp2
    go_ret
    exact ⟨by first | rfl | simp [sumB], hB.out⟩
  · skip
    have hRt := (rightB_iff t).1 hR
    obtain rfl : m = 5 := by rw [← hL.out]; exact hRt.len
    obtain ⟨S, hS⟩ : ∃ S, sumL t = S := ⟨_, rfl⟩
    obtain ⟨s1, s2, s3, s4⟩ := split_law hRt i a
    have PB := Lib.hid (fun h => pay_back (t := t) (i := i) (a := a) h)
    have PR := Lib.hid (fun h => (pay_right (t := t) (i := i) (a := a) h).1)
    have PS := Lib.hid (fun h => pay_same (t := t) (i := i) (a := a) h)
    have GV := Lib.hid (fun j => give_law hRt i j a)
    have DR := Lib.hid (fun j => drop_law hRt j)
    have AB := Lib.hid (fun q x h1 h2 h3 h4 => above_law hRt (q := q) (x := x) h1 h2 h3 h4)
    have PAY := Lib.hid (fun w' h => implTreePay_any AT 5 cT t i a w' h hL.out (by omega))
    have GIVE := Lib.hid (fun j w' h => implTreeGive_any AT 5 cT t i j a w' h hL.out (by omega))
    have DROP := Lib.hid (fun j w' h => implTreeDrop_any AT 5 cT t j w' h hL.out (by omega))
    have UP := Lib.hid (fun j w' h => implTreeAbove_any AT 5 cT t j w' h hL.out (by omega))
    have SU := Lib.hid (fun w' h => specSum_of AT 5 cT t S w' h hL.out (by omega) hRt hS)
    obtain ⟨X, kz, isb, hX⟩ : ∃ X kz isb, treeSplit t i a = (X, kz, isb) := ⟨_, _, _, rfl⟩
    rw [hX] at s1 s2 s3 s4 SP
    replace s1 := Lib.hid s1; replace s2 := Lib.hid s2; replace s3 := Lib.hid (s3.trans hS); replace s4 := Lib.hid s4
    rw [hR] at OK
    replace hRt := Lib.hid hRt; replace hS := Lib.hid hS
    clear hX hR
    go_wp2_with fail
    refine (OK.out _ HT.out).mono ?_
    rintro e w2 ⟨rfl, hb⟩
    replace HT := Lib.hid (HT.out.below hb)
    replace b5 := Lib.hid (show AmtBox _ _ _ from keepblk hb b5.out)
    replace hB := Lib.hid (Below.trans hB.out (hb.mono hB.out.size))
    clear hb
    have lb5 := lt_of_blk b5.out
    go_wp2_with fail
    refine (SU.out _ HT.out).mono ?_
    rintro e w3 ⟨rfl, hb⟩
    replace HT := Lib.hid (HT.out.below hb)
    replace b5 := Lib.hid (show AmtBox _ _ _ from keepblk hb b5.out)
    replace hB := Lib.hid (Below.trans hB.out (hb.mono hB.out.size))
    clear hb
    have lb5 := lt_of_blk b5.out
    replace HT := Lib.hid (HT.out.alloc (.cells #[.int .i64 S.1, .int .i64 S.2.1, .int .i64 S.2.2] 27))
    replace b5 := Lib.hid (show AmtBox _ _ a from blk_alloc (O := .cells #[.int .i64 S.1, .int .i64 S.2.1, .int .i64 S.2.2] 27) b5.out)
    have b9 := Lib.hid (show AmtBox _ _ S from heap_alloc_new w3 (.cells #[.int .i64 S.1, .int .i64 S.2.1, .int .i64 S.2.2] 27))
    replace hB := Lib.hid (hB.out.alloc hB.out.size (.cells #[.int .i64 S.1, .int .i64 S.2.1, .int .i64 S.2.2] 27))
    have lb5 := lt_of_blk b5.out
    obtain ⟨b5x, b5y, b5z⟩ := AmtBox.cells b5.out
    go_wp2_with fail
    refine (SP.out _ HT.out).mono ?_
    rintro e w4 ⟨AX, cX, rfl, ho, hb⟩
    clear b5x b5y b5z lb5
    replace HT := Lib.hid (HT.out.below hb)
    replace b5 := Lib.hid (show AmtBox _ _ _ from keepblk hb b5.out)
    replace b9 := Lib.hid (show AmtBox _ _ _ from keepblk hb b9.out)
    replace hB := Lib.hid (Below.trans hB.out (hb.mono hB.out.size))
    clear hb
    have lb5 := lt_of_blk b5.out
    have lb9 := lt_of_blk b9.out
    have HX := Lib.hid ho.els
    clear ho
    go_upto_region 11 with (fail)
    go_cut [119] from 25 (fun s wc => s = .bool false ∧ Hid (Below w4.heap.size w4 wc))
    case first =>
      rcases s4.out with ⟨e1, e2⟩ | ⟨q, e1, hq1, hq5, hx, hz, -⟩
      · as_aux_lemma =>
        obtain ⟨rfl, rfl⟩ := Prod.mk.inj e1
        obtain rfl : X = t := e2
        clear e1
        obtain ⟨u1, u2, u3⟩ := AmtBox.cells b9.out
        have r1 := cell_regrown u1; have r2 := cell_regrown u2; have r3 := cell_regrown u3
        clear u1 u2 u3
        have q0 := fun (d : Nat) (os : Array Obj) => Calls.regrown_of (w := w4) (d := d) (os := os) (sameTree_self AX AT 5 (5 + cX) cT _ _ (HX.out.re d os) (HT.out.re d os) hL.out (by omega))
        have q1 := fun (d : Nat) (os : Array Obj) => Calls.regrown_of (w := w4) (d := d) (os := os) (specOk_of AX 5 (5 + cX) _ _ (HX.out.re d os) s1.out (by omega) s2.out)
        have q2 := fun (d : Nat) (os : Array Obj) => Calls.regrown_of (w := w4) (d := d) (os := os) (implSum_of AX 5 (5 + cX) _ S _ (HX.out.re d os) s1.out (by omega) s2.out s3.out)
        refine wp_region_quiet_below (by kernel_rfl) (by kernel_rfl) ?_
        repeat (go_big_quiet_step (first | (go_at_call 43; with_reducible exact q0 _ _) | (go_at_call 20; with_reducible exact q1 _ _) | (go_at_call 24; with_reducible exact q2 _ _)))
        refine wpQuiet_nil ?_
        intro _ hw1
        obtain ⟨⟨dq, osq⟩, hw2⟩ := hw1
        subst hw2
        go_wp2
        go_meet
        case rel => exact ⟨by first | rfl | simp, Lib.hid (below_regrown _ dq osq)⟩
      · as_aux_lemma =>
        obtain ⟨rfl, rfl⟩ := Prod.mk.inj e1
        clear e1
        obtain ⟨u1, u2, u3⟩ := AmtBox.cells b9.out
        have r1 := cell_regrown u1; have r2 := cell_regrown u2; have r3 := cell_regrown u3
        obtain ⟨v1, v2, v3⟩ := AmtBox.cells b5.out
        have o1 := cell_regrown v1; have o2 := cell_regrown v2; have o3 := cell_regrown v3
        obtain ⟨bX, offX, rfl, hbX, c0, c1, c2, c3, c4⟩ := HX.out.at_ hx
        have x1 := cell_regrown c1; have x2 := cell_regrown c2; have x3 := cell_regrown c3; have x4 := cell_regrown c4
        obtain ⟨bT, offT, rfl, hbT, d0, d1, d2, d3, d4⟩ := HT.out.at_ hz
        have y0 := cell_regrown (show w4.cell? _ = some (.bool false) from d0)
        clear u1 u2 u3 v1 v2 v3 c0 c1 c2 c3 c4 d0 d1 d2 d3 d4 hx hz
        have hq0 : (0 : Int) ≤ (q : Int) := by omega
        have hq1' : (1 : Int) ≤ (q : Int) := by omega
        have hq5' : (q : Int) < 5 := by omega
        have hd1 : decide ((q : Int) < 1) = false := decide_eq_false (by omega)
        have hd2 : decide ((5 : Int) ≤ (q : Int)) = false := decide_eq_false (by omega)
        have q0 := fun (d : Nat) (os : Array Obj) => Calls.regrown_of (w := w4) (d := d) (os := os) (specOk_of (some ⟨bX, offX, none⟩) 5 (5 + cX) _ _ (HX.out.re d os) s1.out (by omega) s2.out)
        have q1 := fun (d : Nat) (os : Array Obj) => Calls.regrown_of (w := w4) (d := d) (os := os) (implSum_of (some ⟨bX, offX, none⟩) 5 (5 + cX) _ S _ (HX.out.re d os) s1.out (by omega) s2.out s3.out)
        refine wp_region_quiet_below (by kernel_rfl) (by kernel_rfl) ?_
        repeat (go_big_quiet_step (first | (go_at_call 20; with_reducible exact q0 _ _) | (go_at_call 24; with_reducible exact q1 _ _)))
        refine wpQuiet_nil ?_
        intro _ hw1
        obtain ⟨⟨dq, osq⟩, hw2⟩ := hw1
        subst hw2
        go_wp2
        go_meet
        case rel => exact ⟨by first | rfl | simp, Lib.hid (below_regrown _ dq osq)⟩
    case rest =>
      as_aux_lemma =>
        obtain ⟨rfl, hb0⟩ := hcut
        have hb := hb0.out
        clear hb0
        replace HT := Lib.hid (HT.out.below hb)
        replace HX := Lib.hid (HX.out.below hb)
        replace b5 := Lib.hid (show AmtBox _ _ _ from keepblk hb b5.out)
        replace b9 := Lib.hid (show AmtBox _ _ _ from keepblk hb b9.out)
        replace hB := Lib.hid (Below.trans hB.out (hb.mono hB.out.size))
        clear hb
        have lb5 := lt_of_blk b5.out
        have lb9 := lt_of_blk b9.out
        obtain ⟨Y, gn, hY⟩ : ∃ Y gn, treeDrop X kz = (Y, gn) := ⟨_, _, rfl⟩
        have YL := Lib.hid (show isb = true → Y = t ∧ gn = true by
          rcases s4.out with ⟨e1, -⟩ | ⟨q, e1, _, _, _, _, e6⟩
          · intro h; rw [(Prod.mk.inj e1).2] at h; cases h
          · intro _
            rw [(Prod.mk.inj e1).1, e6] at hY
            exact ⟨(Prod.mk.inj hY).1.symm, (Prod.mk.inj hY).2.symm⟩)
        have CD := Lib.hid (fun w' h => show Calls Try.prog 34 #[.slice AX 5 (5 + cX), .int .i64 kz] w' (OutB Y gn 5 w') by
          have h2 := implTreeDrop_any AX 5 (5 + cX) X kz w' h s1.out (by omega)
          rw [hY] at h2
          exact h2)
        clear hY s4
        go_wp2_with fail
        refine (CD.out _ HX.out).mono ?_
        rintro e w5 ⟨AY, cY, rfl, ho, hb⟩
        replace HT := Lib.hid (HT.out.below hb)
        replace HX := Lib.hid (HX.out.below hb)
        replace b5 := Lib.hid (show AmtBox _ _ _ from keepblk hb b5.out)
        replace b9 := Lib.hid (show AmtBox _ _ _ from keepblk hb b9.out)
        replace hB := Lib.hid (Below.trans hB.out (hb.mono hB.out.size))
        clear hb
        have lb5 := lt_of_blk b5.out
        have lb9 := lt_of_blk b9.out
        have HY := Lib.hid ho.els
        clear ho
        clear CD
        go_upto_region 14 with (fail)
        go_cut [136] from 25 (fun s wc => s = .bool false ∧ Hid (Below w5.heap.size w5 wc))
        case first =>
          cases isb
          · as_aux_lemma =>
            go_wp2
            go_meet
            case rel => exact ⟨by first | rfl | simp, Lib.hid (Below.refl _ _)⟩
          · as_aux_lemma =>
            obtain ⟨e1, e2⟩ := YL.out rfl
            subst e1
            subst e2
            go_wp2_with fail
            refine (sameTree_self AY AT 5 _ cT _ _ HY.out HT.out hL.out (by omega)).mono ?_
            rintro e w6 ⟨rfl, hb⟩
            go_wp2
            go_meet
            case rel => exact ⟨by first | rfl | simp, Lib.hid (hb)⟩
        case rest =>
          as_aux_lemma =>
            obtain ⟨rfl, hb0⟩ := hcut
            have hb := hb0.out
            clear hb0
            replace HT := Lib.hid (HT.out.below hb)
            replace HX := Lib.hid (HX.out.below hb)
            replace HY := Lib.hid (HY.out.below hb)
            replace b5 := Lib.hid (show AmtBox _ _ _ from keepblk hb b5.out)
            replace b9 := Lib.hid (show AmtBox _ _ _ from keepblk hb b9.out)
            replace hB := Lib.hid (Below.trans hB.out (hb.mono hB.out.size))
            clear hb
            have lb5 := lt_of_blk b5.out
            have lb9 := lt_of_blk b9.out
            obtain ⟨Z, pd, hZ⟩ : ∃ Z pd, treePay t i a = (Z, pd) := ⟨_, _, rfl⟩
            have hZl := Lib.hid (show Z.length = 5 by have h := treePay_len t i a; rw [hZ, hL.out] at h; exact h)
            replace PR := Lib.hid (show pd = true → Right Z by intro h; have h2 := PR.out (by rw [hZ]; exact h); rw [hZ] at h2; exact h2)
            replace PS := Lib.hid (show pd = false → Z = t by intro h; have h2 := PS.out (by rw [hZ]; exact h); rw [hZ] at h2; exact h2)
            replace PB := Lib.hid (show pd = true → treeBack Z i a = (t, true) by intro h; have h2 := PB.out (by rw [hZ]; exact h); rw [hZ] at h2; exact h2)
            rw [hZ] at PAY
            obtain ⟨U, bk, hU⟩ : ∃ U bk, treeBack Z i a = (U, bk) := ⟨_, _, rfl⟩
            have CB := Lib.hid (fun AZ c w' h => show Calls Try.prog 36 #[.slice AZ 5 c, .int .i64 i, amt3 a] w' (OutB U bk 5 w') by
              have h2 := implTreeBack_any AZ 5 c Z i a w' h hZl.out (by omega)
              rw [hU] at h2
              exact h2)
            replace PB := Lib.hid (show pd = true → U = t ∧ bk = true by intro h; have h2 := PB.out h; rw [hU] at h2; exact ⟨(Prod.mk.inj h2).1, (Prod.mk.inj h2).2⟩)
            clear hZ hU
            obtain ⟨b5x, b5y, b5z⟩ := AmtBox.cells b5.out
            obtain ⟨b9x, b9y, b9z⟩ := AmtBox.cells b9.out
            go_wp2_with fail
            refine (PAY.out _ HT.out).mono ?_
            rintro e w7 ⟨AZ, cZ, rfl, ho, hb⟩
            replace HT := Lib.hid (HT.out.below hb)
            replace HX := Lib.hid (HX.out.below hb)
            replace HY := Lib.hid (HY.out.below hb)
            replace b5 := Lib.hid (show AmtBox _ _ _ from keepblk hb b5.out)
            replace b9 := Lib.hid (show AmtBox _ _ _ from keepblk hb b9.out)
            replace hB := Lib.hid (Below.trans hB.out (hb.mono hB.out.size))
            clear hb
            have lb5 := lt_of_blk b5.out
            have lb9 := lt_of_blk b9.out
            clear b5x b5y b5z
            clear b9x b9y b9z
            have HZ := Lib.hid ho.els
            clear ho
            obtain ⟨b5x, b5y, b5z⟩ := AmtBox.cells b5.out
            obtain ⟨b9x, b9y, b9z⟩ := AmtBox.cells b9.out
            go_wp2_with fail
            refine (CB.out _ _ _ HZ.out).mono ?_
            rintro e w8 ⟨AU, cU, rfl, ho, hb⟩
            replace HT := Lib.hid (HT.out.below hb)
            replace HX := Lib.hid (HX.out.below hb)
            replace HY := Lib.hid (HY.out.below hb)
            replace HZ := Lib.hid (HZ.out.below hb)
            replace b5 := Lib.hid (show AmtBox _ _ _ from keepblk hb b5.out)
            replace b9 := Lib.hid (show AmtBox _ _ _ from keepblk hb b9.out)
            replace hB := Lib.hid (Below.trans hB.out (hb.mono hB.out.size))
            clear hb
            have lb5 := lt_of_blk b5.out
            have lb9 := lt_of_blk b9.out
            clear b5x b5y b5z
            clear b9x b9y b9z
            have HU := Lib.hid ho.els
            clear ho
            go_upto_region 18 with (fail)
            go_cut [176] from 25 (fun s wc => s = .bool false ∧ Hid (Below w8.heap.size w8 wc))
            case first =>
              cases pd
              · as_aux_lemma =>
                have e1 : Z = t := PS.out rfl
                subst e1
                go_wp2_with fail
                refine (sameTree_self AZ AT 5 _ cT _ _ HZ.out HT.out hL.out (by omega)).mono ?_
                rintro e w9 ⟨rfl, hb⟩
                go_wp2
                go_meet
                case rel => exact ⟨by first | rfl | simp, Lib.hid (hb)⟩
              · as_aux_lemma =>
                obtain ⟨e1, e2⟩ := PB.out rfl
                have PZ := Lib.hid (PR.out rfl)
                subst e1
                subst e2
                go_wp2_with fail
                refine (sameTree_self AU AT 5 _ cT _ _ HU.out HT.out hL.out (by omega)).mono ?_
                rintro e w9 ⟨rfl, hb⟩
                have HZ9 := Lib.hid (HZ.out.below hb)
                go_wp2_with fail
                refine (specOk_of AZ 5 _ Z _ HZ9.out hZl.out (by omega) PZ.out).mono ?_
                rintro e w10 ⟨rfl, hb2⟩
                go_wp2
                go_meet
                case rel => exact ⟨by first | rfl | simp, Lib.hid (Below.trans hb (hb2.mono hb.size))⟩
            case rest =>
              as_aux_lemma =>
                obtain ⟨rfl, hb0⟩ := hcut
                have hb := hb0.out
                clear hb0
                replace HT := Lib.hid (HT.out.below hb)
                replace HX := Lib.hid (HX.out.below hb)
                replace HY := Lib.hid (HY.out.below hb)
                replace HZ := Lib.hid (HZ.out.below hb)
                replace HU := Lib.hid (HU.out.below hb)
                replace b5 := Lib.hid (show AmtBox _ _ _ from keepblk hb b5.out)
                replace b9 := Lib.hid (show AmtBox _ _ _ from keepblk hb b9.out)
                replace hB := Lib.hid (Below.trans hB.out (hb.mono hB.out.size))
                clear hb
                have lb5 := lt_of_blk b5.out
                have lb9 := lt_of_blk b9.out
                have HAc := Lib.hid (HA.out.keep fun _ _ h => Below.keeps hB.out h)
                go_wp2_with fail
                refine (at_three A n c _ HAc.out hn).mono ?_
                rintro e _ ⟨⟨z, hz0, rfl⟩, rfl⟩
                go_upto_region 21 with (fail)
                obtain ⟨q, hq, hq5⟩ : ∃ q : Nat, z % 5 = (q : Int) ∧ q < 5 := ⟨(z % 5).toNat, by omega, by omega⟩
                rw [hq]
                clear hz0 hq
                obtain ⟨V, gv, hV⟩ : ∃ V gv, treeGive t i (q : Int) a = (V, gv) := ⟨_, _, rfl⟩
                obtain ⟨D, dr, hD⟩ : ∃ D dr, treeDrop t (q : Int) = (D, dr) := ⟨_, _, rfl⟩
                obtain ⟨L, hLe⟩ : ∃ L, treeAbove t (q : Int) = L := ⟨_, rfl⟩
                obtain ⟨g1, g2, g3⟩ := GV.out (q : Int)
                obtain ⟨d1, d2, d3⟩ := DR.out (q : Int)
                have l5 := treeAbove_len t (q : Int)
                replace AB := fun x h2 h3 h4 => AB.out q x hq5 h2 h3 h4
                replace GIVE := GIVE.out (q : Int)
                replace DROP := DROP.out (q : Int)
                replace UP := UP.out (q : Int)
                rw [hV] at g1 g2 g3 GIVE
                rw [hD] at d1 d2 d3 DROP
                rw [hLe] at l5 UP
                simp only [hLe] at AB
                replace g1 := Lib.hid g1; replace g2 := Lib.hid (g2.trans hS.out); replace g3 := Lib.hid (show gv = false → V = t from g3); replace d1 := Lib.hid d1; replace d2 := Lib.hid (d2.trans hS.out); replace d3 := Lib.hid d3
                replace l5 := Lib.hid l5; replace AB := Lib.hid AB; replace GIVE := Lib.hid GIVE; replace DROP := Lib.hid DROP; replace UP := Lib.hid UP
                clear hV hD hLe GV DR
                obtain ⟨b5x, b5y, b5z⟩ := AmtBox.cells b5.out
                obtain ⟨b9x, b9y, b9z⟩ := AmtBox.cells b9.out
                go_wp2_with fail
                refine (GIVE.out _ HT.out).mono ?_
                rintro e w11 ⟨AV, cV, rfl, ho, hb⟩
                replace HT := Lib.hid (HT.out.below hb)
                replace HX := Lib.hid (HX.out.below hb)
                replace HY := Lib.hid (HY.out.below hb)
                replace HZ := Lib.hid (HZ.out.below hb)
                replace HU := Lib.hid (HU.out.below hb)
                replace b5 := Lib.hid (show AmtBox _ _ _ from keepblk hb b5.out)
                replace b9 := Lib.hid (show AmtBox _ _ _ from keepblk hb b9.out)
                replace hB := Lib.hid (Below.trans hB.out (hb.mono hB.out.size))
                clear hb
                have lb5 := lt_of_blk b5.out
                have lb9 := lt_of_blk b9.out
                clear b5x b5y b5z
                clear b9x b9y b9z
                have HV := Lib.hid ho.els
                clear ho
                go_wp2_with fail
                refine (DROP.out _ HT.out).mono ?_
                rintro e w12 ⟨AD, cD, rfl, ho, hb⟩
                replace HT := Lib.hid (HT.out.below hb)
                replace HX := Lib.hid (HX.out.below hb)
                replace HY := Lib.hid (HY.out.below hb)
                replace HZ := Lib.hid (HZ.out.below hb)
                replace HU := Lib.hid (HU.out.below hb)
                replace HV := Lib.hid (HV.out.below hb)
                replace b5 := Lib.hid (show AmtBox _ _ _ from keepblk hb b5.out)
                replace b9 := Lib.hid (show AmtBox _ _ _ from keepblk hb b9.out)
                replace hB := Lib.hid (Below.trans hB.out (hb.mono hB.out.size))
                clear hb
                have lb5 := lt_of_blk b5.out
                have lb9 := lt_of_blk b9.out
                have HD := Lib.hid ho.els
                clear ho
                go_wp2_with fail
                refine (UP.out _ HT.out).mono ?_
                rintro e w13 ⟨AL, cL, rfl, ho, hb⟩
                replace HT := Lib.hid (HT.out.below hb)
                replace HX := Lib.hid (HX.out.below hb)
                replace HY := Lib.hid (HY.out.below hb)
                replace HZ := Lib.hid (HZ.out.below hb)
                replace HU := Lib.hid (HU.out.below hb)
                replace HV := Lib.hid (HV.out.below hb)
                replace HD := Lib.hid (HD.out.below hb)
                replace b5 := Lib.hid (show AmtBox _ _ _ from keepblk hb b5.out)
                replace b9 := Lib.hid (show AmtBox _ _ _ from keepblk hb b9.out)
                replace hB := Lib.hid (Below.trans hB.out (hb.mono hB.out.size))
                clear hb
                have lb5 := lt_of_blk b5.out
                have lb9 := lt_of_blk b9.out
                have HLs := Lib.hid (II.OwnL.of_own ho).ints
                clear ho
                obtain ⟨nl, hnl⟩ : ∃ nl, L.length = nl := ⟨_, rfl⟩
                rw [hnl]
                replace hnl := Lib.hid hnl
                go_upto_region 24 with (fail)
                go_cut [234] from 25 (fun s wc => s = .bool false ∧ Hid (Below w13.heap.size w13 wc))
                case first =>
                  by_cases hq0 : q = 0
                  · as_aux_lemma =>
                    subst hq0
                    refine wp_region_quiet_below (by kernel_rfl) (by kernel_rfl) ?_
                    repeat (go_big_quiet_step (first | fail))
                    refine wpQuiet_nil ?_
                    intro _ hw1
                    obtain ⟨⟨dq, osq⟩, hw2⟩ := hw1
                    subst hw2
                    go_wp2
                    go_meet
                    case rel => exact ⟨by first | rfl | simp, Lib.hid (below_regrown _ dq osq)⟩
                  · as_aux_lemma =>
                    obtain ⟨x, hx⟩ : ∃ x, t[q]? = some x := ⟨_, List.getElem?_eq_getElem (by have := hL.out; omega)⟩
                    obtain ⟨bT, offT, rfl, hbT, c0, c1, c2, c3, c4⟩ := HT.out.at_ hx
                    have y0 := cell_regrown c0; have y1 := cell_regrown c1
                    clear c0 c1 c2 c3 c4
                    have hqa : (0 : Int) ≤ (q : Int) := by omega
                    have hqb : (0 : Int) < (q : Int) := by omega
                    have hqn : 0 < q := by omega
                    have hqd : decide ((0 : Int) < (q : Int)) = true := decide_eq_true (by omega)
                    have hqc : (q : Int) < 5 := by omega
                    cases hxl : x.1
                    · as_aux_lemma =>
                      rw [hxl] at y0
                      clear hx hxl
                      refine wp_region_quiet_below (by kernel_rfl) (by kernel_rfl) ?_
                      repeat (go_big_quiet_step (first | fail))
                      refine wpQuiet_nil ?_
                      intro _ hw1
                      obtain ⟨⟨dq, osq⟩, hw2⟩ := hw1
                      subst hw2
                      go_wp2
                      go_meet
                      case rel => exact ⟨by first | rfl | simp, Lib.hid (below_regrown _ dq osq)⟩
                    · as_aux_lemma =>
                      rw [hxl] at y0
                      have hdr : dr = true := by rw [d3.out, liveAt_nat hx hq5, hxl, decide_eq_false (by omega)]; rfl
                      subst hdr
                      obtain ⟨M, hM1, hM2⟩ := AB.out x hx hxl hq0
                      subst hM1
                      obtain ⟨m, hm⟩ : ∃ m, M.length = m := ⟨_, rfl⟩
                      have hML : (M ++ [(0 : Int)]).length = m + 1 := by simp [hm]
                      obtain rfl : nl = m + 1 := by rw [← hnl.out, hML]
                      have hH := ints_head HLs.out hML hM2
                      obtain ⟨bL, offL, rfl, k0, k1⟩ := hH (by rw [← hm]; simp)
                      have z0 := cell_regrown k0; have z1 := cell_regrown k1
                      clear k0 k1 hH hM2 hML hx hxl
                      have hma : (0 : Int) ≤ (m : Int) := by omega
                      have hme1 : ((m : Int) + 1 == 0) = false := by simp; omega
                      have hme2 : ¬ ((m : Int) + 1 = 0) := by omega
                      have hme3 : decide ((m : Int) + 1 = 0) = false := decide_eq_false (by omega)
                      have hmb : (0 : Int) < (m : Int) + 1 := by omega
                      have hmc : (m : Int) < (m : Int) + 1 := by omega
                      have hm5 : m ≤ 5 := by have := l5.out; simp at this; omega
                      refine wp_region_quiet_below (by kernel_rfl) (by kernel_rfl) ?_
                      repeat (go_big_quiet_step (first | fail))
                      refine wpQuiet_nil ?_
                      intro _ hw1
                      obtain ⟨⟨dq, osq⟩, hw2⟩ := hw1
                      subst hw2
                      go_wp2
                      go_meet
                      case rel => exact ⟨by first | rfl | simp, Lib.hid (below_regrown _ dq osq)⟩
                case rest =>
                  as_aux_lemma =>
                    obtain ⟨rfl, hb0⟩ := hcut
                    have hb := hb0.out
                    clear hb0
                    replace HT := Lib.hid (HT.out.below hb)
                    replace HX := Lib.hid (HX.out.below hb)
                    replace HY := Lib.hid (HY.out.below hb)
                    replace HZ := Lib.hid (HZ.out.below hb)
                    replace HU := Lib.hid (HU.out.below hb)
                    replace HV := Lib.hid (HV.out.below hb)
                    replace HD := Lib.hid (HD.out.below hb)
                    replace HLs := Lib.hid (HLs.out.below hb)
                    replace b5 := Lib.hid (show AmtBox _ _ _ from keepblk hb b5.out)
                    replace b9 := Lib.hid (show AmtBox _ _ _ from keepblk hb b9.out)
                    replace hB := Lib.hid (Below.trans hB.out (hb.mono hB.out.size))
                    clear hb
                    have lb5 := lt_of_blk b5.out
                    have lb9 := lt_of_blk b9.out
                    go_upto_region 26 with (fail)
                    obtain ⟨u1, u2, u3⟩ := AmtBox.cells b9.out
                    have r1 := cell_regrown u1; have r2 := cell_regrown u2; have r3 := cell_regrown u3
                    clear u1 u2 u3
                    have hVl := Lib.hid g1.out.len
                    have hDl := Lib.hid d1.out.len
                    cases gv
                    · as_aux_lemma =>
                      have e1 : V = t := g3.out rfl
                      subst e1
                      have q0 := fun (d : Nat) (os : Array Obj) => Calls.regrown_of (w := wc) (d := d) (os := os) (sameTree_self AV AT 5 (5 + cV) cT _ _ (HV.out.re d os) (HT.out.re d os) hVl.out (by omega))
                      have q1 := fun (d : Nat) (os : Array Obj) => Calls.regrown_of (w := wc) (d := d) (os := os) (specOk_of AV 5 (5 + cV) V _ (HV.out.re d os) hVl.out (by omega) g1.out)
                      have q2 := fun (d : Nat) (os : Array Obj) => Calls.regrown_of (w := wc) (d := d) (os := os) (implSum_of AV 5 (5 + cV) V S _ (HV.out.re d os) hVl.out (by omega) g1.out g2.out)
                      have q3 := fun (d : Nat) (os : Array Obj) => Calls.regrown_of (w := wc) (d := d) (os := os) (specOk_of AD 5 (5 + cD) D _ (HD.out.re d os) hDl.out (by omega) d1.out)
                      have q4 := fun (d : Nat) (os : Array Obj) => Calls.regrown_of (w := wc) (d := d) (os := os) (implSum_of AD 5 (5 + cD) D S _ (HD.out.re d os) hDl.out (by omega) d1.out d2.out)
                      refine wp_region_quiet_below (by kernel_rfl) (by kernel_rfl) ?_
                      repeat (go_big_quiet_step (first | (go_at_call 43; with_reducible exact q0 _ _) | (go_at_call 20; with_reducible exact q1 _ _) | (go_at_call 24; with_reducible exact q2 _ _) | (go_at_call 20; with_reducible exact q3 _ _) | (go_at_call 24; with_reducible exact q4 _ _)))
                      refine wpQuiet_nil ?_
                      intro _ hw1
                      obtain ⟨⟨dq, osq⟩, hw2⟩ := hw1
                      subst hw2
                      go_wp2
                      go_ret
                      exact ⟨by first | rfl | simp, Below.trans hB.out ((below_regrown _ dq osq).mono hB.out.size)⟩
                    · as_aux_lemma =>
                      have q0 := fun (d : Nat) (os : Array Obj) => Calls.regrown_of (w := wc) (d := d) (os := os) (specOk_of AV 5 (5 + cV) V _ (HV.out.re d os) hVl.out (by omega) g1.out)
                      have q1 := fun (d : Nat) (os : Array Obj) => Calls.regrown_of (w := wc) (d := d) (os := os) (implSum_of AV 5 (5 + cV) V S _ (HV.out.re d os) hVl.out (by omega) g1.out g2.out)
                      have q2 := fun (d : Nat) (os : Array Obj) => Calls.regrown_of (w := wc) (d := d) (os := os) (specOk_of AD 5 (5 + cD) D _ (HD.out.re d os) hDl.out (by omega) d1.out)
                      have q3 := fun (d : Nat) (os : Array Obj) => Calls.regrown_of (w := wc) (d := d) (os := os) (implSum_of AD 5 (5 + cD) D S _ (HD.out.re d os) hDl.out (by omega) d1.out d2.out)
                      refine wp_region_quiet_below (by kernel_rfl) (by kernel_rfl) ?_
                      repeat (go_big_quiet_step (first | (go_at_call 20; with_reducible exact q0 _ _) | (go_at_call 24; with_reducible exact q1 _ _) | (go_at_call 20; with_reducible exact q2 _ _) | (go_at_call 24; with_reducible exact q3 _ _)))
                      refine wpQuiet_nil ?_
                      intro _ hw1
                      obtain ⟨⟨dq, osq⟩, hw2⟩ := hw1
                      subst hw2
                      go_wp2
                      go_ret
                      exact ⟨by first | rfl | simp, Below.trans hB.out ((below_regrown _ dq osq).mono hB.out.size)⟩
theorem tree_walk (A : Option Addr) (n c : Nat) (w : World) (hA : Bys w A n) (hmx : n ≤ 9223372036854775807) :
    Calls Try.prog 12 #[.slice A n c] w fun e w' => e = .returned (.bool true) ∧ Below w.heap.size w w' := by
  by_cases hb : 1048576 < n
  · exact tree_big A n c w hmx hb
  · exact tree_main A n c w hA (by omega)
set_option linter.unusedVariables false in
set_option maxRecDepth 100000 in
theorem FnTree_lifted (os : Os) (started : os.Started) (H : Type) (enc : TypeId × Value → H) :
    ReturnsInHanded {} Try.checked os 12 .any (Rows.fnTreeSpec.pre6 enc Try.prog Try.f12 Rows.fnTreeRow.domain false) (Rows.fnTreeSpec.post enc Try.prog Try.f12 false true false false) := by
  refine returnsInHanded_of_change (C := Try.checked) own started (by kernel_rfl) Try.func12
    (ChangeSpec.witness6 (enc := enc) (C := Try.checked) false ⟨#[], #[.slice none 0 0], []⟩ 8 (by kernel_rfl) (by kernel_rfl) (by kernel_rfl) (by kernel_rfl)) ?_
  intro W base args ds gs before hval0 hW hcnd _
  have hval : ∀ (j : Nat) t v, Try.f12.params[j]? = some t → args[j]? = some v → Value.okWide Try.prog W .any base t v := hval0
  have hW' := hW
  obtain ⟨p, q, hA0, hV, rfl, hfz, hnd⟩ := hW
  have hA : DataW.TrodAll enc Try.prog W 0 (fun _ => true) true Try.f12.params.toList args.toList ds p := hA0
  rw [Try.params12] at hA hval
  obtain ⟨v0, vs0, d0, ds0, p0, q0, hargs, rfl, rfl, h0, r0⟩ := trodAll_cons hA
  obtain ⟨rfl, rfl, rfl⟩ := trodAll_nil r0
  obtain rfl : args = #[v0] := by cases args; simp_all
  obtain ⟨rfl, rfl⟩ := trodVars_none hV
  have k0 := h0
  have lt0 : ∀ x ∈ p0, x.block < W.heap.size := by obtain ⟨m, hm⟩ := k0; exact DataW.trod_lt m _ _ _ hm
  obtain ⟨b0, len0, cap0, rfl⟩ := okWide_slice Try.underlying51 (hval 0 51 v0 rfl rfl)
  obtain ⟨row0, mx0⟩ : Bys W b0 len0 ∧ len0 ≤ 9223372036854775807 := by obtain ⟨fuel, hf⟩ := h0; exact open_bytes hf
  clear hA0 hval0
  refine (tree_walk b0 len0 cap0 W row0 mx0).mono fun e W' ⟨he, bel⟩ => ?_
  subst he
  exact ⟨_, rfl, _, _, _, [], _, [], hW', trodAll_mk1 (shut_bool Try.underlying4 _), (trodAll_cons_mk (Below.trod laidOut (by kernel_rfl) (of_decide_eq_true (by kernel_rfl)) k0 bel lt0) trodAll_mk0), rfl, bel.frame _, fun h => by cases h⟩
/-- THE STATEMENT -/
theorem FnTree_holds : Rows.FnTreeSaid :=
  OpenClaim.holds_of_wide 12 Try.f12 rfl rfl rfl rfl rfl rfl rfl ⟨rfl, rfl, rfl, rfl, rfl⟩ rfl rfl rfl rfl rfl (by kernel_rfl) Try.func12 (by kernel_rfl)
    (of_decide_eq_true (by kernel_rfl)) (by unfold Func.isWrapper; first | (rw [if_pos (by decide +kernel)]; kernel_rfl) | (rw [if_neg (by decide +kernel)]; exact ⟨rfl, rfl⟩))
    (fun os started H enc _ => FnTree_lifted os started H enc)

end Go.Proofs.Ytdgkfpcecppfdaa
