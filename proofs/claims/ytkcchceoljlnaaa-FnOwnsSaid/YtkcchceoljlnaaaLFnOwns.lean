/- FnOwns: what is owned lets more flow, never less; what is needed of it is enough, and all of it. No condition. -/
import Derived.Test.YtkcchceoljlnaaaOwnsLaw
namespace Go.Proofs.Ytkcchceoljlnaaa
set_option linter.unusedSimpArgs false
set_option linter.unusedVariables false
open Go.Joins Go.ChangeShapes Go.WideShapes Go.ChangeAt Go.RowKit Go.Deep
open Go.ChangeMaps (open_string shut_string)
attribute [local go_sem ↓] Go.wp_at_zero Go.wp_at_succ

theorem step_append_eq {P : Program} {w : World} {ops : Array Oper} {o : Oper} {a : Act} {K : Act → World → Prop} {Q : Exit → Act → World → Prop} {E : Prop} (hgd : o.guard = none) (s x : Operand) (t : TypeId)
    (ho : o.op = .call { callee := .builtin .append, args := #[s, x], argTypes := #[t, t] }) (v x' v' : Value) (w' : World) (hs : a.eval s = v) (hx : a.eval x = x')
    (hrun : (Builtin.append_ #[t, t] o.type #[v, x']).run P w = .ok v' w') (h : K (a.put o.dst v') w') : if Region.wanted o (yielded ops a.tmps) = true then Oper.wp P o a w K Q else E := by
  have hw : Region.wanted o (yielded ops a.tmps) = true := by simp [Region.wanted, hgd]
  rw [if_pos hw]
  unfold Oper.wp execOp
  simp only [ho, resolve, invoke, builtin, Sem.run_bind, Sem.run_pure, Result.andThen_ok, List.map_toArray, List.map_cons, List.map_nil, hs, hx, hrun]
  exact h
theorem Ints.take {w : World} {A : Option Addr} {xs : List Int} (h : Ints w A xs) (k : Nat) : Ints w A (xs.take k) := by
  rcases h with rfl | ⟨b, off, rfl, hc⟩
  · exact .inl (by simp)
  · refine .inr ⟨b, off, rfl, fun j z hj => hc j z ?_⟩
    rw [List.getElem?_take] at hj
    split at hj
    · exact hj
    · cases hj
theorem Ints.drop {w : World} {b off : Nat} {xs : List Int} (h : Ints w (some ⟨b, off, none⟩) xs) (k : Nat) : Ints w (some ⟨b, off + k, none⟩) (xs.drop k) := by
  rcases h with rfl | ⟨b', off', e, hc⟩
  · exact .inl (by simp)
  · injection e with e
    injection e with e1 e2
    subst e1; subst e2
    refine .inr ⟨b, off + k, rfl, fun j z hj => ?_⟩
    rw [List.getElem?_drop] at hj
    rw [Nat.add_assoc]; exact hc _ _ hj
theorem Own.toL {w : World} {B : Nat} {A : Option Addr} {xs : List Int} (h : Own w B 3 A (xs.map (Value.int .i64))) : OwnL w B w.heap.size A xs := OwnL.of_own h
set_option maxHeartbeats 400000 in
theorem big_any (A : Option Addr) (n c : Nat) (w : World) (hn : n ≤ 9223372036854775807) : Calls Try.prog 43 #[.slice A n c] w fun e w' => e = .returned (.bool (decide ((1048576 : Int) < (n : Int)))) ∧ w = w' := by
  go_enter Try.func43, Try.ntmps43
  go_wp2
  go_ret
  exact ⟨by first | rfl | simp, rfl⟩
set_option maxHeartbeats 800000 in
theorem owns_big (A : Option Addr) (n c : Nat) (w : World) (hmx : n ≤ 9223372036854775807) (hbig : 1048576 < n) :
    Calls Try.prog 13 #[.slice A n c] w fun e w' => e = .returned (.bool true) ∧ Below w.heap.size w w' := by
  go_enter Try.func13, Try.ntmps13
  go_wp2_with fail
  refine (big_any A n c _ hmx).mono ?_
  rintro e _ ⟨rfl, rfl⟩
  have hbg : decide ((1048576 : Int) < (n : Int)) = true := decide_eq_true (by omega)
  rw [hbg]
  go_wp2
  go_ret
  exact ⟨rfl, Below.refl _ _⟩
set_option maxRecDepth 100000 in
set_option maxHeartbeats 12800000 in
theorem owns_main (A : Option Addr) (n c : Nat) (w : World) (hA : Bys w A n) (hn : n ≤ 1048576) :
    Calls Try.prog 13 #[.slice A n c] w fun e w' => e = .returned (.bool true) ∧ Below w.heap.size w w' := by
  have HA := Lib.hid hA
  clear hA
  go_enter Try.func13, Try.ntmps13
  go_wp2_with fail
  refine (big_any A n c _ (by omega)).mono ?_
  rintro e _ ⟨rfl, rfl⟩
  have hbg : decide ((1048576 : Int) < (n : Int)) = false := decide_eq_false (by omega)
  rw [hbg]
  clear hbg
  go_wp2_with fail
  refine (DrawFlowsFor_any A n c _ HA.out hn).mono ?_
  rintro e w1 ⟨O, c0, os, A1, c1, xs, A2, c2, ys, rfl, hl0, hl1, hl2, ho, ha, hb, hB⟩
  obtain ⟨q, hq⟩ : ∃ q, os.length = q := ⟨_, rfl⟩
  obtain ⟨n1, hn1⟩ : ∃ n1, xs.length = n1 := ⟨_, rfl⟩
  obtain ⟨n2, hn2⟩ : ∃ n2, ys.length = n2 := ⟨_, rfl⟩
  rw [hq, hn1, hn2]
  rw [hq] at hl0
  rw [hn1] at hl1
  rw [hn2] at hl2
  have F := Lib.hid (fun w' h1 h2 h3 => implFlowsFor_any O A1 A2 q n1 n2 c0 c1 c2 os xs ys w' h1 hq (by omega) h2 hn1 (by omega) h3 hn2 (by omega))
  have FS := Lib.hid (fun w' h1 h2 h3 => specFlowsFor_any O A1 A2 q n1 n2 c0 c1 c2 os xs ys w' h1 hq (by omega) h2 hn1 (by omega) h3 hn2 (by omega))
  have FN := Lib.hid (fun w' h1 h2 h3 => implNeeds_cap O A1 A2 q n1 n2 c0 c1 c2 os xs ys w' h1 hq (by omega) h2 hn1 (by omega) h3 hn2 (by omega))
  have FL := Lib.hid (fun A' m c' zs w' h1 hz hm h2 h3 => implFlowsFor_any A' A1 A2 m n1 n2 c' c1 c2 zs xs ys w' h1 hz hm h2 hn1 (by omega) h3 hn2 (by omega))
  have FO := Lib.hid (fun w' h1 => implOwnOk_any O q c0 os w' h1 hq (by omega))
  have FF := Lib.hid (fun w' h2 h3 => implFlows_any A1 A2 n1 n2 c1 c2 xs ys w' h2 hn1 (by omega) h3 hn2 (by omega))
  have FH := Lib.hid (fun x w' h1 => has_any O q c0 os x w' h1 hq (by omega))
  have HO := Lib.hid ((ho.alloc (.cells #[.slice A1 n1 c1] 30)).alloc (.cells #[.slice A2 n2 c2] 30))
  have HX := Lib.hid ((ha.alloc (.cells #[.slice A1 n1 c1] 30)).alloc (.cells #[.slice A2 n2 c2] 30))
  have HY := Lib.hid ((hb.alloc (.cells #[.slice A1 n1 c1] 30)).alloc (.cells #[.slice A2 n2 c2] 30))
  have b0 := Lib.hid (blk_alloc (O := .cells #[.slice A2 n2 c2] 30) (heap_alloc_new w1 (.cells #[.slice A1 n1 c1] 30)))
  have b1 := heap_alloc_new (w1.alloc (.cells #[.slice A1 n1 c1] 30)) (.cells #[.slice A2 n2 c2] 30)
  rw [World.size_alloc] at b1
  have b1 := Lib.hid b1
  have hs := hB.size
  have hB := (hB.alloc hs (.cells #[.slice A1 n1 c1] 30)).alloc (by simp; omega) (.cells #[.slice A2 n2 c2] 30)
  have hs := hB.size
  clear ho ha hb
  go_wp2_with fail
  refine (F.out _ HO.out HX.out HY.out).mono ?_
  rintro e w2 ⟨rfl, hb⟩
  have HO := Lib.hid (HO.out.below hb); have HX := Lib.hid (HX.out.below hb); have HY := Lib.hid (HY.out.below hb); have b0 := Lib.hid (keepblk hb b0.out); have b1 := Lib.hid (keepblk hb b1.out)
  have hB := Below.trans hB (hb.mono hs)
  have hs := hB.size
  have hl0' := lt_of_blk b0.out
  have hl1' := lt_of_blk b1.out
  obtain ⟨k0, f0⟩ := blkcell b0.out
  obtain ⟨k1, f1⟩ := blkcell b1.out
  clear hb
  go_wp2_with fail
  refine (FN.out _ HO.out HX.out HY.out).mono ?_
  rintro e w3 ⟨A3, c3, rfl, hn3, hcap, hb⟩
  have HO := Lib.hid (HO.out.below hb); have HX := Lib.hid (HX.out.below hb); have HY := Lib.hid (HY.out.below hb); have b0 := Lib.hid (keepblk hb b0.out); have b1 := Lib.hid (keepblk hb b1.out)
  have hB := Below.trans hB (hb.mono hs)
  have hs := hB.size
  have hl0' := lt_of_blk b0.out
  have hl1' := lt_of_blk b1.out
  obtain ⟨k0, f0⟩ := blkcell b0.out
  obtain ⟨k1, f1⟩ := blkcell b1.out
  clear hb
  have HN := Lib.hid hn3.toL.ints
  clear hn3
  cases hf : flowB os xs ys
  · have hr := needsR_no hf
    rw [hf] at FS
    simp only [hr] at HN ⊢
    have HF := Lib.hid hf
    clear hf hr
    go_wp2_with fail
    refine (FS.out _ HO.out HX.out HY.out).mono ?_
    rintro e w4 ⟨rfl, hb⟩
    have HO := Lib.hid (HO.out.below hb); have HX := Lib.hid (HX.out.below hb); have HY := Lib.hid (HY.out.below hb); have b0 := Lib.hid (keepblk hb b0.out); have b1 := Lib.hid (keepblk hb b1.out)
    have hB := Below.trans hB (hb.mono hs)
    have hs := hB.size
    have hl0' := lt_of_blk b0.out
    have hl1' := lt_of_blk b1.out
    obtain ⟨k0, f0⟩ := blkcell b0.out
    obtain ⟨k1, f1⟩ := blkcell b1.out
    clear hb
    go_wp2_with fail
    refine (FO.out _ HO.out).mono ?_
    rintro e w5 ⟨rfl, hb⟩
    have HO := Lib.hid (HO.out.below hb); have HX := Lib.hid (HX.out.below hb); have HY := Lib.hid (HY.out.below hb); have b0 := Lib.hid (keepblk hb b0.out); have b1 := Lib.hid (keepblk hb b1.out)
    have hB := Below.trans hB (hb.mono hs)
    have hs := hB.size
    have hl0' := lt_of_blk b0.out
    have hl1' := lt_of_blk b1.out
    obtain ⟨k0, f0⟩ := blkcell b0.out
    obtain ⟨k1, f1⟩ := blkcell b1.out
    clear hb
    cases ho : ownB os
    · go_wp2
      go_ret
      exact ⟨by first | rfl | simp, hB⟩
    · have hz : flowB [] xs ys = false := by
        cases h : flowB [] xs ys
        · rfl
        · rw [flow_more ho h] at HF; exact absurd HF.out (by decide)
      rw [hz] at FF
      go_wp2_with fail
      refine (FF.out _ HX.out HY.out).mono ?_
      rintro e w6 ⟨rfl, hb⟩
      have HO := Lib.hid (HO.out.below hb); have HX := Lib.hid (HX.out.below hb); have HY := Lib.hid (HY.out.below hb); have b0 := Lib.hid (keepblk hb b0.out); have b1 := Lib.hid (keepblk hb b1.out)
      have hB := Below.trans hB (hb.mono hs)
      have hs := hB.size
      have hl0' := lt_of_blk b0.out
      have hl1' := lt_of_blk b1.out
      obtain ⟨k0, f0⟩ := blkcell b0.out
      obtain ⟨k1, f1⟩ := blkcell b1.out
      clear hb
      go_wp2
      go_ret
      exact ⟨by first | rfl | simp, hB⟩
  · have hr := needsR_yes hf
    rw [hf] at FS
    simp only [hr] at HN ⊢
    obtain ⟨N, hN⟩ : ∃ N, N = aboveTo xs ys 4 := ⟨_, rfl⟩
    have h4 : N.length ≤ 4 := by rw [hN]; exact aboveTo_len _ _ _
    have L1 := Lib.hid (fun i x (h : N[i]? = some x) => above_in hf (by rw [← hN]; exact h))
    have L2 := Lib.hid (fun i x (h : N[i]? = some x) => show flowB (N.take i ++ N.drop (i + 1)) xs ys = false by rw [hN] at h ⊢; exact above_less h)
    have L3 := Lib.hid (show flowB N xs ys = true by rw [hN]; exact above_flow hf)
    have L4 := Lib.hid (show flowB [] xs ys = decide (N.length = 0) by rw [hN]; exact above_none hf)
    have LO := Lib.hid (flowB_parts.1 hf).1
    simp only [← hN] at HN ⊢
    obtain ⟨m, hm⟩ : ∃ m, N.length = m := ⟨_, rfl⟩
    simp only [hm] at h4 L4 ⊢
    have hcap3 : m ≤ c3 := by rw [← hm, hN, ← hr]; exact hcap
    clear hr hN hf
    go_wp2_with fail
    refine (FS.out _ HO.out HX.out HY.out).mono ?_
    rintro e w4 ⟨rfl, hb⟩
    have HO := Lib.hid (HO.out.below hb); have HX := Lib.hid (HX.out.below hb); have HY := Lib.hid (HY.out.below hb); have b0 := Lib.hid (keepblk hb b0.out); have b1 := Lib.hid (keepblk hb b1.out)
    have hB := Below.trans hB (hb.mono hs)
    have hs := hB.size
    have hl0' := lt_of_blk b0.out
    have hl1' := lt_of_blk b1.out
    have HN := Lib.hid (HN.out.below hb)
    obtain ⟨k0, f0⟩ := blkcell b0.out
    obtain ⟨k1, f1⟩ := blkcell b1.out
    clear hb
    go_wp2_with fail
    refine (FO.out _ HO.out).mono ?_
    rintro e w5 ⟨rfl, hb⟩
    have HO := Lib.hid (HO.out.below hb); have HX := Lib.hid (HX.out.below hb); have HY := Lib.hid (HY.out.below hb); have b0 := Lib.hid (keepblk hb b0.out); have b1 := Lib.hid (keepblk hb b1.out)
    have hB := Below.trans hB (hb.mono hs)
    have hs := hB.size
    have hl0' := lt_of_blk b0.out
    have hl1' := lt_of_blk b1.out
    have HN := Lib.hid (HN.out.below hb)
    obtain ⟨k0, f0⟩ := blkcell b0.out
    obtain ⟨k1, f1⟩ := blkcell b1.out
    clear hb
    rw [LO.out]
    go_wp2_with fail
    refine (FF.out _ HX.out HY.out).mono ?_
    rintro e w6 ⟨rfl, hb⟩
    have HO := Lib.hid (HO.out.below hb); have HX := Lib.hid (HX.out.below hb); have HY := Lib.hid (HY.out.below hb); have b0 := Lib.hid (keepblk hb b0.out); have b1 := Lib.hid (keepblk hb b1.out)
    have hB := Below.trans hB (hb.mono hs)
    have hs := hB.size
    have hl0' := lt_of_blk b0.out
    have hl1' := lt_of_blk b1.out
    have HN := Lib.hid (HN.out.below hb)
    obtain ⟨k0, f0⟩ := blkcell b0.out
    obtain ⟨k1, f1⟩ := blkcell b1.out
    clear hb
    cases hz : flowB [] xs ys
    all_goals
      rw [hz] at FF L4
      have hm0 : ((m : Int) == (0 : Int)) = decide (m = 0) := by
        by_cases h : m = 0
        · subst h; rfl
        · rw [decide_eq_false h]; simp; omega
      rw [← L4.out] at hm0
      go_wp2
      go_loopw [8] (fun i wr => ∃ k : Nat, k ≤ m ∧ i = .int .i64 k ∧ Hid (Ints wr O os) ∧ Hid (Ints wr A1 xs) ∧ Hid (Ints wr A2 ys) ∧ Hid (Ints wr A3 N) ∧ Hid (wr.heap[w1.heap.size]? = some (.cells #[.slice A1 n1 c1] 30 (0, 0))) ∧ Hid (wr.heap[w1.heap.size + 1]? = some (.cells #[.slice A2 n2 c2] 30 (0, 0))) ∧ Below w.heap.size w wr) (fun i _ => m - (intOf i).toNat)
      case atStart => exact ⟨0, Nat.zero_le _, rfl, HO.out, HX.out, HY.out, HN.out, b0.out, b1.out, hB⟩
      case round =>
        obtain ⟨k, hk, rfl, jO, jX, jY, jN, j0, j1, jB⟩ := hrel
        have hs := jB.size
        have hl0' := lt_of_blk j0.out
        have hl1' := lt_of_blk j1.out
        by_cases hlt : k < m
        · have hlt2 : (k : Int) < (m : Int) := by omega
          have hk0 : (0 : Int) ≤ (k : Int) := by omega
          go_upto_region 13 with (fail)
          obtain ⟨b, off, hA3, hbk, hcx⟩ := Ints.at_ jN.out (k := k) (by omega)
          have eN := Lib.hid (List.getElem?_eq_getElem (l := N) (i := k) (by omega))
          generalize N[k]'(by omega) = y at eN hcx
          subst hA3
          have hpw : IntKind.i64.wrap ((k : Int) + 1) = (k : Int) + 1 := by simp only [IntKind.wrap_i64]; omega
          have htn : ((k : Int) + 1).toNat = k + 1 := by omega
          have hp0 : (0 : Int) ≤ (k : Int) + 1 := by omega
          have hpm : (k : Int) + 1 ≤ (m : Int) := by omega
          have hpc : (k : Int) + 1 ≤ (c3 : Int) := by omega
          obtain ⟨ad, had, hID⟩ : ∃ ad : Addr, (if c3 = k + 1 then some ({ block := b, off := off } : Addr) else some ({ block := b, off := off + (k + 1) } : Addr)) = some ad ∧ Ints wr.drew (some ad) (N.drop (k + 1)) := by
            by_cases hc : c3 = k + 1
            · exact ⟨⟨b, off, none⟩, if_pos hc, .inl (List.drop_eq_nil_of_le (by omega))⟩
            · exact ⟨⟨b, off + (k + 1), none⟩, if_neg hc, (show Ints wr.drew _ N from jN.out).drop (k + 1)⟩
          obtain ⟨v1, y1, hr1, ho1, hb1⟩ := copy_runR wr.drew (some ⟨b, off, none⟩) k c3 (N.take k) ((show Ints wr.drew _ N from jN.out).take k) (by simp; omega) (by omega)
          obtain ⟨v2, y2, hr2, ho2, hb2⟩ := more_runR y1 wr.drew.heap.size v1 k (N.take k) ho1 hb1.size ad (m - (k + 1)) (c3 - (k + 1)) (N.drop (k + 1)) (hID.below hb1) (by simp; omega) (by omega) (by omega)
          obtain ⟨A4, c4, rfl, hcap4, ho4⟩ := row_cap ho2
          have hck : (k : Int) ≤ (c3 : Int) := by omega
          have HR1 := Lib.hid hr1; have HR2 := Lib.hid hr2
          have HZ := Lib.hid (show Ints y2 A4 (N.take k ++ N.drop (k + 1)) from (Own.toL ho4).ints)
          have HL := Lib.hid (show (N.take k ++ N.drop (k + 1)).length = k + (m - (k + 1)) by simp; omega)
          have hB2 : Below wr.heap.size wr y2 := Below.trans ((Below.refl _ wr).drew) (Below.trans hb1 hb2)
          have hsz2 := hB2.size
          have jO2 := Lib.hid (jO.out.below hB2); have jX2 := Lib.hid (jX.out.below hB2); have jY2 := Lib.hid (jY.out.below hB2); have jN2 := Lib.hid (jN.out.below hB2)
          have j02 := Lib.hid (keepblk hB2 j0.out); have j12 := Lib.hid (keepblk hB2 j1.out)
          have jB2 := Lib.hid (Below.trans jB (hB2.mono hs))
          have hhas := Lib.hid (L1.out k y eN.out)
          have hless := Lib.hid (show flowB (N.take k ++ N.drop (k + 1)) xs ys = false by exact L2.out k y eN.out)
          have hkm : k + (m - (k + 1)) ≤ 1099511627776 := by omega
          clear hr1 hr2 ho1 ho2 ho4 hb1 hb2 hB2 hID jB hcx jO jX jY jN j0 j1
          go_region_law (first | (refine step_append_eq (by rfl) (.tmp 56) (.tmp 59) _ (by rfl) _ _ _ _ (by rfl) (by rfl) HR1.out ?_) | (refine step_append_eq (by rfl) (.tmp 60) (.tmp 64) _ (by rfl) _ _ _ _ (by rfl) (by rfl) HR2.out ?_))
          all_goals
            have hq0 := lt_of_blk j02.out
            have hq1 := lt_of_blk j12.out
            obtain ⟨b', off', hA3, hbk2, hcx⟩ := Ints.at_ jN2.out (k := k) (by omega)
            have eN2 := List.getElem?_eq_getElem (l := N) (i := k) (by omega)
            rw [eN.out, Option.some.injEq] at eN2
            rw [← eN2] at hcx
            clear eN2
            injection hA3 with hA3
            injection hA3 with hA3 hA4
            subst hA3
            subst hA4
            obtain ⟨k0, f0⟩ := blkcell j02.out
            obtain ⟨k1, f1⟩ := blkcell j12.out
            clear had hpw htn hp0 hpm hpc hck
            go_wp2_with fail
            refine (FH.out y _ jO2.out).mono ?_
            rintro e _ ⟨rfl, rfl⟩
            rw [hhas.out]
            go_wp2_with fail
            refine (FL.out A4 _ c4 _ _ HZ.out HL.out hkm jX2.out jY2.out).mono ?_
            rintro e w7 ⟨rfl, hb⟩
            rw [hless.out]
            have jO3 := Lib.hid (jO2.out.below hb); have jX3 := Lib.hid (jX2.out.below hb); have jY3 := Lib.hid (jY2.out.below hb); have jN3 := Lib.hid (jN2.out.below hb)
            have j03 := Lib.hid (keepblk hb j02.out); have j13 := Lib.hid (keepblk hb j12.out)
            have jB3 := Lib.hid (Below.trans jB2.out (hb.mono (by omega)))
            clear hb k0 f0 k1 f1 hcx
            go_wp2
            exact ⟨⟨k + 1, by omega, by go_num, jO3.out, jX3.out, jY3.out, jN3.out, j03.out, j13.out, jB3.out⟩, by simp [intOf]; omega⟩
        · obtain rfl : k = m := by omega
          obtain ⟨k0, f0⟩ := blkcell j0.out
          obtain ⟨k1, f1⟩ := blkcell j1.out
          go_wp2_with fail
          refine (FL.out _ _ _ N _ jN.out hm (by omega) jX.out jY.out).mono ?_
          rintro e w7 ⟨rfl, hb⟩
          rw [L3.out]
          have jX := Lib.hid (jX.out.below hb); have jY := Lib.hid (jY.out.below hb); have j0 := Lib.hid (keepblk hb j0.out); have j1 := Lib.hid (keepblk hb j1.out)
          have jB := Below.trans jB (hb.mono hs)
          have hs := jB.size
          have hl0' := lt_of_blk j0.out
          have hl1' := lt_of_blk j1.out
          clear hb k0 f0 k1 f1
          obtain ⟨k0, f0⟩ := blkcell j0.out
          obtain ⟨k1, f1⟩ := blkcell j1.out
          go_wp2_with fail
          refine (FF.out _ jX.out jY.out).mono ?_
          rintro e w8 ⟨rfl, hb⟩
          have jB := Below.trans jB (hb.mono hs)
          clear hb
          go_wp2
          go_ret
          exact ⟨by first | rfl | simp, jB⟩
theorem owns_walk (A : Option Addr) (n c : Nat) (w : World) (hA : Bys w A n) (hmx : n ≤ 9223372036854775807) :
    Calls Try.prog 13 #[.slice A n c] w fun e w' => e = .returned (.bool true) ∧ Below w.heap.size w w' := by
  by_cases hb : 1048576 < n
  · exact owns_big A n c w hmx hb
  · exact owns_main A n c w hA (by omega)
set_option linter.unusedVariables false in
set_option maxRecDepth 100000 in
theorem FnOwns_lifted (os : Os) (started : os.Started) (H : Type) (enc : TypeId × Value → H) :
    ReturnsInHanded {} Try.checked os 13 .any (Rows.fnOwnsSpec.pre6 enc Try.prog Try.f13 Rows.fnOwnsRow.domain false) (Rows.fnOwnsSpec.post enc Try.prog Try.f13 false true false false) := by
  refine returnsInHanded_of_change (C := Try.checked) own started (by kernel_rfl) Try.func13
    (ChangeSpec.witness6 (enc := enc) (C := Try.checked) false ⟨#[], #[.slice none 0 0], []⟩ 8 (by kernel_rfl) (by kernel_rfl) (by kernel_rfl) (by kernel_rfl)) ?_
  intro W base args ds gs before hval0 hW hcnd _
  have hval : ∀ (j : Nat) t v, Try.f13.params[j]? = some t → args[j]? = some v → Value.okWide Try.prog W .any base t v := hval0
  have hW' := hW
  obtain ⟨p, q, hA0, hV, rfl, hfz, hnd⟩ := hW
  have hA : DataW.TrodAll enc Try.prog W 0 (fun _ => true) true Try.f13.params.toList args.toList ds p := hA0
  rw [Try.params13] at hA hval
  obtain ⟨v0, vs0, d0, ds0, p0, q0, hargs, rfl, rfl, h0, r0⟩ := trodAll_cons hA
  obtain ⟨rfl, rfl, rfl⟩ := trodAll_nil r0
  obtain rfl : args = #[v0] := by cases args; simp_all
  obtain ⟨rfl, rfl⟩ := trodVars_none hV
  have k0 := h0
  have lt0 : ∀ x ∈ p0, x.block < W.heap.size := by obtain ⟨m, hm⟩ := k0; exact DataW.trod_lt m _ _ _ hm
  obtain ⟨b0, len0, cap0, rfl⟩ := okWide_slice Try.underlying46 (hval 0 46 v0 rfl rfl)
  obtain ⟨row0, mx0⟩ : Bys W b0 len0 ∧ len0 ≤ 9223372036854775807 := by obtain ⟨fuel, hf⟩ := h0; exact open_bytes hf
  clear hA0 hval0
  refine (owns_walk b0 len0 cap0 W row0 mx0).mono fun e W' ⟨he, bel⟩ => ?_
  subst he
  exact ⟨_, rfl, _, _, _, [], _, [], hW', trodAll_mk1 (shut_bool Try.underlying4 _), (trodAll_cons_mk (Below.trod laidOut (by kernel_rfl) (of_decide_eq_true (by kernel_rfl)) k0 bel lt0) trodAll_mk0), rfl, bel.frame _, fun h => by cases h⟩
/-- THE STATEMENT -/
theorem FnOwns_holds : Rows.FnOwnsSaid :=
  OpenClaim.holds_of_wide 13 Try.f13 rfl rfl rfl rfl rfl rfl rfl ⟨rfl, rfl, rfl, rfl, rfl⟩ rfl rfl rfl rfl rfl (by kernel_rfl) Try.func13 (by kernel_rfl)
    (of_decide_eq_true (by kernel_rfl)) (by unfold Func.isWrapper; first | (rw [if_pos (by decide +kernel)]; kernel_rfl) | (rw [if_neg (by decide +kernel)]; exact ⟨rfl, rfl⟩))
    (fun os started H enc _ => FnOwns_lifted os started H enc)

end Go.Proofs.Ytkcchceoljlnaaa
