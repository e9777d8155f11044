/- Contract of the reference's TreeOk. -/
import Derived.Test.YtdgkfpcecppfdaaESpec
namespace Go.Proofs.Ytdgkfpcecppfdaa
set_option linter.unusedSimpArgs false
set_option linter.unusedVariables false
open Go.RowKit
attribute [local go_sem ↓] Go.wp_at_zero Go.wp_at_succ

theorem closed_of_good {t : List El} (h : goodTo t goodS 5) : Closed t := by
  intro j x hj hx hl h0
  have hg := h j x hj hx
  unfold goodS at hg
  simp only [Bool.and_eq_true, Bool.or_eq_true, decide_eq_true_eq, Bool.not_eq_true'] at hg
  rcases hg.2 with (h1 | h1) | h1
  · exact absurd h1 h0
  · rw [hl] at h1; cases h1
  · obtain ⟨q, y, he, hq, hy, hyl⟩ := liveAt_range h1.2
    exact ⟨q, y, hq, he, hy, hyl⟩
theorem not_rightS {t : List El} {b : Bool} (hb : b = true ↔ Right t) {k : Nat} {x : El} (hk : k < 5) (hx : t[k]? = some x) (hf : goodS t k x = false) : b = false :=
  b_false hb fun h => by rw [((right_iff t).1 h).good k x hk hx] at hf; cases hf
theorem not_rootS {t : List El} {b : Bool} (hb : b = true ↔ Right t) {k : Nat} {x : El} (hk : k < 5) (hx : t[k]? = some x) (hf : rootS t k x = false) : b = false :=
  b_false hb fun h => by rw [((right_iff t).1 h).up k x hk hx] at hf; cases hf
set_option maxRecDepth 100000 in
set_option maxHeartbeats 12800000 in
theorem specTreeOk_five (A : Option Addr) (c : Nat) (t : List El) (b : Bool) (w : World) (hx : Els w A t) (hn : t.length = 5) (hb : b = true ↔ Right t) (r0 : El) (hr0 : t[0]? = some r0) (hl0 : r0.1 = true) (hp0 : r0.2.1 = -1) :
    Calls Try.prog 20 #[.slice A 5 c] w fun e w' => e = .returned (.bool b) ∧ Below w.heap.size w w' := by
  have HX := Lib.hid hx; have HN := Lib.hid hn; have HB := Lib.hid hb; have HR := Lib.hid hr0; have HL0 := Lib.hid hl0; have HP0 := Lib.hid hp0
  obtain ⟨bl, off, rfl, hbx, c0, c1, c2, c3, c4⟩ := hx.at_ hr0
  rw [hl0] at c0
  rw [hp0] at c1
  simp only [Nat.zero_mul, Nat.add_zero] at c0 c1
  clear hx hn hb hr0 hl0 hp0
  go_enter Try.func20, Try.ntmps20
  go_wp2
  clear c0 c1 c2 c3 c4
  go_loopw [3] (fun i wr => ∃ k : Nat, k ≤ 5 ∧ i = .int .i64 k ∧ Hid (goodTo t goodS k) ∧ Below w.heap.size w wr) (fun i _ => 5 - (intOf i).toNat)
  case atStart => exact ⟨0, Nat.zero_le _, rfl, fun j x hj => by omega, Below.refl _ _⟩
  case round =>
    obtain ⟨k, hk, rfl, hgood, hB⟩ := hrel
    have hsz := hB.size
    by_cases hlt : k < 5
    · have ex := Lib.hid (List.getElem?_eq_getElem (l := t) (i := k) (by have := HN.out; omega))
      generalize t[k]'(by have := HN.out; omega) = x at *
      obtain ⟨b', off', hA, hbx', c0, c1, c2, c3, c4⟩ := HX.out.at_ ex.out
      injection hA with hA
      injection hA with hA hO
      subst hA; subst hO
      clear hbx'
      have c0 := Below.keeps hB c0; have c1 := Below.keeps hB c1; have c2 := Below.keeps hB c2; have c3 := Below.keeps hB c3; have c4 := Below.keeps hB c4
      have hlt2 : (k : Int) < 5 := by omega
      have hk0 : (0 : Int) ≤ (k : Int) := by omega
      cases hl : x.1
      · by_cases hz : x = zEl
        · have hkp : (0 : Int) < (k : Int) := by
            rcases Nat.eq_zero_or_pos k with h0 | h0
            · exfalso; subst h0
              have h1 := ex.out; rw [HR.out] at h1; cases h1
              have := HL0.out; rw [hl] at this; cases this
            · omega
          have hgs := Lib.hid (goodTo_snoc hgood.out ex.out (by unfold goodS; rw [hl, hz]; simp [balOk_z]))
          subst hz
          unfold zEl at c0 c1 c2 c3 c4
          clear hl
          go_wp2_with fail
          refine (specAmtOk_any _ _ _ _).mono ?_
          rintro e w2 ⟨rfl, hb⟩
          rw [show amtB 0 0 0 = true from by decide]
          have hB2 := hB.trans (hb.mono hsz)
          have c0 := Below.keeps hb c0
          clear hb
          go_wp2
          exact ⟨⟨k + 1, by omega, by go_num, hgs, hB2⟩, by simp [intOf]; omega⟩
        · have hr := Lib.hid (not_rightS HB.out hlt ex.out (by simp [goodS, hl, hz]))
          rw [hl] at c0
          have hz2 := Lib.hid hz; have hl2 := Lib.hid hl
          clear hz hl
          go_wp2
          all_goals first
            | (go_ret; exact ⟨by rw [hr.out]; rfl, hB⟩)
            | (exfalso; have h1 := hl2.out; have h2 := hz2.out; apply h2; obtain ⟨l, q, p, r, c⟩ := x; simp_all [zEl])
      · rw [hl] at c0
        cases hbal : amtB x.2.2.1 x.2.2.2.1 x.2.2.2.2
        · have hr := Lib.hid (not_rightS HB.out hlt ex.out (by simp [goodS, balOk, hbal]))
          clear hl
          go_wp2_with fail
          refine (specAmtOk_any _ _ _ _).mono ?_
          rintro e w2 ⟨rfl, hb⟩
          rw [hbal]
          have hB2 := hB.trans (hb.mono hsz)
          clear hb
          go_wp2
          go_ret
          exact ⟨by rw [hr.out]; rfl, hB2⟩
        · by_cases hk1 : k = 0
          · subst hk1
            have hgs := Lib.hid (goodTo_snoc hgood.out ex.out (by simp [goodS, hl, balOk, hbal]))
            clear hl
            simp only [Nat.zero_mul, Nat.add_zero] at c0 c1 c2 c3 c4
            go_wp2_with fail
            refine (specAmtOk_any _ _ _ _).mono ?_
            rintro e w2 ⟨rfl, hb⟩
            rw [hbal]
            have hB2 := hB.trans (hb.mono hsz)
            clear hb
            go_wp2
            exact ⟨⟨1, by omega, by go_num, hgs, hB2⟩, by simp [intOf]⟩
          · have hkp : (0 : Int) < (k : Int) := by omega
            have hbal2 := Lib.hid hbal
            have hgf : (inB x.2.1 0 4 && decide (x.2.1 ≠ k) && liveAt t x.2.1) = false → b = false := fun h => not_rightS HB.out hlt ex.out (by unfold goodS; rw [h]; simp [hl, hk1])
            have hgt : (inB x.2.1 0 4 && decide (x.2.1 ≠ k) && liveAt t x.2.1) = true → goodTo t goodS (k + 1) := fun h => goodTo_snoc hgood.out ex.out (by unfold goodS; rw [h]; simp [hl, balOk, hbal])
            have hk2 := Lib.hid hk1
            clear hk1 hl
            cases hin : inB x.2.1 0 4
            · have hr := Lib.hid (hgf (by simp [hin]))
              clear hgf hgt
              go_wp2_with fail
              refine (specAmtOk_any _ _ _ _).mono ?_
              rintro e w2 ⟨rfl, hb⟩
              rw [hbal]
              have hB2 := hB.trans (hb.mono hsz)
              have c0 := Below.keeps hb c0; have c1 := Below.keeps hb c1
              clear hb
              go_wp2_with fail
              refine (l6Res_any _ _).mono ?_
              rintro e _ ⟨rfl, rfl⟩
              rw [hin]
              go_wp2
              go_ret
              exact ⟨by rw [hr.out]; rfl, hB2⟩
            · have hib := inB_true hin
              obtain ⟨q, hq⟩ := Int.eq_ofNat_of_zero_le hib.1
              have hq5 : q < 5 := by omega
              have ey := Lib.hid (List.getElem?_eq_getElem (l := t) (i := q) (by have := HN.out; omega))
              generalize t[q]'(by have := HN.out; omega) = y at *
              obtain ⟨b', off', hA, hbx', d0, _, _, _, _⟩ := HX.out.at_ ey.out
              injection hA with hA
              injection hA with hA hO
              subst hA; subst hO
              clear hbx'
              have d0 := Below.keeps hB d0
              have hla := liveAt_nat ey.out hq5
              rw [hq] at c1 hin hgf hgt
              rw [hla] at hgf hgt
              have hq2 := Lib.hid hq
              have hq3 : (q : Int) < 5 := by omega
              have hq0 : (0 : Int) ≤ (q : Int) := by omega
              clear hq hla hib
              by_cases hqk : (q : Int) = k
              · have hr := Lib.hid (hgf (by simp [hqk]))
                have hqk2 : ((q : Int) == (k : Int)) = true := by simpa using hqk
                clear hgf hgt hqk
                go_wp2_with fail
                refine (specAmtOk_any _ _ _ _).mono ?_
                rintro e w2 ⟨rfl, hb⟩
                rw [hbal]
                have hB2 := hB.trans (hb.mono hsz)
                have c0 := Below.keeps hb c0; have c1 := Below.keeps hb c1; have d0 := Below.keeps hb d0
                clear hb
                go_wp2_with fail
                refine (l6Res_any _ _).mono ?_
                rintro e _ ⟨rfl, rfl⟩
                rw [hin]
                go_wp2
                go_ret
                exact ⟨by rw [hr.out]; rfl, hB2⟩
              · have hqk2 : ((q : Int) == (k : Int)) = false := by simpa using hqk
                cases hyl : y.1
                · rw [hyl] at d0
                  have hr := Lib.hid (hgf (by simp [hyl]))
                  clear hgf hgt hqk hyl
                  go_wp2_with fail
                  refine (specAmtOk_any _ _ _ _).mono ?_
                  rintro e w2 ⟨rfl, hb⟩
                  rw [hbal]
                  have hB2 := hB.trans (hb.mono hsz)
                  have c0 := Below.keeps hb c0; have c1 := Below.keeps hb c1; have d0 := Below.keeps hb d0
                  clear hb
                  go_wp2_with fail
                  refine (l6Res_any _ _).mono ?_
                  rintro e _ ⟨rfl, rfl⟩
                  rw [hin]
                  go_wp2
                  go_ret
                  exact ⟨by rw [hr.out]; rfl, hB2⟩
                · rw [hyl] at d0
                  have hgs := Lib.hid (hgt (by simp [hyl, hin, hqk]))
                  clear hgf hgt hqk hyl
                  go_wp2_with fail
                  refine (specAmtOk_any _ _ _ _).mono ?_
                  rintro e w2 ⟨rfl, hb⟩
                  rw [hbal]
                  have hB2 := hB.trans (hb.mono hsz)
                  have c0 := Below.keeps hb c0; have c1 := Below.keeps hb c1; have d0 := Below.keeps hb d0
                  clear hb
                  go_wp2_with fail
                  refine (l6Res_any _ _).mono ?_
                  rintro e _ ⟨rfl, rfl⟩
                  rw [hin]
                  go_wp2
                  exact ⟨⟨k + 1, by omega, by go_num, hgs, hB2⟩, by simp [intOf]; omega⟩
    · obtain rfl : k = 5 := by omega
      have hcl := Lib.hid (closed_of_good hgood.out)
      go_wp2
      go_loop [4] (fun i => ∃ k : Nat, k ≤ 5 ∧ i = .int .i64 k ∧ Hid (goodTo t rootS k)) (fun i => 5 - (intOf i).toNat)
      case atStart => exact ⟨0, Nat.zero_le _, rfl, fun j x hj => by omega⟩
      case round =>
        obtain ⟨k, hk, rfl, hroot⟩ := hrel
        by_cases hlt : k < 5
        · have ex := Lib.hid (List.getElem?_eq_getElem (l := t) (i := k) (by have := HN.out; omega))
          generalize t[k]'(by have := HN.out; omega) = x at *
          obtain ⟨b', off', hA, hbx', c0, _, _, _, _⟩ := HX.out.at_ ex.out
          injection hA with hA
          injection hA with hA hO
          subst hA; subst hO
          clear hbx'
          have c0 := Below.keeps hB c0
          have hlt2 : (k : Int) < 5 := by omega
          have hk0 : (0 : Int) ≤ (k : Int) := by omega
          cases hl : x.1
          · rw [hl] at c0
            have hrs := Lib.hid (goodTo_snoc hroot.out ex.out (by simp [rootS, hl]))
            clear hl
            go_wp2
            go_loop [5, 6] (fun z m => z = .int .i64 k ∧ m = .int .i64 0) (fun _ _ => 0)
            case atStart => exact ⟨rfl, rfl⟩
            case round =>
              obtain ⟨rfl, rfl⟩ := hrel
              go_wp2
              exact ⟨⟨k + 1, by omega, by go_num, hrs⟩, by simp [intOf]; omega⟩
          · rw [hl] at c0
            have hl2 := Lib.hid hl
            clear hl
            go_wp2
            go_loop [5, 6] (fun z m => ∃ (j q : Nat) (y : El), j ≤ 5 ∧ m = .int .i64 j ∧ z = .int .i64 q ∧ q < 5 ∧ Hid (t[q]? = some y) ∧ Hid (y.1 = true) ∧ Hid (goUp t (5 - j) q = goUp t 5 k)) (fun _ m => 5 - (intOf m).toNat)
            case atStart => exact ⟨0, k, x, Nat.zero_le _, rfl, rfl, hlt, ex, hl2, rfl⟩
            case round =>
              obtain ⟨j, q, y, hj, rfl, rfl, hq5, ey, hyl, hgo⟩ := hrel
              have hq0 : (0 : Int) ≤ (q : Int) := by omega
              have hq3 : (q : Int) < 5 := by omega
              by_cases hqz : q = 0
              · subst hqz
                have hz5 : goUp t 5 k = 0 := by rw [← hgo.out]; cases (5 - j) <;> simp [goUp]
                have hrs := Lib.hid (goodTo_snoc hroot.out ex.out (by simp [rootS, hl2.out, hz5]))
                clear hz5
                by_cases hj5 : j < 5
                all_goals
                  go_wp2
                  exact ⟨⟨k + 1, by omega, by go_num, hrs⟩, by simp [intOf]; omega⟩
              · have hqp : (0 : Int) < (q : Int) := by omega
                by_cases hj5 : j < 5
                · obtain ⟨q', y', hq', he, hy', hyl'⟩ := hcl.out q y hq5 ey.out hyl.out hqz
                  have hgo2 := Lib.hid (show goUp t (5 - (j + 1)) q' = goUp t 5 k by
                    rw [← hgo.out, show 5 - j = (5 - (j + 1)) + 1 by omega, goUp, if_pos hqp, parAt_nat ey.out, he])
                  obtain ⟨b', off', hA, hbx', _, d1, _, _, _⟩ := HX.out.at_ ey.out
                  injection hA with hA
                  injection hA with hA hO
                  subst hA; subst hO
                  clear hbx'
                  have d1 := Below.keeps hB d1
                  rw [he] at d1
                  have hy2 := Lib.hid hy'; have hyl2 := Lib.hid hyl'
                  clear he hy' hyl' hqz
                  go_wp2
                  exact ⟨⟨j + 1, q', y', by omega, by go_num, rfl, hq', hy2, hyl2, hgo2⟩, by simp [intOf]; omega⟩
                · obtain rfl : j = 5 := by omega
                  have hr := Lib.hid (not_rootS HB.out hlt ex.out (by
                    have h5 : goUp t 5 k = q := by rw [← hgo.out]; rfl
                    unfold rootS
                    rw [hl2.out, h5]
                    simp; omega))
                  have hqn : ((q : Int) != 0) = true := by simp; omega
                  clear hqz
                  go_wp2
                  go_ret
                  exact ⟨by rw [hr.out]; rfl, hB⟩
        · obtain rfl : k = 5 := by omega
          have hbal : ∀ (j : Nat) (x : El), t[j]? = some x → x.1 = true → balOk x = true := fun j x hj _ => by
            have := hgood.out j x (by have := (List.getElem?_eq_some_iff.1 hj).1; have := HN.out; omega) hj
            unfold goodS at this
            simp only [Bool.and_eq_true] at this
            exact this.1.2
          have hr := Lib.hid (show b = amtB (sumL t).1 (sumL t).2.1 (sumL t).2.2 by
            rw [Bool.eq_iff_iff, HB.out, right_iff]
            constructor
            · intro h; exact h.sum
            · intro h; exact ⟨HN.out, ⟨r0, HR.out, HL0.out, HP0.out⟩, hgood.out, hroot.out, h⟩)
          have C := Lib.hid (fun W h => l6Sum_any (some ⟨bl, off, none⟩) c t W h HN.out hbal)
          clear hbal
          generalize sumL t = s at *
          go_wp2_with fail
          refine (C.out _ (HX.out.keep (fun _ _ h => Below.keeps hB h))).mono ?_
          rintro e w2 ⟨rfl, hb⟩
          have hB2 := hB.trans (hb.mono hsz)
          clear hb
          go_wp2_with fail
          refine (specAmtOk_any _ _ _ _).mono ?_
          rintro e w3 ⟨rfl, hb⟩
          have hB3 := hB2.trans (hb.mono hB2.size)
          clear hb
          go_wp2
          go_ret
          exact ⟨by rw [hr.out]; rfl, hB3⟩
set_option maxHeartbeats 3200000 in
theorem specTreeOk_any (A : Option Addr) (n c : Nat) (t : List El) (b : Bool) (w : World) (hx : Els w A t) (hn : t.length = n) (hnb : n ≤ 1099511627776) (hb : b = true ↔ Right t) :
    Calls Try.prog 20 #[.slice A n c] w fun e w' => e = .returned (.bool b) ∧ Below w.heap.size w w' := by
  by_cases h5 : n = 5
  · subst h5
    have hr0 : t[0]? = some (t[0]'(by omega)) := List.getElem?_eq_getElem (by omega)
    generalize t[0]'(by omega) = r0 at *
    cases hl0 : r0.1
    · have hr := Lib.hid (b_false hb fun h => by
        obtain ⟨x, h1, h2, _⟩ := h.root
        rw [hr0] at h1; cases h1; rw [hl0] at h2; cases h2)
      obtain ⟨bl, off, rfl, hbx, c0, c1, c2, c3, c4⟩ := hx.at_ hr0
      rw [hl0] at c0
      simp only [Nat.zero_mul, Nat.add_zero] at c0
      clear hx hn hb hr0 hl0 c1 c2 c3 c4
      go_enter Try.func20, Try.ntmps20
      go_wp2
      go_ret
      exact ⟨by rw [hr.out]; rfl, Below.refl _ _⟩
    · by_cases hp : r0.2.1 = -1
      · exact specTreeOk_five A c t b w hx hn hb r0 hr0 hl0 hp
      · have hr := Lib.hid (b_false hb fun h => by
          obtain ⟨x, h1, _, h2⟩ := h.root
          rw [hr0] at h1; cases h1; exact hp h2)
        have hp2 : (r0.2.1 != -1) = true := by simpa using hp
        obtain ⟨bl, off, rfl, hbx, c0, c1, c2, c3, c4⟩ := hx.at_ hr0
        rw [hl0] at c0
        simp only [Nat.zero_mul, Nat.add_zero] at c0 c1
        clear hx hn hb hr0 hl0 c2 c3 c4 hp
        go_enter Try.func20, Try.ntmps20
        go_wp2
        go_ret
        exact ⟨by rw [hr.out]; rfl, Below.refl _ _⟩
  · have h1 : ((n : Int) != 5) = true := by simp; omega
    have hr := Lib.hid (b_false hb fun h => h5 (by rw [← hn]; exact h.len))
    clear hx hn hb
    go_enter Try.func20, Try.ntmps20
    go_wp2
    go_ret
    exact ⟨by rw [hr.out]; rfl, Below.refl _ _⟩

end Go.Proofs.Ytdgkfpcecppfdaa
