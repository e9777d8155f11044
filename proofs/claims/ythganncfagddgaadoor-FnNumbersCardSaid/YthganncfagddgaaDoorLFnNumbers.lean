/- FnNumbers: numbers are read back from their texts; what is read was written so. No condition but the laid variables. -/
import Derived.Test.YthganncfagddgaaDoorNumC
import Derived.Test.YthganncfagddgaaDoorOpenB
import Derived.Test.YthganncfagddgaaDoorTie
import Derived.Test.YthganncfagddgaaDoorCards
import Derived.SevenTiedAt
import Derived.ProofKit
import Derived.Deep.DrawnRows
import Derived.Deep.Cut
namespace Go.Proofs.YthganncfagddgaaDoor
set_option linter.unusedSimpArgs false
set_option linter.unusedVariables false
open Go.Joins Go.ChangeShapes Go.WideShapes Go.ChangeAt Go.RowKit Go.Deep
open Go.ChangeMaps (open_string shut_string)
attribute [local go_sem ↓] Go.wp_at_zero Go.wp_at_succ

set_option maxRecDepth 100000 in
set_option maxHeartbeats 800000 in
theorem numbers_big (A : Option Addr) (n c : Nat) (w : World) (hmx : n ≤ 9223372036854775807) (hbig : 1048576 < n) :
    Calls Tryd.prog 5 #[.slice A n c] w fun e w' => e = .returned (.bool true) ∧ Below w.heap.size w w' := by
  go_enter Tryd.func5, Tryd.ntmps5
  go_wp2_with fail
  refine (big_any A n c _ hmx).mono ?_
  rintro e _ ⟨rfl, rfl⟩
  have hbg : decide ((1048576 : Int) < (n : Int)) = true := decide_eq_true (by omega)
  rw [hbg]
  go_wp2
  go_ret
  exact ⟨rfl, Below.refl _ _⟩
set_option maxRecDepth 100000 in
set_option maxHeartbeats 3200000 in
theorem numbers_main (A : Option Addr) (n c : Nat) (l : List Nat) (w : World) (hA : BysL w A l) (hl : l.length = n) (hn : n ≤ 1048576) (hT : RTab w) :
    Calls Tryd.prog 5 #[.slice A n c] w fun e w' => e = .returned (.bool true) ∧ Below w.heap.size w w' := by
  have HA := Lib.hid hA; have HL := Lib.hid hl; have HT := Lib.hid hT
  clear hA hl hT
  go_enter Tryd.func5, Tryd.ntmps5
  go_wp2_with fail
  refine (big_any A n c _ (by omega)).mono ?_
  rintro e _ ⟨rfl, rfl⟩
  have hbg : decide ((1048576 : Int) < (n : Int)) = false := decide_eq_false (by omega)
  rw [hbg]
  clear hbg
  go_wp2_with fail
  refine (DrawVar_any A n c l _ HA.out HL.out hn).mono ?_
  rintro e w1 ⟨v, rfl, hv0, hv1, hb⟩
  have hB := Lib.hid hb
  clear hb
  go_wp2_with fail
  refine (DrawHex_any A n c l _ (HA.out.keep fun _ _ h => Below.keeps hB.out h) HL.out hn).mono ?_
  rintro e w2 ⟨t, rfl, ht, hb⟩
  replace hB := Lib.hid (Below.trans hB.out (hb.mono hB.out.size))
  clear hb
  go_wp2_with fail
  refine (implVar_any v _).mono ?_
  rintro e w3 ⟨rfl, hb⟩
  replace hB := Lib.hid (Below.trans hB.out (hb.mono hB.out.size))
  clear hb
  have hV0 := Lib.hid hv0; have hV1 := Lib.hid hv1
  have L1 := Lib.hid (fun (h : inB v 0 562949953421311 = true) => rdV_varS h t)
  have L2 := Lib.hid (fun (h : inB v 0 562949953421311 = true) => varS_pos h)
  have L3 := Lib.hid (fun (h : inB v 0 562949953421311 = false) => varS_no h)
  have zt : (⟨t.toArray⟩ : ByteArray).size ≤ 40 := by simpa [ByteArray.size] using ht
  have zv := varS_size v
  have HX := Lib.hid (implHex_of t ht)
  have UX := Lib.hid (implUnhex_of t ht)
  have HF := Lib.hid (implFixed_seven v hv1)
  have zf := fixI_size v
  have F1 := Lib.hid (fun h0 h1 => @rfI_fix v h0 h1 t)
  have F2 := Lib.hid (fun h0 h1 => @fixI_yes v h0 h1)
  have F3 := Lib.hid (fun h => @fixI_no v h)
  generalize (⟨t.toArray⟩ : ByteArray) = TS at *
  generalize varS v = S at *
  obtain ⟨U, hU⟩ : ∃ U, S ++ TS = U := ⟨_, rfl⟩
  have zu : U.size ≤ 50 := by rw [← hU, ByteArray.size_append]; omega
  obtain ⟨⟨x, k⟩, hX⟩ : ∃ X, rdV U = X := ⟨_, rfl⟩
  have RV := implReadVar_any U
  rw [hX] at RV
  replace RV := Lib.hid (RV w3 (by omega))
  rw [hU, hX] at L1
  have HU := Lib.hid hU
  clear hU hX ht hv0 hv1
  go_wp2_with fail
  rw [HU.out]
  refine RV.out.mono ?_
  rintro e _ ⟨rfl, rfl⟩
  clear RV
  go_upto_region 7 with (fail)
  go_cut [55] from 17 (fun s wc => s = .bool false ∧ wc = w3)
  case first =>
    cases hin : inB v 0 562949953421311
    · as_aux_lemma =>
      have e1 := L3.out hin
      subst e1
      have he := isEmpty_yes
      have hin := inB_false hin
      by_cases hneg : v < 0
      · have d1 : decide (0 ≤ v) = false := decide_eq_false (by omega)
        have d2 : ¬ 0 ≤ v := by omega
        go_wp2
        go_meet
        case rel => exact ⟨by first | rfl | simp, rfl⟩
      · have d0 : 0 ≤ v := by omega
        have d1 : decide (0 ≤ v) = true := decide_eq_true d0
        have d2 : decide (v ≤ 562949953421311) = false := decide_eq_false (by omega)
        have d3 : ¬ v ≤ 562949953421311 := by omega
        go_wp2
        go_meet
        case rel => exact ⟨by first | rfl | simp, rfl⟩
    · as_aux_lemma =>
      obtain ⟨e1, e2⟩ := L1.out hin
      have he := isEmpty_no (L2.out hin)
      have hin := inB_true hin
      have e1 : (x : Int) = v := e1
      have e2 : k = S.size := e2
      subst e1
      subst e2
      have d0 : (0 : Int) ≤ (x : Int) := hin.1
      have d1 : decide ((0 : Int) ≤ (x : Int)) = true := decide_eq_true d0
      have d3 : (x : Int) ≤ 562949953421311 := hin.2
      have d2 : decide ((x : Int) ≤ 562949953421311) = true := decide_eq_true d3
      go_wp2
      go_meet
      case rel => exact ⟨by first | rfl | simp, rfl⟩
  case rest =>
    as_aux_lemma =>
      obtain ⟨rfl, rfl⟩ := hcut
      clear L1 L2 L3
      go_wp2_with fail
      refine (HF.out _).mono ?_
      rintro e w4 ⟨rfl, hb⟩
      replace hB := Lib.hid (Below.trans hB.out (hb.mono hB.out.size))
      clear hb
      clear HF
      generalize fixI v = F at *
      obtain ⟨G, hG⟩ : ∃ G, F ++ TS = G := ⟨_, rfl⟩
      have zg : G.size ≤ 50 := by rw [← hG, ByteArray.size_append]; omega
      obtain ⟨⟨y, isb⟩, hY⟩ : ∃ Y, rfI G = Y := ⟨_, rfl⟩
      have RF := implReadFixed_seven G (by omega)
      rw [hY] at RF
      replace RF := Lib.hid (RF w4)
      rw [hG, hY] at F1
      have HG := Lib.hid hG
      clear hG hY
      go_wp2_with fail
      rw [HG.out]
      refine RF.out.mono ?_
      rintro e _ ⟨rfl, rfl⟩
      clear RF
      go_upto_region 11 with (fail)
      go_cut [91] from 17 (fun s wc => s = .bool false ∧ wc = w4)
      case first =>
        by_cases hneg : v < 0
        · as_aux_lemma =>
          have e1 := F3.out (.inl hneg)
          subst e1
          have he := isEmpty_yes
          have d1 : decide (v < 0) = true := decide_eq_true hneg
          go_wp2
          go_meet
          case rel => exact ⟨by first | rfl | simp, rfl⟩
        · have d1 : decide (v < 0) = false := decide_eq_false hneg
          have d0 : 0 ≤ v := by omega
          by_cases hbig : 72057594037927936 ≤ v
          · as_aux_lemma =>
            have e1 := F3.out (.inr hbig)
            subst e1
            have he := isEmpty_yes
            have d2 : decide (72057594037927936 ≤ v) = true := decide_eq_true hbig
            go_wp2
            go_meet
            case rel => exact ⟨by first | rfl | simp, rfl⟩
          · as_aux_lemma =>
            have d2 : decide (72057594037927936 ≤ v) = false := decide_eq_false hbig
            have e1 := F1.out d0 (by omega)
            have hsz : F.size = 7 := by rw [F2.out d0 (by omega)]; simp only [ByteArray.size, List.size_toArray, lowB_len]
            have he := isEmpty_no (S := F) (by omega)
            obtain ⟨e2, e3⟩ := Prod.mk.inj e1
            subst e2
            subst e3
            have hs7 : (F.size : Int) = 7 := by omega
            clear e1
            go_wp2
            go_meet
            case rel => exact ⟨by first | rfl | simp, rfl⟩
      case rest =>
        as_aux_lemma =>
          obtain ⟨rfl, rfl⟩ := hcut
          clear F1 F2 F3
          have DC := Lib.hid (fun w' ht => implDec_any v hV0.out hV1.out w' ht)
          obtain ⟨fn, hfn⟩ : ∃ b, nine v = b := ⟨_, rfl⟩
          obtain ⟨d, hd⟩ : ∃ d : Int, (if nine v then v else 0) = d := ⟨_, rfl⟩
          have RD := Lib.hid (fun w' (ht : RTab w') => show Calls Tryd.prog 9 #[.string (decS v)] w' fun e w2 => e = .returned (.tuple #[.int .i64 d, .bool fn]) ∧ Below w'.heap.size w' w2 by
            have h := implReadDec_dec v hV0.out hV1.out w' ht
            rw [hd, hfn] at h
            exact h)
          replace hd := Lib.hid (show fn = true → d = v by intro h; rw [← hd, hfn, h]; rfl)
          replace hfn := Lib.hid hfn
          go_wp2_with fail
          refine (DC.out _ (HT.out.below hB.out).tab).mono ?_
          rintro e w5 ⟨rfl, hb⟩
          replace hB := Lib.hid (Below.trans hB.out (hb.mono hB.out.size))
          clear hb
          go_wp2_with fail
          refine (RD.out _ (HT.out.below hB.out)).mono ?_
          rintro e w6 ⟨rfl, hb⟩
          replace hB := Lib.hid (Below.trans hB.out (hb.mono hB.out.size))
          clear hb
          clear DC RD
          go_upto_region 14 with (fail)
          go_cut [113] from 17 (fun s wc => s = .bool false ∧ wc = w6)
          case first =>
            cases fn
            · as_aux_lemma =>
              have hq : ¬ (-999999999 ≤ v ∧ v ≤ 999999999) := fun h => by have h2 := hfn.out; rw [nine_iff.2 h] at h2; cases h2
              by_cases hlow : -1000000000 < v
              · have d1 : decide (-1000000000 < v) = true := decide_eq_true hlow
                have d2 : decide (v < 1000000000) = false := decide_eq_false (by omega)
                have d3 : ¬ v < 1000000000 := by omega
                go_wp2
                go_meet
                case rel => exact ⟨by first | rfl | simp, rfl⟩
              · have d1 : decide (-1000000000 < v) = false := decide_eq_false hlow
                go_wp2
                go_meet
                case rel => exact ⟨by first | rfl | simp, rfl⟩
            · as_aux_lemma =>
              have hq := nine_iff.1 hfn.out
              have e1 := hd.out rfl
              subst e1
              have d0 : -1000000000 < d := by omega
              have d1 : decide (-1000000000 < d) = true := decide_eq_true d0
              have d3 : d < 1000000000 := by omega
              have d2 : decide (d < 1000000000) = true := decide_eq_true d3
              go_wp2
              go_meet
              case rel => exact ⟨by first | rfl | simp, rfl⟩
          case rest =>
            as_aux_lemma =>
              obtain ⟨rfl, rfl⟩ := hcut
              go_wp2_with fail
              refine (HX.out _).mono ?_
              rintro e w7 ⟨rfl, hb⟩
              replace hB := Lib.hid (Below.trans hB.out (hb.mono hB.out.size))
              clear hb
              go_wp2_with fail
              refine (UX.out _).mono ?_
              rintro e w8 ⟨rfl, hb⟩
              replace hB := Lib.hid (Below.trans hB.out (hb.mono hB.out.size))
              clear hb
              clear HX UX
              have DR := Lib.hid (fun w' h => DrawReadVar_det A n c l w' h HL.out hn)
              go_wp2_with fail
              refine (DR.out _ (HA.out.keep fun _ _ h => Below.keeps hB.out h)).mono ?_
              rintro e w9 ⟨rfl, hrv, hb⟩
              replace hB := Lib.hid (Below.trans hB.out (hb.mono hB.out.size))
              clear hb
              generalize rvF l = D at *
              have LB := rdV_back D
              obtain ⟨⟨z, j⟩, hZ⟩ : ∃ Z, rdV D = Z := ⟨_, rfl⟩
              have RV := implReadVar_any D
              rw [hZ] at RV LB
              replace LB := Lib.hid LB
              replace RV := Lib.hid (RV w9 (by omega))
              clear hZ
              go_wp2_with fail
              refine RV.out.mono ?_
              rintro e _ ⟨rfl, rfl⟩
              clear RV
              have hTT : (TS.toList == TS.toList) = true := by simp
              go_upto_region 18 with (fail)
              rcases LB.out with hj | ⟨hj1, hj2, hj3⟩
              · as_aux_lemma =>
                have hj : j = 0 := hj
                subst hj
                go_wp2
                go_ret
                exact ⟨by first | rfl | simp, hB.out⟩
              · as_aux_lemma =>
                have hj1 : 0 < j := hj1
                have hj2 : j ≤ D.size := hj2
                have hj3 : varS (z : Int) = D.extract 0 j := hj3
                have hjz : (0 : Int) < (j : Int) := by omega
                have hja : (0 : Int) ≤ (j : Int) := by omega
                have hjb : (j : Int) ≤ (D.size : Int) := by omega
                have hjn : ((j : Int) == 0) = false := by rw [beq_eq_false_iff_ne]; omega
                have hjm : ¬ ((j : Int) = 0) := by omega
                have hj0 : ¬ j = 0 := by omega
                have VZ := Lib.hid (fun w' => implVar_any (z : Int) w')
                rw [hj3] at VZ
                have hEE : ((D.extract 0 j).toList == (D.extract 0 j).toList) = true := by simp
                clear hj3
                go_wp2_with fail
                refine (DR.out _ (HA.out.keep fun _ _ h => Below.keeps hB.out h)).mono ?_
                rintro e w10 ⟨rfl, -, hb⟩
                replace hB := Lib.hid (Below.trans hB.out (hb.mono hB.out.size))
                clear hb
                go_wp2_with fail
                refine (VZ.out _).mono ?_
                rintro e w11 ⟨rfl, hb⟩
                replace hB := Lib.hid (Below.trans hB.out (hb.mono hB.out.size))
                clear hb
                go_wp2_with fail
                refine (DR.out _ (HA.out.keep fun _ _ h => Below.keeps hB.out h)).mono ?_
                rintro e w12 ⟨rfl, -, hb⟩
                replace hB := Lib.hid (Below.trans hB.out (hb.mono hB.out.size))
                clear hb
                go_wp2
                go_ret
                exact ⟨by first | rfl | simp, hB.out⟩
theorem rtab_num {W : World} (h : laidMetH Tryd.prog Rows.fnNumbersRow.laid W) : RTab W := rtab_of (show laidMetH Tryd.prog Rows.fnExactReadDecRow.laid W from h)
theorem numbers_walk (A : Option Addr) (n c : Nat) (w : World) (hA : Bys w A n) (hmx : n ≤ 9223372036854775807) (hL : laidMetH Tryd.prog Rows.fnNumbersRow.laid w) :
    Calls Tryd.prog 5 #[.slice A n c] w fun e w' => e = .returned (.bool true) ∧ Below w.heap.size w w' := by
  by_cases hb : 1048576 < n
  · exact numbers_big A n c w hmx hb
  · obtain ⟨l, hl, hA2⟩ := bysL_of hA
    exact numbers_main A n c l w hA2 hl (by omega) (rtab_num hL)
set_option maxRecDepth 100000 in
/-- the door leaves what the row lists -/
theorem fnNumbers_door (os : Os) (args : Array Value) : laidMetH Tryd.prog Rows.fnNumbersRow.laid ((World.doorLaid Tryd.prog 62 os).forCall (fun _ _ => 0) ⟨#[], args, []⟩).memory :=
  laidMetH_of_parts3 (fuel := 8) (laidMet_of_run' 8 (by kernel_rfl) (by kernel_rfl)) (by kernel_rfl) (by kernel_rfl)
set_option linter.unusedVariables false in
set_option maxRecDepth 100000 in
theorem FnNumbers_lifted (os : Os) (started : os.Started) (H : Type) (enc : TypeId × Value → H) :
    ReturnsInHanded {} Tryd.checked os 5 .any (fun w args => (Rows.fnNumbersSpec.pre enc Tryd.prog Tryd.f5 [] false w args ∧ laidMetH Tryd.prog Rows.fnNumbersRow.laid w) ∧ sizedMet enc Tryd.prog Tryd.f5 (OpenSpec.ofChange Rows.fnNumbersSpec) false w args)
      (Rows.fnNumbersSpec.post enc Tryd.prog Tryd.f5 false true false false) := by
  refine returnsInHanded_of_change_and (C := Tryd.checked) (X := fun w _ => laidMetH Tryd.prog Rows.fnNumbersRow.laid w) (fun _ _ _ hh h => h.of_heap hh) own started (by kernel_rfl) Tryd.func5
    (ChangeSpec.witness_shaped (enc := enc) (C := Tryd.checked) (os := os) (X := fun w _ => laidMetH Tryd.prog Rows.fnNumbersRow.laid w) false (World.doorLaid Tryd.prog 62 os) #[.slice none 0 0] 8 rfl (World.shaped_of_RefB (by kernel_rfl) (by kernel_rfl)) (by kernel_rfl) (by kernel_rfl) (by kernel_rfl) (fnNumbers_door os _)) ?_
  intro W base args ds gs before hval0 hW _ _ hL _
  have hval : ∀ (j : Nat) t v, Tryd.f5.params[j]? = some t → args[j]? = some v → Value.okWide Tryd.prog W .any base t v := hval0
  have hW' := hW
  obtain ⟨p, q, hA0, hV, rfl, hfz, hnd⟩ := hW
  have hA : DataW.TrodAll enc Tryd.prog W 0 (fun _ => true) true Tryd.f5.params.toList args.toList ds p := hA0
  rw [Tryd.params5] at hA hval
  obtain ⟨v0, vs0, d0, ds0, p0, q0, hargs, rfl, rfl, h0, r0⟩ := trodAll_cons hA
  obtain ⟨rfl, rfl, rfl⟩ := trodAll_nil r0
  obtain rfl : args = #[v0] := by cases args; simp_all
  obtain ⟨rfl, rfl⟩ := trodVars_none hV
  have k0 := h0
  have lt0 : ∀ x ∈ p0, x.block < W.heap.size := by obtain ⟨m, hm⟩ := k0; exact DataW.trod_lt m _ _ _ hm
  obtain ⟨b0, len0, cap0, rfl⟩ := okWide_slice Tryd.underlying27 (hval 0 27 v0 rfl rfl)
  obtain ⟨row0, mx0⟩ : Bys W b0 len0 ∧ len0 ≤ 9223372036854775807 := by obtain ⟨fuel, hf⟩ := h0; exact open_bytes hf
  clear hA0 hval0
  refine (numbers_walk b0 len0 cap0 W row0 mx0 hL).mono fun e W' ⟨he, bel⟩ => ?_
  subst he
  exact ⟨_, rfl, _, _, _, [], _, [], hW', trodAll_mk1 (shut_bool Tryd.underlying4 _), (trodAll_cons_mk (Below.trod laidOut (by kernel_rfl) (of_decide_eq_true (by kernel_rfl)) k0 bel lt0) trodAll_mk0), rfl, bel.frame _, fun h => by cases h⟩
/-- the row -/
theorem FnNumbers_row : Rows.FnNumbersSaid :=
  OpenClaim.holds_of_wide 5 Tryd.f5 rfl rfl rfl rfl rfl rfl rfl ⟨rfl, rfl, rfl, rfl, rfl⟩ rfl rfl rfl rfl rfl (by kernel_rfl) Tryd.func5 (by kernel_rfl)
    (of_decide_eq_true (by kernel_rfl)) (by unfold Func.isWrapper; first | (rw [if_pos (by decide +kernel)]; kernel_rfl) | (rw [if_neg (by decide +kernel)]; exact ⟨rfl, rfl⟩))
    (fun os started H enc _ => FnNumbers_lifted os started H enc)
/-- THE STATEMENT: the tied card -/
theorem FnNumbers_holds : Rows.FnNumbersCardSaid :=
  Claim7.holds_tied_plain_at .later [] [.data, .data, .data, .sentinel, .sentinel] true (true, "dedeef4024b1bd47c6e472d97201a89c3e1f75a4a007ce8965a3b89d87d21370") true
    FnNumbers_row (fun _ h => by cases h) (by kernel_rfl) (fun _ h => by cases h) fnNumbers_row_tie rfl ⟨rfl, rfl⟩ (by kernel_rfl) rfl
    (fun f fn hf hfn => by
      obtain rfl : f = 5 := Option.some.inj ((show Tryd.prog.funcNamed Rows.fnNumbersRow.func = some 5 by kernel_rfl).symm.trans hf) |>.symm
      obtain rfl : fn = Tryd.f5 := (Option.some.inj (Tryd.func5.symm.trans hfn)).symm
      exact ⟨by kernel_rfl, fun j t ht => by
        rw [Tryd.params5] at ht
        have hm : t ∈ [27] := by simpa using Array.mem_of_getElem? ht
        have hall : ([27].all fun u => !Tryd.prog.wantsStandIn u) = true := by kernel_rfl
        exact (show Tryd.prog.wantsStandIn t = false by simpa using List.all_eq_true.1 hall t hm)⟩)
    (by kernel_rfl)

end Go.Proofs.YthganncfagddgaaDoor
