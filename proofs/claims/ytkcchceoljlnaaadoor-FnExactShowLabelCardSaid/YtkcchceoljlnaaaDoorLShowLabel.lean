/- FnExactShowLabel: the program's ShowLabel returns what the reference's returns. No condition. -/
import Derived.Test.YtkcchceoljlnaaaDoorShow
import Derived.Test.YtkcchceoljlnaaaDoorTie
import Derived.Test.YtkcchceoljlnaaaDoorCards
import Derived.SevenTiedAt
import Derived.ProofKit
import Derived.MakeChecks
import Derived.LaidMore
import Derived.Stop.Joined
import Derived.Stop.LaidErr
import Derived.Test.YtkcchceoljlnaaaDoorOpenI
import Derived.Deep.RegionHeld3
import Derived.Deep.DrawnRows
namespace Go.Proofs.YtkcchceoljlnaaaDoor
set_option linter.unusedSimpArgs false
set_option linter.unusedVariables false
open Go.Joins Go.ChangeShapes Go.WideShapes Go.ChangeAt Go.RowKit Go.Deep
open Go.ChangeMaps (open_string shut_string)
attribute [local go_sem ↓] Go.wp_at_zero Go.wp_at_succ

theorem tab_of {W : World} (h : laidMetH Tryd.prog Rows.fnExactShowLabelRow.laid W) : DTab W := by
  rw [MakeChecks.laidMetH_plain _ _ _ (by kernel_rfl)] at h
  have h2 := laidMet.tail (laidMet.tail h)
  exact Lib.tabIs_of_head (g := 0) (by kernel_rfl) (by kernel_rfl) Tryd.underlying71 Tryd.underlying64 (by kernel_rfl) (by kernel_rfl) h2
set_option maxHeartbeats 3200000 in
theorem showLabel_walk (A : Option Addr) (n c : Nat) (xs : List Int) (w : World) (hI : Ints w A xs) (hn : xs.length = n) (hm : n ≤ 9223372036854775807) (hL : laidMetH Tryd.prog Rows.fnExactShowLabelRow.laid w) :
    Calls Tryd.prog 3 #[lab A n c] w fun e w' => e = .returned (.bool true) ∧ Below w.heap.size w w' := by
  have HN := Lib.hid hn
  have E := Lib.hid (eqB_self xs)
  have HT := Lib.hid (tab_of hL)
  clear hL
  clear hn
  by_cases hbig : (1048576 : Int) - n < 0
  · go_enter Tryd.func3, Tryd.ntmps3
    go_wp2_with fail
    refine (szLabel_no A n c 1048576 _ hm (by omega) (by omega) (by omega)).mono ?_
    rintro e w1 ⟨rfl, hb1⟩
    have hB1 : Below w.heap.size w w1 := Below.trans (by (repeat (first | exact Below.refl _ _ | assumption | refine Below.drew ?_ | refine Below.alloc ?_ ?_ _ | refine Below.setCell ?_ ?_ _)) <;> ((try simp) <;> omega)) (hb1.mono (by simp))
    go_wp2_with fail
    go_ret
    exact ⟨rfl, hB1⟩
  · go_enter Tryd.func3, Tryd.ntmps3
    go_wp2_with fail
    refine (szLabel_yes A n c 1048576 _ hm (by omega) (by omega) (by omega)).mono ?_
    rintro e w1 ⟨rfl, hb1⟩
    have hI1 : Ints w1 A xs := (hI.alloc _).below hb1
    have a1 : w1.cell? ⟨w.heap.size, 0, none⟩ = some (.slice A n c) := Below.keeps hb1 (by simp)
    have hB1 : Below w.heap.size w w1 := Below.trans (by (repeat (first | exact Below.refl _ _ | assumption | refine Below.drew ?_ | refine Below.alloc ?_ ?_ _ | refine Below.setCell ?_ ?_ _)) <;> ((try simp) <;> omega)) (hb1.mono (by simp))
    have hs1 := hB1.size
    clear hI hb1
    go_wp2_with fail
    refine (toLabel_any A n c xs _ hI1 HN.out (by omega)).mono ?_
    rintro e w2 ⟨rfl, hb2, hi2⟩
    have hI2 := hI1.below hb2
    have a2 := Below.keeps hb2 a1
    have hB2 : Below w.heap.size w w2 := hB1.trans (hb2.mono hs1)
    have hs2 := hB2.size
    clear hI1 hb2 a1 hB1 hs1
    go_wp2_with fail
    refine (specShow_any _ _ _ xs _ hi2.ints HN.out (by omega)).mono ?_
    rintro e w3 ⟨rfl, hb3⟩
    have hI3 := hI2.below hb3
    have a3 := Below.keeps hb3 a2
    have hB3 : Below w.heap.size w w3 := hB2.trans (hb3.mono hs2)
    have hs3 := hB3.size
    clear hI2 hb3 a2 hB2 hs2 hi2
    go_wp2_with fail
    refine (toLabel_any A n c xs _ hI3 HN.out (by omega)).mono ?_
    rintro e w4 ⟨rfl, hb4, hi4⟩
    have hI4 := hI3.below hb4
    have a4 := Below.keeps hb4 a3
    have hB4 : Below w.heap.size w w4 := hB3.trans (hb4.mono hs3)
    have hs4 := hB4.size
    clear hI3 hb4 a3 hB3 hs3
    go_wp2_with fail
    refine (implShow_any _ _ _ xs _ (hi4.ints.alloc _) HN.out (by omega) (HT.out.below (hB4.alloc hs4 _))).mono ?_
    rintro e w5 ⟨rfl, hb5⟩
    have hI5 := (hI4.alloc _).below hb5
    have a5 := Below.keeps hb5 (cell_alloc_ a4)
    have b5 : w5.cell? ⟨w4.heap.size, 0, none⟩ = _ := Below.keeps hb5 (by simp; rfl)
    have hi5 := (hi4.ints.alloc _).below hb5
    have hB5 : Below w.heap.size w w5 := (hB4.alloc hs4 _).trans (hb5.mono (by simp; omega))
    have hs5 := hB5.size
    have hs6 := hb5.size
    simp only [World.size_alloc] at hs6
    clear hI4 hb5 a4 hB4 hi4
    go_wp2_with fail
    go_region_held3 (fun x => x.cell? ⟨w.heap.size, 0, none⟩ = some (.slice A n c) ∧ x.cell? ⟨w4.heap.size, 0, none⟩ = some (.slice (some ⟨w3.heap.size + 3, 0, none⟩) n n)) (first | (simp [*]; done) | (exact ⟨Below.keeps hb (by simp [*]), Below.keeps hb (by simp [*])⟩))
      (first
        | (go_at_call 7; refine (toLabel_any A n c xs _ (by exact hI5.keep fun _ _ h => h) HN.out (by omega)).mono ?_; rintro e w' ⟨rfl, hb, hi⟩; have hx5 := hi5.keep (fun _ _ h => Below.keeps hb h); have hB6 : Below w.heap.size w w' := Below.trans (hB5.drew) (hb.mono hs5); clear hI5 hi5)
        | (go_at_call 9; refine (eqLabel_any _ _ _ _ _ _ xs xs _ (by exact hx5) (by exact hi.ints) HN.out HN.out (by omega) (by omega)).mono ?_; rintro e w'' ⟨rfl, hb⟩; have hB7 : Below w.heap.size w w'' := hB6.trans (hb.mono hB6.size); rw [E.out]))
    go_wp2_with fail
    go_ret
    exact ⟨rfl, hB7⟩
set_option maxRecDepth 100000 in
/-- the door leaves what the row lists -/
theorem fnExactShowLabel_door (os : Os) (args : Array Value) : laidMetH Tryd.prog Rows.fnExactShowLabelRow.laid ((World.doorLaid Tryd.prog 24 os).forCall (fun _ _ => 0) ⟨#[], args, []⟩).memory :=
  laidMetH_of_parts3 (fuel := 8) (laidMet_of_run' 8 (by kernel_rfl) (by kernel_rfl)) (by kernel_rfl) (by kernel_rfl)
set_option linter.unusedVariables false in
set_option maxRecDepth 100000 in
theorem FnExactShowLabel_lifted (os : Os) (started : os.Started) (H : Type) (enc : TypeId × Value → H) :
    ReturnsInHanded {} Tryd.checked os 3 .any (fun w args => (Rows.fnExactShowLabelSpec.pre enc Tryd.prog Tryd.f3 [] false w args ∧ laidMetH Tryd.prog Rows.fnExactShowLabelRow.laid w) ∧ sizedMet enc Tryd.prog Tryd.f3 (OpenSpec.ofChange Rows.fnExactShowLabelSpec) false w args)
      (Rows.fnExactShowLabelSpec.post enc Tryd.prog Tryd.f3 false true false false) := by
  refine returnsInHanded_of_change_and (C := Tryd.checked) (X := fun w _ => laidMetH Tryd.prog Rows.fnExactShowLabelRow.laid w) (fun _ _ _ hh h => h.of_heap hh) own started (by kernel_rfl) Tryd.func3
    (ChangeSpec.witness_shaped (enc := enc) (C := Tryd.checked) (os := os) (X := fun w _ => laidMetH Tryd.prog Rows.fnExactShowLabelRow.laid w) false (World.doorLaid Tryd.prog 24 os) #[.agg #[.slice none 0 0]] 8 rfl (World.shaped_of_RefB (by kernel_rfl) (by kernel_rfl)) (by kernel_rfl) (by kernel_rfl) (by kernel_rfl) (fnExactShowLabel_door os _)) ?_
  intro W base args ds gs before hval0 hW _ _ hL _
  have hval : ∀ (j : Nat) t v, Tryd.f3.params[j]? = some t → args[j]? = some v → Value.okWide Tryd.prog W .any base t v := hval0
  have hW' := hW
  obtain ⟨p, q, hA0, hV, rfl, hfz, hnd⟩ := hW
  have hA : DataW.TrodAll enc Tryd.prog W 0 (fun _ => true) true Tryd.f3.params.toList args.toList ds p := hA0
  rw [Tryd.params3] at hA hval
  obtain ⟨v0, vs0, d0, ds0, p0, q0, hargs, rfl, rfl, h0, r0⟩ := trodAll_cons hA
  obtain ⟨rfl, rfl, rfl⟩ := trodAll_nil r0
  obtain rfl : args = #[v0] := by cases args; simp_all
  obtain ⟨rfl, rfl⟩ := trodVars_none hV
  have k0 := h0
  have lt0 : ∀ x ∈ p0, x.block < W.heap.size := by obtain ⟨m, hm⟩ := k0; exact DataW.trod_lt m _ _ _ hm
  obtain ⟨b0, len0, cap0, z0, rfl, row0, ln0, mx0⟩ := open_label (hval 0 24 v0 rfl rfl) h0
  clear hA0 hval0
  refine (showLabel_walk b0 len0 cap0 z0 W row0 ln0 mx0 hL).mono fun e W' ⟨he, bel⟩ => ?_
  subst he
  exact ⟨_, rfl, _, _, _, [], _, [], hW', trodAll_mk1 (shut_bool Tryd.underlying4 _), (trodAll_cons_mk (Below.trod laidOut (by kernel_rfl) (of_decide_eq_true (by kernel_rfl)) k0 bel lt0) trodAll_mk0), rfl, bel.frame _, fun h => by cases h⟩
/-- the row -/
theorem FnExactShowLabel_row : Rows.FnExactShowLabelSaid :=
  OpenClaim.holds_of_wide 3 Tryd.f3 rfl rfl rfl rfl rfl rfl rfl ⟨rfl, rfl, rfl, rfl, rfl⟩ rfl rfl rfl rfl rfl (by kernel_rfl) Tryd.func3 (by kernel_rfl)
    (of_decide_eq_true (by kernel_rfl)) (by unfold Func.isWrapper; first | (rw [if_pos (by decide +kernel)]; kernel_rfl) | (rw [if_neg (by decide +kernel)]; exact ⟨rfl, rfl⟩))
    (fun os started H enc _ => FnExactShowLabel_lifted os started H enc)
/-- THE STATEMENT: the tied card -/
theorem FnExactShowLabel_holds : Rows.FnExactShowLabelCardSaid :=
  Claim7.holds_tied_plain_at .later [] [.data, .data, .data] true (true, "de6df9a1ab8dfb43431fbc3a5696e07654a9d8942fb9d5b5226215f917c754fd") false
    FnExactShowLabel_row (fun _ h => by cases h) (by kernel_rfl) (fun _ h => by cases h) fnExactShowLabel_row_tie rfl ⟨rfl, rfl⟩ (by kernel_rfl) rfl
    (fun f fn hf hfn => by
      obtain rfl : f = 3 := Option.some.inj ((show Tryd.prog.funcNamed Rows.fnExactShowLabelRow.func = some 3 by kernel_rfl).symm.trans hf) |>.symm
      obtain rfl : fn = Tryd.f3 := (Option.some.inj (Tryd.func3.symm.trans hfn)).symm
      exact ⟨by kernel_rfl, fun j t ht => by
        rw [Tryd.params3] at ht
        have hm : t ∈ [24] := by simpa using Array.mem_of_getElem? ht
        have hall : ([24].all fun u => !Tryd.prog.wantsStandIn u) = true := by kernel_rfl
        exact (show Tryd.prog.wantsStandIn t = false by simpa using List.all_eq_true.1 hall t hm)⟩)
    (by kernel_rfl)

end Go.Proofs.YtkcchceoljlnaaaDoor
