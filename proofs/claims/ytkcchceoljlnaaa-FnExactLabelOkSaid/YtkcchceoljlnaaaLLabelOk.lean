/- FnExactLabelOk: the program's LabelOk returns what the reference's returns. No condition. -/
import Derived.Test.YtkcchceoljlnaaaLabel
import Derived.Test.YtkcchceoljlnaaaOpenI
import Derived.Deep.RegionHeld3
import Derived.Deep.DrawnRows
namespace Go.Proofs.Ytkcchceoljlnaaa
set_option linter.unusedSimpArgs false
set_option linter.unusedVariables false
open Go.Joins Go.ChangeShapes Go.WideShapes Go.ChangeAt Go.RowKit Go.Deep
open Go.ChangeMaps (open_string shut_string)
attribute [local go_sem ↓] Go.wp_at_zero Go.wp_at_succ

theorem eqB_self (xs : List Int) : eqB xs xs = true := by simp [eqB]
set_option maxHeartbeats 3200000 in
theorem labelOk_walk (A : Option Addr) (n c : Nat) (xs : List Int) (w : World) (hI : Ints w A xs) (hn : xs.length = n) (hm : n ≤ 9223372036854775807) :
    Calls Try.prog 4 #[lab A n c] w fun e w' => e = .returned (.bool true) ∧ Below w.heap.size w w' := by
  have HN := Lib.hid hn
  have E := Lib.hid (eqB_self xs)
  clear hn
  by_cases hbig : (1048576 : Int) - n < 0
  · go_enter Try.func4, Try.ntmps4
    go_wp2_with fail
    refine (szLabel_no A n c 1048576 _ hm (by omega) (by omega) (by omega)).mono ?_
    rintro e w1 ⟨rfl, hb1⟩
    have hB1 : Below w.heap.size w w1 := Below.trans (by (repeat (first | exact Below.refl _ _ | assumption | refine Below.drew ?_ | refine Below.alloc ?_ ?_ _ | refine Below.setCell ?_ ?_ _)) <;> ((try simp) <;> omega)) (hb1.mono (by simp))
    go_wp2_with fail
    go_ret
    exact ⟨rfl, hB1⟩
  · go_enter Try.func4, Try.ntmps4
    go_wp2_with fail
    refine (szLabel_yes A n c 1048576 _ hm (by omega) (by omega) (by omega)).mono ?_
    rintro e w1 ⟨rfl, hb1⟩
    have hI1 : Ints w1 A xs := (hI.alloc _).below hb1
    have a1 : w1.cell? ⟨w.heap.size, 0, none⟩ = some (.slice A n c) := Below.keeps hb1 (by simp)
    have hB1 : Below w.heap.size w w1 := Below.trans (by (repeat (first | exact Below.refl _ _ | assumption | refine Below.drew ?_ | refine Below.alloc ?_ ?_ _ | refine Below.setCell ?_ ?_ _)) <;> ((try simp) <;> omega)) (hb1.mono (by simp))
    have hs1 := hB1.size
    clear hI hb1
    go_wp2_with fail
    refine (toLabel_any A n c xs _ hI1 HN.out (by omega)).mono ?_
    rintro e w2 ⟨rfl, hb2, hi2⟩
    have hI2 := hI1.below hb2
    have a2 := Below.keeps hb2 a1
    have hB2 : Below w.heap.size w w2 := hB1.trans (hb2.mono hs1)
    have hs2 := hB2.size
    clear hI1 hb2 a1 hB1 hs1
    go_wp2_with fail
    refine (specLabelOk_any _ _ _ xs _ hi2.ints HN.out (by omega)).mono ?_
    rintro e w3 ⟨rfl, hb3⟩
    have hI3 := hI2.below hb3
    have a3 := Below.keeps hb3 a2
    have hB3 : Below w.heap.size w w3 := hB2.trans (hb3.mono hs2)
    have hs3 := hB3.size
    clear hI2 hb3 a2 hB2 hs2 hi2
    go_wp2_with fail
    refine (toLabel_any A n c xs _ hI3 HN.out (by omega)).mono ?_
    rintro e w4 ⟨rfl, hb4, hi4⟩
    have hI4 := hI3.below hb4
    have a4 := Below.keeps hb4 a3
    have hB4 : Below w.heap.size w w4 := hB3.trans (hb4.mono hs3)
    have hs4 := hB4.size
    clear hI3 hb4 a3 hB3 hs3
    go_wp2_with fail
    refine (implLabelOk_any _ _ _ xs _ (hi4.ints.alloc _) HN.out (by omega)).mono ?_
    rintro e w5 ⟨rfl, hb5⟩
    have hI5 := (hI4.alloc _).below hb5
    have a5 := Below.keeps hb5 (cell_alloc_ a4)
    have b5 : w5.cell? ⟨w4.heap.size, 0, none⟩ = _ := Below.keeps hb5 (by simp; rfl)
    have hi5 := (hi4.ints.alloc _).below hb5
    have hB5 : Below w.heap.size w w5 := (hB4.alloc hs4 _).trans (hb5.mono (by simp; omega))
    have hs5 := hB5.size
    have hs6 := hb5.size
    simp only [World.size_alloc] at hs6
    clear hI4 hb5 a4 hB4 hi4
    go_wp2_with fail
    go_region_held3 (fun x => x.cell? ⟨w.heap.size, 0, none⟩ = some (.slice A n c) ∧ x.cell? ⟨w4.heap.size, 0, none⟩ = some (.slice (some ⟨w3.heap.size + 3, 0, none⟩) n n)) (first | (simp [*]; done) | (exact ⟨Below.keeps hb (by simp [*]), Below.keeps hb (by simp [*])⟩))
      (first
        | (go_at_call 20; refine (toLabel_any A n c xs _ (by exact hI5.keep fun _ _ h => h) HN.out (by omega)).mono ?_; rintro e w' ⟨rfl, hb, hi⟩; have hx5 := hi5.keep (fun _ _ h => Below.keeps hb h); have hB6 : Below w.heap.size w w' := Below.trans (hB5.drew) (hb.mono hs5); clear hI5 hi5)
        | (go_at_call 22; refine (eqLabel_any _ _ _ _ _ _ xs xs _ (by exact hx5) (by exact hi.ints) HN.out HN.out (by omega) (by omega)).mono ?_; rintro e w'' ⟨rfl, hb⟩; have hB7 : Below w.heap.size w w'' := hB6.trans (hb.mono hB6.size); rw [E.out]))
    go_wp2_with fail
    go_ret
    exact ⟨rfl, hB7⟩
set_option linter.unusedVariables false in
set_option maxRecDepth 100000 in
theorem FnExactLabelOk_lifted (os : Os) (started : os.Started) (H : Type) (enc : TypeId × Value → H) :
    ReturnsInHanded {} Try.checked os 4 .any (Rows.fnExactLabelOkSpec.pre6 enc Try.prog Try.f4 Rows.fnExactLabelOkRow.domain false) (Rows.fnExactLabelOkSpec.post enc Try.prog Try.f4 false true false false) := by
  refine returnsInHanded_of_change (C := Try.checked) own started (by kernel_rfl) Try.func4
    (ChangeSpec.witness6 (enc := enc) (C := Try.checked) false ⟨#[], #[.agg #[.slice none 0 0]], []⟩ 8 (by kernel_rfl) (by kernel_rfl) (by kernel_rfl) (by kernel_rfl)) ?_
  intro W base args ds gs before hval0 hW hcnd _
  have hval : ∀ (j : Nat) t v, Try.f4.params[j]? = some t → args[j]? = some v → Value.okWide Try.prog W .any base t v := hval0
  have hW' := hW
  obtain ⟨p, q, hA0, hV, rfl, hfz, hnd⟩ := hW
  have hA : DataW.TrodAll enc Try.prog W 0 (fun _ => true) true Try.f4.params.toList args.toList ds p := hA0
  rw [Try.params4] at hA hval
  obtain ⟨v0, vs0, d0, ds0, p0, q0, hargs, rfl, rfl, h0, r0⟩ := trodAll_cons hA
  obtain ⟨rfl, rfl, rfl⟩ := trodAll_nil r0
  obtain rfl : args = #[v0] := by cases args; simp_all
  obtain ⟨rfl, rfl⟩ := trodVars_none hV
  have k0 := h0
  have lt0 : ∀ x ∈ p0, x.block < W.heap.size := by obtain ⟨m, hm⟩ := k0; exact DataW.trod_lt m _ _ _ hm
  obtain ⟨b0, len0, cap0, z0, rfl, row0, ln0, mx0⟩ := open_label (hval 0 27 v0 rfl rfl) h0
  clear hA0 hval0
  refine (labelOk_walk b0 len0 cap0 z0 W row0 ln0 mx0).mono fun e W' ⟨he, bel⟩ => ?_
  subst he
  exact ⟨_, rfl, _, _, _, [], _, [], hW', trodAll_mk1 (shut_bool Try.underlying4 _), (trodAll_cons_mk (Below.trod laidOut (by kernel_rfl) (of_decide_eq_true (by kernel_rfl)) k0 bel lt0) trodAll_mk0), rfl, bel.frame _, fun h => by cases h⟩
/-- THE STATEMENT -/
theorem FnExactLabelOk_holds : Rows.FnExactLabelOkSaid :=
  OpenClaim.holds_of_wide 4 Try.f4 rfl rfl rfl rfl rfl rfl rfl ⟨rfl, rfl, rfl, rfl, rfl⟩ rfl rfl rfl rfl rfl (by kernel_rfl) Try.func4 (by kernel_rfl)
    (of_decide_eq_true (by kernel_rfl)) (by unfold Func.isWrapper; first | (rw [if_pos (by decide +kernel)]; kernel_rfl) | (rw [if_neg (by decide +kernel)]; exact ⟨rfl, rfl⟩))
    (fun os started H enc _ => FnExactLabelOk_lifted os started H enc)

end Go.Proofs.Ytkcchceoljlnaaa
