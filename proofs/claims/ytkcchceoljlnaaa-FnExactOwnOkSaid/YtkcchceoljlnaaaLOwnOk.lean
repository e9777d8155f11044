/- FnExactOwnOk: the program's OwnOk returns what the reference's returns. No condition. -/
import Derived.Test.YtkcchceoljlnaaaOwn
import Derived.Test.YtkcchceoljlnaaaOpenI
namespace Go.Proofs.Ytkcchceoljlnaaa
set_option linter.unusedSimpArgs false
set_option linter.unusedVariables false
open Go.Joins Go.ChangeShapes Go.WideShapes Go.ChangeAt Go.RowKit Go.Deep
open Go.ChangeMaps (open_string shut_string)

theorem eqB_self (xs : List Int) : eqB xs xs = true := by simp [eqB]
set_option maxHeartbeats 1600000 in
theorem ownOk_walk (A : Option Addr) (n c : Nat) (xs : List Int) (w : World) (hI : Ints w A xs) (hn : xs.length = n) :
    Calls Try.prog 3 #[.slice A n c] w fun e w' => e = .returned (.bool true) ∧ Below w.heap.size w w' := by
  have HN := Lib.hid hn
  have E := Lib.hid (eqB_self xs)
  clear hn
  by_cases hbig : 1048576 < n
  · have hbig2 : (1048576 : Int) < (n : Int) := by omega
    clear hI
    go_enter Try.func3, Try.ntmps3
    go_wp2_with fail
    go_ret
    exact ⟨rfl, Below.refl _ _⟩
  · go_enter Try.func3, Try.ntmps3
    go_wp2_with fail
    refine (toIntS_any A n c xs _ hI HN.out (by omega)).mono ?_
    rintro e w1 ⟨rfl, hb1, hi1⟩
    have hI1 := hI.below hb1
    have hs1 := hb1.size
    go_wp2_with fail
    refine (specOwnOk_any _ _ _ xs _ hi1.ints HN.out (by omega)).mono ?_
    rintro e w2 ⟨rfl, hb2⟩
    have hI2 := hI1.below hb2
    have hB2 : Below w.heap.size w w2 := hb1.trans (hb2.mono hb1.size)
    clear hI hI1 hi1 hb1 hb2 hs1
    go_wp2_with fail
    refine (toIntS_any A n c xs _ hI2 HN.out (by omega)).mono ?_
    rintro e w3 ⟨rfl, hb3, hi3⟩
    have hI3 := hI2.below hb3
    have hB3 : Below w.heap.size w w3 := hB2.trans (hb3.mono hB2.size)
    clear hI2 hb3
    go_wp2_with fail
    refine (implOwnOk_any _ _ _ xs _ hi3.ints HN.out (by omega)).mono ?_
    rintro e w4 ⟨rfl, hb4⟩
    have hI4 := hI3.below hb4
    have hi4 := hi3.below hb4
    have hB4 : Below w.heap.size w w4 := hB3.trans (hb4.mono hB3.size)
    clear hI3 hi3 hb4
    go_wp2_with fail
    refine (toIntS_any A n c xs _ hI4 HN.out (by omega)).mono ?_
    rintro e w5 ⟨rfl, hb5, hi5⟩
    have hi4' := hi4.below hb5
    have hB5 : Below w.heap.size w w5 := hB4.trans (hb5.mono hB4.size)
    go_wp2_with fail
    refine (eqIntS_any _ _ _ _ _ _ xs xs _ hi4'.ints hi5.ints HN.out HN.out (by omega) (by omega)).mono ?_
    rintro e w6 ⟨rfl, hb6⟩
    have hB6 : Below w.heap.size w w6 := hB5.trans (hb6.mono hB5.size)
    rw [E.out]
    go_wp2_with fail
    go_ret
    exact ⟨rfl, hB6⟩
set_option linter.unusedVariables false in
set_option maxRecDepth 100000 in
theorem FnExactOwnOk_lifted (os : Os) (started : os.Started) (H : Type) (enc : TypeId × Value → H) :
    ReturnsInHanded {} Try.checked os 3 .any (Rows.fnExactOwnOkSpec.pre6 enc Try.prog Try.f3 Rows.fnExactOwnOkRow.domain false) (Rows.fnExactOwnOkSpec.post enc Try.prog Try.f3 false true false false) := by
  refine returnsInHanded_of_change (C := Try.checked) own started (by kernel_rfl) Try.func3
    (ChangeSpec.witness6 (enc := enc) (C := Try.checked) false ⟨#[], #[.slice none 0 0], []⟩ 8 (by kernel_rfl) (by kernel_rfl) (by kernel_rfl) (by kernel_rfl)) ?_
  intro W base args ds gs before hval0 hW hcnd _
  have hval : ∀ (j : Nat) t v, Try.f3.params[j]? = some t → args[j]? = some v → Value.okWide Try.prog W .any base t v := hval0
  have hW' := hW
  obtain ⟨p, q, hA0, hV, rfl, hfz, hnd⟩ := hW
  have hA : DataW.TrodAll enc Try.prog W 0 (fun _ => true) true Try.f3.params.toList args.toList ds p := hA0
  rw [Try.params3] at hA hval
  obtain ⟨v0, vs0, d0, ds0, p0, q0, hargs, rfl, rfl, h0, r0⟩ := trodAll_cons hA
  obtain ⟨rfl, rfl, rfl⟩ := trodAll_nil r0
  obtain rfl : args = #[v0] := by cases args; simp_all
  obtain ⟨rfl, rfl⟩ := trodVars_none hV
  have k0 := h0
  have lt0 : ∀ x ∈ p0, x.block < W.heap.size := by obtain ⟨m, hm⟩ := k0; exact DataW.trod_lt m _ _ _ hm
  obtain ⟨b0, len0, cap0, rfl⟩ := okWide_slice Try.underlying22 (hval 0 22 v0 rfl rfl)
  obtain ⟨z0, row0, ln0⟩ : ∃ xs, Ints W b0 xs ∧ xs.length = len0 := by obtain ⟨fuel, hf⟩ := h0; exact open_intS hf
  clear hA0 hval0
  refine (ownOk_walk b0 len0 cap0 z0 W row0 ln0).mono fun e W' ⟨he, bel⟩ => ?_
  subst he
  exact ⟨_, rfl, _, _, _, [], _, [], hW', trodAll_mk1 (shut_bool Try.underlying4 _), (trodAll_cons_mk (Below.trod laidOut (by kernel_rfl) (of_decide_eq_true (by kernel_rfl)) k0 bel lt0) trodAll_mk0), rfl, bel.frame _, fun h => by cases h⟩
/-- THE STATEMENT -/
theorem FnExactOwnOk_holds : Rows.FnExactOwnOkSaid :=
  OpenClaim.holds_of_wide 3 Try.f3 rfl rfl rfl rfl rfl rfl rfl ⟨rfl, rfl, rfl, rfl, rfl⟩ rfl rfl rfl rfl rfl (by kernel_rfl) Try.func3 (by kernel_rfl)
    (of_decide_eq_true (by kernel_rfl)) (by unfold Func.isWrapper; first | (rw [if_pos (by decide +kernel)]; kernel_rfl) | (rw [if_neg (by decide +kernel)]; exact ⟨rfl, rfl⟩))
    (fun os started H enc _ => FnExactOwnOk_lifted os started H enc)

end Go.Proofs.Ytkcchceoljlnaaa
