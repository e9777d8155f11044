/- FnExactTreeOk: the program's TreeOk returns what the reference's returns. No condition. -/
import Derived.Test.YtdgkfpcecppfdaaESpecOk
import Derived.Test.YtdgkfpcecppfdaaESeq
import Derived.Test.YtdgkfpcecppfdaaEOpen
namespace Go.Proofs.Ytdgkfpcecppfdaa
set_option linter.unusedSimpArgs false
set_option linter.unusedVariables false
open Go.Joins Go.ChangeShapes Go.WideShapes Go.ChangeAt Go.RowKit Go.Deep
open Go.ChangeMaps (open_string shut_string)
set_option maxHeartbeats 1600000 in
theorem TreeOk_big (A : Option Addr) (n c : Nat) (xs : List El) (w : World) (hI : Els w A xs) (hn : xs.length = n) (hmx : n ≤ 9223372036854775807) (hbig : (1048576 : Int) - n < 0) :
    Calls Try.prog 4 #[.slice A n c] w fun e w' => e = .returned (.bool true) ∧ Below w.heap.size w w' := by
  clear hI hn
  go_enter Try.func4, Try.ntmps4
  go_wp2_with fail
  refine (szEls_no A n c 1048576 _ hmx (by omega) (by omega) (by omega)).mono ?_
  rintro e _ ⟨rfl, rfl⟩
  go_wp2_with fail
  go_ret
  exact ⟨rfl, Below.refl _ _⟩
set_option maxHeartbeats 6400000 in
theorem TreeOk_main (A : Option Addr) (n c : Nat) (xs : List El) (w : World) (hI : Els w A xs) (hn : xs.length = n) (hmx : n ≤ 9223372036854775807) (z : Bool) (C : Hid (∀ (A : Option Addr) (c : Nat) (w : World), Els w A xs → Calls Try.prog 20 #[.slice A n c] w fun e w' => e = .returned (.bool z) ∧ Below w.heap.size w w')) (D : Hid (∀ (A : Option Addr) (c : Nat) (w : World), Els w A xs → Calls Try.prog 22 #[.slice A n c] w fun e w' => e = .returned (.bool z) ∧ Below w.heap.size w w')) (hok : ¬ (1048576 : Int) - n < 0) :
    Calls Try.prog 4 #[.slice A n c] w fun e w' => e = .returned (.bool true) ∧ Below w.heap.size w w' := by
  have HI := Lib.hid hI; have HN := Lib.hid hn
  clear hI hn
  go_enter Try.func4, Try.ntmps4
  have hB := Below.refl w.heap.size w
  have hs := hB.size
  go_wp2_with fail
  refine (szEls_yes A n c 1048576 _ hmx (by omega) (by omega) (by omega)).mono ?_
  rintro e _ ⟨rfl, rfl⟩
  go_wp2_with fail
  refine (toEls_any A n c xs _ (HI.out.keep (fun _ _ h => Below.keeps hB h)) HN.out (by omega)).mono ?_
  rintro e w1 ⟨rfl, hb, ga⟩
  have hz1 := hb.size
  have hB := Below.trans hB (hb.mono (by omega))
  have hs := hB.size
  clear hb
  have ga := OwnI.of_blk ga
  go_wp2_with fail
  refine (C.out _ _ _ (ga.els)).mono ?_
  rintro e w2 ⟨rfl, hb⟩
  have ga := ga.below hb
  have hz2 := hb.size
  have hB := Below.trans hB (hb.mono (by omega))
  have hs := hB.size
  clear hb
  go_wp2_with fail
  refine (toEls_any A n c xs _ (HI.out.keep (fun _ _ h => Below.keeps hB h)) HN.out (by omega)).mono ?_
  rintro e w3 ⟨rfl, hb, gx⟩
  have hz3 := hb.size
  have hB := Below.trans hB (hb.mono (by omega))
  have hs := hB.size
  clear hb
  have gx := OwnI.of_blk gx
  go_wp2_with fail
  refine (D.out _ _ _ (gx.els)).mono ?_
  rintro e w4 ⟨rfl, hb⟩
  have gx := gx.below hb
  have hz4 := hb.size
  have hB := Below.trans hB (hb.mono (by omega))
  have hs := hB.size
  clear hb
  go_wp2_with fail
  refine (toEls_any A n c xs _ (HI.out.keep (fun _ _ h => Below.keeps hB h)) HN.out (by omega)).mono ?_
  rintro e w5 ⟨rfl, hb, gt⟩
  have gx := gx.below hb
  have hz5 := hb.size
  have hB := Below.trans hB (hb.mono (by omega))
  have hs := hB.size
  clear hb
  have gt := OwnI.of_blk gt
  go_wp2_with fail
  refine (eqEls_self _ _ _ _ _ xs _ gx.els gt.els HN.out (by omega)).mono ?_
  rintro e w6 ⟨rfl, hb⟩
  have gx := gx.below hb
  have gt := gt.below hb
  have hz6 := hb.size
  have hB := Below.trans hB (hb.mono (by omega))
  have hs := hB.size
  clear hb
  go_wp2_with fail
  go_ret
  exact ⟨rfl, hB⟩
theorem TreeOk_walk (A : Option Addr) (n c : Nat) (xs : List El) (w : World) (hI : Els w A xs) (hn : xs.length = n) (hmx : n ≤ 9223372036854775807) :
    Calls Try.prog 4 #[.slice A n c] w fun e w' => e = .returned (.bool true) ∧ Below w.heap.size w w' := by
  by_cases hb : (1048576 : Int) - n < 0
  · exact TreeOk_big A n c xs w hI hn hmx hb
  · obtain ⟨b, hbr⟩ : ∃ b : Bool, b = true ↔ Right xs := by
      by_cases h : Right xs
      · exact ⟨true, by simp [h]⟩
      · exact ⟨false, by simp [h]⟩
    exact TreeOk_main A n c xs w hI hn hmx b (Lib.hid fun A c w h => specTreeOk_any A n c xs b w h hn (by omega) hbr) (Lib.hid fun A c w h => implTreeOk_any A n c xs b w h hn (by omega) hbr) hb
set_option linter.unusedVariables false in
set_option maxRecDepth 100000 in
theorem FnExactTreeOk_lifted (os : Os) (started : os.Started) (H : Type) (enc : TypeId × Value → H) :
    ReturnsInHanded {} Try.checked os 4 .any (Rows.fnExactTreeOkSpec.pre6 enc Try.prog Try.f4 Rows.fnExactTreeOkRow.domain false) (Rows.fnExactTreeOkSpec.post enc Try.prog Try.f4 false true false false) := by
  refine returnsInHanded_of_change (C := Try.checked) own started (by kernel_rfl) Try.func4
    (ChangeSpec.witness6 (enc := enc) (C := Try.checked) false ⟨#[], #[.slice none 0 0], []⟩ 8 (by kernel_rfl) (by kernel_rfl) (by kernel_rfl) (by kernel_rfl)) ?_
  intro W base args ds gs before hval0 hW hcnd _
  have hval : ∀ (j : Nat) t v, Try.f4.params[j]? = some t → args[j]? = some v → Value.okWide Try.prog W .any base t v := hval0
  have hW' := hW
  obtain ⟨p, q, hA0, hV, rfl, hfz, hnd⟩ := hW
  have hA : DataW.TrodAll enc Try.prog W 0 (fun _ => true) true Try.f4.params.toList args.toList ds p := hA0
  rw [Try.params4] at hA hval
  obtain ⟨v0, vs0, d0, ds0, p0, q0, hargs, rfl, rfl, h0, r0⟩ := trodAll_cons hA
  obtain ⟨rfl, rfl, rfl⟩ := trodAll_nil r0
  obtain rfl : args = #[v0] := by cases args; simp_all
  obtain ⟨rfl, rfl⟩ := trodVars_none hV
  have k0 := h0
  have lt0 : ∀ x ∈ p0, x.block < W.heap.size := by obtain ⟨m, hm⟩ := k0; exact DataW.trod_lt m _ _ _ hm
  obtain ⟨b0, len0, cap0, rfl⟩ := okWide_slice Try.underlying32 (hval 0 32 v0 rfl rfl)
  obtain ⟨z0, row0, ln0, mx0⟩ : ∃ xs, Els W b0 xs ∧ xs.length = len0 ∧ len0 ≤ 9223372036854775807 := by obtain ⟨fuel, hf⟩ := h0; exact open_els hf
  clear hA0 hval0
  refine (TreeOk_walk b0 len0 cap0 z0 W row0 ln0 mx0).mono fun e W' ⟨he, bel⟩ => ?_
  subst he
  exact ⟨_, rfl, _, _, _, [], _, [], hW', trodAll_mk1 (shut_bool Try.underlying4 _), (trodAll_cons_mk (Below.trod laidOut (by kernel_rfl) (of_decide_eq_true (by kernel_rfl)) k0 bel lt0) trodAll_mk0), rfl, bel.frame _, fun h => by cases h⟩
/-- THE STATEMENT -/
theorem FnExactTreeOk_holds : Rows.FnExactTreeOkSaid :=
  OpenClaim.holds_of_wide 4 Try.f4 rfl rfl rfl rfl rfl rfl rfl ⟨rfl, rfl, rfl, rfl, rfl⟩ rfl rfl rfl rfl rfl (by kernel_rfl) Try.func4 (by kernel_rfl)
    (of_decide_eq_true (by kernel_rfl)) (by unfold Func.isWrapper; first | (rw [if_pos (by decide +kernel)]; kernel_rfl) | (rw [if_neg (by decide +kernel)]; exact ⟨rfl, rfl⟩))
    (fun os started H enc _ => FnExactTreeOk_lifted os started H enc)

end Go.Proofs.Ytdgkfpcecppfdaa
