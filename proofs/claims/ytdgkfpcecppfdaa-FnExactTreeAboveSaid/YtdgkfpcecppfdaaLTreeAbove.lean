/- FnExactTreeAbove: the program's TreeAbove returns what the reference's returns. No condition. -/
import Derived.Test.YtdgkfpcecppfdaaETreeAbove
import Derived.Test.YtdgkfpcecppfdaaESeq
import Derived.Test.YtdgkfpcecppfdaaEOpen
namespace Go.Proofs.Ytdgkfpcecppfdaa
set_option linter.unusedSimpArgs false
set_option linter.unusedVariables false
open Go.Joins Go.ChangeShapes Go.WideShapes Go.ChangeAt Go.RowKit Go.Deep
open Go.ChangeMaps (open_string shut_string)
attribute [local go_sem ↓] Go.wp_at_zero Go.wp_at_succ
set_option maxHeartbeats 1600000 in
theorem TreeAbove_big (A : Option Addr) (n c : Nat) (xs : List El) (i : Int) (w : World) (hI : Els w A xs) (hn : xs.length = n) (hmx : n ≤ 9223372036854775807) (hbig : (1048576 : Int) - n < 0) :
    Calls Try.prog 6 #[.slice A n c, .int .i64 i] w fun e w' => e = .returned (.bool true) ∧ Below w.heap.size w w' := by
  clear hI hn
  go_enter Try.func6, Try.ntmps6
  go_wp2_with fail
  refine (szEls_no A n c 1048576 _ hmx (by omega) (by omega) (by omega)).mono ?_
  rintro e _ ⟨rfl, rfl⟩
  go_wp2_with fail
  go_ret
  exact ⟨rfl, Below.refl _ _⟩
set_option maxHeartbeats 12800000 in
theorem TreeAbove_main0 (A : Option Addr) (n c : Nat) (xs : List El) (i : Int) (w : World) (hI : Els w A xs) (hn : xs.length = n) (hmx : n ≤ 9223372036854775807) (hok : ¬ (1048576 : Int) - n < 0) (L : List Int) (m : Nat) (hm : L.length = m) (hmb : m ≤ 1099511627776) (C : Hid (∀ (A : Option Addr) (c : Nat) (w : World), Els w A xs → Calls Try.prog 26 #[.slice A n c, .int .i64 i] w fun e w' => ∃ A' c', e = .returned (.slice A' m c') ∧ II.Own w' w.heap.size 3 A' (L.map (Value.int .i64)) ∧ Below w.heap.size w w')) (D : Hid (∀ (A : Option Addr) (c : Nat) (w : World), Els w A xs → Calls Try.prog 27 #[.slice A n c, .int .i64 i] w fun e w' => ∃ A' c', e = .returned (.slice A' m c') ∧ II.Own w' w.heap.size 3 A' (L.map (Value.int .i64)) ∧ Below w.heap.size w w')) :
    Calls Try.prog 6 #[.slice A n c, .int .i64 i] w fun e w' => e = .returned (.bool true) ∧ Below w.heap.size w w' := by
  have HI := Lib.hid hI; have HN := Lib.hid hn; have HM := Lib.hid hm
  clear hI hn hm
  go_enter Try.func6, Try.ntmps6
  have hB := Below.refl w.heap.size w
  have hs := hB.size
  go_wp2_with fail
  refine (szEls_yes A n c 1048576 _ hmx (by omega) (by omega) (by omega)).mono ?_
  rintro e _ ⟨rfl, rfl⟩
  go_wp2_with fail
  refine (toEls_any A n c xs _ (HI.out.keep (fun _ _ h => Below.keeps hB h)) HN.out (by omega)).mono ?_
  rintro e w1 ⟨rfl, hb, ga⟩
  have hz1 := hb.size
  have hB := Below.trans hB (hb.mono (by omega))
  have hs := hB.size
  clear hb
  have ga := OwnI.of_blk ga
  go_wp2_with fail
  refine (C.out _ _ _ ga.els).mono ?_
  rintro e w2 ⟨A0, c0, rfl, o0, hb⟩
  have ga := ga.below hb
  have hz2 := hb.size
  have hB := Below.trans hB (hb.mono (by omega))
  have hs := hB.size
  clear hb
  have o0 := II.OwnL.of_own o0
  go_wp2_with fail
  refine (toEls_any A n c xs _ (HI.out.keep (fun _ _ h => Below.keeps hB h)) HN.out (by omega)).mono ?_
  rintro e w3 ⟨rfl, hb, gx⟩
  have o0 := o0.below hb
  have hz3 := hb.size
  have hB := Below.trans hB (hb.mono (by omega))
  have hs := hB.size
  clear hb
  have gx := OwnI.of_blk gx
  go_wp2_with fail
  refine (D.out _ _ _ gx.els).mono ?_
  rintro e w4 ⟨A1, c1, rfl, o1, hb⟩
  have o0 := o0.below hb
  have gx := gx.below hb
  have hz4 := hb.size
  have hB := Below.trans hB (hb.mono (by omega))
  have hs := hB.size
  clear hb
  have o1 := II.OwnL.of_own o1
  go_wp2_with fail
  refine (II.eqIntS_self _ _ _ _ _ L _ o1.ints o0.ints HM.out (by omega)).mono ?_
  rintro e w5 ⟨rfl, hb⟩
  have o0 := o0.below hb
  have gx := gx.below hb
  have o1 := o1.below hb
  have hz5 := hb.size
  have hB := Below.trans hB (hb.mono (by omega))
  have hs := hB.size
  clear hb
  go_wp2_with fail
  refine (toEls_any A n c xs _ (HI.out.keep (fun _ _ h => Below.keeps hB h)) HN.out (by omega)).mono ?_
  rintro e w6 ⟨rfl, hb, gt⟩
  have o0 := o0.below hb
  have gx := gx.below hb
  have o1 := o1.below hb
  have hz6 := hb.size
  have hB := Below.trans hB (hb.mono (by omega))
  have hs := hB.size
  clear hb
  have gt := OwnI.of_blk gt
  go_wp2_with fail
  refine (eqEls_self _ _ _ _ _ xs _ gx.els gt.els HN.out (by omega)).mono ?_
  rintro e w7 ⟨rfl, hb⟩
  have o0 := o0.below hb
  have gx := gx.below hb
  have o1 := o1.below hb
  have gt := gt.below hb
  have hz7 := hb.size
  have hB := Below.trans hB (hb.mono (by omega))
  have hs := hB.size
  clear hb
  go_wp2_with fail
  refine (markEls_own _ _ _ n _ xs 1 _ gx HN.out (by omega) (by omega) (by omega)).mono ?_
  rintro e w8 ⟨rfl, ho, row, hg, hr⟩
  have o0 := o0.far hg hr (by omega)
  have o1 := o1.far hg hr (by omega)
  have hz8 := hg.size
  have hB := hB.grown hg (by omega) (fun g h => by have := hr g h; omega)
  have hs := hB.size
  have gx := ho
  clear ho hg hr
  clear gx
  go_wp2_with fail
  refine (II.eqIntS_self _ _ _ _ _ L _ o1.ints o0.ints HM.out (by omega)).mono ?_
  rintro e w9 ⟨rfl, hb⟩
  have o0 := o0.below hb
  have o1 := o1.below hb
  have hz9 := hb.size
  have hB := Below.trans hB (hb.mono (by omega))
  have hs := hB.size
  clear hb
  go_wp2_with fail
  refine (II.markIntS_own _ _ _ m _ L 1 _ o1 HM.out (by omega) (by omega) (by omega)).mono ?_
  rintro e w10 ⟨rfl, ho, row, hg, hr⟩
  have o0 := o0.far hg hr (by omega)
  have hz10 := hg.size
  have hB := hB.grown hg (by omega) (fun g h => by have := hr g h; omega)
  have hs := hB.size
  have o1 := ho
  clear ho hg hr
  go_wp2_with fail
  refine (II.heldIntS_any _ m _ 1 _ o1.ints (by omega) (by omega) (by omega)).mono ?_
  rintro e _ ⟨rfl, rfl⟩
  go_wp2_with fail
  refine (toEls_any A n c xs _ (HI.out.keep (fun _ _ h => Below.keeps hB h)) HN.out (by omega)).mono ?_
  rintro e w11 ⟨rfl, hb, gh⟩
  have o0 := o0.below hb
  have o1 := o1.below hb
  have hz11 := hb.size
  have hB := Below.trans hB (hb.mono (by omega))
  have hs := hB.size
  clear hb
  have gh := OwnI.of_blk gh
  go_wp2_with fail
  refine (D.out _ _ _ gh.els).mono ?_
  rintro e w12 ⟨A2, c2, rfl, o2, hb⟩
  have o0 := o0.below hb
  have o1 := o1.below hb
  have gh := gh.below hb
  have hz12 := hb.size
  have hB := Below.trans hB (hb.mono (by omega))
  have hs := hB.size
  clear hb
  have o2 := II.OwnL.of_own o2
  go_wp2_with fail
  refine (II.eqIntS_self _ _ _ _ _ L _ o2.ints o0.ints HM.out (by omega)).mono ?_
  rintro e w13 ⟨rfl, hb⟩
  have o0 := o0.below hb
  have o1 := o1.below hb
  have o2 := o2.below hb
  have hz13 := hb.size
  have hB := Below.trans hB (hb.mono (by omega))
  have hs := hB.size
  clear hb
  go_wp2_with fail
  refine (II.heldIntS_any _ m _ 1 _ o1.ints (by omega) (by omega) (by omega)).mono ?_
  rintro e _ ⟨rfl, rfl⟩
  go_wp2_with fail
  go_ret
  exact ⟨rfl, hB⟩
theorem TreeAbove_walk (A : Option Addr) (n c : Nat) (xs : List El) (i : Int) (w : World) (hI : Els w A xs) (hn : xs.length = n) (hmx : n ≤ 9223372036854775807) (_ : (Lit.int .i64 i).wf = true) :
    Calls Try.prog 6 #[.slice A n c, .int .i64 i] w fun e w' => e = .returned (.bool true) ∧ Below w.heap.size w w' := by
  by_cases hb : (1048576 : Int) - n < 0
  · exact TreeAbove_big A n c xs i w hI hn hmx hb
  · exact TreeAbove_main0 A n c xs i w hI hn hmx hb (treeAbove xs i) _ rfl (by have := treeAbove_len xs i; omega) (Lib.hid fun A c w h => specTreeAbove_any A n c xs i w h hn (by omega)) (Lib.hid fun A c w h => implTreeAbove_any A n c xs i w h hn (by omega))
set_option linter.unusedVariables false in
set_option maxRecDepth 100000 in
theorem FnExactTreeAbove_lifted (os : Os) (started : os.Started) (H : Type) (enc : TypeId × Value → H) :
    ReturnsInHanded {} Try.checked os 6 .any (Rows.fnExactTreeAboveSpec.pre6 enc Try.prog Try.f6 Rows.fnExactTreeAboveRow.domain false) (Rows.fnExactTreeAboveSpec.post enc Try.prog Try.f6 false true false false) := by
  refine returnsInHanded_of_change (C := Try.checked) own started (by kernel_rfl) Try.func6
    (ChangeSpec.witness6 (enc := enc) (C := Try.checked) false ⟨#[], #[.slice none 0 0, .int .i64 0], []⟩ 8 (by kernel_rfl) (by kernel_rfl) (by kernel_rfl) (by kernel_rfl)) ?_
  intro W base args ds gs before hval0 hW hcnd _
  have hval : ∀ (j : Nat) t v, Try.f6.params[j]? = some t → args[j]? = some v → Value.okWide Try.prog W .any base t v := hval0
  have hW' := hW
  obtain ⟨p, q, hA0, hV, rfl, hfz, hnd⟩ := hW
  have hA : DataW.TrodAll enc Try.prog W 0 (fun _ => true) true Try.f6.params.toList args.toList ds p := hA0
  rw [Try.params6] at hA hval
  obtain ⟨v0, vs0, d0, ds0, p0, q0, hargs, rfl, rfl, h0, r0⟩ := trodAll_cons hA
  obtain ⟨v1, vs1, d1, ds1, p1, q1, rfl, rfl, rfl, h1, r1⟩ := trodAll_cons r0
  obtain ⟨rfl, rfl, rfl⟩ := trodAll_nil r1
  obtain rfl : args = #[v0, v1] := by cases args; simp_all
  obtain ⟨rfl, rfl⟩ := trodVars_none hV
  have k0 := h0
  have lt0 : ∀ x ∈ p0, x.block < W.heap.size := by obtain ⟨m, hm⟩ := k0; exact DataW.trod_lt m _ _ _ hm
  obtain ⟨b0, len0, cap0, rfl⟩ := okWide_slice Try.underlying32 (hval 0 32 v0 rfl rfl)
  obtain ⟨z0, row0, ln0, mx0⟩ : ∃ xs, Els W b0 xs ∧ xs.length = len0 ∧ len0 ≤ 9223372036854775807 := by obtain ⟨fuel, hf⟩ := h0; exact open_els hf
  have k1 := h1
  have lt1 : ∀ x ∈ p1, x.block < W.heap.size := by obtain ⟨m, hm⟩ := k1; exact DataW.trod_lt m _ _ _ hm
  obtain ⟨a1, rfl, rfl, rfl, wf1⟩ := open_int Try.underlying3 (hval 1 3 v1 rfl rfl) h1
  clear hA0 hval0
  refine (TreeAbove_walk b0 len0 cap0 z0 a1 W row0 ln0 mx0 wf1).mono fun e W' ⟨he, bel⟩ => ?_
  subst he
  exact ⟨_, rfl, _, _, _, [], _, [], hW', trodAll_mk1 (shut_bool Try.underlying4 _), (trodAll_cons_mk (Below.trod laidOut (by kernel_rfl) (of_decide_eq_true (by kernel_rfl)) k0 bel lt0) (trodAll_cons_mk (Below.trod laidOut (by kernel_rfl) (of_decide_eq_true (by kernel_rfl)) k1 bel lt1) trodAll_mk0)), rfl, bel.frame _, fun h => by cases h⟩
/-- THE STATEMENT -/
theorem FnExactTreeAbove_holds : Rows.FnExactTreeAboveSaid :=
  OpenClaim.holds_of_wide 6 Try.f6 rfl rfl rfl rfl rfl rfl rfl ⟨rfl, rfl, rfl, rfl, rfl⟩ rfl rfl rfl rfl rfl (by kernel_rfl) Try.func6 (by kernel_rfl)
    (of_decide_eq_true (by kernel_rfl)) (by unfold Func.isWrapper; first | (rw [if_pos (by decide +kernel)]; kernel_rfl) | (rw [if_neg (by decide +kernel)]; exact ⟨rfl, rfl⟩))
    (fun os started H enc _ => FnExactTreeAbove_lifted os started H enc)

end Go.Proofs.Ytdgkfpcecppfdaa
