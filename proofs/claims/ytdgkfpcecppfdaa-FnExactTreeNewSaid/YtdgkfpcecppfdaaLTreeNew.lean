/- FnExactTreeNew: the program's TreeNew returns what the reference's returns. No condition. -/
import Derived.Test.YtdgkfpcecppfdaaETreeNew
import Derived.Test.YtdgkfpcecppfdaaESeq
import Derived.Test.YtdgkfpcecppfdaaEOpen
namespace Go.Proofs.Ytdgkfpcecppfdaa
set_option linter.unusedSimpArgs false
set_option linter.unusedVariables false
open Go.Joins Go.ChangeShapes Go.WideShapes Go.ChangeAt Go.RowKit Go.Deep
open Go.ChangeMaps (open_string shut_string)
attribute [local go_sem ↓] Go.wp_at_zero Go.wp_at_succ
theorem cell_grown {w w1 : World} {row : Option Nat} (hg : w.grownBy w1 row) {p : Addr} {v : Value} (h : w.cell? p = some v) (hr : ∀ g, row = some g → p.block ≠ g) : w1.cell? p = some v :=
  (World.cell?_of_block (hg.block p.block (lt_of_cell h) (fun e => hr _ e.symm rfl))).trans h
set_option maxHeartbeats 12800000 in
theorem TreeNew_main0 (a : B3) (w : World) (R : List El) (m : Nat) (b : Bool) (hm : R.length = m) (hmb : m ≤ 1099511627776) (C : Hid (∀ (w : World), Calls Try.prog 13 #[amt3 a] w fun e w' => ∃ A' c', e = .returned (.tuple #[.slice A' m c', .bool b]) ∧ OwnE w' w.heap.size A' R ∧ Below w.heap.size w w')) (D : Hid (∀ (w : World), Calls Try.prog 15 #[amt3 a] w fun e w' => ∃ A' c', e = .returned (.tuple #[.slice A' m c', .bool b]) ∧ OwnE w' w.heap.size A' R ∧ Below w.heap.size w w')) :
    Calls Try.prog 3 #[amt3 a] w fun e w' => e = .returned (.bool true) ∧ Below w.heap.size w w' := by
  have HM := Lib.hid hm
  clear hm
  go_enter Try.func3, Try.ntmps3
  have hB := (Below.refl w.heap.size w).alloc (Nat.le_refl _) (.cells #[.int .i64 a.1, .int .i64 a.2.1, .int .i64 a.2.2] 23)
  have hs := hB.size
  obtain ⟨d0, d1, d2⟩ : (w.alloc (.cells #[.int .i64 a.1, .int .i64 a.2.1, .int .i64 a.2.2] 23)).cell? ⟨w.heap.size, 0, none⟩ = some (.int .i64 a.1) ∧ (w.alloc (.cells #[.int .i64 a.1, .int .i64 a.2.1, .int .i64 a.2.2] 23)).cell? ⟨w.heap.size, 1, none⟩ = some (.int .i64 a.2.1) ∧ (w.alloc (.cells #[.int .i64 a.1, .int .i64 a.2.1, .int .i64 a.2.2] 23)).cell? ⟨w.heap.size, 2, none⟩ = some (.int .i64 a.2.2) := ⟨by simp, by simp, by simp⟩
  go_wp2_with fail
  refine (toAmt_any _ _ _ _).mono ?_
  rintro e w1 ⟨rfl, hb⟩
  have d0 := Below.keeps hb d0
  have d1 := Below.keeps hb d1
  have d2 := Below.keeps hb d2
  have hz1 := hb.size
  have hB := Below.trans hB (hb.mono (by (try simp) <;> omega))
  have hs := hB.size
  clear hb
  have ld0 : w.heap.size < w1.heap.size := lt_of_cell d0
  have ld1 : w.heap.size < w1.heap.size := lt_of_cell d1
  have ld2 : w.heap.size < w1.heap.size := lt_of_cell d2
  go_wp2_with fail
  refine (C.out _).mono ?_
  rintro e w2 ⟨A0, c0, rfl, o0, hb⟩
  have d0 := Below.keeps hb d0
  have d1 := Below.keeps hb d1
  have d2 := Below.keeps hb d2
  have hz2 := hb.size
  have hB := Below.trans hB (hb.mono (by (try simp) <;> omega))
  have hs := hB.size
  clear hb
  have ld0 : w.heap.size < w2.heap.size := lt_of_cell d0
  have ld1 : w.heap.size < w2.heap.size := lt_of_cell d1
  have ld2 : w.heap.size < w2.heap.size := lt_of_cell d2
  have o0 := OwnI.of_own o0
  go_wp2_with fail
  refine (toAmt_any _ _ _ _).mono ?_
  rintro e w3 ⟨rfl, hb⟩
  have o0 := (o0).below hb
  have d0 := Below.keeps hb d0
  have d1 := Below.keeps hb d1
  have d2 := Below.keeps hb d2
  have hz3 := hb.size
  have hB := Below.trans hB (hb.mono (by (try simp) <;> omega))
  have hs := hB.size
  clear hb
  have ld0 : w.heap.size < w3.heap.size := lt_of_cell d0
  have ld1 : w.heap.size < w3.heap.size := lt_of_cell d1
  have ld2 : w.heap.size < w3.heap.size := lt_of_cell d2
  go_wp2_with fail
  refine (D.out _).mono ?_
  rintro e w4 ⟨A1, c1, rfl, o1, hb⟩
  have o0 := (o0).below hb
  have d0 := Below.keeps hb d0
  have d1 := Below.keeps hb d1
  have d2 := Below.keeps hb d2
  have hz4 := hb.size
  have hB := Below.trans hB (hb.mono (by (try simp) <;> omega))
  have hs := hB.size
  clear hb
  have ld0 : w.heap.size < w4.heap.size := lt_of_cell d0
  have ld1 : w.heap.size < w4.heap.size := lt_of_cell d1
  have ld2 : w.heap.size < w4.heap.size := lt_of_cell d2
  have o1 := OwnI.of_own o1
  go_wp2_with fail
  refine (eqEls_self _ _ _ _ _ R _ o1.els o0.els HM.out (by omega)).mono ?_
  rintro e w5 ⟨rfl, hb⟩
  have o0 := (o0).below hb
  have o1 := (o1).below hb
  have d0 := Below.keeps hb d0
  have d1 := Below.keeps hb d1
  have d2 := Below.keeps hb d2
  have hz5 := hb.size
  have hB := Below.trans hB (hb.mono (by (try simp) <;> omega))
  have hs := hB.size
  clear hb
  have ld0 : w.heap.size < w5.heap.size := lt_of_cell d0
  have ld1 : w.heap.size < w5.heap.size := lt_of_cell d1
  have ld2 : w.heap.size < w5.heap.size := lt_of_cell d2
  go_wp2_with fail
  refine (markEls_own _ _ _ m _ R 1 _ o1 HM.out (by omega) (by omega) (by omega)).mono ?_
  rintro e w6 ⟨rfl, ho, row, hg, hr⟩
  have o0 := o0.far hg hr (by omega)
  have d0 := cell_grown hg d0 (fun g h => by have := hr g h; (try dsimp only); omega)
  have d1 := cell_grown hg d1 (fun g h => by have := hr g h; (try dsimp only); omega)
  have d2 := cell_grown hg d2 (fun g h => by have := hr g h; (try dsimp only); omega)
  have ld0 : w.heap.size < w6.heap.size := lt_of_cell d0
  have ld1 : w.heap.size < w6.heap.size := lt_of_cell d1
  have ld2 : w.heap.size < w6.heap.size := lt_of_cell d2
  have hz6 := hg.size
  have hB := hB.grown hg (by omega) (fun g h => by have := hr g h; omega)
  have hs := hB.size
  have o1 := ho
  clear ho hg hr
  go_wp2_with fail
  refine (heldEls_any _ m _ 1 _ o1.els (by omega) (by omega) (by omega)).mono ?_
  rintro e _ ⟨rfl, rfl⟩
  go_wp2_with fail
  refine (toAmt_any _ _ _ _).mono ?_
  rintro e w7 ⟨rfl, hb⟩
  have o0 := (o0).below hb
  have o1 := (o1).below hb
  have d0 := Below.keeps hb d0
  have d1 := Below.keeps hb d1
  have d2 := Below.keeps hb d2
  have hz7 := hb.size
  have hB := Below.trans hB (hb.mono (by (try simp) <;> omega))
  have hs := hB.size
  clear hb
  have ld0 : w.heap.size < w7.heap.size := lt_of_cell d0
  have ld1 : w.heap.size < w7.heap.size := lt_of_cell d1
  have ld2 : w.heap.size < w7.heap.size := lt_of_cell d2
  go_wp2_with fail
  refine (D.out _).mono ?_
  rintro e w8 ⟨A2, c2, rfl, o2, hb⟩
  have o0 := (o0).below hb
  have o1 := (o1).below hb
  have d0 := Below.keeps hb d0
  have d1 := Below.keeps hb d1
  have d2 := Below.keeps hb d2
  have hz8 := hb.size
  have hB := Below.trans hB (hb.mono (by (try simp) <;> omega))
  have hs := hB.size
  clear hb
  have ld0 : w.heap.size < w8.heap.size := lt_of_cell d0
  have ld1 : w.heap.size < w8.heap.size := lt_of_cell d1
  have ld2 : w.heap.size < w8.heap.size := lt_of_cell d2
  have o2 := OwnI.of_own o2
  go_wp2_with fail
  refine (eqEls_self _ _ _ _ _ R _ o2.els o0.els HM.out (by omega)).mono ?_
  rintro e w9 ⟨rfl, hb⟩
  have o0 := (o0).below hb
  have o1 := (o1).below hb
  have o2 := (o2).below hb
  have d0 := Below.keeps hb d0
  have d1 := Below.keeps hb d1
  have d2 := Below.keeps hb d2
  have hz9 := hb.size
  have hB := Below.trans hB (hb.mono (by (try simp) <;> omega))
  have hs := hB.size
  clear hb
  have ld0 : w.heap.size < w9.heap.size := lt_of_cell d0
  have ld1 : w.heap.size < w9.heap.size := lt_of_cell d1
  have ld2 : w.heap.size < w9.heap.size := lt_of_cell d2
  go_wp2_with fail
  refine (heldEls_any _ m _ 1 _ o1.els (by omega) (by omega) (by omega)).mono ?_
  rintro e _ ⟨rfl, rfl⟩
  go_wp2_with fail
  go_ret
  exact ⟨rfl, hB⟩
theorem treeNew_len (a : B3) : (treeNew a).1.length ≤ 5 := by
  unfold treeNew
  split <;> simp [newT]
theorem TreeNew_walk (a0 a1 a2 : Int) (w : World) (_ : (Lit.int .i64 a0).wf = true) (_ : (Lit.int .i64 a1).wf = true) (_ : (Lit.int .i64 a2).wf = true) :
    Calls Try.prog 3 #[amt a0 a1 a2] w fun e w' => e = .returned (.bool true) ∧ Below w.heap.size w w' :=
  TreeNew_main0 (a0, a1, a2) w _ _ _ rfl (by have := treeNew_len (a0, a1, a2); omega) (Lib.hid fun w => specTreeNew_any (a0, a1, a2) w) (Lib.hid fun w => implTreeNew_any (a0, a1, a2) w)
set_option linter.unusedVariables false in
set_option maxRecDepth 100000 in
theorem FnExactTreeNew_lifted (os : Os) (started : os.Started) (H : Type) (enc : TypeId × Value → H) :
    ReturnsInHanded {} Try.checked os 3 .any (Rows.fnExactTreeNewSpec.pre6 enc Try.prog Try.f3 Rows.fnExactTreeNewRow.domain false) (Rows.fnExactTreeNewSpec.post enc Try.prog Try.f3 false true false false) := by
  refine returnsInHanded_of_change (C := Try.checked) own started (by kernel_rfl) Try.func3
    (ChangeSpec.witness6 (enc := enc) (C := Try.checked) false ⟨#[], #[.agg #[.int .i64 0, .int .i64 0, .int .i64 0]], []⟩ 8 (by kernel_rfl) (by kernel_rfl) (by kernel_rfl) (by kernel_rfl)) ?_
  intro W base args ds gs before hval0 hW hcnd _
  have hval : ∀ (j : Nat) t v, Try.f3.params[j]? = some t → args[j]? = some v → Value.okWide Try.prog W .any base t v := hval0
  have hW' := hW
  obtain ⟨p, q, hA0, hV, rfl, hfz, hnd⟩ := hW
  have hA : DataW.TrodAll enc Try.prog W 0 (fun _ => true) true Try.f3.params.toList args.toList ds p := hA0
  rw [Try.params3] at hA hval
  obtain ⟨v0, vs0, d0, ds0, p0, q0, hargs, rfl, rfl, h0, r0⟩ := trodAll_cons hA
  obtain ⟨rfl, rfl, rfl⟩ := trodAll_nil r0
  obtain rfl : args = #[v0] := by cases args; simp_all
  obtain ⟨rfl, rfl⟩ := trodVars_none hV
  have k0 := h0
  have lt0 : ∀ x ∈ p0, x.block < W.heap.size := by obtain ⟨m, hm⟩ := k0; exact DataW.trod_lt m _ _ _ hm
  obtain ⟨c0_0, c0_1, c0_2, y0_0, y0_1, y0_2, m0, rfl, _, _, g0_0, g0_1, g0_2⟩ := open_agg3 Try.underlying23 (by kernel_rfl) (by kernel_rfl) (hval 0 23 v0 rfl rfl) h0
  obtain ⟨a0_0, e0_0, _, wf0_0⟩ := DataW.trod_int Try.underlying3 g0_0
  simp only [List.cons.injEq, and_true] at e0_0; subst e0_0
  obtain ⟨a0_1, e0_1, _, wf0_1⟩ := DataW.trod_int Try.underlying3 g0_1
  simp only [List.cons.injEq, and_true] at e0_1; subst e0_1
  obtain ⟨a0_2, e0_2, _, wf0_2⟩ := DataW.trod_int Try.underlying3 g0_2
  simp only [List.cons.injEq, and_true] at e0_2; subst e0_2
  clear hA0 hval0
  refine (TreeNew_walk a0_0 a0_1 a0_2 W wf0_0 wf0_1 wf0_2).mono fun e W' ⟨he, bel⟩ => ?_
  subst he
  exact ⟨_, rfl, _, _, _, [], _, [], hW', trodAll_mk1 (shut_bool Try.underlying4 _), (trodAll_cons_mk (Below.trod laidOut (by kernel_rfl) (of_decide_eq_true (by kernel_rfl)) k0 bel lt0) trodAll_mk0), rfl, bel.frame _, fun h => by cases h⟩
/-- THE STATEMENT -/
theorem FnExactTreeNew_holds : Rows.FnExactTreeNewSaid :=
  OpenClaim.holds_of_wide 3 Try.f3 rfl rfl rfl rfl rfl rfl rfl ⟨rfl, rfl, rfl, rfl, rfl⟩ rfl rfl rfl rfl rfl (by kernel_rfl) Try.func3 (by kernel_rfl)
    (of_decide_eq_true (by kernel_rfl)) (by unfold Func.isWrapper; first | (rw [if_pos (by decide +kernel)]; kernel_rfl) | (rw [if_neg (by decide +kernel)]; exact ⟨rfl, rfl⟩))
    (fun os started H enc _ => FnExactTreeNew_lifted os started H enc)

end Go.Proofs.Ytdgkfpcecppfdaa
