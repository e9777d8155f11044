/- FnExactTapOk: the program's TapOk returns what the reference's returns. No condition. -/
import Derived.Test.YthjchlefafbfoaaTap
import Derived.Test.YthjchlefafbfoaaOpen
import Derived.Deep.RegionHeld3
import Derived.Deep.DeepCutAuto
import Derived.Deep.DrawnRows
namespace Go.Proofs.Ythjchlefafbfoaa
set_option linter.unusedSimpArgs false
set_option linter.unusedVariables false
open Go.Joins Go.ChangeShapes Go.WideShapes Go.ChangeAt Go.RowKit Go.Deep
open Go.ChangeMaps (open_string shut_string)
attribute [local go_sem ↓] Go.wp_at_zero Go.wp_at_succ

set_option maxHeartbeats 1600000 in
theorem tapOk_walk (a b c d k r : Int) (w : World) (_ : (Lit.int .i64 a).wf = true) (_ : (Lit.int .i64 b).wf = true) (_ : (Lit.int .i64 c).wf = true) (_ : (Lit.int .i64 d).wf = true) (_ : (Lit.int .i64 k).wf = true) (_ : (Lit.int .i64 r).wf = true) :
    Calls Try.prog 10 #[tap a b c d k r] w fun e w' => e = .returned (.bool true) ∧ Below w.heap.size w w' := by
  go_enter Try.func10, Try.ntmps10
  go_wp2_with (first | (go_at_call 28; refine (toTap_any _ _ _ _ _ _ _).mono ?_; rintro e w' ⟨rfl, hb⟩; obtain ⟨hca, hfa⟩ := bcell hb; (try simp only [World.size_alloc, World.size_setCell, World.size_drew, Nat.add_assoc, Nat.reduceAdd] at hca hfa); obtain ⟨hc, hf⟩ := bcellk (k := w.heap.size + 1) hb (by (try simp only [World.size_alloc, World.size_setCell, World.size_drew]); omega); have hs : w.heap.size + 1 ≤ w'.heap.size := (by have := hb.size; (try simp only [World.size_alloc, World.size_setCell, World.size_drew] at this); omega); have hz := ltl hs; have hz0 : w.heap.size < w'.heap.size := (by omega); have hB : Below w.heap.size w w' := (by refine Below.trans ?_ (hb.mono (by (try simp) <;> omega)); clear hb; (repeat (first | exact Below.refl _ _ | assumption | refine Below.drew ?_ | refine Below.alloc ?_ ?_ _ | refine Below.setCell ?_ ?_ _)) <;> ((try simp) <;> omega)); clear hb) | (go_at_call 27; refine (specTapOk_any _ _ _ _ _ _ _).mono ?_; rintro e w' ⟨rfl, hb⟩; obtain ⟨hca, hfa⟩ := bcell hb; (try simp only [World.size_alloc, World.size_setCell, World.size_drew, Nat.add_assoc, Nat.reduceAdd] at hca hfa); obtain ⟨hc, hf⟩ := bcellk (k := w.heap.size + 1) hb (by (try simp only [World.size_alloc, World.size_setCell, World.size_drew]); omega); have hs : w.heap.size + 1 ≤ w'.heap.size := (by have := hb.size; (try simp only [World.size_alloc, World.size_setCell, World.size_drew] at this); omega); have hz := ltl hs; have hz0 : w.heap.size < w'.heap.size := (by omega); have hB : Below w.heap.size w w' := (by refine Below.trans ?_ (hb.mono (by (try simp) <;> omega)); clear hb; (repeat (first | exact Below.refl _ _ | assumption | refine Below.drew ?_ | refine Below.alloc ?_ ?_ _ | refine Below.setCell ?_ ?_ _)) <;> ((try simp) <;> omega)); clear hb) | (go_at_call 29; refine (implTapOk_any _ _ _ _ _ _ _).mono ?_; rintro e w' ⟨rfl, hb⟩; obtain ⟨hca, hfa⟩ := bcell hb; (try simp only [World.size_alloc, World.size_setCell, World.size_drew, Nat.add_assoc, Nat.reduceAdd] at hca hfa); obtain ⟨hc, hf⟩ := bcellk (k := w.heap.size + 1) hb (by (try simp only [World.size_alloc, World.size_setCell, World.size_drew]); omega); have hs : w.heap.size + 1 ≤ w'.heap.size := (by have := hb.size; (try simp only [World.size_alloc, World.size_setCell, World.size_drew] at this); omega); have hz := ltl hs; have hz0 : w.heap.size < w'.heap.size := (by omega); have hB : Below w.heap.size w w' := (by refine Below.trans ?_ (hb.mono (by (try simp) <;> omega)); clear hb; (repeat (first | exact Below.refl _ _ | assumption | refine Below.drew ?_ | refine Below.alloc ?_ ?_ _ | refine Below.setCell ?_ ?_ _)) <;> ((try simp) <;> omega)); clear hb))
  go_ret
  exact ⟨rfl, (by (repeat (first | exact Below.refl _ _ | assumption | refine Below.drew ?_ | refine Below.alloc ?_ ?_ _ | refine Below.setCell ?_ ?_ _)) <;> ((try simp) <;> omega))⟩
set_option linter.unusedVariables false in
set_option maxRecDepth 100000 in
theorem FnExactTapOk_lifted (os : Os) (started : os.Started) (H : Type) (enc : TypeId × Value → H) :
    ReturnsInHanded {} Try.checked os 10 .any (Rows.fnExactTapOkSpec.pre6 enc Try.prog Try.f10 Rows.fnExactTapOkRow.domain false) (Rows.fnExactTapOkSpec.post enc Try.prog Try.f10 false true false false) := by
  refine returnsInHanded_of_change (C := Try.checked) own started (by kernel_rfl) Try.func10
    (ChangeSpec.witness6 (enc := enc) (C := Try.checked) false ⟨#[], #[.agg #[.int .i64 0, .int .i64 0, .int .i64 0, .int .i64 0, .int .i64 0, .int .i64 0]], []⟩ 8 (by kernel_rfl) (by kernel_rfl) (by kernel_rfl) (by kernel_rfl)) ?_
  intro W base args ds gs before hval0 hW hcnd _
  have hval : ∀ (j : Nat) t v, Try.f10.params[j]? = some t → args[j]? = some v → Value.okWide Try.prog W .any base t v := hval0
  have hW' := hW
  obtain ⟨p, q, hA0, hV, rfl, hfz, hnd⟩ := hW
  have hA : DataW.TrodAll enc Try.prog W 0 (fun _ => true) true Try.f10.params.toList args.toList ds p := hA0
  rw [Try.params10] at hA hval
  obtain ⟨v0, vs0, d0, ds0, p0, q0, hargs, rfl, rfl, h0, r0⟩ := trodAll_cons hA
  obtain ⟨rfl, rfl, rfl⟩ := trodAll_nil r0
  obtain rfl : args = #[v0] := by cases args; simp_all
  obtain ⟨rfl, rfl⟩ := trodVars_none hV
  have k0 := h0
  have lt0 : ∀ x ∈ p0, x.block < W.heap.size := by obtain ⟨m, hm⟩ := k0; exact DataW.trod_lt m _ _ _ hm
  obtain ⟨c0_0, c0_1, c0_2, c0_3, c0_4, c0_5, y0_0, y0_1, y0_2, y0_3, y0_4, y0_5, m0, rfl, _, _, g0_0, g0_1, g0_2, g0_3, g0_4, g0_5⟩ := open_agg6 Try.underlying38 (by kernel_rfl) (by kernel_rfl) (hval 0 38 v0 rfl rfl) h0
  obtain ⟨a0_0, e0_0, _, wf0_0⟩ := DataW.trod_int Try.underlying3 g0_0
  simp only [List.cons.injEq, and_true] at e0_0; subst e0_0
  obtain ⟨a0_1, e0_1, _, wf0_1⟩ := DataW.trod_int Try.underlying3 g0_1
  simp only [List.cons.injEq, and_true] at e0_1; subst e0_1
  obtain ⟨a0_2, e0_2, _, wf0_2⟩ := DataW.trod_int Try.underlying3 g0_2
  simp only [List.cons.injEq, and_true] at e0_2; subst e0_2
  obtain ⟨a0_3, e0_3, _, wf0_3⟩ := DataW.trod_int Try.underlying3 g0_3
  simp only [List.cons.injEq, and_true] at e0_3; subst e0_3
  obtain ⟨a0_4, e0_4, _, wf0_4⟩ := DataW.trod_int Try.underlying3 g0_4
  simp only [List.cons.injEq, and_true] at e0_4; subst e0_4
  obtain ⟨a0_5, e0_5, _, wf0_5⟩ := DataW.trod_int Try.underlying3 g0_5
  simp only [List.cons.injEq, and_true] at e0_5; subst e0_5
  clear hA0 hval0
  refine (tapOk_walk a0_0 a0_1 a0_2 a0_3 a0_4 a0_5 W wf0_0 wf0_1 wf0_2 wf0_3 wf0_4 wf0_5).mono fun e W' ⟨he, bel⟩ => ?_
  subst he
  exact ⟨_, rfl, _, _, _, [], _, [], hW', trodAll_mk1 (shut_bool Try.underlying4 _), (trodAll_cons_mk (Below.trod laidOut (by kernel_rfl) (of_decide_eq_true (by kernel_rfl)) k0 bel lt0) trodAll_mk0), rfl, bel.frame _, fun h => by cases h⟩
/-- THE STATEMENT -/
theorem FnExactTapOk_holds : Rows.FnExactTapOkSaid :=
  OpenClaim.holds_of_wide 10 Try.f10 rfl rfl rfl rfl rfl rfl rfl ⟨rfl, rfl, rfl, rfl, rfl⟩ rfl rfl rfl rfl rfl (by kernel_rfl) Try.func10 (by kernel_rfl)
    (of_decide_eq_true (by kernel_rfl)) (by unfold Func.isWrapper; first | (rw [if_pos (by decide +kernel)]; kernel_rfl) | (rw [if_neg (by decide +kernel)]; exact ⟨rfl, rfl⟩))
    (fun os started H enc _ => FnExactTapOk_lifted os started H enc)

end Go.Proofs.Ythjchlefafbfoaa
