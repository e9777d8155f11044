/- FnExactAmtOne: the program's AmtOne returns what the reference's returns. No condition. -/
import Derived.Test.YthjchlefafbfoaaAmt
import Derived.Test.YthjchlefafbfoaaOpen
import Derived.Deep.RegionHeld3
import Derived.Deep.DeepCutAuto
import Derived.Deep.DrawnRows
namespace Go.Proofs.Ythjchlefafbfoaa
set_option linter.unusedSimpArgs false
set_option linter.unusedVariables false
open Go.Joins Go.ChangeShapes Go.WideShapes Go.ChangeAt Go.RowKit Go.Deep
open Go.ChangeMaps (open_string shut_string)
attribute [local go_sem ↓] Go.wp_at_zero Go.wp_at_succ

set_option maxHeartbeats 3200000 in
theorem amtOne_walk (k n : Int) (w : World) (_ : (Lit.int .i64 k).wf = true) (_ : (Lit.int .i64 n).wf = true) :
    Calls Try.prog 7 #[.int .i64 k, .int .i64 n] w fun e w' => e = .returned (.bool true) ∧ Below w.heap.size w w' := by
  go_enter Try.func7, Try.ntmps7
  go_upto_region 1 with (fail)
  go_cut [5] (fun s5 x => ∃ g : Nat, s5 = .pointer (some ⟨g, 0, none⟩) ∧ w.heap.size ≤ g ∧ x.cell? ⟨g, 0, none⟩ = some (.int .i64 (oneC k n 0)) ∧ x.cell? ⟨g, 1, none⟩ = some (.int .i64 (oneC k n 1)) ∧ x.cell? ⟨g, 2, none⟩ = some (.int .i64 (oneC k n 2)) ∧ Below w.heap.size w x)
  case first =>
    go_wp2_with ((go_at_call 20; refine (specAmtOne_any _ _ _).mono ?_; rintro e w' ⟨rfl, hb⟩; (first | with_reducible have hblk := newblk hb | have hblk := keepblk hb hblk | skip); (try (have hbx := blkcell hblk; obtain ⟨hbc, hbf⟩ := hbx)); have hs := hb.size; (try simp only [World.size_alloc, World.size_setCell, World.size_drew, Nat.add_assoc, Nat.reduceAdd] at hs); have hB : Below w.heap.size w w' := (by refine Below.trans ?_ (hb.mono (by (try simp) <;> omega)); clear hb; (repeat (first | exact Below.refl _ _ | assumption | refine Below.drew ?_ | refine Below.alloc ?_ ?_ _ | refine Below.setCell ?_ ?_ _)) <;> ((try simp) <;> omega))))
    go_meet
    refine ⟨_, rfl, ?_⟩
    ((repeat' apply And.intro) <;> (first | assumption | (omega; done) | (simp; done) | ((repeat (first | with_reducible assumption | with_reducible refine cell_drew_ ?_ | with_reducible refine cell_alloc_ ?_ | with_reducible refine Below.keeps hb ?_ | (with_reducible refine cell_set_ ?_ ?_; (rotate_left; (try simp only [World.size_alloc, World.size_setCell, World.size_drew]); omega)))); done) | (simp [*]; done) | exact (by (repeat (first | exact Below.refl _ _ | assumption | refine Below.drew ?_ | refine Below.alloc ?_ ?_ _ | refine Below.setCell ?_ ?_ _)) <;> ((try simp) <;> omega))))
  case rest =>
    obtain ⟨g, rfl, hg, c0, c1, c2, hB0⟩ := hcut
    have hs0 := hB0.size
    go_upto_region 2 with (fail)
    go_cut [6] (fun s6 x => ∃ g2 : Nat, s6 = .pointer (some ⟨g2, 0, none⟩) ∧ x.cell? ⟨g, 0, none⟩ = some (.int .i64 (oneC k n 0)) ∧ x.cell? ⟨g, 1, none⟩ = some (.int .i64 (oneC k n 1)) ∧ x.cell? ⟨g, 2, none⟩ = some (.int .i64 (oneC k n 2)) ∧ x.cell? ⟨g2, 0, none⟩ = some (.int .i64 (oneC k n 0)) ∧ x.cell? ⟨g2, 1, none⟩ = some (.int .i64 (oneC k n 1)) ∧ x.cell? ⟨g2, 2, none⟩ = some (.int .i64 (oneC k n 2)) ∧ Below w.heap.size w x)
    case first =>
      go_wp2_with ((go_at_call 21; refine (implAmtOne_any _ _ _).mono ?_; rintro e w' ⟨rfl, hb⟩; (first | with_reducible have hblk := newblk hb | have hblk := keepblk hb hblk | skip); (try (have hbx := blkcell hblk; obtain ⟨hbc, hbf⟩ := hbx)); have hs := hb.size; (try simp only [World.size_alloc, World.size_setCell, World.size_drew, Nat.add_assoc, Nat.reduceAdd] at hs); have hB : Below w.heap.size w w' := (by refine Below.trans ?_ (hb.mono (by (try simp) <;> omega)); clear hb; (repeat (first | exact Below.refl _ _ | assumption | refine Below.drew ?_ | refine Below.alloc ?_ ?_ _ | refine Below.setCell ?_ ?_ _)) <;> ((try simp) <;> omega))))
      go_meet
      refine ⟨_, rfl, ?_⟩
      ((repeat' apply And.intro) <;> (first | assumption | (omega; done) | (simp; done) | ((repeat (first | with_reducible assumption | with_reducible refine cell_drew_ ?_ | with_reducible refine cell_alloc_ ?_ | with_reducible refine Below.keeps hb ?_ | (with_reducible refine cell_set_ ?_ ?_; (rotate_left; (try simp only [World.size_alloc, World.size_setCell, World.size_drew]); omega)))); done) | (simp [*]; done) | exact (by (repeat (first | exact Below.refl _ _ | assumption | refine Below.drew ?_ | refine Below.alloc ?_ ?_ _ | refine Below.setCell ?_ ?_ _)) <;> ((try simp) <;> omega))))
    case rest =>
      obtain ⟨g2, rfl, d0, d1, d2, e0, e1, e2, hB1⟩ := hcut
      have hs1 := hB1.size
      go_wp2_with ((go_at_call 22; refine (eqAmt_any _ _ _ _ _ _ _).mono ?_; rintro e w' ⟨rfl, hb⟩; (first | with_reducible have hblk := newblk hb | have hblk := keepblk hb hblk | skip); (try (have hbx := blkcell hblk; obtain ⟨hbc, hbf⟩ := hbx)); have hs := hb.size; (try simp only [World.size_alloc, World.size_setCell, World.size_drew, Nat.add_assoc, Nat.reduceAdd] at hs); have hB : Below w.heap.size w w' := (by refine Below.trans ?_ (hb.mono (by (try simp) <;> omega)); clear hb; (repeat (first | exact Below.refl _ _ | assumption | refine Below.drew ?_ | refine Below.alloc ?_ ?_ _ | refine Below.setCell ?_ ?_ _)) <;> ((try simp) <;> omega))))
      go_ret
      exact ⟨rfl, (by (repeat (first | exact Below.refl _ _ | assumption | refine Below.drew ?_ | refine Below.alloc ?_ ?_ _ | refine Below.setCell ?_ ?_ _)) <;> ((try simp) <;> omega))⟩
set_option linter.unusedVariables false in
set_option maxRecDepth 100000 in
theorem FnExactAmtOne_lifted (os : Os) (started : os.Started) (H : Type) (enc : TypeId × Value → H) :
    ReturnsInHanded {} Try.checked os 7 .any (Rows.fnExactAmtOneSpec.pre6 enc Try.prog Try.f7 Rows.fnExactAmtOneRow.domain false) (Rows.fnExactAmtOneSpec.post enc Try.prog Try.f7 false true false false) := by
  refine returnsInHanded_of_change (C := Try.checked) own started (by kernel_rfl) Try.func7
    (ChangeSpec.witness6 (enc := enc) (C := Try.checked) false ⟨#[], #[.int .i64 0, .int .i64 0], []⟩ 8 (by kernel_rfl) (by kernel_rfl) (by kernel_rfl) (by kernel_rfl)) ?_
  intro W base args ds gs before hval0 hW hcnd _
  have hval : ∀ (j : Nat) t v, Try.f7.params[j]? = some t → args[j]? = some v → Value.okWide Try.prog W .any base t v := hval0
  have hW' := hW
  obtain ⟨p, q, hA0, hV, rfl, hfz, hnd⟩ := hW
  have hA : DataW.TrodAll enc Try.prog W 0 (fun _ => true) true Try.f7.params.toList args.toList ds p := hA0
  rw [Try.params7] at hA hval
  obtain ⟨v0, vs0, d0, ds0, p0, q0, hargs, rfl, rfl, h0, r0⟩ := trodAll_cons hA
  obtain ⟨v1, vs1, d1, ds1, p1, q1, rfl, rfl, rfl, h1, r1⟩ := trodAll_cons r0
  obtain ⟨rfl, rfl, rfl⟩ := trodAll_nil r1
  obtain rfl : args = #[v0, v1] := by cases args; simp_all
  obtain ⟨rfl, rfl⟩ := trodVars_none hV
  have k0 := h0
  have lt0 : ∀ x ∈ p0, x.block < W.heap.size := by obtain ⟨m, hm⟩ := k0; exact DataW.trod_lt m _ _ _ hm
  obtain ⟨a0, rfl, rfl, rfl, wf0⟩ := open_int Try.underlying3 (hval 0 3 v0 rfl rfl) h0
  have k1 := h1
  have lt1 : ∀ x ∈ p1, x.block < W.heap.size := by obtain ⟨m, hm⟩ := k1; exact DataW.trod_lt m _ _ _ hm
  obtain ⟨a1, rfl, rfl, rfl, wf1⟩ := open_int Try.underlying3 (hval 1 3 v1 rfl rfl) h1
  clear hA0 hval0
  refine (amtOne_walk a0 a1 W wf0 wf1).mono fun e W' ⟨he, bel⟩ => ?_
  subst he
  exact ⟨_, rfl, _, _, _, [], _, [], hW', trodAll_mk1 (shut_bool Try.underlying4 _), (trodAll_cons_mk (Below.trod laidOut (by kernel_rfl) (of_decide_eq_true (by kernel_rfl)) k0 bel lt0) (trodAll_cons_mk (Below.trod laidOut (by kernel_rfl) (of_decide_eq_true (by kernel_rfl)) k1 bel lt1) trodAll_mk0)), rfl, bel.frame _, fun h => by cases h⟩
/-- THE STATEMENT -/
theorem FnExactAmtOne_holds : Rows.FnExactAmtOneSaid :=
  OpenClaim.holds_of_wide 7 Try.f7 rfl rfl rfl rfl rfl rfl rfl ⟨rfl, rfl, rfl, rfl, rfl⟩ rfl rfl rfl rfl rfl (by kernel_rfl) Try.func7 (by kernel_rfl)
    (of_decide_eq_true (by kernel_rfl)) (by unfold Func.isWrapper; first | (rw [if_pos (by decide +kernel)]; kernel_rfl) | (rw [if_neg (by decide +kernel)]; exact ⟨rfl, rfl⟩))
    (fun os started H enc _ => FnExactAmtOne_lifted os started H enc)

end Go.Proofs.Ythjchlefafbfoaa
