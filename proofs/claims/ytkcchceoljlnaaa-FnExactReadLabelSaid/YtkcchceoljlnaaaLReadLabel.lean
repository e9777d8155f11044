/- FnExactReadLabel: the program's ReadLabel returns what the reference's returns. No condition. -/
import Derived.Test.YtkcchceoljlnaaaLabOwn
import Derived.Test.YtkcchceoljlnaaaOpenI
import Derived.Test.YtkcchceoljlnaaaReadLab
namespace Go.Proofs.Ytkcchceoljlnaaa
set_option linter.unusedSimpArgs false
set_option linter.unusedVariables false
open Go.Joins Go.ChangeShapes Go.WideShapes Go.ChangeAt Go.RowKit Go.Deep
open Go.ChangeMaps (open_string shut_string)

set_option maxHeartbeats 1600000 in
theorem readlab_big (s : ByteArray) (w : World) (h : 1048576 < s.size) (hx : s.size ≤ 9223372036854775807) :
    Calls Try.prog 7 #[.string s] w fun e w' => e = .returned (.bool true) ∧ Below w.heap.size w w' := by
  have hd : (1048576 : Int) < (s.size : Int) := by omega
  go_enter Try.func7, Try.ntmps7
  go_wp2
  go_ret
  exact ⟨rfl, Below.refl _ _⟩
set_option maxRecDepth 100000 in
set_option maxHeartbeats 6400000 in
theorem readlab_main (s : ByteArray) (R : List Int) (b : Bool) (w : World) (hsz : s.size ≤ 1048576) (hm : R.length ≤ 1099511627776) (C : Hid (∀ w, Calls Try.prog 29 #[.string s] w (LabB R b w))) (D : Hid (∀ w, Calls Try.prog 30 #[.string s] w (LabB R b w))) :
    Calls Try.prog 7 #[.string s] w fun e w' => e = .returned (.bool true) ∧ Below w.heap.size w w' := by
  have HM := Lib.hid hm
  have hd : (s.size : Int) ≤ (1048576 : Int) := by omega
  go_enter Try.func7, Try.ntmps7
  have hB := Below.refl w.heap.size w
  have hs := hB.size
  go_wp2_with fail
  refine (C.out _).mono ?_
  rintro e w1 ⟨A0, c0, rfl, o0, hb⟩
  have hz1 := hb.size
  have hB := Below.trans hB (hb.mono (by (try simp) <;> omega))
  have hs := hB.size
  clear hb
  have o0 := OwnL.of_own o0
  try simp only [World.size_alloc] at o0
  go_wp2_with fail
  refine (D.out _).mono ?_
  rintro e w2 ⟨A1, c1, rfl, o1, hb⟩
  have o0 := (o0.alloc _).below hb
  have b0 : w2.cell? ⟨w1.heap.size, 0, none⟩ = some (.slice A0 R.length c0) := Below.keeps hb (by simp)
  have hz2 := hb.size
  simp only [World.size_alloc] at hz2
  have hB := Below.trans (hB.alloc (by (try simp) <;> omega) _) (hb.mono (by (try simp) <;> omega))
  have hs := hB.size
  clear hb
  have lb0 : w1.heap.size < w2.heap.size := lt_of_cell b0
  have o1 := OwnL.of_own o1
  try simp only [World.size_alloc] at o1
  go_wp2_with fail
  refine (eqLabel_self _ _ _ _ _ R _ (by exact (o1.alloc _).ints) (by exact (o0.alloc _).ints) rfl (by exact HM.out)).mono ?_
  rintro e w3 ⟨rfl, hb⟩
  have o0 := (o0.alloc _).below hb
  have o1 := (o1.alloc _).below hb
  have b0 := Below.keeps hb (cell_alloc_ b0)
  have b1 : w3.cell? ⟨w2.heap.size, 0, none⟩ = some (.slice A1 R.length c1) := Below.keeps hb (by simp)
  have hz3 := hb.size
  simp only [World.size_alloc] at hz3
  have hB := Below.trans (hB.alloc (by (try simp) <;> omega) _) (hb.mono (by (try simp) <;> omega))
  have hs := hB.size
  clear hb
  have lb0 : w1.heap.size < w3.heap.size := lt_of_cell b0
  have lb1 : w2.heap.size < w3.heap.size := lt_of_cell b1
  go_wp2_with fail
  refine (markLabel_own _ _ _ R.length _ R 1 _ o1 rfl HM.out (by omega) (by omega)).mono ?_
  rintro e w4 ⟨rfl, ho, row, hg, hr⟩
  have o0 := o0.far hg hr (by omega)
  have b0 := cell_grown hg b0 (fun g h => by have := hr g h; (try dsimp only); omega)
  have b1 := cell_grown hg b1 (fun g h => by have := hr g h; (try dsimp only); omega)
  have lb0 : w1.heap.size < w4.heap.size := lt_of_cell b0
  have lb1 : w2.heap.size < w4.heap.size := lt_of_cell b1
  have hz4 := hg.size
  have hB := hB.grown hg (by omega) (fun g h => by have := hr g h; omega)
  have hs := hB.size
  have o1 := ho
  clear ho hg hr
  go_wp2_with fail
  refine (heldLabel_any _ R.length _ 1 _ o1.ints HM.out (by omega) (by omega)).mono ?_
  rintro e w5 ⟨rfl, hb⟩
  have o0 := (o0).below hb
  have o1 := (o1).below hb
  have b0 := Below.keeps hb b0
  have b1 := Below.keeps hb b1
  have hz5 := hb.size
  have hB := Below.trans hB (hb.mono (by (try simp) <;> omega))
  have hs := hB.size
  clear hb
  have lb0 : w1.heap.size < w5.heap.size := lt_of_cell b0
  have lb1 : w2.heap.size < w5.heap.size := lt_of_cell b1
  go_wp2_with fail
  refine (D.out _).mono ?_
  rintro e w6 ⟨A2, c2, rfl, o2, hb⟩
  have o0 := (o0).below hb
  have o1 := (o1).below hb
  have b0 := Below.keeps hb b0
  have b1 := Below.keeps hb b1
  have hz6 := hb.size
  have hB := Below.trans hB (hb.mono (by (try simp) <;> omega))
  have hs := hB.size
  clear hb
  have lb0 : w1.heap.size < w6.heap.size := lt_of_cell b0
  have lb1 : w2.heap.size < w6.heap.size := lt_of_cell b1
  have o2 := OwnL.of_own o2
  try simp only [World.size_alloc] at o2
  go_wp2_with fail
  refine (eqLabel_self _ _ _ _ _ R _ (by exact (o2.alloc _).ints) (by exact (o0.alloc _).ints) rfl (by exact HM.out)).mono ?_
  rintro e w7 ⟨rfl, hb⟩
  have o0 := (o0.alloc _).below hb
  have o1 := (o1.alloc _).below hb
  have o2 := (o2.alloc _).below hb
  have b0 := Below.keeps hb (cell_alloc_ b0)
  have b1 := Below.keeps hb (cell_alloc_ b1)
  have b2 : w7.cell? ⟨w6.heap.size, 0, none⟩ = some (.slice A2 R.length c2) := Below.keeps hb (by simp)
  have hz7 := hb.size
  simp only [World.size_alloc] at hz7
  have hB := Below.trans (hB.alloc (by (try simp) <;> omega) _) (hb.mono (by (try simp) <;> omega))
  have hs := hB.size
  clear hb
  have lb0 : w1.heap.size < w7.heap.size := lt_of_cell b0
  have lb1 : w2.heap.size < w7.heap.size := lt_of_cell b1
  have lb2 : w6.heap.size < w7.heap.size := lt_of_cell b2
  go_wp2_with fail
  refine (heldLabel_any _ R.length _ 1 _ o1.ints HM.out (by omega) (by omega)).mono ?_
  rintro e w8 ⟨rfl, hb⟩
  have o0 := (o0).below hb
  have o1 := (o1).below hb
  have o2 := (o2).below hb
  have b0 := Below.keeps hb b0
  have b1 := Below.keeps hb b1
  have b2 := Below.keeps hb b2
  have hz8 := hb.size
  have hB := Below.trans hB (hb.mono (by (try simp) <;> omega))
  have hs := hB.size
  clear hb
  have lb0 : w1.heap.size < w8.heap.size := lt_of_cell b0
  have lb1 : w2.heap.size < w8.heap.size := lt_of_cell b1
  have lb2 : w6.heap.size < w8.heap.size := lt_of_cell b2
  go_wp2_with fail
  go_ret
  exact ⟨rfl, hB⟩
theorem labB_digs (s : ByteArray) (m : Nat) (hm : (s.size < 5 ∧ m = s.size) ∨ (5 ≤ s.size ∧ m = 5)) : labB (digs s m) = labB (digs s s.size) ∧ readL (digs s m) = readL (digs s s.size) := by
  rcases hm with ⟨_, rfl⟩ | ⟨h5, rfl⟩
  · exact ⟨rfl, rfl⟩
  · have h1 : labB (digs s 5) = false := labB_len (by rw [digs_len s h5]; decide)
    have h2 : labB (digs s s.size) = false := labB_len (by rw [digs_len s (Nat.le_refl _)]; omega)
    rw [readL_no h1, readL_no h2, h1, h2]
    exact ⟨rfl, rfl⟩
theorem readlab_walk (s : ByteArray) (w : World) (hs : s.size ≤ maxLen) :
    Calls Try.prog 7 #[.string s] w fun e w' => e = .returned (.bool true) ∧ Below w.heap.size w w' := by
  unfold maxLen at hs
  by_cases hb : 1048576 < s.size
  · exact readlab_big s w hb hs
  · obtain ⟨m, hm⟩ : ∃ m, (s.size < 5 ∧ m = s.size) ∨ (5 ≤ s.size ∧ m = 5) := by
      by_cases h : s.size < 5
      · exact ⟨s.size, .inl ⟨h, rfl⟩⟩
      · exact ⟨5, .inr ⟨by omega, rfl⟩⟩
    have h2 := labB_digs s m hm
    refine readlab_main s (readL (digs s s.size)) (labB (digs s s.size)) w (by omega) ?_ (Lib.hid fun w => ?_) (Lib.hid fun w => implReadLabel_any s w (by omega))
    · unfold readL
      split
      · rw [digs_len s (Nat.le_refl _)]; omega
      · simp
    · have := specReadLabel_any s w (by omega) m hm
      rw [h2.1, h2.2] at this
      exact this
set_option linter.unusedVariables false in
set_option maxRecDepth 100000 in
theorem FnExactReadLabel_lifted (os : Os) (started : os.Started) (H : Type) (enc : TypeId × Value → H) :
    ReturnsInHanded {} Try.checked os 7 .any (Rows.fnExactReadLabelSpec.pre6 enc Try.prog Try.f7 Rows.fnExactReadLabelRow.domain false) (Rows.fnExactReadLabelSpec.post enc Try.prog Try.f7 false true false false) := by
  refine returnsInHanded_of_change (C := Try.checked) own started (by kernel_rfl) Try.func7
    (ChangeSpec.witness6 (enc := enc) (C := Try.checked) false ⟨#[], #[.string ByteArray.empty], []⟩ 8 (by kernel_rfl) (by kernel_rfl) (by kernel_rfl) (by kernel_rfl)) ?_
  intro W base args ds gs before hval0 hW hcnd _
  have hval : ∀ (j : Nat) t v, Try.f7.params[j]? = some t → args[j]? = some v → Value.okWide Try.prog W .any base t v := hval0
  have hW' := hW
  obtain ⟨p, q, hA0, hV, rfl, hfz, hnd⟩ := hW
  have hA : DataW.TrodAll enc Try.prog W 0 (fun _ => true) true Try.f7.params.toList args.toList ds p := hA0
  rw [Try.params7] at hA hval
  obtain ⟨v0, vs0, d0, ds0, p0, q0, hargs, rfl, rfl, h0, r0⟩ := trodAll_cons hA
  obtain ⟨rfl, rfl, rfl⟩ := trodAll_nil r0
  obtain rfl : args = #[v0] := by cases args; simp_all
  obtain ⟨rfl, rfl⟩ := trodVars_none hV
  have k0 := h0
  have lt0 : ∀ x ∈ p0, x.block < W.heap.size := by obtain ⟨m, hm⟩ := k0; exact DataW.trod_lt m _ _ _ hm
  obtain ⟨a0, rfl, rfl, rfl, wf0⟩ := open_string Try.underlying9 (hval 0 9 v0 rfl rfl) h0
  clear hA0 hval0
  refine (readlab_walk a0 W wf0).mono fun e W' ⟨he, bel⟩ => ?_
  subst he
  exact ⟨_, rfl, _, _, _, [], _, [], hW', trodAll_mk1 (shut_bool Try.underlying4 _), (trodAll_cons_mk (Below.trod laidOut (by kernel_rfl) (of_decide_eq_true (by kernel_rfl)) k0 bel lt0) trodAll_mk0), rfl, bel.frame _, fun h => by cases h⟩
/-- THE STATEMENT -/
theorem FnExactReadLabel_holds : Rows.FnExactReadLabelSaid :=
  OpenClaim.holds_of_wide 7 Try.f7 rfl rfl rfl rfl rfl rfl rfl ⟨rfl, rfl, rfl, rfl, rfl⟩ rfl rfl rfl rfl rfl (by kernel_rfl) Try.func7 (by kernel_rfl)
    (of_decide_eq_true (by kernel_rfl)) (by unfold Func.isWrapper; first | (rw [if_pos (by decide +kernel)]; kernel_rfl) | (rw [if_neg (by decide +kernel)]; exact ⟨rfl, rfl⟩))
    (fun os started H enc _ => FnExactReadLabel_lifted os started H enc)

end Go.Proofs.Ytkcchceoljlnaaa
