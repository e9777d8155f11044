/- FnExactTreeSum: the program's TreeSum returns what the reference's returns. No condition. -/
import Derived.Test.YtdgkfpcecppfdaaESpecOk
import Derived.Test.YtdgkfpcecppfdaaESeq
import Derived.Test.YtdgkfpcecppfdaaEOpen
import Derived.Test.YtdgkfpcecppfdaaETreeSum
namespace Go.Proofs.Ytdgkfpcecppfdaa
set_option linter.unusedSimpArgs false
set_option linter.unusedVariables false
open Go.Joins Go.ChangeShapes Go.WideShapes Go.ChangeAt Go.RowKit Go.Deep
open Go.ChangeMaps (open_string shut_string)
set_option maxHeartbeats 1600000 in
theorem TreeSum_big (A : Option Addr) (n c : Nat) (xs : List El) (w : World) (hI : Els w A xs) (hn : xs.length = n) (hmx : n ≤ 9223372036854775807) (hbig : (1048576 : Int) - n < 0) :
    Calls Try.prog 5 #[.slice A n c] w fun e w' => e = .returned (.bool true) ∧ Below w.heap.size w w' := by
  clear hI hn
  go_enter Try.func5, Try.ntmps5
  go_wp2_with fail
  refine (szEls_no A n c 1048576 _ hmx (by omega) (by omega) (by omega)).mono ?_
  rintro e _ ⟨rfl, rfl⟩
  go_wp2_with fail
  go_ret
  exact ⟨rfl, Below.refl _ _⟩
theorem eqAmt_self (p r c : Int) (w : World) : Calls Try.prog 25 #[amt p r c, amt p r c] w fun e w' => e = .returned (.bool true) ∧ Below w.heap.size w w' :=
  (eqAmt_any p r c p r c w).mono fun _ _ ⟨he, hb⟩ => ⟨by rw [he]; simp, hb⟩
theorem OwnI.alloc {w : World} {lo hi : Nat} {A : Option Addr} {xs : List El} (h : OwnI w lo hi A xs) (o : Obj) : OwnI (w.alloc o) lo hi A xs := by
  rcases h with rfl | ⟨g, full, rfl, h1, h2, hh, hp⟩
  · exact .inl rfl
  · exact .inr ⟨g, full, rfl, h1, h2, blk_alloc hh, hp⟩
set_option maxHeartbeats 6400000 in
theorem TreeSum_main (A : Option Addr) (n c : Nat) (xs : List El) (w : World) (hI : Els w A xs) (hn : xs.length = n) (hmx : n ≤ 9223372036854775807) (s1 s2 s3 : Int) (C : Hid (∀ (A : Option Addr) (c : Nat) (w : World), Els w A xs → Calls Try.prog 23 #[.slice A n c] w fun e w' => e = .returned (amt s1 s2 s3) ∧ Below w.heap.size w w')) (D : Hid (∀ (A : Option Addr) (c : Nat) (w : World), Els w A xs → Calls Try.prog 24 #[.slice A n c] w fun e w' => e = .returned (amt s1 s2 s3) ∧ Below w.heap.size w w')) (hok : ¬ (1048576 : Int) - n < 0) :
    Calls Try.prog 5 #[.slice A n c] w fun e w' => e = .returned (.bool true) ∧ Below w.heap.size w w' := by
  have HI := Lib.hid hI; have HN := Lib.hid hn
  clear hI hn
  go_enter Try.func5, Try.ntmps5
  have hB := Below.refl w.heap.size w
  have hs := hB.size
  go_wp2_with fail
  refine (szEls_yes A n c 1048576 _ hmx (by omega) (by omega) (by omega)).mono ?_
  rintro e _ ⟨rfl, rfl⟩
  go_wp2_with fail
  refine (toEls_any A n c xs _ (HI.out.keep (fun _ _ h => Below.keeps hB h)) HN.out (by omega)).mono ?_
  rintro e w1 ⟨rfl, hb, ga⟩
  have hz1 := hb.size
  have hB := Below.trans hB (hb.mono (by (try simp) <;> omega))
  have hs := hB.size
  clear hb
  have ga := OwnI.of_blk ga
  go_wp2_with fail
  refine (C.out _ _ _ ga.els).mono ?_
  rintro e w2 ⟨rfl, hb⟩
  have ga := (ga).below hb
  have hz2 := hb.size
  have hB := Below.trans hB (hb.mono (by (try simp) <;> omega))
  have hs := hB.size
  clear hb
  go_wp2_with fail
  refine (toEls_any A n c xs _ ((HI.out.keep (fun _ _ h => Below.keeps hB h)).alloc _) HN.out (by omega)).mono ?_
  rintro e w3 ⟨rfl, hb, gx⟩
  have b0 := keepblk hb (heap_alloc_new w2 (.cells #[.int .i64 s1, .int .i64 s2, .int .i64 s3] 27))
  have hz3 := hb.size
  simp only [World.size_alloc] at hz3
  have hB := Below.trans (hB.alloc (by (try simp) <;> omega) _) (hb.mono (by (try simp) <;> omega))
  have hs := hB.size
  clear hb
  have lb0 := lt_of_blk b0
  simp only [World.size_alloc] at gx
  have gx := OwnI.of_blk gx
  go_wp2_with fail
  refine (D.out _ _ _ gx.els).mono ?_
  rintro e w4 ⟨rfl, hb⟩
  have gx := (gx).below hb
  have b0 := keepblk hb b0
  have hz4 := hb.size
  have hB := Below.trans hB (hb.mono (by (try simp) <;> omega))
  have hs := hB.size
  clear hb
  have lb0 := lt_of_blk b0
  obtain ⟨kb0, fb0⟩ := blkcell b0
  go_wp2_with fail
  refine (eqAmt_self _ _ _ _).mono ?_
  rintro e w5 ⟨rfl, hb⟩
  have gx := (gx.alloc _).below hb
  have b0 := keepblk hb (blk_alloc b0)
  have b1 := keepblk hb (heap_alloc_new w4 (.cells #[.int .i64 s1, .int .i64 s2, .int .i64 s3] 27))
  have hz5 := hb.size
  simp only [World.size_alloc] at hz5
  have hB := Below.trans (hB.alloc (by (try simp) <;> omega) _) (hb.mono (by (try simp) <;> omega))
  have hs := hB.size
  clear hb
  have lb0 := lt_of_blk b0
  have lb1 := lt_of_blk b1
  clear kb0 fb0
  go_wp2_with fail
  refine (toEls_any A n c xs _ (HI.out.keep (fun _ _ h => Below.keeps hB h)) HN.out (by omega)).mono ?_
  rintro e w6 ⟨rfl, hb, gt⟩
  have gx := (gx).below hb
  have b0 := keepblk hb b0
  have b1 := keepblk hb b1
  have hz6 := hb.size
  have hB := Below.trans hB (hb.mono (by (try simp) <;> omega))
  have hs := hB.size
  clear hb
  have lb0 := lt_of_blk b0
  have lb1 := lt_of_blk b1
  have gt := OwnI.of_blk gt
  go_wp2_with fail
  refine (eqEls_self _ _ _ _ _ xs _ gx.els gt.els HN.out (by omega)).mono ?_
  rintro e w7 ⟨rfl, hb⟩
  have gx := (gx).below hb
  have gt := (gt).below hb
  have b0 := keepblk hb b0
  have b1 := keepblk hb b1
  have hz7 := hb.size
  have hB := Below.trans hB (hb.mono (by (try simp) <;> omega))
  have hs := hB.size
  clear hb
  have lb0 := lt_of_blk b0
  have lb1 := lt_of_blk b1
  go_wp2_with fail
  go_ret
  exact ⟨rfl, hB⟩
theorem TreeSum_walk (A : Option Addr) (n c : Nat) (xs : List El) (w : World) (hI : Els w A xs) (hn : xs.length = n) (hmx : n ≤ 9223372036854775807) :
    Calls Try.prog 5 #[.slice A n c] w fun e w' => e = .returned (.bool true) ∧ Below w.heap.size w w' := by
  by_cases hb : (1048576 : Int) - n < 0
  · exact TreeSum_big A n c xs w hI hn hmx hb
  · obtain ⟨b, hbr⟩ : ∃ b : Bool, b = true ↔ Right xs := by
      by_cases h : Right xs
      · exact ⟨true, by simp [h]⟩
      · exact ⟨false, by simp [h]⟩
    exact TreeSum_main A n c xs w hI hn hmx _ _ _ (Lib.hid fun A c w h => specTreeSum_any A n c xs b w h hn (by omega) hbr) (Lib.hid fun A c w h => implTreeSum_any A n c xs b w h hn (by omega) hbr) hb
set_option linter.unusedVariables false in
set_option maxRecDepth 100000 in
theorem FnExactTreeSum_lifted (os : Os) (started : os.Started) (H : Type) (enc : TypeId × Value → H) :
    ReturnsInHanded {} Try.checked os 5 .any (Rows.fnExactTreeSumSpec.pre6 enc Try.prog Try.f5 Rows.fnExactTreeSumRow.domain false) (Rows.fnExactTreeSumSpec.post enc Try.prog Try.f5 false true false false) := by
  refine returnsInHanded_of_change (C := Try.checked) own started (by kernel_rfl) Try.func5
    (ChangeSpec.witness6 (enc := enc) (C := Try.checked) false ⟨#[], #[.slice none 0 0], []⟩ 8 (by kernel_rfl) (by kernel_rfl) (by kernel_rfl) (by kernel_rfl)) ?_
  intro W base args ds gs before hval0 hW hcnd _
  have hval : ∀ (j : Nat) t v, Try.f5.params[j]? = some t → args[j]? = some v → Value.okWide Try.prog W .any base t v := hval0
  have hW' := hW
  obtain ⟨p, q, hA0, hV, rfl, hfz, hnd⟩ := hW
  have hA : DataW.TrodAll enc Try.prog W 0 (fun _ => true) true Try.f5.params.toList args.toList ds p := hA0
  rw [Try.params5] at hA hval
  obtain ⟨v0, vs0, d0, ds0, p0, q0, hargs, rfl, rfl, h0, r0⟩ := trodAll_cons hA
  obtain ⟨rfl, rfl, rfl⟩ := trodAll_nil r0
  obtain rfl : args = #[v0] := by cases args; simp_all
  obtain ⟨rfl, rfl⟩ := trodVars_none hV
  have k0 := h0
  have lt0 : ∀ x ∈ p0, x.block < W.heap.size := by obtain ⟨m, hm⟩ := k0; exact DataW.trod_lt m _ _ _ hm
  obtain ⟨b0, len0, cap0, rfl⟩ := okWide_slice Try.underlying32 (hval 0 32 v0 rfl rfl)
  obtain ⟨z0, row0, ln0, mx0⟩ : ∃ xs, Els W b0 xs ∧ xs.length = len0 ∧ len0 ≤ 9223372036854775807 := by obtain ⟨fuel, hf⟩ := h0; exact open_els hf
  clear hA0 hval0
  refine (TreeSum_walk b0 len0 cap0 z0 W row0 ln0 mx0).mono fun e W' ⟨he, bel⟩ => ?_
  subst he
  exact ⟨_, rfl, _, _, _, [], _, [], hW', trodAll_mk1 (shut_bool Try.underlying4 _), (trodAll_cons_mk (Below.trod laidOut (by kernel_rfl) (of_decide_eq_true (by kernel_rfl)) k0 bel lt0) trodAll_mk0), rfl, bel.frame _, fun h => by cases h⟩
/-- THE STATEMENT -/
theorem FnExactTreeSum_holds : Rows.FnExactTreeSumSaid :=
  OpenClaim.holds_of_wide 5 Try.f5 rfl rfl rfl rfl rfl rfl rfl ⟨rfl, rfl, rfl, rfl, rfl⟩ rfl rfl rfl rfl rfl (by kernel_rfl) Try.func5 (by kernel_rfl)
    (of_decide_eq_true (by kernel_rfl)) (by unfold Func.isWrapper; first | (rw [if_pos (by decide +kernel)]; kernel_rfl) | (rw [if_neg (by decide +kernel)]; exact ⟨rfl, rfl⟩))
    (fun os started H enc _ => FnExactTreeSum_lifted os started H enc)

end Go.Proofs.Ytdgkfpcecppfdaa
