/- FnExactTreeGive: the program's TreeGive returns what the reference's returns. No condition. -/
import Derived.Test.YtdgkfpcecppfdaaETreeGive
import Derived.Test.YtdgkfpcecppfdaaESeq
import Derived.Test.YtdgkfpcecppfdaaEOpen
namespace Go.Proofs.Ytdgkfpcecppfdaa
set_option linter.unusedSimpArgs false
set_option linter.unusedVariables false
open Go.Joins Go.ChangeShapes Go.WideShapes Go.ChangeAt Go.RowKit Go.Deep
open Go.ChangeMaps (open_string shut_string)
attribute [local go_sem ↓] Go.wp_at_zero Go.wp_at_succ
theorem cell_grown {w w1 : World} {row : Option Nat} (hg : w.grownBy w1 row) {p : Addr} {v : Value} (h : w.cell? p = some v) (hr : ∀ g, row = some g → p.block ≠ g) : w1.cell? p = some v :=
  (World.cell?_of_block (hg.block p.block (lt_of_cell h) (fun e => hr _ e.symm rfl))).trans h
theorem OwnI.drew {w : World} {lo hi : Nat} {A : Option Addr} {xs : List El} (h : OwnI w lo hi A xs) : OwnI w.drew lo hi A xs := h
set_option maxHeartbeats 1600000 in
theorem TreeGive_big (A : Option Addr) (n c : Nat) (xs : List El) (i : Int) (j : Int) (a : B3) (w : World) (hI : Els w A xs) (hn : xs.length = n) (hmx : n ≤ 9223372036854775807) (hbig : (1048576 : Int) - n < 0) :
    Calls Try.prog 11 #[.slice A n c, .int .i64 i, .int .i64 j, amt3 a] w fun e w' => e = .returned (.bool true) ∧ Below w.heap.size w w' := by
  clear hI hn
  go_enter Try.func11, Try.ntmps11
  go_wp2_with fail
  refine (szEls_no A n c 1048576 _ hmx (by omega) (by omega) (by omega)).mono ?_
  rintro e _ ⟨rfl, rfl⟩
  go_wp2_with fail
  go_ret
  exact ⟨rfl, (Below.refl _ _).alloc (Nat.le_refl _) _⟩
set_option maxHeartbeats 12800000 in
theorem TreeGive_main0 (A : Option Addr) (n c : Nat) (xs : List El) (i : Int) (j : Int) (a : B3) (w : World) (hI : Els w A xs) (hn : xs.length = n) (hmx : n ≤ 9223372036854775807) (hok : ¬ (1048576 : Int) - n < 0) (R : List El) (m : Nat) (b : Bool) (hm : R.length = m) (hmb : m ≤ 1099511627776) (C : Hid (∀ (A : Option Addr) (c : Nat) (w : World), Els w A xs → Calls Try.prog 39 #[.slice A n c, .int .i64 i, .int .i64 j, amt3 a] w fun e w' => ∃ A' c', e = .returned (.tuple #[.slice A' m c', .bool b]) ∧ OwnE w' w.heap.size A' R ∧ Below w.heap.size w w')) (D : Hid (∀ (A : Option Addr) (c : Nat) (w : World), Els w A xs → Calls Try.prog 40 #[.slice A n c, .int .i64 i, .int .i64 j, amt3 a] w fun e w' => ∃ A' c', e = .returned (.tuple #[.slice A' m c', .bool b]) ∧ OwnE w' w.heap.size A' R ∧ Below w.heap.size w w')) :
    Calls Try.prog 11 #[.slice A n c, .int .i64 i, .int .i64 j, amt3 a] w fun e w' => e = .returned (.bool true) ∧ Below w.heap.size w w' := by
  have HI := Lib.hid hI; have HN := Lib.hid hn; have HM := Lib.hid hm
  clear hI hn hm
  go_enter Try.func11, Try.ntmps11
  have hB := (Below.refl w.heap.size w).alloc (Nat.le_refl _) (.cells #[.int .i64 a.1, .int .i64 a.2.1, .int .i64 a.2.2] 23)
  have hs := hB.size
  obtain ⟨d0, d1, d2⟩ : (w.alloc (.cells #[.int .i64 a.1, .int .i64 a.2.1, .int .i64 a.2.2] 23)).cell? ⟨w.heap.size, 0, none⟩ = some (.int .i64 a.1) ∧ (w.alloc (.cells #[.int .i64 a.1, .int .i64 a.2.1, .int .i64 a.2.2] 23)).cell? ⟨w.heap.size, 1, none⟩ = some (.int .i64 a.2.1) ∧ (w.alloc (.cells #[.int .i64 a.1, .int .i64 a.2.1, .int .i64 a.2.2] 23)).cell? ⟨w.heap.size, 2, none⟩ = some (.int .i64 a.2.2) := ⟨by simp, by simp, by simp⟩
  go_wp2_with fail
  refine (szEls_yes A n c 1048576 _ hmx (by omega) (by omega) (by omega)).mono ?_
  rintro e _ ⟨rfl, rfl⟩
  go_wp2_with fail
  go_region_held3 (fun x => x.cell? ⟨w.heap.size, 0, none⟩ = some (.int .i64 a.1) ∧ x.cell? ⟨w.heap.size, 1, none⟩ = some (.int .i64 a.2.1) ∧ x.cell? ⟨w.heap.size, 2, none⟩ = some (.int .i64 a.2.2)) ((repeat' apply And.intro) <;> (first | assumption | (simp [*]; done)))
    (first
      | (go_at_call 21; refine (toEls_any A n c xs _ (by exact HI.out.keep (fun _ _ h => Below.keeps hB.drew h)) HN.out (by omega)).mono ?_; rintro e w1 ⟨rfl, hb, ga⟩; have d0 := Below.keeps hb d0; have d1 := Below.keeps hb d1; have d2 := Below.keeps hb d2; have hz1 := hb.size; (try simp only [World.size_alloc, World.size_drew] at hz1); have hB := Below.trans hB.drew (hb.mono hs); have hs := hB.size; clear hb; (try simp only [World.size_alloc, World.size_drew] at ga); have ga := OwnI.of_blk ga)
      | (go_at_call 14; refine (toAmt_any _ _ _ _).mono ?_; rintro e w2 ⟨rfl, hb⟩; have ga := ga.below hb; have d0 := Below.keeps hb d0; have d1 := Below.keeps hb d1; have d2 := Below.keeps hb d2; have hz2 := hb.size; (try simp only [World.size_alloc, World.size_drew] at hz2); have hB := Below.trans hB (hb.mono hs); have hs := hB.size; clear hb)
      | (go_at_call 39; refine (C.out _ _ _ (by exact ga.els)).mono ?_; rintro e w3 ⟨A0, c0, rfl, o0, hb⟩; have ga := ga.below hb; have d0 := Below.keeps hb d0; have d1 := Below.keeps hb d1; have d2 := Below.keeps hb d2; have hz3 := hb.size; (try simp only [World.size_alloc, World.size_drew] at hz3); have hB := Below.trans hB (hb.mono hs); have hs := hB.size; clear hb; have o0 := OwnI.of_own o0))
  go_wp2_with fail
  refine (toEls_any A n c xs _ (HI.out.keep (fun _ _ h => Below.keeps hB h)) HN.out (by omega)).mono ?_
  rintro e w4 ⟨rfl, hb, gx⟩
  have o0 := (o0).below hb
  have d0 := Below.keeps hb d0
  have d1 := Below.keeps hb d1
  have d2 := Below.keeps hb d2
  have hz4 := hb.size
  have hB := Below.trans hB (hb.mono (by (try simp) <;> omega))
  have hs := hB.size
  clear hb
  have ld0 : w.heap.size < w4.heap.size := lt_of_cell d0
  have ld1 : w.heap.size < w4.heap.size := lt_of_cell d1
  have ld2 : w.heap.size < w4.heap.size := lt_of_cell d2
  have gx := OwnI.of_blk gx
  go_wp2_with fail
  refine (toAmt_any _ _ _ _).mono ?_
  rintro e w5 ⟨rfl, hb⟩
  have o0 := (o0).below hb
  have gx := (gx).below hb
  have d0 := Below.keeps hb d0
  have d1 := Below.keeps hb d1
  have d2 := Below.keeps hb d2
  have hz5 := hb.size
  have hB := Below.trans hB (hb.mono (by (try simp) <;> omega))
  have hs := hB.size
  clear hb
  have ld0 : w.heap.size < w5.heap.size := lt_of_cell d0
  have ld1 : w.heap.size < w5.heap.size := lt_of_cell d1
  have ld2 : w.heap.size < w5.heap.size := lt_of_cell d2
  go_wp2_with fail
  refine (D.out _ _ _ gx.els).mono ?_
  rintro e w6 ⟨A1, c1, rfl, o1, hb⟩
  have o0 := (o0).below hb
  have gx := (gx).below hb
  have d0 := Below.keeps hb d0
  have d1 := Below.keeps hb d1
  have d2 := Below.keeps hb d2
  have hz6 := hb.size
  have hB := Below.trans hB (hb.mono (by (try simp) <;> omega))
  have hs := hB.size
  clear hb
  have ld0 : w.heap.size < w6.heap.size := lt_of_cell d0
  have ld1 : w.heap.size < w6.heap.size := lt_of_cell d1
  have ld2 : w.heap.size < w6.heap.size := lt_of_cell d2
  have o1 := OwnI.of_own o1
  go_wp2_with fail
  refine (eqEls_self _ _ _ _ _ R _ o1.els o0.els HM.out (by omega)).mono ?_
  rintro e w7 ⟨rfl, hb⟩
  have o0 := (o0).below hb
  have gx := (gx).below hb
  have o1 := (o1).below hb
  have d0 := Below.keeps hb d0
  have d1 := Below.keeps hb d1
  have d2 := Below.keeps hb d2
  have hz7 := hb.size
  have hB := Below.trans hB (hb.mono (by (try simp) <;> omega))
  have hs := hB.size
  clear hb
  have ld0 : w.heap.size < w7.heap.size := lt_of_cell d0
  have ld1 : w.heap.size < w7.heap.size := lt_of_cell d1
  have ld2 : w.heap.size < w7.heap.size := lt_of_cell d2
  go_wp2_with fail
  refine (toEls_any A n c xs _ (HI.out.keep (fun _ _ h => Below.keeps hB h)) HN.out (by omega)).mono ?_
  rintro e w8 ⟨rfl, hb, gt⟩
  have o0 := (o0).below hb
  have gx := (gx).below hb
  have o1 := (o1).below hb
  have d0 := Below.keeps hb d0
  have d1 := Below.keeps hb d1
  have d2 := Below.keeps hb d2
  have hz8 := hb.size
  have hB := Below.trans hB (hb.mono (by (try simp) <;> omega))
  have hs := hB.size
  clear hb
  have ld0 : w.heap.size < w8.heap.size := lt_of_cell d0
  have ld1 : w.heap.size < w8.heap.size := lt_of_cell d1
  have ld2 : w.heap.size < w8.heap.size := lt_of_cell d2
  have gt := OwnI.of_blk gt
  go_wp2_with fail
  refine (eqEls_self _ _ _ _ _ xs _ gx.els gt.els HN.out (by omega)).mono ?_
  rintro e w9 ⟨rfl, hb⟩
  have o0 := (o0).below hb
  have gx := (gx).below hb
  have o1 := (o1).below hb
  have gt := (gt).below hb
  have d0 := Below.keeps hb d0
  have d1 := Below.keeps hb d1
  have d2 := Below.keeps hb d2
  have hz9 := hb.size
  have hB := Below.trans hB (hb.mono (by (try simp) <;> omega))
  have hs := hB.size
  clear hb
  have ld0 : w.heap.size < w9.heap.size := lt_of_cell d0
  have ld1 : w.heap.size < w9.heap.size := lt_of_cell d1
  have ld2 : w.heap.size < w9.heap.size := lt_of_cell d2
  go_wp2_with fail
  refine (markEls_own _ _ _ n _ xs 1 _ gx HN.out (by omega) (by omega) (by omega)).mono ?_
  rintro e w10 ⟨rfl, ho, row, hg, hr⟩
  have o0 := o0.far hg hr (by omega)
  have o1 := o1.far hg hr (by omega)
  have d0 := cell_grown hg d0 (fun g h => by have := hr g h; (try dsimp only); omega)
  have d1 := cell_grown hg d1 (fun g h => by have := hr g h; (try dsimp only); omega)
  have d2 := cell_grown hg d2 (fun g h => by have := hr g h; (try dsimp only); omega)
  have ld0 : w.heap.size < w10.heap.size := lt_of_cell d0
  have ld1 : w.heap.size < w10.heap.size := lt_of_cell d1
  have ld2 : w.heap.size < w10.heap.size := lt_of_cell d2
  have hz10 := hg.size
  have hB := hB.grown hg (by omega) (fun g h => by have := hr g h; omega)
  have hs := hB.size
  have gx := ho
  clear ho hg hr
  clear gx
  go_wp2_with fail
  refine (eqEls_self _ _ _ _ _ R _ o1.els o0.els HM.out (by omega)).mono ?_
  rintro e w11 ⟨rfl, hb⟩
  have o0 := (o0).below hb
  have o1 := (o1).below hb
  have d0 := Below.keeps hb d0
  have d1 := Below.keeps hb d1
  have d2 := Below.keeps hb d2
  have hz11 := hb.size
  have hB := Below.trans hB (hb.mono (by (try simp) <;> omega))
  have hs := hB.size
  clear hb
  have ld0 : w.heap.size < w11.heap.size := lt_of_cell d0
  have ld1 : w.heap.size < w11.heap.size := lt_of_cell d1
  have ld2 : w.heap.size < w11.heap.size := lt_of_cell d2
  go_wp2_with fail
  refine (markEls_own _ _ _ m _ R 1 _ o1 HM.out (by omega) (by omega) (by omega)).mono ?_
  rintro e w12 ⟨rfl, ho, row, hg, hr⟩
  have o0 := o0.far hg hr (by omega)
  have d0 := cell_grown hg d0 (fun g h => by have := hr g h; (try dsimp only); omega)
  have d1 := cell_grown hg d1 (fun g h => by have := hr g h; (try dsimp only); omega)
  have d2 := cell_grown hg d2 (fun g h => by have := hr g h; (try dsimp only); omega)
  have ld0 : w.heap.size < w12.heap.size := lt_of_cell d0
  have ld1 : w.heap.size < w12.heap.size := lt_of_cell d1
  have ld2 : w.heap.size < w12.heap.size := lt_of_cell d2
  have hz12 := hg.size
  have hB := hB.grown hg (by omega) (fun g h => by have := hr g h; omega)
  have hs := hB.size
  have o1 := ho
  clear ho hg hr
  go_wp2_with fail
  refine (heldEls_any _ m _ 1 _ o1.els (by omega) (by omega) (by omega)).mono ?_
  rintro e _ ⟨rfl, rfl⟩
  go_wp2_with fail
  go_region_held3 (fun x => x.cell? ⟨w.heap.size, 0, none⟩ = some (.int .i64 a.1) ∧ x.cell? ⟨w.heap.size, 1, none⟩ = some (.int .i64 a.2.1) ∧ x.cell? ⟨w.heap.size, 2, none⟩ = some (.int .i64 a.2.2)) ((repeat' apply And.intro) <;> (first | assumption | (simp [*]; done)))
    (first
      | (go_at_call 21; refine (toEls_any A n c xs _ (by exact HI.out.keep (fun _ _ h => Below.keeps hB.drew h)) HN.out (by omega)).mono ?_; rintro e w13 ⟨rfl, hb, gh⟩; have o0 := (OwnI.drew o0).below hb; have o1 := (OwnI.drew o1).below hb; have d0 := Below.keeps hb d0; have d1 := Below.keeps hb d1; have d2 := Below.keeps hb d2; have hz13 := hb.size; (try simp only [World.size_alloc, World.size_drew] at hz13); have hB := Below.trans hB.drew (hb.mono hs); have hs := hB.size; clear hb; (try simp only [World.size_alloc, World.size_drew] at gh); have gh := OwnI.of_blk gh)
      | (go_at_call 14; refine (toAmt_any _ _ _ _).mono ?_; rintro e w14 ⟨rfl, hb⟩; have o0 := o0.below hb; have o1 := o1.below hb; have gh := gh.below hb; have d0 := Below.keeps hb d0; have d1 := Below.keeps hb d1; have d2 := Below.keeps hb d2; have hz14 := hb.size; (try simp only [World.size_alloc, World.size_drew] at hz14); have hB := Below.trans hB (hb.mono hs); have hs := hB.size; clear hb)
      | (go_at_call 40; refine (D.out _ _ _ (by exact gh.els)).mono ?_; rintro e w15 ⟨A2, c2, rfl, o2, hb⟩; have o0 := o0.below hb; have o1 := o1.below hb; have gh := gh.below hb; have d0 := Below.keeps hb d0; have d1 := Below.keeps hb d1; have d2 := Below.keeps hb d2; have hz15 := hb.size; (try simp only [World.size_alloc, World.size_drew] at hz15); have hB := Below.trans hB (hb.mono hs); have hs := hB.size; clear hb; have o2 := OwnI.of_own o2))
  go_wp2_with fail
  refine (eqEls_self _ _ _ _ _ R _ o2.els o0.els HM.out (by omega)).mono ?_
  rintro e w16 ⟨rfl, hb⟩
  have o0 := (o0).below hb
  have o1 := (o1).below hb
  have o2 := (o2).below hb
  have d0 := Below.keeps hb d0
  have d1 := Below.keeps hb d1
  have d2 := Below.keeps hb d2
  have hz16 := hb.size
  have hB := Below.trans hB (hb.mono (by (try simp) <;> omega))
  have hs := hB.size
  clear hb
  have ld0 : w.heap.size < w16.heap.size := lt_of_cell d0
  have ld1 : w.heap.size < w16.heap.size := lt_of_cell d1
  have ld2 : w.heap.size < w16.heap.size := lt_of_cell d2
  go_wp2_with fail
  refine (heldEls_any _ m _ 1 _ o1.els (by omega) (by omega) (by omega)).mono ?_
  rintro e _ ⟨rfl, rfl⟩
  go_wp2_with fail
  go_ret
  exact ⟨rfl, hB⟩
theorem TreeGive_walk (A : Option Addr) (n c : Nat) (xs : List El) (i : Int) (j : Int) (a0 a1 a2 : Int) (w : World) (hI : Els w A xs) (hn : xs.length = n) (hmx : n ≤ 9223372036854775807) (_ : (Lit.int .i64 i).wf = true) (_ : (Lit.int .i64 j).wf = true) (_ : (Lit.int .i64 a0).wf = true) (_ : (Lit.int .i64 a1).wf = true) (_ : (Lit.int .i64 a2).wf = true) :
    Calls Try.prog 11 #[.slice A n c, .int .i64 i, .int .i64 j, amt a0 a1 a2] w fun e w' => e = .returned (.bool true) ∧ Below w.heap.size w w' := by
  by_cases hb : (1048576 : Int) - n < 0
  · exact TreeGive_big A n c xs i j (a0, a1, a2) w hI hn hmx hb
  · exact TreeGive_main0 A n c xs i j (a0, a1, a2) w hI hn hmx hb (treeGive xs i j (a0, a1, a2)).1 n _ (by rw [treeGive_len, hn]) (by omega) (Lib.hid fun A c w h => specTreeGive_any A n c xs i j (a0, a1, a2) w h hn (by omega)) (Lib.hid fun A c w h => implTreeGive_any A n c xs i j (a0, a1, a2) w h hn (by omega))
set_option linter.unusedVariables false in
set_option maxRecDepth 100000 in
theorem FnExactTreeGive_lifted (os : Os) (started : os.Started) (H : Type) (enc : TypeId × Value → H) :
    ReturnsInHanded {} Try.checked os 11 .any (Rows.fnExactTreeGiveSpec.pre6 enc Try.prog Try.f11 Rows.fnExactTreeGiveRow.domain false) (Rows.fnExactTreeGiveSpec.post enc Try.prog Try.f11 false true false false) := by
  refine returnsInHanded_of_change (C := Try.checked) own started (by kernel_rfl) Try.func11
    (ChangeSpec.witness6 (enc := enc) (C := Try.checked) false ⟨#[], #[.slice none 0 0, .int .i64 0, .int .i64 0, .agg #[.int .i64 0, .int .i64 0, .int .i64 0]], []⟩ 8 (by kernel_rfl) (by kernel_rfl) (by kernel_rfl) (by kernel_rfl)) ?_
  intro W base args ds gs before hval0 hW hcnd _
  have hval : ∀ (j : Nat) t v, Try.f11.params[j]? = some t → args[j]? = some v → Value.okWide Try.prog W .any base t v := hval0
  have hW' := hW
  obtain ⟨p, q, hA0, hV, rfl, hfz, hnd⟩ := hW
  have hA : DataW.TrodAll enc Try.prog W 0 (fun _ => true) true Try.f11.params.toList args.toList ds p := hA0
  rw [Try.params11] at hA hval
  obtain ⟨v0, vs0, d0, ds0, p0, q0, hargs, rfl, rfl, h0, r0⟩ := trodAll_cons hA
  obtain ⟨v1, vs1, d1, ds1, p1, q1, rfl, rfl, rfl, h1, r1⟩ := trodAll_cons r0
  obtain ⟨v2, vs2, d2, ds2, p2, q2, rfl, rfl, rfl, h2, r2⟩ := trodAll_cons r1
  obtain ⟨v3, vs3, d3, ds3, p3, q3, rfl, rfl, rfl, h3, r3⟩ := trodAll_cons r2
  obtain ⟨rfl, rfl, rfl⟩ := trodAll_nil r3
  obtain rfl : args = #[v0, v1, v2, v3] := by cases args; simp_all
  obtain ⟨rfl, rfl⟩ := trodVars_none hV
  have k0 := h0
  have lt0 : ∀ x ∈ p0, x.block < W.heap.size := by obtain ⟨m, hm⟩ := k0; exact DataW.trod_lt m _ _ _ hm
  obtain ⟨b0, len0, cap0, rfl⟩ := okWide_slice Try.underlying32 (hval 0 32 v0 rfl rfl)
  obtain ⟨z0, row0, ln0, mx0⟩ : ∃ xs, Els W b0 xs ∧ xs.length = len0 ∧ len0 ≤ 9223372036854775807 := by obtain ⟨fuel, hf⟩ := h0; exact open_els hf
  have k1 := h1
  have lt1 : ∀ x ∈ p1, x.block < W.heap.size := by obtain ⟨m, hm⟩ := k1; exact DataW.trod_lt m _ _ _ hm
  obtain ⟨a1, rfl, rfl, rfl, wf1⟩ := open_int Try.underlying3 (hval 1 3 v1 rfl rfl) h1
  have k2 := h2
  have lt2 : ∀ x ∈ p2, x.block < W.heap.size := by obtain ⟨m, hm⟩ := k2; exact DataW.trod_lt m _ _ _ hm
  obtain ⟨a2, rfl, rfl, rfl, wf2⟩ := open_int Try.underlying3 (hval 2 3 v2 rfl rfl) h2
  have k3 := h3
  have lt3 : ∀ x ∈ p3, x.block < W.heap.size := by obtain ⟨m, hm⟩ := k3; exact DataW.trod_lt m _ _ _ hm
  obtain ⟨c3_0, c3_1, c3_2, y3_0, y3_1, y3_2, m3, rfl, _, _, g3_0, g3_1, g3_2⟩ := open_agg3 Try.underlying23 (by kernel_rfl) (by kernel_rfl) (hval 3 23 v3 rfl rfl) h3
  obtain ⟨a3_0, e3_0, _, wf3_0⟩ := DataW.trod_int Try.underlying3 g3_0
  simp only [List.cons.injEq, and_true] at e3_0; subst e3_0
  obtain ⟨a3_1, e3_1, _, wf3_1⟩ := DataW.trod_int Try.underlying3 g3_1
  simp only [List.cons.injEq, and_true] at e3_1; subst e3_1
  obtain ⟨a3_2, e3_2, _, wf3_2⟩ := DataW.trod_int Try.underlying3 g3_2
  simp only [List.cons.injEq, and_true] at e3_2; subst e3_2
  clear hA0 hval0
  refine (TreeGive_walk b0 len0 cap0 z0 a1 a2 a3_0 a3_1 a3_2 W row0 ln0 mx0 wf1 wf2 wf3_0 wf3_1 wf3_2).mono fun e W' ⟨he, bel⟩ => ?_
  subst he
  exact ⟨_, rfl, _, _, _, [], _, [], hW', trodAll_mk1 (shut_bool Try.underlying4 _), (trodAll_cons_mk (Below.trod laidOut (by kernel_rfl) (of_decide_eq_true (by kernel_rfl)) k0 bel lt0) (trodAll_cons_mk (Below.trod laidOut (by kernel_rfl) (of_decide_eq_true (by kernel_rfl)) k1 bel lt1) (trodAll_cons_mk (Below.trod laidOut (by kernel_rfl) (of_decide_eq_true (by kernel_rfl)) k2 bel lt2) (trodAll_cons_mk (Below.trod laidOut (by kernel_rfl) (of_decide_eq_true (by kernel_rfl)) k3 bel lt3) trodAll_mk0)))), rfl, bel.frame _, fun h => by cases h⟩
/-- THE STATEMENT -/
theorem FnExactTreeGive_holds : Rows.FnExactTreeGiveSaid :=
  OpenClaim.holds_of_wide 11 Try.f11 rfl rfl rfl rfl rfl rfl rfl ⟨rfl, rfl, rfl, rfl, rfl⟩ rfl rfl rfl rfl rfl (by kernel_rfl) Try.func11 (by kernel_rfl)
    (of_decide_eq_true (by kernel_rfl)) (by unfold Func.isWrapper; first | (rw [if_pos (by decide +kernel)]; kernel_rfl) | (rw [if_neg (by decide +kernel)]; exact ⟨rfl, rfl⟩))
    (fun os started H enc _ => FnExactTreeGive_lifted os started H enc)

end Go.Proofs.Ytdgkfpcecppfdaa
