/- FnCats: a category that was made is there until it is dropped; never comes one twice. No condition. -/
import Derived.Test.YtjhkaipceepjiaaDrawCats
import Derived.Test.YtjhkaipceepjiaaOpenB
namespace Go.Proofs.Ytjhkaipceepjiaa
set_option linter.unusedSimpArgs false
set_option linter.unusedVariables false
open Go.Joins Go.ChangeShapes Go.WideShapes Go.ChangeAt Go.RowKit Go.Deep
open Go.ChangeMaps (open_string shut_string)
attribute [local go_sem ↓] Go.wp_at_zero Go.wp_at_succ

set_option maxHeartbeats 800000 in
theorem DrawCatNew_any (A : Option Addr) (n c : Nat) (w : World) (hA : Bys w A n) (hn : n ≤ 1048576) :
    Calls Try.prog 22 #[.slice A n c] w (CatsP w) := by
  have N := Lib.hid (l1New_any A n c w hA hn)
  have L := Lib.hid (fun g w' h => l4Cats_any w g A n c w' hA hn h)
  clear hA
  go_enter Try.func22, Try.ntmps22
  go_wp2_with fail
  refine N.out.mono ?_
  rintro e w1 ⟨g, rfl, hD⟩
  have HD := Lib.hid hD
  clear hD
  go_wp2_with fail
  refine (L.out _ _ HD.out).mono ?_
  rintro e w2 ⟨A', m, c', xs, rfl, hm, hm4, he, hb⟩
  have HE := Lib.hid he; have HB := Lib.hid hb; have HM := Lib.hid hm
  clear he hb hm
  go_wp2
  go_ret
  exact ⟨A', m, c', xs, rfl, HM.out, hm4, HE.out, HB.out⟩
/-- what CatNew gave, in plain words -/
theorem catNew_cases (xs : List El) : (catNew xs = (xs, 0, false)) ∨ ∃ (k : Nat) (x : El), k < 4 ∧ catsOkB xs = true ∧ xs[k]? = some x ∧ x.2 = false ∧ 0 ≤ x.1 ∧ x.1 < 999 ∧ catNew xs = (xs.set k (x.1 + 1, true), (k : Int) + 4 * (x.1 + 1), true) := by
  cases hok : catsOkB xs
  · exact .inl (catNew_no hok)
  · by_cases h : ∃ (k : Nat) (x : El), xs[k]? = some x ∧ freeB x = true ∧ ∀ (j : Nat), j < k → ∀ c, xs[j]? = some c → freeB c = false
    · obtain ⟨k, x, hx, hf, hp⟩ := h
      simp only [freeB, Bool.and_eq_true, Bool.not_eq_true', decide_eq_true_eq] at hf
      have hl := catsOk_len hok
      have hk := (List.getElem?_eq_some_iff.1 hx).1
      exact .inr ⟨k, x, by omega, rfl, hx, hf.1, (catsOk_gen hok hx).1, hf.2, catNew_some hok hx hf.1 hf.2 hp⟩
    · left
      refine catNew_none hok fun j => ?_
      induction j using Nat.strongRecOn with
      | _ j ih =>
        intro hj c hc
        cases hf : freeB c
        · rfl
        · exact absurd ⟨j, c, hc, hf, fun i hi d hd => ih i hi (by omega) d hd⟩ h
theorem catsOk_set {xs : List El} {k : Nat} {y : El} (h : catsOkB xs = true) (hy : genB y = true) : catsOkB (xs.set k y) = true := by
  have hl := catsOk_len h
  simp only [catsOkB, Bool.and_eq_true, decide_eq_true_eq, List.all_eq_true] at h ⊢
  refine ⟨by simp [hl], fun z hz => ?_⟩
  rcases List.mem_or_eq_of_mem_set hz with h1 | h1
  · exact h.2 z h1
  · rw [h1]; exact hy
theorem set_at {xs : List El} {k : Nat} {x y : El} (h : xs[k]? = some x) : (xs.set k y)[k]? = some y := by
  rw [List.getElem?_set, if_pos rfl, if_pos (List.getElem?_eq_some_iff.1 h).1]
/-- the plain law -/
theorem cats_law {xs : List El} {k : Nat} {x : El} (hk : k < 4) (hok : catsOkB xs = true) (hx : xs[k]? = some x) (hl : x.2 = false) (h0 : 0 ≤ x.1) (h1 : x.1 < 999) :
    catOf xs ((k : Int) + 4 * (x.1 + 1)) = -1 ∧ catOf (xs.set k (x.1 + 1, true)) ((k : Int) + 4 * (x.1 + 1)) = (k : Int) ∧ catDrop (xs.set k (x.1 + 1, true)) ((k : Int) + 4 * (x.1 + 1)) = (xs.set k (x.1 + 1, false), true) ∧
    catOf (xs.set k (x.1 + 1, false)) ((k : Int) + 4 * (x.1 + 1)) = -1 ∧ catsOkB (xs.set k (x.1 + 1, true)) = true ∧ catsOkB (xs.set k (x.1 + 1, false)) = true ∧
    (catNew (xs.set k (x.1 + 1, false))).2.1 ≠ (k : Int) + 4 * (x.1 + 1) ∧ (catDrop (xs.set k (x.1 + 1, false)) ((k : Int) + 4 * (x.1 + 1))) = (xs.set k (x.1 + 1, false), false) := by
  obtain ⟨m, hm⟩ := Int.eq_ofNat_of_zero_le (show 0 ≤ (k : Int) + 4 * (x.1 + 1) by omega)
  rw [hm]
  have hq : (m : Int) % 4 = (k : Int) := by omega
  have hd : (m : Int) / 4 = x.1 + 1 := by omega
  have ho1 : catsOkB (xs.set k (x.1 + 1, true)) = true := catsOk_set hok (by simp [genB, inB]; omega)
  have ho2 : catsOkB (xs.set k (x.1 + 1, false)) = true := catsOk_set hok (by simp [genB, inB]; omega)
  have e1 : catOf xs m = -1 := by rw [catOf_at hok hq hx, hl]; simp
  have e2 : catOf (xs.set k (x.1 + 1, true)) m = (k : Int) := by rw [catOf_at ho1 hq (set_at hx), hd]; simp
  have e3 : catOf (xs.set k (x.1 + 1, false)) m = -1 := by rw [catOf_at ho2 hq (set_at hx)]; simp
  refine ⟨e1, e2, ?_, e3, ho1, ho2, ?_, ?_⟩
  · unfold catDrop
    rw [e2, if_neg (by omega)]
    simp [List.getD, set_at hx, List.set_set]
  · rcases catNew_cases (xs.set k (x.1 + 1, false)) with h | ⟨k', y, hk', _, hy, hyl, hy0, hy1, h⟩
    · rw [h]; show (0 : Int) ≠ _; omega
    · rw [h]
      show (k' : Int) + 4 * (y.1 + 1) ≠ _
      intro e
      have hkk : k' = k := by omega
      subst hkk
      rw [set_at hx] at hy
      injection hy with hy
      have : y.1 = x.1 + 1 := by rw [← hy]
      omega
  · unfold catDrop
    rw [e3, if_pos (by omega)]
set_option maxHeartbeats 400000 in
theorem big_any (A : Option Addr) (n c : Nat) (w : World) (hn : n ≤ 9223372036854775807) : Calls Try.prog 21 #[.slice A n c] w fun e w' => e = .returned (.bool (decide ((1048576 : Int) < (n : Int)))) ∧ w = w' := by
  go_enter Try.func21, Try.ntmps21
  go_wp2
  go_ret
  exact ⟨by first | rfl | simp, rfl⟩
set_option maxHeartbeats 800000 in
theorem cats_big (A : Option Addr) (n c : Nat) (w : World) (hmx : n ≤ 9223372036854775807) (hbig : 1048576 < n) :
    Calls Try.prog 7 #[.slice A n c] w fun e w' => e = .returned (.bool true) ∧ Below w.heap.size w w' := by
  go_enter Try.func7, Try.ntmps7
  go_wp2_with fail
  refine (big_any A n c _ hmx).mono ?_
  rintro e _ ⟨rfl, rfl⟩
  have hbg : decide ((1048576 : Int) < (n : Int)) = true := decide_eq_true (by omega)
  rw [hbg]
  go_wp2
  go_ret
  exact ⟨rfl, Below.refl _ _⟩
set_option maxRecDepth 100000 in
set_option maxHeartbeats 12800000 in
theorem cats_main (A : Option Addr) (n c : Nat) (w : World) (hA : Bys w A n) (hn : n ≤ 1048576) :
    Calls Try.prog 7 #[.slice A n c] w fun e w' => e = .returned (.bool true) ∧ Below w.heap.size w w' := by
  have HA := Lib.hid hA
  clear hA
  go_enter Try.func7, Try.ntmps7
  go_wp2_with fail
  refine (big_any A n c _ (by omega)).mono ?_
  rintro e _ ⟨rfl, rfl⟩
  have hbg : decide ((1048576 : Int) < (n : Int)) = false := decide_eq_false (by omega)
  rw [hbg]
  clear hbg
  go_wp2_with fail
  refine (DrawCatNew_any A n c _ HA.out hn).mono ?_
  rintro e w1 ⟨A1, m, c1, xs, rfl, hm, hm4, he, hB⟩
  have HE := Lib.hid he; have HM := Lib.hid hm
  have hs := hB.size
  clear he hm
  go_wp2_with fail
  refine (implCatNew_any A1 m c1 xs _ HE.out HM.out (by omega)).mono ?_
  rintro e w2 ⟨A2, c2, rfl, ho, hb⟩
  have HE := Lib.hid (HE.out.below hb)
  have hB := Below.trans hB (hb.mono hs)
  have hs := hB.size
  clear hb
  rcases catNew_cases xs with hc | ⟨k, x, hk, hok, hx, hxl, hx0, hx1, hc⟩
  · rw [hc] at ho ⊢
    have HO := Lib.hid ho
    clear ho hc
    go_wp2_with fail
    refine (implCatDrop_any A2 m c2 xs 0 _ HO.out.els HM.out (by omega) (by omega)).mono ?_
    rintro e w3 ⟨A3, c3, rfl, ho, hb⟩
    have hB := Below.trans hB (hb.mono hs)
    clear ho hb
    go_wp2
    go_ret
    exact ⟨by first | rfl | simp, hB⟩
  · obtain ⟨l1, l2, l3, l4, l5, l6, l7, l8⟩ := cats_law hk hok hx hxl hx0 hx1
    rw [hc] at ho ⊢
    obtain ⟨X, hX⟩ : ∃ X, X = xs.set k (x.1 + 1, true) := ⟨_, rfl⟩
    obtain ⟨Y, hY⟩ : ∃ Y, Y = xs.set k (x.1 + 1, false) := ⟨_, rfl⟩
    obtain ⟨id, hid⟩ : ∃ id, id = (k : Int) + 4 * (x.1 + 1) := ⟨_, rfl⟩
    have hlX : X.length = m := by rw [hX, List.length_set]; exact HM.out
    have hlY : Y.length = m := by rw [hY, List.length_set]; exact HM.out
    simp only [← hX, ← hY, ← hid] at ho l1 l2 l3 l4 l5 l6 l7 l8 ⊢
    have hid0 : 0 ≤ id := by omega
    have hid1 : id ≤ 4000 := by omega
    have hmod : id % 4 = (k : Int) := by omega
    obtain ⟨d, hdd⟩ : ∃ d, d = (catNew Y).2.1 := ⟨_, rfl⟩
    obtain ⟨b9, hb9⟩ : ∃ b9, b9 = (catNew Y).2.2 := ⟨_, rfl⟩
    have hne : ((d : Int) != id) = true := by rw [hdd]; simpa using l7
    have C1 := Lib.hid (fun w' h => by have h2 := implCatDrop_any A2 m c2 X id w' h hlX (by omega) (by omega); unfold DropPost at h2; rw [l3] at h2; exact h2)
    have C2 := Lib.hid (fun A c w' h => by have h2 := implCatOf_any A m c xs id w' h HM.out (by omega) (by omega); rw [l1] at h2; exact h2)
    have C3 := Lib.hid (fun A c w' h => by have h2 := implCatOf_any A m c X id w' h hlX (by omega) (by omega); rw [l2] at h2; exact h2)
    have C4 := Lib.hid (fun A c w' h => by have h2 := implCatOf_any A m c Y id w' h hlY (by omega) (by omega); rw [l4] at h2; exact h2)
    have C5 := Lib.hid (fun A c w' h => by have h2 := specCatsOk_any A m c X w' h hlX (by omega); rw [l5] at h2; exact h2)
    have C6 := Lib.hid (fun A c w' h => by have h2 := specCatsOk_any A m c Y w' h hlY (by omega); rw [l6] at h2; exact h2)
    have C7 := Lib.hid (fun A c w' h => by have h2 := implCatNew_any A m c Y w' h hlY (by omega); unfold NewPost at h2; rw [← hdd, ← hb9] at h2; exact h2)
    have C8 := Lib.hid (fun A c w' h => by have h2 := implCatDrop_any A m c Y id w' h hlY (by omega) (by omega); unfold DropPost at h2; rw [l8] at h2; exact h2)
    have HO := Lib.hid ho
    have hk0 : (0 : Int) ≤ (k : Int) := by omega
    have hk4 : (k : Int) < 4 := by omega
    have hk1 : ((k : Int) != (k : Int)) = false := by simp
    have HL := Lib.hid hmod
    have hmod2 : id % 4 = (k : Int) := hmod
    clear ho hc l1 l2 l3 l4 l5 l6 l7 l8 hX hY hid hlX hlY hdd hb9 hx hxl hok hmod HL
    go_wp2_with fail
    refine (C1.out _ HO.out.els).mono ?_
    rintro e w3 ⟨A3, c3, rfl, ho3, hb⟩
    have HE := Lib.hid (HE.out.below hb); have HO := Lib.hid (HO.out.below hb); have H3 := Lib.hid ho3
    have hB := Below.trans hB (hb.mono hs)
    have hs := hB.size
    clear hb ho3
    go_wp2_with fail
    refine (C2.out _ _ _ HE.out).mono ?_
    rintro e w4 ⟨rfl, hb⟩
    have HO := Lib.hid (HO.out.below hb); have H3 := Lib.hid (H3.out.below hb)
    have hB := Below.trans hB (hb.mono hs)
    have hs := hB.size
    clear hb
    go_wp2_with fail
    refine (C3.out _ _ _ HO.out.els).mono ?_
    rintro e w5 ⟨rfl, hb⟩
    have HO := Lib.hid (HO.out.below hb)
    have H3 := Lib.hid (H3.out.below hb)
    have hB := Below.trans hB (hb.mono hs)
    have hs := hB.size
    clear hb
    go_wp2_with fail
    refine (C4.out _ _ _ H3.out.els).mono ?_
    rintro e w6 ⟨rfl, hb⟩
    have HO := Lib.hid (HO.out.below hb)
    have H3 := Lib.hid (H3.out.below hb)
    have hB := Below.trans hB (hb.mono hs)
    have hs := hB.size
    clear hb
    go_wp2_with fail
    refine (C5.out _ _ _ HO.out.els).mono ?_
    rintro e w7 ⟨rfl, hb⟩
    have H3 := Lib.hid (H3.out.below hb)
    have hB := Below.trans hB (hb.mono hs)
    have hs := hB.size
    clear hb
    go_wp2_with fail
    refine (C6.out _ _ _ H3.out.els).mono ?_
    rintro e w8 ⟨rfl, hb⟩
    have H3 := Lib.hid (H3.out.below hb)
    have hB := Below.trans hB (hb.mono hs)
    have hs := hB.size
    clear hb
    go_wp2_with fail
    refine (C7.out _ _ _ H3.out.els).mono ?_
    rintro e w9 ⟨A4, c4, rfl, ho4, hb⟩
    have H3 := Lib.hid (H3.out.below hb)
    have hB := Below.trans hB (hb.mono hs)
    have hs := hB.size
    clear ho4
    clear hb
    go_wp2_with fail
    refine (C8.out _ _ _ H3.out.els).mono ?_
    rintro e w10 ⟨A5, c5, rfl, ho5, hb⟩
    have hB := Below.trans hB (hb.mono hs)
    have hs := hB.size
    clear ho5
    clear hb
    go_wp2
    go_ret
    exact ⟨by first | rfl | simp, hB⟩
theorem cats_walk (A : Option Addr) (n c : Nat) (w : World) (hA : Bys w A n) (hmx : n ≤ 9223372036854775807) :
    Calls Try.prog 7 #[.slice A n c] w fun e w' => e = .returned (.bool true) ∧ Below w.heap.size w w' := by
  by_cases hb : 1048576 < n
  · exact cats_big A n c w hmx hb
  · exact cats_main A n c w hA (by omega)
set_option linter.unusedVariables false in
set_option maxRecDepth 100000 in
theorem FnCats_lifted (os : Os) (started : os.Started) (H : Type) (enc : TypeId × Value → H) :
    ReturnsInHanded {} Try.checked os 7 .any (Rows.fnCatsSpec.pre6 enc Try.prog Try.f7 Rows.fnCatsRow.domain false) (Rows.fnCatsSpec.post enc Try.prog Try.f7 false true false false) := by
  refine returnsInHanded_of_change (C := Try.checked) own started (by kernel_rfl) Try.func7
    (ChangeSpec.witness6 (enc := enc) (C := Try.checked) false ⟨#[], #[.slice none 0 0], []⟩ 8 (by kernel_rfl) (by kernel_rfl) (by kernel_rfl) (by kernel_rfl)) ?_
  intro W base args ds gs before hval0 hW hcnd _
  have hval : ∀ (j : Nat) t v, Try.f7.params[j]? = some t → args[j]? = some v → Value.okWide Try.prog W .any base t v := hval0
  have hW' := hW
  obtain ⟨p, q, hA0, hV, rfl, hfz, hnd⟩ := hW
  have hA : DataW.TrodAll enc Try.prog W 0 (fun _ => true) true Try.f7.params.toList args.toList ds p := hA0
  rw [Try.params7] at hA hval
  obtain ⟨v0, vs0, d0, ds0, p0, q0, hargs, rfl, rfl, h0, r0⟩ := trodAll_cons hA
  obtain ⟨rfl, rfl, rfl⟩ := trodAll_nil r0
  obtain rfl : args = #[v0] := by cases args; simp_all
  obtain ⟨rfl, rfl⟩ := trodVars_none hV
  have k0 := h0
  have lt0 : ∀ x ∈ p0, x.block < W.heap.size := by obtain ⟨m, hm⟩ := k0; exact DataW.trod_lt m _ _ _ hm
  obtain ⟨b0, len0, cap0, rfl⟩ := okWide_slice Try.underlying35 (hval 0 35 v0 rfl rfl)
  obtain ⟨row0, mx0⟩ : Bys W b0 len0 ∧ len0 ≤ 9223372036854775807 := by obtain ⟨fuel, hf⟩ := h0; exact open_bytes hf
  clear hA0 hval0
  refine (cats_walk b0 len0 cap0 W row0 mx0).mono fun e W' ⟨he, bel⟩ => ?_
  subst he
  exact ⟨_, rfl, _, _, _, [], _, [], hW', trodAll_mk1 (shut_bool Try.underlying4 _), (trodAll_cons_mk (Below.trod laidOut (by kernel_rfl) (of_decide_eq_true (by kernel_rfl)) k0 bel lt0) trodAll_mk0), rfl, bel.frame _, fun h => by cases h⟩
/-- THE STATEMENT -/
theorem FnCats_holds : Rows.FnCatsSaid :=
  OpenClaim.holds_of_wide 7 Try.f7 rfl rfl rfl rfl rfl rfl rfl ⟨rfl, rfl, rfl, rfl, rfl⟩ rfl rfl rfl rfl rfl (by kernel_rfl) Try.func7 (by kernel_rfl)
    (of_decide_eq_true (by kernel_rfl)) (by unfold Func.isWrapper; first | (rw [if_pos (by decide +kernel)]; kernel_rfl) | (rw [if_neg (by decide +kernel)]; exact ⟨rfl, rfl⟩))
    (fun os started H enc _ => FnCats_lifted os started H enc)

end Go.Proofs.Ytjhkaipceepjiaa
