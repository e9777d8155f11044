/- The reference's draws are functions of the code's bytes: a number. -/
import Derived.Test.YthganncfagddgaaDoorDetB
namespace Go.Proofs.YthganncfagddgaaDoor
set_option linter.unusedSimpArgs false
set_option linter.unusedVariables false
open Go.RowKit
attribute [local go_sem ↓] Go.wp_at_zero Go.wp_at_succ

def numList : List Int := [-1, 0, 127, 128, 255, 256, 16383, 16384, 65535, 65536, 562949953421311, 562949953421312, 999999999, 1000000000, -999999999, 9223372036854775807, -9223372036854775808]
def numF (l : List Nat) (s : St) : Int × St :=
  if (belowF l 8 s).1 = 0 then (numList.getD (belowF l 17 (belowF l 8 s).2).1.toNat 0, (belowF l 17 (belowF l 8 s).2).2)
  else if (belowF l 8 s).1 = 1 then ((belowF l 1000000000 (belowF l 8 s).2).1 * (belowF l 1000000000 (belowF l 1000000000 (belowF l 8 s).2).2).1, (belowF l 1000000000 (belowF l 1000000000 (belowF l 8 s).2).2).2)
  else if (belowF l 8 s).1 = 2 then (-(belowF l 100000 (belowF l 8 s).2).1, (belowF l 100000 (belowF l 8 s).2).2)
  else belowF l 70000 (belowF l 8 s).2
theorem numList_bd : ∀ k : Nat, -9223372036854775808 ≤ numList.getD k 0 ∧ numList.getD k 0 ≤ 9223372036854775807 := by
  intro k
  rw [List.getD_eq_getElem?_getD]
  cases h : numList[k]? with
  | none => simp
  | some z =>
    have := List.mem_of_getElem? h
    simp only [numList, List.mem_cons, List.not_mem_nil, or_false] at this
    simp only [Option.getD_some]
    omega
theorem mul_bd {a b : Int} (h1 : 0 ≤ a) (h2 : a < 1000000000) (h3 : 0 ≤ b) (h4 : b < 1000000000) : 0 ≤ a * b ∧ a * b ≤ 1000000000000000000 := by
  refine ⟨Int.mul_nonneg h1 h3, ?_⟩
  have h5 : a * b ≤ 1000000000 * b := Int.mul_le_mul_of_nonneg_right (by omega) h3
  omega
theorem numF_bd (l : List Nat) (s : St) : -9223372036854775808 ≤ (numF l s).1 ∧ (numF l s).1 ≤ 9223372036854775807 := by
  unfold numF
  split
  · exact numList_bd _
  · split
    · have h1 := belowF_bd l 1000000000 (belowF l 8 s).2 (by omega)
      have h2 := belowF_bd l 1000000000 (belowF l 1000000000 (belowF l 8 s).2).2 (by omega)
      have := mul_bd h1.1 h1.2 h2.1 h2.2
      dsimp only
      omega
    · split
      · have h1 := belowF_bd l 100000 (belowF l 8 s).2 (by omega)
        dsimp only
        omega
      · have h1 := belowF_bd l 70000 (belowF l 8 s).2 (by omega)
        omega
set_option maxHeartbeats 1600000 in
theorem l1Num_det (W : World) (g : Nat) (A : Option Addr) (n c : Nat) (l : List Nat) (s : St) (w : World) (hA : BysL W A l) (hl : l.length = n) (hn : n ≤ 1048576) (hd : Dt W g A n c s w) {v : Int} {s' : St} (hv : numF l s = (v, s')) :
    Calls Tryd.prog 24 #[.pointer (some ⟨g, 0, none⟩)] w (Ret (.int .i64 v) s' W g A n c w) := by
  have D := Lib.hid (fun m s w' h h1 h2 z s' h3 => l1Below_det W g A n c l m s w' hA hl hn h1 h2 h (z := z) (s' := s') h3)
  have E := Lib.hid (fun b s w' h h1 h2 z s' h3 => l1PickInt_det W g A n c l s numList b 17 17 w' hA hl hn h rfl (by omega) (by omega) h1 h2 (z := z) (s' := s') h3)
  have HD := Lib.hid hd
  clear hA hd hl
  obtain ⟨⟨z, s1⟩, h1⟩ : ∃ r, belowF l 8 s = r := ⟨_, rfl⟩
  obtain ⟨hz0, hz1⟩ := below_bd (by omega) h1
  have B1 := Lib.hid h1
  have HV := Lib.hid hv
  clear h1 hv
  go_enter Tryd.func24, Tryd.ntmps24
  go_wp2_with fail
  refine (D.out 8 _ _ HD.out (by omega) (by omega) _ _ B1.out).mono ?_
  rintro e w1 ⟨rfl, hD1, hg1⟩
  have H1 := Lib.hid hD1; have G1 := Lib.hid hg1
  clear hD1 hg1
  by_cases h0 : z = 0
  · subst h0
    obtain ⟨⟨k, s2⟩, h2⟩ : ∃ r, belowF l ((17 : Nat) : Int) s1 = r := ⟨_, rfl⟩
    have HF := Lib.hid (show numF l s = (numList.getD k.toNat 0, s2) by unfold numF; rw [B1.out]; simp only [if_pos]; rw [show (17 : Int) = ((17 : Nat) : Int) from rfl, h2])
    have B2 := Lib.hid h2
    clear h2
    go_wp2_with fail
    refine (E.out _ _ _ (H1.out.al _) (by have := H1.out.lt; omega) (lits w1 _ _ numList rfl) _ _ B2.out).mono ?_
    rintro e w2 ⟨rfl, hD2, hg2⟩
    have H2 := Lib.hid hD2; have G2 := Lib.hid (gr_trans (gr_alloc G1.out _) hg2)
    clear hD2 hg2
    have e1 := Lib.hid (show v = numList.getD k.toNat 0 from congrArg Prod.fst (HV.out.symm.trans HF.out))
    have e2 := Lib.hid (show s' = s2 from congrArg Prod.snd (HV.out.symm.trans HF.out))
    generalize numList.getD k.toNat 0 = u at e1 ⊢
    go_wp2
    go_ret
    rw [e1.out, e2.out]
    exact ⟨rfl, H2.out, G2.out⟩
  · have e0 : (z == (0 : Int)) = false := by simpa using h0
    by_cases h1 : z = 1
    · subst h1
      obtain ⟨⟨a, s2⟩, h2⟩ : ∃ r, belowF l 1000000000 s1 = r := ⟨_, rfl⟩
      obtain ⟨⟨b, s3⟩, h3⟩ : ∃ r, belowF l 1000000000 s2 = r := ⟨_, rfl⟩
      obtain ⟨ha0, ha1⟩ := below_bd (by omega) h2
      obtain ⟨hb0, hb1⟩ := below_bd (by omega) h3
      obtain ⟨hm0, hm1⟩ := mul_bd ha0 ha1 hb0 hb1
      have HF := Lib.hid (show numF l s = (a * b, s3) by unfold numF; rw [B1.out]; simp only [h2, h3]; rfl)
      have B2 := Lib.hid h2; have B3 := Lib.hid h3
      clear h2 h3
      have hw : IntKind.i64.wrap (a * b) = a * b := by simp only [IntKind.wrap_i64]; omega
      go_wp2_with fail
      refine (D.out 1000000000 _ _ H1.out (by omega) (by omega) _ _ B2.out).mono ?_
      rintro e w2 ⟨rfl, hD2, hg2⟩
      have H2 := Lib.hid hD2; have G2 := Lib.hid (gr_trans G1.out hg2)
      clear hD2 hg2
      go_wp2_with fail
      refine (D.out 1000000000 _ _ H2.out (by omega) (by omega) _ _ B3.out).mono ?_
      rintro e w3 ⟨rfl, hD3, hg3⟩
      have H3 := Lib.hid hD3; have G3 := Lib.hid (gr_trans G2.out hg3)
      clear hD3 hg3
      go_wp2
      go_ret
      rw [show v = a * b from congrArg Prod.fst (HV.out.symm.trans HF.out), show s' = s3 from congrArg Prod.snd (HV.out.symm.trans HF.out)]
      exact ⟨by first | rfl | simp [hw], H3.out, G3.out⟩
    · have e1 : (z == (1 : Int)) = false := by simpa using h1
      by_cases h2 : z = 2
      · subst h2
        obtain ⟨⟨a, s2⟩, h3⟩ : ∃ r, belowF l 100000 s1 = r := ⟨_, rfl⟩
        obtain ⟨ha0, ha1⟩ := below_bd (by omega) h3
        have HF := Lib.hid (show numF l s = (-a, s2) by unfold numF; rw [B1.out]; simp only [h3]; rfl)
        have B2 := Lib.hid h3
        clear h3
        go_wp2_with fail
        refine (D.out 100000 _ _ H1.out (by omega) (by omega) _ _ B2.out).mono ?_
        rintro e w2 ⟨rfl, hD2, hg2⟩
        have H2 := Lib.hid hD2; have G2 := Lib.hid (gr_trans G1.out hg2)
        clear hD2 hg2
        go_wp2
        go_ret
        rw [show v = -a from congrArg Prod.fst (HV.out.symm.trans HF.out), show s' = s2 from congrArg Prod.snd (HV.out.symm.trans HF.out)]
        exact ⟨by first | rfl | (simp [IntKind.wrap_i64]; omega), H2.out, G2.out⟩
      · have e2 : (z == (2 : Int)) = false := by simpa using h2
        obtain ⟨⟨a, s2⟩, h3⟩ : ∃ r, belowF l 70000 s1 = r := ⟨_, rfl⟩
        have HF := Lib.hid (show numF l s = (a, s2) by unfold numF; rw [B1.out]; simp only [if_neg h0, if_neg h1, if_neg h2, h3])
        have B2 := Lib.hid h3
        clear h3
        have h012 : 3 ≤ z := by omega
        clear h0 h1 h2
        go_wp2_with fail
        refine (D.out 70000 _ _ H1.out (by omega) (by omega) _ _ B2.out).mono ?_
        rintro e w2 ⟨rfl, hD2, hg2⟩
        have H2 := Lib.hid hD2; have G2 := Lib.hid (gr_trans G1.out hg2)
        clear hD2 hg2
        go_wp2
        go_ret
        rw [show v = a from congrArg Prod.fst (HV.out.symm.trans HF.out), show s' = s2 from congrArg Prod.snd (HV.out.symm.trans HF.out)]
        exact ⟨rfl, H2.out, G2.out⟩

end Go.Proofs.YthganncfagddgaaDoor
