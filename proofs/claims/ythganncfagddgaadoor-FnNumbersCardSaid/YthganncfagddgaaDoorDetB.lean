/- The reference's draws are functions of the code's bytes: what is below a limit; the cursor at the start; a number. -/
import Derived.Test.YthganncfagddgaaDoorDet
namespace Go.Proofs.YthganncfagddgaaDoor
set_option linter.unusedSimpArgs false
set_option linter.unusedVariables false
open Go.RowKit
attribute [local go_sem ↓] Go.wp_at_zero Go.wp_at_succ

theorem l1Byte_of (W : World) (g : Nat) (A : Option Addr) (n c : Nat) (l : List Nat) (s : St) (w : World) (hA : BysL W A l) (hl : l.length = n) (hn : n ≤ 1048576) (hd : Dt W g A n c s w) {z : Int} {s' : St} (h : byteF l s = (z, s')) :
    Calls Tryd.prog 35 #[.pointer (some ⟨g, 0, none⟩)] w (Ret (.int .i64 z) s' W g A n c w) := by
  have := l1Byte_det W g A n c l s w hA hl hn hd
  rwa [h] at this
theorem byte_bd {l : List Nat} {s s' : St} {z : Int} (h : byteF l s = (z, s')) : 0 ≤ z ∧ z < 256 := by
  have := byteF_bd l s
  rwa [h] at this
def belowF (l : List Nat) (m : Int) (s : St) : Int × St :=
  if m ≤ 256 then ((byteF l s).1 % m, (byteF l s).2)
  else (((byteF l s).1 * 16777216 + (byteF l (byteF l s).2).1 * 65536 + (byteF l (byteF l (byteF l s).2).2).1 * 256 + (byteF l (byteF l (byteF l (byteF l s).2).2).2).1) % m, (byteF l (byteF l (byteF l (byteF l s).2).2).2).2)
theorem belowF_small {l : List Nat} {m z : Int} {s s' : St} (hm : m ≤ 256) (h : byteF l s = (z, s')) : belowF l m s = (z % m, s') := by
  unfold belowF; rw [if_pos hm, h]
theorem belowF_great {l : List Nat} {m z1 z2 z3 z4 : Int} {s s1 s2 s3 s4 : St} (hm : ¬ m ≤ 256) (h1 : byteF l s = (z1, s1)) (h2 : byteF l s1 = (z2, s2)) (h3 : byteF l s2 = (z3, s3)) (h4 : byteF l s3 = (z4, s4)) :
    belowF l m s = ((z1 * 16777216 + z2 * 65536 + z3 * 256 + z4) % m, s4) := by
  unfold belowF; rw [if_neg hm]; simp only [h1, h2, h3, h4]
theorem belowF_bd (l : List Nat) (m : Int) (s : St) (hm : 0 < m) : 0 ≤ (belowF l m s).1 ∧ (belowF l m s).1 < m := by
  unfold belowF
  split
  · exact ⟨Int.emod_nonneg _ (by omega), Int.emod_lt_of_pos _ hm⟩
  · exact ⟨Int.emod_nonneg _ (by omega), Int.emod_lt_of_pos _ hm⟩
theorem below_bd {l : List Nat} {m z : Int} {s s' : St} (hm : 0 < m) (h : belowF l m s = (z, s')) : 0 ≤ z ∧ z < m := by
  have := belowF_bd l m s hm
  rwa [h] at this
set_option maxHeartbeats 3200000 in
theorem l1Below_det (W : World) (g : Nat) (A : Option Addr) (n c : Nat) (l : List Nat) (m : Int) (s : St) (w : World) (hA : BysL W A l) (hl : l.length = n) (hn : n ≤ 1048576) (hm0 : 0 < m) (hm : m ≤ 2000000000) (hd : Dt W g A n c s w) {z : Int} {s' : St} (hz : belowF l m s = (z, s')) :
    Calls Tryd.prog 33 #[.pointer (some ⟨g, 0, none⟩), .int .i64 m] w (Ret (.int .i64 z) s' W g A n c w) := by
  have C := Lib.hid (fun s w' h z s' h2 => l1Byte_of W g A n c l s w' hA hl hn h (z := z) (s' := s') h2)
  have HD := Lib.hid hd
  obtain ⟨⟨z1, s1⟩, h1⟩ : ∃ r, byteF l s = r := ⟨_, rfl⟩
  obtain ⟨b1, b1'⟩ := byte_bd h1
  clear hA hd hl
  by_cases h256 : m ≤ 256
  · have EZ := Lib.hid (hz.symm.trans (belowF_small h256 h1))
    have H1 := Lib.hid h1
    clear h1 hz
    go_enter Tryd.func33, Tryd.ntmps33
    go_wp2_with fail
    refine (C.out _ _ HD.out _ _ H1.out).mono ?_
    rintro e w1 ⟨rfl, hD1, hg1⟩
    have D1 := Lib.hid hD1; have G1 := Lib.hid hg1
    clear hD1 hg1
    go_wp2
    go_ret
    rw [show z = z1 % m from congrArg Prod.fst EZ.out, show s' = s1 from congrArg Prod.snd EZ.out]
    exact ⟨rfl, D1.out, G1.out⟩
  · have h257 : (256 : Int) < m := by omega
    obtain ⟨⟨z2, s2⟩, h2⟩ : ∃ r, byteF l s1 = r := ⟨_, rfl⟩
    obtain ⟨⟨z3, s3⟩, h3⟩ : ∃ r, byteF l s2 = r := ⟨_, rfl⟩
    obtain ⟨⟨z4, s4⟩, h4⟩ : ∃ r, byteF l s3 = r := ⟨_, rfl⟩
    obtain ⟨b2, b2'⟩ := byte_bd h2
    obtain ⟨b3, b3'⟩ := byte_bd h3
    obtain ⟨b4, b4'⟩ := byte_bd h4
    have EZ := Lib.hid (hz.symm.trans (belowF_great h256 h1 h2 h3 h4))
    have H1 := Lib.hid h1; have H2 := Lib.hid h2; have H3 := Lib.hid h3; have H4 := Lib.hid h4
    clear h1 h2 h3 h4 hz
    clear h256
    go_enter Tryd.func33, Tryd.ntmps33
    go_wp2_with fail
    refine (C.out _ _ HD.out _ _ H1.out).mono ?_
    rintro e w1 ⟨rfl, hD1, hg1⟩
    have D1 := Lib.hid hD1; have G1 := Lib.hid hg1
    clear hD1 hg1
    go_wp2_with fail
    refine (C.out _ _ D1.out _ _ H2.out).mono ?_
    rintro e w2 ⟨rfl, hD2, hg2⟩
    have D2 := Lib.hid hD2; have G2 := Lib.hid (gr_trans G1.out hg2)
    clear hD2 hg2
    go_wp2_with fail
    refine (C.out _ _ D2.out _ _ H3.out).mono ?_
    rintro e w3 ⟨rfl, hD3, hg3⟩
    have D3 := Lib.hid hD3; have G3 := Lib.hid (gr_trans G2.out hg3)
    clear hD3 hg3
    go_wp2_with fail
    refine (C.out _ _ D3.out _ _ H4.out).mono ?_
    rintro e w4 ⟨rfl, hD4, hg4⟩
    have D4 := Lib.hid hD4; have G4 := Lib.hid (gr_trans G3.out hg4)
    clear hD4 hg4
    go_wp2
    go_ret
    rw [show z = (z1 * 16777216 + z2 * 65536 + z3 * 256 + z4) % m from congrArg Prod.fst EZ.out, show s' = s4 from congrArg Prod.snd EZ.out]
    exact ⟨rfl, D4.out, G4.out⟩
set_option maxHeartbeats 800000 in
theorem l1Once_det (W : World) (g : Nat) (A : Option Addr) (n c : Nat) (l : List Nat) (m : Int) (s : St) (w : World) (hA : BysL W A l) (hl : l.length = n) (hn : n ≤ 1048576) (hm0 : 0 < m) (hm : m ≤ 2000000000) (hd : Dt W g A n c s w) {z : Int} {s' : St} (hz : belowF l m s = (z, s')) :
    Calls Tryd.prog 28 #[.pointer (some ⟨g, 0, none⟩), .int .i64 m] w (Ret (.bool (z == 0)) s' W g A n c w) := by
  have C := Lib.hid (fun w' h => l1Below_det W g A n c l m s w' hA hl hn hm0 hm h hz)
  have HD := Lib.hid hd
  clear hA hd hz hl
  go_enter Tryd.func28, Tryd.ntmps28
  go_wp2_with fail
  refine (C.out _ HD.out).mono ?_
  rintro e w1 ⟨rfl, hD1, hg1⟩
  have H1 := Lib.hid hD1; have G1 := Lib.hid hg1
  clear hD1 hg1
  cases hz : (z == (0 : Int))
  · have hz2 : ¬ z = 0 := by simpa using hz
    go_wp2
    go_ret
    exact ⟨by first | rfl | simp [hz2], H1.out, G1.out⟩
  · have hz2 : z = 0 := by simpa using hz
    subst hz2
    go_wp2
    go_ret
    exact ⟨by first | rfl | simp, H1.out, G1.out⟩
def newF (l : List Nat) : Nat → Int
  | 0 => 10101 + (l.length : Int)
  | k + 1 => bits .and .i64 (newF l k * 131 + ((l.getD k 0 : Nat) : Int) + 7) 1073741823
def startF (l : List Nat) : St := (0, newF l (if l.length < 4000 then l.length else 4000))
set_option maxHeartbeats 3200000 in
theorem l1New_det (A : Option Addr) (n c : Nat) (l : List Nat) (w : World) (hA : BysL w A l) (hl : l.length = n) (hn : n ≤ 1048576) :
    Calls Tryd.prog 23 #[.slice A n c] w (fun e w' => ∃ g, e = .returned (.pointer (some ⟨g, 0, none⟩)) ∧ Dt w g A n c (startF l) w') := by
  have HA := Lib.hid hA; have HL := Lib.hid hl
  clear hA hl
  go_enter Tryd.func23, Tryd.ntmps23
  go_wp2
  go_loop [3, 4] (fun hv iv => ∃ (k : Nat) (z : Int), k ≤ n ∧ k ≤ 4000 ∧ iv = .int .i64 k ∧ hv = .int .i64 z ∧ 0 ≤ z ∧ z ≤ 2000000000 ∧ Hid (newF l k = z)) (fun _ iv => n - (intOf iv).toNat)
  case atStart => exact ⟨0, _, Nat.zero_le _, Nat.zero_le _, rfl, rfl, by omega, by omega, Lib.hid (by simp only [newF]; have := HL.out; omega)⟩
  case round =>
    obtain ⟨k, z, hk, hk4, rfl, rfl, hz0, hz1, hF⟩ := hrel
    by_cases hlt : k < n
    · obtain ⟨b, off, z1, rfl, hbl, hze, hz1', hcz⟩ := HA.out.at_ (k := k) (by have := HL.out; omega)
      have EZ := Lib.hid (show l.getD k 0 = z1 by rw [List.getD_eq_getElem?_getD, hze]; rfl)
      clear hze
      have hlt2 : (k : Int) < (n : Int) := by omega
      have hk0 : (0 : Int) ≤ (k : Int) := by omega
      by_cases h4 : k < 4000
      · have h42 : (k : Int) < 4000 := by omega
        have h43 : decide ((k : Int) < 4000) = true := decide_eq_true h42
        go_wp2
        obtain ⟨z2, hz2, e2⟩ := and_le (z * 131 + (z1 : Int) + 7) 1073741823 (by omega)
        have e3 : bits BinOp.and IntKind.i64 (z * 131 + (z1 : Int) + 7) 1073741823 = (z2 : Int) := e2
        exact ⟨⟨k + 1, z2, by omega, by omega, by go_num, by rw [e3], by omega, by omega, Lib.hid (by simp only [newF]; rw [hF.out, EZ.out, e3])⟩, by simp [intOf]; omega⟩
      · have h42 : (4000 : Int) ≤ (k : Int) := by omega
        have h43 : decide ((k : Int) < 4000) = false := decide_eq_false (by omega)
        obtain rfl : k = 4000 := by omega
        have HF := Lib.hid (show startF l = (0, z) by unfold startF; rw [if_neg (by have := HL.out; omega), hF.out])
        go_wp2
        go_ret
        rw [HF.out]
        exact ⟨_, rfl, ⟨(Below.refl _ _).alloc (Nat.le_refl _) _, Nat.le_refl _, 0, z, Nat.zero_le _, heap_alloc_new w _⟩, Nat.zero_le _, heap_alloc_new w _⟩
    · obtain rfl : k = n := by omega
      have HF := Lib.hid (show startF l = (0, z) by
        unfold startF
        by_cases h4 : l.length < 4000
        · rw [if_pos h4, HL.out, hF.out]
        · rw [if_neg h4, show (4000 : Nat) = k by have := HL.out; omega, hF.out])
      go_wp2
      go_ret
      rw [HF.out]
      exact ⟨_, rfl, ⟨(Below.refl _ _).alloc (Nat.le_refl _) _, Nat.le_refl _, 0, z, Nat.zero_le _, heap_alloc_new w _⟩, Nat.zero_le _, heap_alloc_new w _⟩
set_option maxHeartbeats 1600000 in
theorem l1PickInt_det (W : World) (g : Nat) (A : Option Addr) (n c : Nat) (l : List Nat) (s : St) (xs : List Int) (b m cap : Nat) (w : World) (hA : BysL W A l) (hln : l.length = n) (hn : n ≤ 1048576) (hd : Dt W g A n c s w) (hm : xs.length = m) (h0 : 0 < m) (hl : m ≤ 256) (hbg : b ≠ g)
    (hx : ∀ k z, xs[k]? = some z → w.cell? ⟨b, k, none⟩ = some (.int .i64 z)) {z : Int} {s' : St} (hz : belowF l (m : Int) s = (z, s')) :
    Calls Tryd.prog 34 #[.pointer (some ⟨g, 0, none⟩), .slice (some ⟨b, 0, none⟩) m cap] w (Ret (.int .i64 (xs.getD z.toNat 0)) s' W g A n c w) := by
  have C := Lib.hid (fun w' h => l1Below_det W g A n c l (m : Int) s w' hA hln hn (by omega) (by omega) h hz)
  have HD := Lib.hid hd; have HX := Lib.hid hx; have HM := Lib.hid hm; have HB := Lib.hid hbg
  obtain ⟨hz0, hz1⟩ := below_bd (by omega) hz
  clear hA hd hx hm hbg hz hln
  go_enter Tryd.func34, Tryd.ntmps34
  go_wp2_with fail
  refine (C.out _ HD.out).mono ?_
  rintro e w1 ⟨rfl, hD1, hg1⟩
  have H1 := Lib.hid hD1; have G1 := Lib.hid hg1
  clear hD1 hg1 C
  obtain ⟨k, rfl⟩ := Int.eq_ofNat_of_zero_le hz0
  have hk : k < m := by omega
  have ex := Lib.hid (List.getElem?_eq_getElem (l := xs) (i := k) (by have := HM.out; omega))
  generalize xs[k]'(by have := HM.out; omega) = z at *
  have hg : Hid (xs.getD (Int.toNat (k : Int)) 0 = z) := Lib.hid (by rw [show Int.toNat (k : Int) = k by omega, List.getD_eq_getElem?_getD, ex.out]; rfl)
  have hc := HX.out k z ex.out
  have hcell : w1.cell? ⟨b, k, none⟩ = some (.int .i64 z) := (World.cell?_of_block (G1.out.block b (lt_of_cell hc) (fun e => HB.out (by injection e)))).trans hc
  clear hc
  go_wp2
  go_ret
  rw [hg.out]
  exact ⟨rfl, H1.out, G1.out⟩

end Go.Proofs.YthganncfagddgaaDoor
