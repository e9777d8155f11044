/- The reference's draws are functions of the code's bytes: a spoilt text. -/
import Derived.Test.YthganncfagddgaaDoorDetT
import Derived.Test.YthganncfagddgaaDoorFixed
import Derived.Deep.RegionHeld3
import Derived.Deep.RegionWith
namespace Go.Proofs.YthganncfagddgaaDoor
set_option linter.unusedSimpArgs false
set_option linter.unusedVariables false
open Go.RowKit
attribute [local go_sem ↓] Go.wp_at_zero Go.wp_at_succ

def byteAt (S : ByteArray) (k : Nat) : Int := ((S.data.toList.getD k 0).toNat : Int)
def spoilG (l : List Nat) (S : ByteArray) (k : Nat) (q : Int) (s : St) : ByteArray × St :=
  if q = 0 then (S.extract 0 k ++ S.extract (k + 1) S.size, s)
  else if q = 1 then (S.extract 0 k ++ oneB (UInt8.ofNat (byteF l s).1.toNat) ++ S.extract k S.size, (byteF l s).2)
  else if q = 2 then (S.extract 0 k, s)
  else (S.extract 0 k ++ oneB (UInt8.ofNat (IntKind.u8.wrap (bits .xor .i64 (byteAt S k) (1 + (belowF l 255 s).1))).toNat) ++ S.extract (k + 1) S.size, (belowF l 255 s).2)
def spoilF (l : List Nat) (S : ByteArray) (s : St) : ByteArray × St :=
  if S.size = 0 then (⟨(textF l ((3 : Nat) : Int) s).1.toArray⟩, (textF l ((3 : Nat) : Int) s).2)
  else spoilG l S (belowF l (S.size : Int) s).1.toNat (belowF l 4 (belowF l (S.size : Int) s).2).1 (belowF l 4 (belowF l (S.size : Int) s).2).2
theorem oneB_size (b : UInt8) : (oneB b).size = 1 := by simp [oneB, ByteArray.size]
theorem spoilF_size (l : List Nat) (S : ByteArray) (s : St) : (spoilF l S s).1.size ≤ S.size + 3 := by
  unfold spoilF
  split
  · have := textF_len l 3 s
    simp only [ByteArray.size, List.size_toArray]
    simp only [ByteArray.size] at *
    omega
  · unfold spoilG
    split
    · simp only [ByteArray.size_append, ByteArray.size_extract]; omega
    · split
      · simp only [ByteArray.size_append, ByteArray.size_extract, oneB_size]; omega
      · split
        · simp only [ByteArray.size_extract]; omega
        · simp only [ByteArray.size_append, ByteArray.size_extract, oneB_size]; omega
theorem conv_byte (w : World) (z : Nat) (hz : z < 256) : (convert 27 9 (.slice (some ⟨w.heap.size, 0, none⟩) 1 1)).run Tryd.prog (w.alloc (.cells #[.int .u8 (z : Int)] 5)) = .ok (.string (oneB (UInt8.ofNat z))) (w.alloc (.cells #[.int .u8 (z : Int)] 5)) := by
  have h := conv_one w z
  rw [show (z : Int) % 256 = (z : Int) by omega, show z % 256 = z by omega] at h
  exact h
set_option maxRecDepth 100000 in
set_option maxHeartbeats 3200000 in
theorem l1Spoil_det (W : World) (g : Nat) (A : Option Addr) (n c : Nat) (l : List Nat) (S : ByteArray) (s : St) (w : World) (hA : BysL W A l) (hl : l.length = n) (hn : n ≤ 1048576) (hd : Dt W g A n c s w) (hS : S.size ≤ 100) {T : ByteArray} {sT : St} (hT : spoilF l S s = (T, sT)) :
    Calls Tryd.prog 29 #[.pointer (some ⟨g, 0, none⟩), .string S] w (Ret (.string T) sT W g A n c w) := by
  have D := Lib.hid (fun m s w' h h1 h2 z s' h3 => l1Below_det W g A n c l m s w' hA hl hn h1 h2 h (z := z) (s' := s') h3)
  have B := Lib.hid (fun s w' h z s' h2 => l1Byte_of W g A n c l s w' hA hl hn h (z := z) (s' := s') h2)
  have X := Lib.hid (fun w' h T sT h2 => l1Text_det W g A n c l 3 s w' hA hl hn (by omega) h (T := T) (sT := sT) h2)
  have HD := Lib.hid hd
  have HT := Lib.hid hT
  clear hA hl hd hT
  by_cases hS0 : S.size = 0
  · have e0 : ((S.size : Int) == 0) = true := by rw [beq_iff_eq]; omega
    obtain ⟨⟨t, s1⟩, h1⟩ : ∃ r, textF l ((3 : Nat) : Int) s = r := ⟨_, rfl⟩
    have HF := Lib.hid (HT.out.symm.trans (show spoilF l S s = (⟨t.toArray⟩, s1) by unfold spoilF; rw [if_pos hS0, h1]))
    have H1 := Lib.hid h1
    clear h1 hS0
    go_enter Tryd.func29, Tryd.ntmps29
    go_wp2_with fail
    refine (X.out _ HD.out _ _ H1.out).mono ?_
    rintro e w1 ⟨rfl, hD1, hg1⟩
    have D1 := Lib.hid hD1; have G1 := Lib.hid hg1
    clear hD1 hg1
    go_wp2
    go_ret
    rw [show T = ⟨t.toArray⟩ from congrArg Prod.fst HF.out, show sT = s1 from congrArg Prod.snd HF.out]
    exact ⟨rfl, D1.out, G1.out⟩
  have e0 : ((S.size : Int) == 0) = false := by rw [beq_eq_false_iff_ne]; omega
  have hS1 : 0 < S.size := by omega
  obtain ⟨⟨k, s1⟩, h1⟩ : ∃ r, belowF l (S.size : Int) s = r := ⟨_, rfl⟩
  obtain ⟨⟨q, s2⟩, h2⟩ : ∃ r, belowF l 4 s1 = r := ⟨_, rfl⟩
  obtain ⟨hk0, hk1⟩ := below_bd (by omega) h1
  obtain ⟨hq0, hq1⟩ := below_bd (by omega) h2
  have H1 := Lib.hid h1; have H2 := Lib.hid h2
  clear h1 h2
  obtain ⟨k, rfl⟩ := Int.eq_ofNat_of_zero_le hk0
  have hkn : k < S.size := by omega
  have EF := Lib.hid (show spoilF l S s = spoilG l S k q s2 by
    unfold spoilF
    rw [if_neg hS0, H1.out]
    show spoilG l S (Int.toNat (k : Int)) (belowF l 4 s1).1 (belowF l 4 s1).2 = _
    rw [H2.out, Int.toNat_natCast])
  clear hS0
  go_enter Tryd.func29, Tryd.ntmps29
  go_wp2_with fail
  refine (D.out _ _ _ HD.out (by omega) (by omega) _ _ H1.out).mono ?_
  rintro e w1 ⟨rfl, hD1, hg1⟩
  have D1 := Lib.hid hD1; have G1 := Lib.hid hg1
  clear hD1 hg1
  go_wp2_with fail
  refine (D.out _ _ _ D1.out (by omega) (by omega) _ _ H2.out).mono ?_
  rintro e w2 ⟨rfl, hD2, hg2⟩
  have D2 := Lib.hid hD2; have G2 := Lib.hid (gr_trans G1.out hg2)
  clear hD2 hg2
  have hkc : (k : Int) ≤ (S.size : Int) := by omega
  have hkd : (0 : Int) ≤ (k : Int) := by omega
  have hkl : (k : Int) < (S.size : Int) := by omega
  have hk2 : (k : Int) + 1 ≤ (S.size : Int) := by omega
  have hk3 : (0 : Int) ≤ (k : Int) + 1 := by omega
  have hw1 : IntKind.i64.wrap ((k : Int) + 1) = (k : Int) + 1 := by simp only [IntKind.wrap_i64]; omega
  have z1 : (S.extract 0 k).size ≤ 100 := by rw [ByteArray.size_extract]; omega
  have z2 : (S.extract (k + 1) S.size).size ≤ 100 := by rw [ByteArray.size_extract]; omega
  have z3 : (S.extract k S.size).size ≤ 100 := by rw [ByteArray.size_extract]; omega
  have hk3' : (0 : Int) ≤ (k : Int) + 1 := by omega
  by_cases c0 : q = 0
  · subst c0
    have HF := Lib.hid (show (T, sT) = (S.extract 0 k ++ S.extract (k + 1) S.size, s2) by rw [← HT.out, EF.out]; rfl)
    clear EF
    go_wp2_with fail
    go_region_with (fail)
    all_goals
      go_wp2
      go_ret
      rw [show T = _ from congrArg Prod.fst HF.out, show sT = _ from congrArg Prod.snd HF.out]
      exact ⟨rfl, D2.out.bel ((Below.refl _ w2).drew), gr_trans G2.out (gr_below ((Below.refl _ w2).drew) _)⟩
  · have d0 : (q == (0 : Int)) = false := by simpa using c0
    by_cases c1 : q = 1
    · subst c1
      obtain ⟨⟨b, s3⟩, h3⟩ : ∃ r, byteF l s2 = r := ⟨_, rfl⟩
      obtain ⟨hb0, hb1⟩ := byte_bd h3
      obtain ⟨b, rfl⟩ := Int.eq_ofNat_of_zero_le hb0
      have HF := Lib.hid (show (T, sT) = (S.extract 0 k ++ oneB (UInt8.ofNat b) ++ S.extract k S.size, s3) by
        rw [← HT.out, EF.out]
        show (S.extract 0 k ++ oneB (UInt8.ofNat (byteF l s2).1.toNat) ++ S.extract k S.size, (byteF l s2).2) = _
        rw [h3, Int.toNat_natCast])
      have H3 := Lib.hid h3
      have hb8 : IntKind.u8.wrap (b : Int) = (b : Int) := by simp only [IntKind.wrap_u8]; omega
      have zo := oneB_size (UInt8.ofNat b)
      clear EF h3
      have hcb := Lib.hid (fun w => conv_byte w b (by omega))
      generalize oneB (UInt8.ofNat b) = ob at *
      go_wp2_with fail
      go_region_with ((go_at_call 35; refine (B.out _ _ (D2.out.bel ((Below.refl _ w2).drew)) _ _ H3.out).mono ?_; rintro e w3 ⟨rfl, hD3, hg3⟩; have D3 := Lib.hid hD3; have G3 := Lib.hid (gr_trans (gr_trans G2.out (gr_below ((Below.refl _ w2).drew) _)) hg3); have hcv := hcb.out w3; clear hD3 hg3))
      all_goals
        go_wp2
        go_ret
        rw [show T = _ from congrArg Prod.fst HF.out, show sT = _ from congrArg Prod.snd HF.out]
        exact ⟨rfl, D3.out.al _, gr_alloc G3.out _⟩
    · by_cases c2 : q = 2
      · subst c2
        have HF := Lib.hid (show (T, sT) = (S.extract 0 k, s2) by rw [← HT.out, EF.out]; rfl)
        clear EF
        go_wp2
        go_ret
        rw [show T = _ from congrArg Prod.fst HF.out, show sT = _ from congrArg Prod.snd HF.out]
        exact ⟨rfl, D2.out, G2.out⟩
      · have d1 : (q == (1 : Int)) = false := by simpa using c1
        have d2 : (q == (2 : Int)) = false := by simpa using c2
        obtain ⟨⟨b, s3⟩, h3⟩ : ∃ r, belowF l 255 s2 = r := ⟨_, rfl⟩
        obtain ⟨hb0, hb1⟩ := below_bd (by omega) h3
        have hm256 := UInt8.toNat_lt S[k]
        have hbk : byteAt S k = (S[k].toNat : Int) := by
          unfold byteAt
          rw [List.getD_eq_getElem?_getD, List.getElem?_eq_getElem (by simpa using hkn)]
          rfl
        generalize hmk : S[k].toNat = m at *
        obtain ⟨y, hy, hye⟩ : ∃ y : Nat, y < 256 ∧ IntKind.u8.wrap (bits .xor .i64 (m : Int) (1 + b)) = (y : Int) := by
          refine ⟨(IntKind.u8.wrap (bits .xor .i64 (m : Int) (1 + b))).toNat, ?_, ?_⟩
          · rw [IntKind.wrap_u8]; omega
          · rw [IntKind.wrap_u8]; omega
        have HF := Lib.hid (show (T, sT) = (S.extract 0 k ++ oneB (UInt8.ofNat y) ++ S.extract (k + 1) S.size, s3) by
          rw [← HT.out, EF.out]
          unfold spoilG
          rw [if_neg c0, if_neg c1, if_neg c2, h3, hbk, hye, Int.toNat_natCast])
        have H3 := Lib.hid h3
        have hwm : IntKind.i64.wrap (m : Int) = (m : Int) := by simp only [IntKind.wrap_i64]; omega
        have hwb : IntKind.i64.wrap (1 + b) = 1 + b := by simp only [IntKind.wrap_i64]; omega
        have zo := oneB_size (UInt8.ofNat y)
        clear EF h3 hbk
        have hcb := Lib.hid (fun w => conv_byte w y hy)
        generalize oneB (UInt8.ofNat y) = ob at *
        go_wp2_with fail
        go_region_with ((go_at_call 33; refine (D.out _ _ _ (D2.out.bel ((Below.refl _ w2).drew)) (by omega) (by omega) _ _ H3.out).mono ?_; rintro e w3 ⟨rfl, hD3, hg3⟩; have D3 := Lib.hid hD3; have G3 := Lib.hid (gr_trans (gr_trans G2.out (gr_below ((Below.refl _ w2).drew) _)) hg3); have hcv := hcb.out w3; clear hD3 hg3))
        all_goals
          go_wp2
          go_ret
          rw [show T = _ from congrArg Prod.fst HF.out, show sT = _ from congrArg Prod.snd HF.out]
          exact ⟨rfl, D3.out.al _, gr_alloc G3.out _⟩

end Go.Proofs.YthganncfagddgaaDoor
