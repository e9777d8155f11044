/- The reference's draws are functions of the code's bytes: a text. -/
import Derived.Test.YthganncfagddgaaDoorDetN
import Derived.Test.YthganncfagddgaaDoorHex
namespace Go.Proofs.YthganncfagddgaaDoor
set_option linter.unusedSimpArgs false
set_option linter.unusedVariables false
open Go.RowKit
attribute [local go_sem ↓] Go.wp_at_zero Go.wp_at_succ

def styleF (st b : Int) : Int := if st = 1 then b % 2 else if st = 2 then 97 + b % 4 else b
theorem styleF_bd {st b : Int} (h0 : 0 ≤ b) (h1 : b < 256) : 0 ≤ styleF st b ∧ styleF st b < 256 := by
  unfold styleF
  split
  · omega
  · split <;> omega
def textL (l : List Nat) (st : Int) : Nat → St → List UInt8 × St
  | 0, s => ([], s)
  | k + 1, s => (UInt8.ofNat (styleF st (byteF l s).1).toNat :: (textL l st k (byteF l s).2).1, (textL l st k (byteF l s).2).2)
theorem textL_len (l : List Nat) (st : Int) : ∀ k s, (textL l st k s).1.length = k
  | 0, _ => rfl
  | k + 1, s => by simp [textL, textL_len l st k]
def textF (l : List Nat) (most : Int) (s : St) : List UInt8 × St := textL l (belowF l 4 s).1 (belowF l (most + 1) (belowF l 4 s).2).1.toNat (belowF l (most + 1) (belowF l 4 s).2).2
theorem textF_len (l : List Nat) (most : Nat) (s : St) : (textF l (most : Int) s).1.length ≤ most := by
  unfold textF
  rw [textL_len]
  have := belowF_bd l ((most : Int) + 1) (belowF l 4 s).2 (by omega)
  omega
theorem gr_app {a x w1 : World} {g : Nat} {r : Option Nat} (h : a.grownBy x (some g)) (hg : x.grownBy w1 r) (hr : ∀ k, r = some k → a.heap.size ≤ k) : a.grownBy w1 (some g) :=
  ⟨hg.os.trans h.os, hg.tape.trans h.tape, hg.output.trans h.output, Nat.le_trans h.size hg.size, fun i hi hne => (hg.block i (Nat.lt_of_lt_of_le hi h.size) (fun e => by have := hr i e.symm; omega)).trans (h.block i hi hne)⟩
set_option maxRecDepth 100000 in
set_option maxHeartbeats 6400000 in
theorem l1Text_det (W : World) (g : Nat) (A : Option Addr) (n c : Nat) (l : List Nat) (most : Nat) (s : St) (w : World) (hA : BysL W A l) (hl : l.length = n) (hn : n ≤ 1048576) (hm : most ≤ 40) (hd : Dt W g A n c s w) {T : List UInt8} {sT : St} (hT : textF l (most : Int) s = (T, sT)) :
    Calls Tryd.prog 25 #[.pointer (some ⟨g, 0, none⟩), .int .i64 (most : Int)] w (Ret (.string ⟨T.toArray⟩) sT W g A n c w) := by
  obtain ⟨i0, hi, hz0, hz1, hz2⟩ := info_parts byte_info
  have D := Lib.hid (fun m s w' h h1 h2 z s' h3 => l1Below_det W g A n c l m s w' hA hl hn h1 h2 h (z := z) (s' := s') h3)
  have B := Lib.hid (fun s w' h z s' h2 => l1Byte_of W g A n c l s w' hA hl hn h (z := z) (s' := s') h2)
  have hgl := hd.lt
  have hWw := hd.dr.below.size
  have HD := Lib.hid (hd.al (.cells #[] 5))
  have HO := Lib.hid (ownsRow_made w w.heap.size 5 (Nat.le_refl _))
  have HG := Lib.hid (gr_alloc (gr_refl w (some g)) (.cells #[] 5))
  clear hA hd hl
  obtain ⟨⟨st, s1⟩, h1⟩ : ∃ r, belowF l 4 s = r := ⟨_, rfl⟩
  obtain ⟨⟨K, s2⟩, h2⟩ : ∃ r, belowF l ((most : Int) + 1) s1 = r := ⟨_, rfl⟩
  obtain ⟨hst0, hst1⟩ := below_bd (by omega) h1
  obtain ⟨hK0, hK1⟩ := below_bd (by omega) h2
  have HT := Lib.hid (show textL l st K.toNat s2 = (T, sT) by rw [← hT]; unfold textF; rw [h1, h2])
  have hwm : IntKind.i64.wrap ((most : Int) + 1) = (most : Int) + 1 := by simp only [IntKind.wrap_i64]; omega
  have H1 := Lib.hid h1; have H2 := Lib.hid h2
  clear h1 h2 hT
  go_enter Tryd.func25, Tryd.ntmps25
  go_wp2_with fail
  refine (D.out 4 _ _ HD.out (by omega) (by omega) _ _ H1.out).mono ?_
  rintro e w1 ⟨rfl, hD1, hg1⟩
  have D1 := Lib.hid hD1; have G1 := Lib.hid (gr_trans HG.out hg1); have O1 := Lib.hid (ownsRow_gr HO.out hg1 hgl)
  clear hD1 hg1
  go_wp2_with fail
  refine (D.out _ _ _ D1.out (by omega) (by omega) _ _ H2.out).mono ?_
  rintro e w2 ⟨rfl, hD2, hg2⟩
  have D2 := Lib.hid hD2; have G2 := Lib.hid (gr_trans G1.out hg2); have O2 := Lib.hid (ownsRow_gr O1.out hg2 hgl)
  clear hD2 hg2 D1 G1 O1 HO HD HG hwm
  obtain ⟨k0, rfl⟩ := Int.eq_ofNat_of_zero_le hK0
  have HT := Lib.hid (show textL l st k0 s2 = (T, sT) from HT.out)
  go_wp2
  go_loopw [5, 7] (fun v nv wr => ∃ (k : Nat) (s1 : St) (a : List UInt8), nv = .int .i64 k ∧ a.length + k ≤ 40 ∧ Hid (wr.ownsRow w.heap.size 5 1 v a.length (a.map B8)) ∧ Hid (Dt W g A n c s1 wr) ∧ Hid (w.grownBy wr (some g)) ∧ Hid (a ++ (textL l st k s1).1 = T ∧ (textL l st k s1).2 = sT)) (fun _ nv _ => (intOf nv).toNat)
  case atStart => exact ⟨k0, s2, [], rfl, by simp; omega, O2.out, D2.out, G2.out, by rw [HT.out]; exact ⟨rfl, rfl⟩⟩
  case round =>
    obtain ⟨k, s3, a, rfl, hk, hO, hDt, hG, hTT⟩ := hrel
    by_cases hk0 : 0 < k
    · obtain ⟨k, rfl⟩ : ∃ j, k = j + 1 := ⟨k - 1, by omega⟩
      have hkp : (0 : Int) < ((k + 1 : Nat) : Int) := by omega
      obtain ⟨⟨z, s4⟩, h3⟩ : ∃ r, byteF l s3 = r := ⟨_, rfl⟩
      obtain ⟨hz0', hz1'⟩ := byte_bd h3
      obtain ⟨hy0, hy1⟩ := styleF_bd (st := st) hz0' hz1'
      obtain ⟨y, hy⟩ := Int.eq_ofNat_of_zero_le hy0
      rw [hy] at hy0 hy1
      have HTT := Lib.hid (show (a ++ [UInt8.ofNat y]) ++ (textL l st k s4).1 = T ∧ (textL l st k s4).2 = sT by
        have := hTT.out
        simp only [textL, h3, hy] at this
        rw [show Int.toNat (y : Int) = y by omega] at this
        simpa using this)
      have HY := Lib.hid hy
      have H3 := Lib.hid h3
      clear h3 hy hTT
      have hw8 : IntKind.u8.wrap (y : Int) = (y : Int) := by simp only [IntKind.wrap_u8]; omega
      have hB8 := Lib.hid (show Value.int .u8 (y : Int) = B8 (UInt8.ofNat y) by rw [B8, show (UInt8.ofNat y).toNat = y by simp; omega])
      go_wp2_with fail
      refine (B.out _ _ hDt.out _ _ H3.out).mono ?_
      rintro e w3 ⟨rfl, hD3, hg3⟩
      have D3 := Lib.hid hD3; have G3 := Lib.hid (gr_trans hG.out hg3); have O3 := Lib.hid (ownsRow_gr hO.out hg3 hgl)
      clear hD3 hg3 hDt hG hO
      have hsz3 := D3.out.dr.below.size
      have hsz4 := G3.out.size
      by_cases c1 : st = 1
      · subst c1
        have e1 : z % 2 = (y : Int) := by have := HY.out; simpa [styleF] using this
        have e2 : z.tmod 2 = (y : Int) := by rw [Int.tmod_eq_emod_of_nonneg hz0']; exact e1
        go_wp2_with (at_builtin; refine wpList_append_own _ rfl _ _ 27 rfl w.heap.size 5 i0 (.int .u8 0) 1 1 Tryd.underlying27 hi hz0 hz1 hz2 rfl (by decide) _ _ _ rfl (by exact O3.out.alloc _) ⟨w3.heap.size, 0, none⟩ 1 1 [.int .u8 (y : Int)] rfl rfl ?c1 ?c2 ?c3 ?c4 ?c5 ?_)
        case c1 =>
          intro j u hj
          match j, hj with
          | 0, hj => simp at hj; subst hj; simp [Addr.add, *]
        case c2 => intro u hu; simp at hu; subst hu; rfl
        case c3 => unfold maxLen; omega
        case c4 => omega
        case c5 => simp; omega
        intro v' w4 hown' hgrow _
        have D4 := Lib.hid ((D3.out.al _).app (O3.out.alloc _) hgrow hgl hWw)
        have G4 := Lib.hid (gr_app (gr_alloc G3.out _) hgrow (fun b hb => ((O3.out.alloc (.cells #[.int .u8 (y : Int)] 5)).lt b hb).1))
        have O4 := Lib.hid (show w4.ownsRow w.heap.size 5 1 v' (a ++ [UInt8.ofNat y]).length ((a ++ [UInt8.ofNat y]).map B8) by rw [List.length_append, List.map_append, List.map_cons, ← hB8.out]; exact hown')
        clear hown' hgrow
        go_wp2
        exact ⟨⟨k, s4, a ++ [UInt8.ofNat y], by go_num, by simp; omega, O4, D4, G4, HTT⟩, by simp [intOf]⟩
      · have d1 : (st == (1 : Int)) = false := by simpa using c1
        by_cases c2 : st = 2
        · subst c2
          have e1 : 97 + z % 4 = (y : Int) := by have := HY.out; simpa [styleF] using this
          have e2 : z.tmod 4 = z % 4 := Int.tmod_eq_emod_of_nonneg hz0'
          have e3 : IntKind.i64.wrap (97 + z % 4) = (y : Int) := by simp only [IntKind.wrap_i64]; omega
          have e4 : wrap64 (97 + z % 4) = (y : Int) := by simp only [wrap64]; omega
          go_wp2_with (at_builtin; refine wpList_append_own _ rfl _ _ 27 rfl w.heap.size 5 i0 (.int .u8 0) 1 1 Tryd.underlying27 hi hz0 hz1 hz2 rfl (by decide) _ _ _ rfl (by exact O3.out.alloc _) ⟨w3.heap.size, 0, none⟩ 1 1 [.int .u8 (y : Int)] rfl rfl ?c1 ?c2 ?c3 ?c4 ?c5 ?_)
          case c1 =>
            intro j u hj
            match j, hj with
            | 0, hj => simp at hj; subst hj; simp [Addr.add, *]
          case c2 => intro u hu; simp at hu; subst hu; rfl
          case c3 => unfold maxLen; omega
          case c4 => omega
          case c5 => simp; omega
          intro v' w4 hown' hgrow _
          have D4 := Lib.hid ((D3.out.al _).app (O3.out.alloc _) hgrow hgl hWw)
          have G4 := Lib.hid (gr_app (gr_alloc G3.out _) hgrow (fun b hb => ((O3.out.alloc (.cells #[.int .u8 (y : Int)] 5)).lt b hb).1))
          have O4 := Lib.hid (show w4.ownsRow w.heap.size 5 1 v' (a ++ [UInt8.ofNat y]).length ((a ++ [UInt8.ofNat y]).map B8) by rw [List.length_append, List.map_append, List.map_cons, ← hB8.out]; exact hown')
          clear hown' hgrow
          go_wp2
          exact ⟨⟨k, s4, a ++ [UInt8.ofNat y], by go_num, by simp; omega, O4, D4, G4, HTT⟩, by simp [intOf]⟩
        · have d2 : (st == (2 : Int)) = false := by simpa using c2
          obtain rfl : z = (y : Int) := by have := HY.out; simpa [styleF, c1, c2] using this
          go_wp2_with (at_builtin; refine wpList_append_own _ rfl _ _ 27 rfl w.heap.size 5 i0 (.int .u8 0) 1 1 Tryd.underlying27 hi hz0 hz1 hz2 rfl (by decide) _ _ _ rfl (by exact O3.out.alloc _) ⟨w3.heap.size, 0, none⟩ 1 1 [.int .u8 (y : Int)] rfl rfl ?c1 ?c2 ?c3 ?c4 ?c5 ?_)
          case c1 =>
            intro j u hj
            match j, hj with
            | 0, hj => simp at hj; subst hj; simp [Addr.add, *]
          case c2 => intro u hu; simp at hu; subst hu; rfl
          case c3 => unfold maxLen; omega
          case c4 => omega
          case c5 => simp; omega
          intro v' w4 hown' hgrow _
          have D4 := Lib.hid ((D3.out.al _).app (O3.out.alloc _) hgrow hgl hWw)
          have G4 := Lib.hid (gr_app (gr_alloc G3.out _) hgrow (fun b hb => ((O3.out.alloc (.cells #[.int .u8 (y : Int)] 5)).lt b hb).1))
          have O4 := Lib.hid (show w4.ownsRow w.heap.size 5 1 v' (a ++ [UInt8.ofNat y]).length ((a ++ [UInt8.ofNat y]).map B8) by rw [List.length_append, List.map_append, List.map_cons, ← hB8.out]; exact hown')
          clear hown' hgrow
          go_wp2
          exact ⟨⟨k, s4, a ++ [UInt8.ofNat y], by go_num, by simp; omega, O4, D4, G4, HTT⟩, by simp [intOf]⟩
    · obtain rfl : k = 0 := by omega
      obtain ⟨t1, t2⟩ := hTT.out
      simp only [textL, List.append_nil] at t1 t2
      subst t1; subst t2
      have hcv := own_convert0 hO.out
      go_wp2
      go_ret
      exact ⟨rfl, hDt.out, hG.out⟩

end Go.Proofs.YthganncfagddgaaDoor
