/- Contracts of Unhex. -/
import Derived.Test.YthganncfagddgaaDoorHexS
import Derived.Lib.Bytealg
import Derived.Lib.Walk
import Derived.Lib.Strings
namespace Go.Proofs.YthganncfagddgaaDoor
set_option linter.unusedSimpArgs false
set_option linter.unusedVariables false
open Go.RowKit

/-- what a hex figure tells; -1: none -/
def hv (b : UInt8) : Int := if 48 ≤ b ∧ b ≤ 57 then (b.toNat : Int) - 48 else if 97 ≤ b ∧ b ≤ 102 then (b.toNat : Int) - 87 else -1
theorem hv_index (b : UInt8) : Lib.indexByte hexStr.data.toList b = hv b := by
  have h : ∀ n : Fin 256, Lib.indexByte hexStr.data.toList (UInt8.ofNat n.val) = hv (UInt8.ofNat n.val) := by decide +kernel
  have := h ⟨b.toNat, b.toNat_lt⟩
  simpa using this
theorem hv_dig (b : UInt8) (k : Nat) (hk : k < 16) (h : dig k = b) : hv b = k := by
  have : ∀ n : Fin 16, hv (dig n.val) = (n.val : Int) := by decide +kernel
  rw [← h]; exact this ⟨k, hk⟩
theorem hv_no (b : UInt8) (h : ∀ k, k < 16 → dig k ≠ b) : hv b = -1 := by
  have g : ∀ n : Fin 256, (∀ k : Fin 16, dig k.val ≠ UInt8.ofNat n.val) → hv (UInt8.ofNat n.val) = -1 := by decide +kernel
  have := g ⟨b.toNat, b.toNat_lt⟩ (fun k => by simpa using h k.val k.isLt)
  simpa using this
theorem hv_bd (b : UInt8) : -1 ≤ hv b ∧ hv b ≤ 15 := by
  have g : ∀ n : Fin 256, -1 ≤ hv (UInt8.ofNat n.val) ∧ hv (UInt8.ofNat n.val) ≤ 15 := by decide +kernel
  have := g ⟨b.toNat, b.toNat_lt⟩
  simpa using this
set_option maxHeartbeats 800000 in
theorem slIndexByte_any (b : UInt8) (w : World) :
    Calls Tryd.prog 36 #[.string hexStr, .int .u8 (b.toNat : Int)] w fun e w' => e = .returned (.int .i64 (hv b)) ∧ w = w' := by
  have hr := Lib.hid (hv_index b)
  go_enter Tryd.func36, Tryd.ntmps36
  go_wp2
  rw [run_callFunc_extern Tryd.func44 (by kernel_rfl) (by kernel_rfl) (by kernel_rfl) (e := Extern.BytealgIndexByte.indexByte) (by kernel_rfl), Lib.run_indexByteString]
  simp only [Result.andThen]
  rw [Oper.upon_value]
  go_wp2
  go_ret
  exact ⟨by rw [← hr.out]; simp, rfl⟩
set_option maxHeartbeats 800000 in
theorem indexByte_any (b : UInt8) (w : World) :
    Calls Tryd.prog 26 #[.string hexStr, .int .u8 (b.toNat : Int)] w fun e w' => e = .returned (.int .i64 (hv b)) ∧ w = w' := by
  go_enter Tryd.func26, Tryd.ntmps26
  go_wp2_with (go_at_call 36; refine (slIndexByte_any b _).mono ?_; rintro e w' ⟨rfl, rfl⟩)
  go_ret
  exact ⟨rfl, rfl⟩
def pairOk (s : ByteArray) (j : Nat) : Bool := decide (0 ≤ hv (s.data.toList.getD (2 * j) 0)) && decide (0 ≤ hv (s.data.toList.getD (2 * j + 1) 0))
def pairV (s : ByteArray) (j : Nat) : UInt8 := UInt8.ofNat (16 * hv (s.data.toList.getD (2 * j) 0) + hv (s.data.toList.getD (2 * j + 1) 0)).toNat
def pairs (s : ByteArray) (k : Nat) : List UInt8 := (List.range k).map (pairV s)
theorem pairs_succ (s : ByteArray) (k : Nat) : pairs s (k + 1) = pairs s k ++ [pairV s k] := by simp [pairs, List.range_succ]
theorem pairs_len (s : ByteArray) (k : Nat) : (pairs s k).length = k := by simp [pairs]
def unhexL (s : ByteArray) : List UInt8 × Bool :=
  if s.size % 2 = 0 ∧ (List.range (s.size / 2)).all (pairOk s) = true then (pairs s (s.size / 2), true) else ([], false)
theorem unhex_bad {s : ByteArray} {j : Nat} (hj : 2 * j + 1 < s.size) (h : pairOk s j = false) : unhexL s = ([], false) := by
  unfold unhexL
  rw [if_neg]
  rintro ⟨_, h2⟩
  rw [List.all_eq_true] at h2
  have := h2 j (by simp; omega)
  rw [h] at this; cases this
theorem unhex_odd {s : ByteArray} (h : s.size % 2 ≠ 0) : unhexL s = ([], false) := by
  unfold unhexL; rw [if_neg (fun h2 => h h2.1)]
theorem unhex_good {s : ByteArray} {h : Nat} (hs : s.size = 2 * h) (hk : ∀ j, j < h → pairOk s j = true) : unhexL s = (pairs s h, true) := by
  have e : s.size / 2 = h := by omega
  unfold unhexL
  rw [e, if_pos ⟨by omega, by rw [List.all_eq_true]; intro j hj; exact hk j (by simpa using hj)⟩]
set_option maxRecDepth 100000 in
set_option maxHeartbeats 6400000 in
theorem implUnhex_even (s : ByteArray) (w : World) (hs : s.size ≤ 1099511627776) (he : s.size % 2 = 0) :
    Calls Tryd.prog 17 #[.string s] w fun e w' => e = .returned (.tuple #[.string ⟨(unhexL s).1.toArray⟩, .bool (unhexL s).2]) ∧ Below w.heap.size w w' := by
  obtain ⟨i0, hi, hz0, hz1, hz2⟩ := info_parts byte_info
  obtain ⟨h, hh⟩ : ∃ h, s.size = 2 * h := ⟨s.size / 2, by omega⟩
  have hmod : (s.size : Int) % 2 = 0 := by omega
  have HH := Lib.hid hh
  clear hh he
  go_enter Tryd.func17, Tryd.ntmps17
  go_wp2
  clear hmod
  go_loopw [4, 5] (fun v i wr => ∃ k : Nat, k ≤ h ∧ i = .int .i64 (2 * (k : Int)) ∧ Hid (∀ j, j < k → pairOk s j = true) ∧ Hid (wr.ownsRow w.heap.size 5 1 v (pairs s k).length ((pairs s k).map B8)) ∧ Below w.heap.size w wr) (fun _ i _ => 2 * h - (intOf i).toNat)
  case atStart => exact ⟨0, by omega, rfl, fun j hj => by omega, ownsRow_made w _ _ (Nat.le_refl _), (Below.refl _ _).alloc (Nat.le_refl _) _⟩
  case round =>
    obtain ⟨k, hk, rfl, hok, hown, hB⟩ := hrel
    have hsz := hB.size
    by_cases hlt : k < h
    · have h0 : 2 * k < s.size := by have := HH.out; omega
      have h1 : 2 * k + 1 < s.size := by have := HH.out; omega
      have hb0 := Lib.hid (show s.data.toList.getD (2 * k) 0 = s[2 * k] by rw [List.getD, List.getElem?_eq_getElem (by simpa using h0)]; rfl)
      have hb1 := Lib.hid (show s.data.toList.getD (2 * k + 1) 0 = s[2 * k + 1] by rw [List.getD, List.getElem?_eq_getElem (by simpa using h1)]; rfl)
      have hi0 : (0 : Int) ≤ 2 * (k : Int) := by omega
      have hi1 : 2 * (k : Int) < (s.size : Int) := by omega
      have hi2 : 2 * (k : Int) + 1 < (s.size : Int) := by omega
      have hn0 : (2 * (k : Int)).toNat = 2 * k := by omega
      have hn1 : (2 * (k : Int) + 1).toNat = 2 * k + 1 := by omega
      obtain ⟨z0, hz0'⟩ : ∃ z, hv s[2 * k] = z := ⟨_, rfl⟩
      obtain ⟨z1, hz1'⟩ : ∃ z, hv s[2 * k + 1] = z := ⟨_, rfl⟩
      have hd0 := hv_bd s[2 * k]
      have hd1 := hv_bd s[2 * k + 1]
      rw [hz0'] at hd0
      rw [hz1'] at hd1
      by_cases hn : z0 < 0
      · have hr := Lib.hid (unhex_bad (s := s) (j := k) (by omega) (by unfold pairOk; rw [hb0.out, hb1.out, hz0', hz1']; simp; omega))
        go_wp2_with (go_at_call 26; refine (indexByte_any _ _).mono ?_; rintro e w' ⟨rfl, rfl⟩)
        go_ret2
        exact ⟨by rw [hr.out]; rfl, hB⟩
      · by_cases hn' : z1 < 0
        · have hr := Lib.hid (unhex_bad (s := s) (j := k) (by omega) (by unfold pairOk; rw [hb0.out, hb1.out, hz0', hz1']; simp; omega))
          go_wp2_with (go_at_call 26; refine (indexByte_any _ _).mono ?_; rintro e w' ⟨rfl, rfl⟩)
          go_ret2
          exact ⟨by rw [hr.out]; rfl, hB⟩
        · obtain ⟨p, rfl⟩ := Int.eq_ofNat_of_zero_le (show 0 ≤ z0 by omega)
          obtain ⟨q, rfl⟩ := Int.eq_ofNat_of_zero_le (show 0 ≤ z1 by omega)
          have hp : p ≤ 15 := by omega
          have hq : q ≤ 15 := by omega
          have hs2 := Lib.hid (show ∀ j, j < k + 1 → pairOk s j = true from fun j hj => by
            by_cases hjk : j = k
            · subst hjk; unfold pairOk; rw [hb0.out, hb1.out, hz0', hz1']; simp
            · exact hok.out j (by omega))
          have hpv := Lib.hid (show Value.int .u8 (16 * (p : Int) + (q : Int)) = B8 (pairV s k) by
            unfold pairV B8
            rw [hb0.out, hb1.out, hz0', hz1']
            have : (UInt8.ofNat (16 * (p : Int) + (q : Int)).toNat).toNat = 16 * p + q := by simp; omega
            rw [this]; simp)
          have hlen := pairs_len s k
          clear hn hn' hd0 hd1
          go_wp2_with (first | (go_at_call 26; refine (indexByte_any _ _).mono ?_; rintro e w' ⟨rfl, rfl⟩) | (at_builtin; refine wpList_append_own _ rfl _ _ 27 rfl w.heap.size 5 i0 (.int .u8 0) 1 1 Tryd.underlying27 hi hz0 hz1 hz2 rfl (by decide) _ _ _ rfl (hown.out.alloc _) ⟨wr.heap.size, 0, none⟩ 1 1 [.int .u8 (16 * (p : Int) + (q : Int))] rfl rfl ?c1 ?c2 ?c3 ?c4 ?c5 ?_))
          case c1 =>
            intro j u hj
            match j, hj with
            | 0, hj => simp at hj; subst hj; simp [Addr.add]
          case c2 => intro u hu; simp at hu; subst hu; rfl
          case c3 => unfold maxLen; omega
          case c4 => omega
          case c5 => simp; omega
          intro v' w1 hown' hgrow _
          have hB1 : Below w.heap.size w w1 := ((hB.alloc hsz _)).grown hgrow (by simp; omega) (fun g hg => by have := (hown.out.lt g hg).1; omega)
          have hown2 := Lib.hid (show w1.ownsRow w.heap.size 5 1 v' (pairs s (k + 1)).length ((pairs s (k + 1)).map B8) by
            rw [pairs_succ, List.map_append, List.length_append]
            have := hown'
            rw [hpv.out] at this
            simpa [pairs_len] using this)
          clear hown' hgrow
          go_wp2
          exact ⟨⟨k + 1, by omega, congrArg (Value.int .i64) (by omega), hs2, hown2, hB1⟩, by simp [intOf]; omega⟩
    · obtain rfl : k = h := by omega
      have hr := Lib.hid (unhex_good HH.out hok.out)
      have hcv := own_convert0 hown.out
      have hge : (s.size : Int) ≤ 2 * (k : Int) := by have := HH.out; omega
      go_wp2
      go_ret2
      exact ⟨by rw [hr.out]; rfl, hB⟩

set_option maxHeartbeats 800000 in
theorem implUnhex_odd (s : ByteArray) (w : World) (hs : s.size ≤ 1099511627776) (he : s.size % 2 ≠ 0) :
    Calls Tryd.prog 17 #[.string s] w fun e w' => e = .returned (.tuple #[.string ⟨(unhexL s).1.toArray⟩, .bool (unhexL s).2]) ∧ Below w.heap.size w w' := by
  have hr := Lib.hid (unhex_odd he)
  have hmod : (s.size : Int) % 2 = 1 := by omega
  go_enter Tryd.func17, Tryd.ntmps17
  go_wp2
  go_ret2
  exact ⟨by rw [hr.out]; rfl, (by (repeat (first | exact Below.refl _ _ | assumption | refine Below.drew ?_ | refine Below.alloc ?_ ?_ _ | refine Below.setCell ?_ ?_ _)) <;> ((try simp) <;> omega))⟩
end Go.Proofs.YthganncfagddgaaDoor
