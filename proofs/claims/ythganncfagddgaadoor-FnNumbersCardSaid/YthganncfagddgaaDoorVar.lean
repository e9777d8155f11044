/- Contracts of Var. -/
import Derived.Test.YthganncfagddgaaDoorReadFixed
import Derived.OwnWalk
import Derived.Laws.BytesString
import Derived.Laws.IdiomStrings
namespace Go.Proofs.YthganncfagddgaaDoor
set_option linter.unusedSimpArgs false
set_option linter.unusedVariables false
open Go.RowKit

def B8 (b : UInt8) : Value := .int .u8 (b.toNat : Int)
theorem byte_info : (Tryd.prog.info? 5).map (fun i => (i.zero, i.size, i.bytes)) = some (some (.int .u8 0), 1, 1) := by kernel_rfl
theorem own_convert {w : World} {base : Nat} {v : Value} {l : List UInt8} (h : w.ownsRow base 5 1 v l.length (l.map B8)) (hl : 0 < l.length) :
    (convert 27 9 v).run Tryd.prog w = .ok (.string ⟨l.toArray⟩) w := by
  rcases h.2 with ⟨_, h0⟩ | ⟨g, cap, cur, rfl, _, hh, _, _, _, ht⟩
  · omega
  · refine run_convert_bytes_back w _ _ 5 _ cap l Tryd.underlying27 Tryd.underlying5 Tryd.underlying9 fun j hj => ?_
    have h1 : (l.map B8)[j]? = some (B8 l[j]) := by simp [List.getElem?_eq_getElem hj]
    rw [← ht, List.getElem?_take] at h1
    split at h1
    · have h2 : w.cell? ⟨g, j, none⟩ = some (B8 l[j]) := by rw [(blkcell hh).1]; simpa using h1
      by_cases hj0 : j = 0
      · subst hj0; simpa [Addr.add, B8] using h2
      · simpa [Addr.add, hj0, B8] using h2
    · cases h1
theorem ownsRow_made (w : World) (base : Nat) (t : TypeId) (hb : base ≤ w.heap.size) : (w.alloc (.cells #[] t)).ownsRow base t 1 (.slice (some ⟨w.heap.size, 0, none⟩) 0 0) 0 [] :=
  ⟨rfl, .inr ⟨w.heap.size, 0, #[], rfl, hb, heap_alloc_new w _, Nat.le_refl _, by simp [maxLen], rfl, rfl⟩⟩

def varL (n : Nat) : List UInt8 := if n < 128 then [UInt8.ofNat n] else UInt8.ofNat (128 + n % 128) :: varL (n / 128)
  termination_by n
  decreasing_by omega
theorem varL_end {n : Nat} (h : n < 128) : varL n = [UInt8.ofNat n] := by rw [varL, if_pos h]
theorem varL_more {n : Nat} (h : ¬ n < 128) : varL n = UInt8.ofNat (128 + n % 128) :: varL (n / 128) := by rw [varL, if_neg h]
theorem varL_len : ∀ (k n : Nat), n < 128 ^ (k + 1) → (varL n).length ≤ k + 1
  | 0, n, h => by rw [varL_end (by simpa using h)]; simp
  | k + 1, n, h => by
    by_cases hn : n < 128
    · rw [varL_end hn]; simp
    · rw [varL_more hn]
      have := varL_len k (n / 128) (by rw [Nat.pow_succ] at h; omega)
      simp; omega
theorem varL_pos (n : Nat) : 0 < (varL n).length := by
  by_cases hn : n < 128
  · rw [varL_end hn]; simp
  · rw [varL_more hn]; simp

theorem endB8 {n : Nat} (h : n < 128) : Value.int .u8 (n : Int) = B8 (UInt8.ofNat n) := by
  have : (UInt8.ofNat n).toNat = n := by simp; omega
  rw [B8, this]
theorem moreB8 (n : Nat) : Value.int .u8 (128 + (n : Int) % 128) = B8 (UInt8.ofNat (128 + n % 128)) := by
  have : (UInt8.ofNat (128 + n % 128)).toNat = 128 + n % 128 := by simp; omega
  rw [B8, this]; congr 1
set_option maxRecDepth 100000 in
set_option maxHeartbeats 3200000 in
theorem specVar_yes (n0 : Nat) (w : World) (h : inB (n0 : Int) 0 562949953421311 = true) :
    Calls Tryd.prog 27 #[.int .i64 n0] w fun e w' => e = .returned (.string ⟨(varL n0).toArray⟩) ∧ Below w.heap.size w w' := by
  have hb := inB_true h
  have hlen : (varL n0).length ≤ 7 := varL_len 6 n0 (by omega)
  obtain ⟨i0, hi, hz0, hz1, hz2⟩ := info_parts byte_info
  go_enter Tryd.func27, Tryd.ntmps27
  go_wp2_with (go_at_call 37; refine (l1In_any _ _ _ _).mono ?_; rintro e w' ⟨rfl, rfl⟩)
  go_loopw [0, 3] (fun m v wr => ∃ (n : Nat) (l : List UInt8), n ≤ 562949953421311 ∧ m = .int .i64 n ∧ Hid (l ++ varL n = varL n0) ∧ Hid (wr.ownsRow w.heap.size 5 1 v l.length (l.map B8)) ∧ Below w.heap.size w wr) (fun m _ _ => (intOf m).toNat)
  case atStart => exact ⟨n0, [], by omega, rfl, rfl, ownsRow_made w _ _ (Nat.le_refl _), (Below.refl _ _).alloc (Nat.le_refl _) _⟩
  case round =>
    obtain ⟨n, l, hn, rfl, hl, hown, hB⟩ := hrel
    have hsz := hB.size
    have hll : l.length ≤ 6 := by have := congrArg List.length hl.out; have := varL_pos n; simp at *; omega
    by_cases hlt : n < 128
    · have hl2 := Lib.hid (show l ++ [UInt8.ofNat n] = varL n0 by rw [← varL_end hlt]; exact hl.out)
      have hlt2 : (n : Int) < 128 := by omega
      go_wp2_with (at_builtin; refine wpList_append_own _ rfl _ _ 27 rfl w.heap.size 5 i0 (.int .u8 0) 1 1 Tryd.underlying27 hi hz0 hz1 hz2 rfl (by decide) _ _ _ rfl (hown.out.alloc _) ⟨wr.heap.size, 0, none⟩ 1 1 [.int .u8 (n : Int)] rfl rfl ?c1 ?c2 ?c3 ?c4 ?c5 ?_)
      case c1 =>
        intro j u hj
        match j, hj with
        | 0, hj => simp at hj; subst hj; simp [Addr.add]
      case c2 => intro u hu; simp at hu; subst hu; rfl
      case c3 => unfold maxLen; omega
      case c4 => omega
      case c5 => simp; omega
      intro v' w1 hown' hgrow _
      have hB1 : Below w.heap.size w w1 := ((hB.alloc hsz _)).grown hgrow (by simp; omega) (fun g hg => by
        rcases hown.out.2 with ⟨rfl, _⟩ | ⟨g', cap, cur, rfl, hge, _⟩
        · simp [Value.ownBlock] at hg
        · simp [Value.ownBlock] at hg; omega)
      clear hgrow
      rw [endB8 hlt] at hown'
      have hown2 : w1.ownsRow w.heap.size 5 1 v' (l ++ [UInt8.ofNat n]).length ((l ++ [UInt8.ofNat n]).map B8) := by simpa using hown'
      have hcv := own_convert hown2 (by simp)
      rw [hl2.out] at hcv
      clear hown' hown2
      go_wp2
      go_ret
      exact ⟨rfl, hB1⟩
    · have hl2 := Lib.hid (show (l ++ [UInt8.ofNat (128 + n % 128)]) ++ varL (n / 128) = varL n0 by rw [List.append_assoc]; have := hl.out; rw [varL_more hlt] at this; exact this)
      have hlt2 : (128 : Int) ≤ (n : Int) := by omega
      go_wp2_with (at_builtin; refine wpList_append_own _ rfl _ _ 27 rfl w.heap.size 5 i0 (.int .u8 0) 1 1 Tryd.underlying27 hi hz0 hz1 hz2 rfl (by decide) _ _ _ rfl (hown.out.alloc _) ⟨wr.heap.size, 0, none⟩ 1 1 [.int .u8 (128 + (n : Int) % 128)] rfl rfl ?d1 ?d2 ?d3 ?d4 ?d5 ?_)
      case d1 =>
        intro j u hj
        match j, hj with
        | 0, hj => simp at hj; subst hj; simp [Addr.add]
      case d2 => intro u hu; simp at hu; subst hu; rfl
      case d3 => unfold maxLen; omega
      case d4 => omega
      case d5 => simp; omega
      intro v' w1 hown' hgrow _
      have hB1 : Below w.heap.size w w1 := ((hB.alloc hsz _)).grown hgrow (by simp; omega) (fun g hg => by
        rcases hown.out.2 with ⟨rfl, _⟩ | ⟨g', cap, cur, rfl, hge, _⟩
        · simp [Value.ownBlock] at hg
        · simp [Value.ownBlock] at hg; omega)
      clear hgrow
      rw [moreB8 n] at hown'
      have hown2 := Lib.hid (show w1.ownsRow w.heap.size 5 1 v' (l ++ [UInt8.ofNat (128 + n % 128)]).length ((l ++ [UInt8.ofNat (128 + n % 128)]).map B8) by simpa using hown')
      clear hown'
      go_wp2
      refine ⟨⟨n / 128, l ++ [UInt8.ofNat (128 + n % 128)], by omega, ?_, hl2, hown2, hB1⟩, by simp [intOf]; omega⟩
      go_num

theorem i64_and_nat (a b : Nat) (ha : a < 9223372036854775808) (hb : b < 9223372036854775808) : bits .and .i64 (a : Int) (b : Int) = ((a &&& b : Nat) : Int) := by
  have hx : a &&& b < 2 ^ 63 := Nat.and_lt_two_pow _ (by omega)
  show IntKind.i64.wrap ((BitVec.ofInt 64 (a : Int) &&& BitVec.ofInt 64 (b : Int)).toNat : Int) = _
  rw [BitVec.toNat_and, ofInt_i64 a ha, ofInt_i64 b hb, IntKind.wrap_i64]
  omega
theorem bitsB8 {n : Nat} (h : n ≤ 562949953421311) : Value.int .u8 (bits .or .i64 (bits .and .i64 (n : Int) 127) 128 % 256) = B8 (UInt8.ofNat (128 + n % 128)) := by
  have h1 : n &&& 127 = n % 128 := Nat.and_two_pow_sub_one_eq_mod n 7
  have h2 : n % 128 ||| 128 = 128 + n % 128 := by
    have := Nat.two_pow_add_eq_or_of_lt (i := 7) (b := n % 128) (by omega) 1
    rw [Nat.or_comm]; simpa using this.symm
  rw [show (127 : Int) = ((127 : Nat) : Int) from rfl, i64_and_nat _ _ (by omega) (by omega), h1, show (128 : Int) = ((128 : Nat) : Int) from rfl, i64_or_nat _ _ (by omega) (by omega), h2, ← moreB8 n]
  congr 1; omega
set_option maxRecDepth 100000 in
set_option maxHeartbeats 3200000 in
theorem implVar_yes (n0 : Nat) (w : World) (h : inB (n0 : Int) 0 562949953421311 = true) :
    Calls Tryd.prog 13 #[.int .i64 n0] w fun e w' => e = .returned (.string ⟨(varL n0).toArray⟩) ∧ Below w.heap.size w w' := by
  have hb := inB_true h
  have hlen : (varL n0).length ≤ 7 := varL_len 6 n0 (by omega)
  obtain ⟨i0, hi, hz0, hz1, hz2⟩ := info_parts byte_info
  go_enter Tryd.func13, Tryd.ntmps13
  go_wp2_with (go_at_call 22; refine (within_any _ _ _ _).mono ?_; rintro e w' ⟨rfl, rfl⟩)
  go_loopw [0, 3] (fun m v wr => ∃ (n : Nat) (l : List UInt8), n ≤ 562949953421311 ∧ m = .int .i64 n ∧ Hid (l ++ varL n = varL n0) ∧ Hid (wr.ownsRow w.heap.size 5 1 v l.length (l.map B8)) ∧ Below w.heap.size w wr) (fun m _ _ => (intOf m).toNat)
  case atStart => exact ⟨n0, [], by omega, rfl, rfl, ownsRow_made w _ _ (Nat.le_refl _), (Below.refl _ _).alloc (Nat.le_refl _) _⟩
  case round =>
    obtain ⟨n, l, hn, rfl, hl, hown, hB⟩ := hrel
    have hsz := hB.size
    have hll : l.length ≤ 6 := by have := congrArg List.length hl.out; have := varL_pos n; simp at *; omega
    by_cases hlt : n < 128
    · have hl2 := Lib.hid (show l ++ [UInt8.ofNat n] = varL n0 by rw [← varL_end hlt]; exact hl.out)
      have hlt2 : (n : Int) ≤ 127 := by omega
      go_wp2_with (at_builtin; refine wpList_append_own _ rfl _ _ 27 rfl w.heap.size 5 i0 (.int .u8 0) 1 1 Tryd.underlying27 hi hz0 hz1 hz2 rfl (by decide) _ _ _ rfl (hown.out.alloc _) ⟨wr.heap.size, 0, none⟩ 1 1 [.int .u8 (n : Int)] rfl rfl ?c1 ?c2 ?c3 ?c4 ?c5 ?_)
      case c1 =>
        intro j u hj
        match j, hj with
        | 0, hj => simp at hj; subst hj; simp [Addr.add]
      case c2 => intro u hu; simp at hu; subst hu; rfl
      case c3 => unfold maxLen; omega
      case c4 => omega
      case c5 => simp; omega
      intro v' w1 hown' hgrow _
      have hB1 : Below w.heap.size w w1 := ((hB.alloc hsz _)).grown hgrow (by simp; omega) (fun g hg => by
        rcases hown.out.2 with ⟨rfl, _⟩ | ⟨g', cap, cur, rfl, hge, _⟩
        · simp [Value.ownBlock] at hg
        · simp [Value.ownBlock] at hg; omega)
      clear hgrow
      rw [endB8 hlt] at hown'
      have hown2 : w1.ownsRow w.heap.size 5 1 v' (l ++ [UInt8.ofNat n]).length ((l ++ [UInt8.ofNat n]).map B8) := by simpa using hown'
      have hcv := own_convert hown2 (by simp)
      rw [hl2.out] at hcv
      clear hown' hown2
      go_wp2
      go_ret
      exact ⟨rfl, hB1⟩
    · have hl2 := Lib.hid (show (l ++ [UInt8.ofNat (128 + n % 128)]) ++ varL (n / 128) = varL n0 by rw [List.append_assoc]; have := hl.out; rw [varL_more hlt] at this; exact this)
      have hlt2 : (127 : Int) < (n : Int) := by omega
      go_wp2_with (at_builtin; refine wpList_append_own _ rfl _ _ 27 rfl w.heap.size 5 i0 (.int .u8 0) 1 1 Tryd.underlying27 hi hz0 hz1 hz2 rfl (by decide) _ _ _ rfl (hown.out.alloc _) ⟨wr.heap.size, 0, none⟩ 1 1 [.int .u8 (bits .or .i64 (bits .and .i64 (n : Int) 127) 128 % 256)] rfl rfl ?d1 ?d2 ?d3 ?d4 ?d5 ?_)
      case d1 =>
        intro j u hj
        match j, hj with
        | 0, hj => simp at hj; subst hj; simp [Addr.add]
      case d2 => intro u hu; simp at hu; subst hu; rfl
      case d3 => unfold maxLen; omega
      case d4 => omega
      case d5 => simp; omega
      intro v' w1 hown' hgrow _
      have hB1 : Below w.heap.size w w1 := ((hB.alloc hsz _)).grown hgrow (by simp; omega) (fun g hg => by
        rcases hown.out.2 with ⟨rfl, _⟩ | ⟨g', cap, cur, rfl, hge, _⟩
        · simp [Value.ownBlock] at hg
        · simp [Value.ownBlock] at hg; omega)
      clear hgrow
      rw [bitsB8 (by omega)] at hown'
      have hown2 := Lib.hid (show w1.ownsRow w.heap.size 5 1 v' (l ++ [UInt8.ofNat (128 + n % 128)]).length ((l ++ [UInt8.ofNat (128 + n % 128)]).map B8) by simpa using hown')
      clear hown'
      go_wp2
      refine ⟨⟨n / 128, l ++ [UInt8.ofNat (128 + n % 128)], by omega, ?_, hl2, hown2, hB1⟩, by simp [intOf]; omega⟩
      go_num

theorem specVar_no (m : Int) (w : World) (h : inB m 0 562949953421311 = false) :
    Calls Tryd.prog 27 #[.int .i64 m] w fun e w' => e = .returned (.string ⟨#[]⟩) ∧ w = w' := by
  go_enter Tryd.func27, Tryd.ntmps27
  go_wp2_with (go_at_call 37; refine (l1In_any _ _ _ _).mono ?_; rintro e w' ⟨rfl, rfl⟩)
  go_ret
  exact ⟨rfl, rfl⟩
theorem implVar_no (m : Int) (w : World) (h : inB m 0 562949953421311 = false) :
    Calls Tryd.prog 13 #[.int .i64 m] w fun e w' => e = .returned (.string ⟨#[]⟩) ∧ w = w' := by
  go_enter Tryd.func13, Tryd.ntmps13
  go_wp2_with (go_at_call 22; refine (within_any _ _ _ _).mono ?_; rintro e w' ⟨rfl, rfl⟩)
  go_ret
  exact ⟨rfl, rfl⟩

end Go.Proofs.YthganncfagddgaaDoor
