/- FnLabels: the draws of its labels, and the code that follows from another one. -/
import Derived.Test.YtkcchceoljlnaaaDoorDrawLabC
import Derived.Test.YtkcchceoljlnaaaDoorOpenB
namespace Go.Proofs.YtkcchceoljlnaaaDoor
set_option linter.unusedSimpArgs false
set_option linter.unusedVariables false
open Go.RowKit
attribute [local go_sem ↓] Go.wp_at_zero Go.wp_at_succ

def DrFJ (W : World) (e : Ending) (w' : World) : Prop :=
  ∃ (A1 : Option Addr) (c1 : Nat) (xs : List Int) (A2 : Option Addr) (c2 : Nat) (ys : List Int), e = .returned (.tuple #[lab A1 xs.length c1, lab A2 ys.length c2]) ∧ xs.length ≤ 5 ∧ ys.length ≤ 5 ∧ Ints w' A1 xs ∧ Ints w' A2 ys ∧ Below W.heap.size W w'
set_option maxHeartbeats 12800000 in
theorem DrawFlows_any (A : Option Addr) (n c : Nat) (w : World) (hA : Bys w A n) (hn : n ≤ 1048576) :
    Calls Tryd.prog 11 #[.slice A n c] w (DrFJ w) := by
  have N := Lib.hid (fun w' h => l1New_any A n c w' h hn)
  have hA2 := (hA.keep (fun _ _ h => cell_alloc_ (o := .cells #[.slice none 0 0] 27) h)).keep (fun _ _ h => cell_alloc_ (o := .cells #[.slice none 0 0] 27) h)
  have T := Lib.hid (fun g w' h => l3Two_any ((w.alloc (.cells #[.slice none 0 0] 27)).alloc (.cells #[.slice none 0 0] 27)) g A n c w' hA2 hn h)
  have HA := Lib.hid hA2
  have hbx := heap_alloc_new (w.alloc (.cells #[.slice none 0 0] 27)) (.cells #[.slice none 0 0] 27)
  rw [World.size_alloc] at hbx
  have hbx := Lib.hid hbx
  clear hA hA2
  go_enter Tryd.func11, Tryd.ntmps11
  go_wp2_with fail
  refine (N.out _ HA.out).mono ?_
  rintro e w1 ⟨g, rfl, hD⟩
  have HD := Lib.hid hD
  have hsW1 := hD.below.size
  simp only [World.size_alloc] at hsW1
  clear hD
  go_wp2_with fail
  refine (T.out _ _ HD.out).mono ?_
  rintro e w3 ⟨A1, c1, xs, A2, c2, ys, rfl, hl1, hl2, hoa, hob, hD, hg⟩
  have HA1 := Lib.hid hoa; have HA2 := Lib.hid hob
  have hs3 := hg.size
  have hB := hD.below
  have hs4 := hB.size
  have r0 := Lib.hid (keepblk hB (blk_alloc (heap_alloc_new w _)))
  have r1 := Lib.hid (keepblk hB hbx.out)
  simp only [World.size_alloc] at hs4
  have HB := Lib.hid (Below.trans ((((Below.refl w.heap.size w).alloc (Nat.le_refl _) _).alloc (by simp) _)) (hB.mono (by simp; omega)))
  clear hoa hob hD hg hB
  have q0 : w.heap.size < w3.heap.size := by omega
  have q1 : w.heap.size + 1 < w3.heap.size := by omega
  obtain ⟨k0, f0⟩ := blkcell r0.out
  obtain ⟨k1, f1⟩ := blkcell r1.out
  have FA := Lib.hid (((HA1.out.setBox_ (p := ⟨w.heap.size, 0, none⟩) (.inl (by show w.heap.size < _; omega)) (.slice A1 xs.length c1)).setBox_ (p := ⟨w.heap.size + 1, 0, none⟩) (.inl (by show w.heap.size + 1 < _; omega)) (.slice A2 ys.length c2)).ints)
  have FB := Lib.hid (((HA2.out.setBox_ (p := ⟨w.heap.size, 0, none⟩) (.inl (by show w.heap.size < _; omega)) (.slice A1 xs.length c1)).setBox_ (p := ⟨w.heap.size + 1, 0, none⟩) (.inl (by show w.heap.size + 1 < _; omega)) (.slice A2 ys.length c2)).ints)
  have FW := Lib.hid ((HB.out.setCell (p := ⟨w.heap.size, 0, none⟩) (by show w.heap.size ≤ w.heap.size; omega) (.slice A1 xs.length c1)).setCell (p := ⟨w.heap.size + 1, 0, none⟩) (by show w.heap.size ≤ w.heap.size + 1; omega) (.slice A2 ys.length c2))
  go_wp2
  refine bodyPost_ret (v := .tuple #[lab A1 xs.length c1, lab A2 ys.length c2]) (by simp [results, Tryd.results11, go_sem, *]) rfl ?_
  exact ⟨A1, c1, xs, A2, c2, ys, rfl, hl1, hl2, FA.out, FB.out, FW.out⟩
set_option maxHeartbeats 12800000 in
theorem DrawJoin_any (A : Option Addr) (n c : Nat) (w : World) (hA : Bys w A n) (hn : n ≤ 1048576) :
    Calls Tryd.prog 12 #[.slice A n c] w (DrFJ w) := by
  have N := Lib.hid (fun w' h => l1New_any A n c w' h hn)
  have hA2 := (hA.keep (fun _ _ h => cell_alloc_ (o := .cells #[.slice none 0 0] 27) h)).keep (fun _ _ h => cell_alloc_ (o := .cells #[.slice none 0 0] 27) h)
  have T := Lib.hid (fun g w' h => l3Two_any ((w.alloc (.cells #[.slice none 0 0] 27)).alloc (.cells #[.slice none 0 0] 27)) g A n c w' hA2 hn h)
  have HA := Lib.hid hA2
  have hbx := heap_alloc_new (w.alloc (.cells #[.slice none 0 0] 27)) (.cells #[.slice none 0 0] 27)
  rw [World.size_alloc] at hbx
  have hbx := Lib.hid hbx
  clear hA hA2
  go_enter Tryd.func12, Tryd.ntmps12
  go_wp2_with fail
  refine (N.out _ HA.out).mono ?_
  rintro e w1 ⟨g, rfl, hD⟩
  have HD := Lib.hid hD
  have hsW1 := hD.below.size
  simp only [World.size_alloc] at hsW1
  clear hD
  go_wp2_with fail
  refine (T.out _ _ HD.out).mono ?_
  rintro e w3 ⟨A1, c1, xs, A2, c2, ys, rfl, hl1, hl2, hoa, hob, hD, hg⟩
  have HA1 := Lib.hid hoa; have HA2 := Lib.hid hob
  have hs3 := hg.size
  have hB := hD.below
  have hs4 := hB.size
  have r0 := Lib.hid (keepblk hB (blk_alloc (heap_alloc_new w _)))
  have r1 := Lib.hid (keepblk hB hbx.out)
  simp only [World.size_alloc] at hs4
  have HB := Lib.hid (Below.trans ((((Below.refl w.heap.size w).alloc (Nat.le_refl _) _).alloc (by simp) _)) (hB.mono (by simp; omega)))
  clear hoa hob hD hg hB
  have q0 : w.heap.size < w3.heap.size := by omega
  have q1 : w.heap.size + 1 < w3.heap.size := by omega
  obtain ⟨k0, f0⟩ := blkcell r0.out
  obtain ⟨k1, f1⟩ := blkcell r1.out
  have FA := Lib.hid (((HA1.out.setBox_ (p := ⟨w.heap.size, 0, none⟩) (.inl (by show w.heap.size < _; omega)) (.slice A1 xs.length c1)).setBox_ (p := ⟨w.heap.size + 1, 0, none⟩) (.inl (by show w.heap.size + 1 < _; omega)) (.slice A2 ys.length c2)).ints)
  have FB := Lib.hid (((HA2.out.setBox_ (p := ⟨w.heap.size, 0, none⟩) (.inl (by show w.heap.size < _; omega)) (.slice A1 xs.length c1)).setBox_ (p := ⟨w.heap.size + 1, 0, none⟩) (.inl (by show w.heap.size + 1 < _; omega)) (.slice A2 ys.length c2)).ints)
  have FW := Lib.hid ((HB.out.setCell (p := ⟨w.heap.size, 0, none⟩) (by show w.heap.size ≤ w.heap.size; omega) (.slice A1 xs.length c1)).setCell (p := ⟨w.heap.size + 1, 0, none⟩) (by show w.heap.size ≤ w.heap.size + 1; omega) (.slice A2 ys.length c2))
  go_wp2
  refine bodyPost_ret (v := .tuple #[lab A1 xs.length c1, lab A2 ys.length c2]) (by simp [results, Tryd.results12, go_sem, *]) rfl ?_
  exact ⟨A1, c1, xs, A2, c2, ys, rfl, hl1, hl2, FA.out, FB.out, FW.out⟩
theorem info_parts_ {t : TypeId} {a : Option Value} {b c : Nat} (h : (Tryd.prog.info? t).map (fun i => (i.zero, i.size, i.bytes)) = some (a, b, c)) : ∃ i, Tryd.prog.info? t = some i ∧ i.zero = a ∧ i.size = b ∧ i.bytes = c := by
  cases hq : Tryd.prog.info? t with
  | none => rw [hq] at h; cases h
  | some i => rw [hq] at h; simp at h; exact ⟨i, rfl, h.1, h.2.1, h.2.2⟩
theorem u8_info : (Tryd.prog.info? 5).map (fun i => (i.zero, i.size, i.bytes)) = some (some (.int .u8 0), 1, 1) := by kernel_rfl
def u8s (l : List Nat) : List Value := l.map (fun (z : Nat) => Value.int .u8 (z : Int))
theorem u8_lt (x : Int) : ∃ z : Nat, z < 256 ∧ IntKind.u8.wrap x = (z : Int) := by
  have h : IntKind.u8.wrap x = x % 256 := by simp [IntKind.wrap, IntKind.signed, IntKind.bits]
  exact ⟨(x % 256).toNat, by omega, by rw [h]; omega⟩
theorem bys_of_row {w : World} {B : Nat} {v : Value} {n : Nat} {l : List Nat} (h : w.ownsRow B 5 1 v n (u8s l)) (hl : ∀ z ∈ l, z < 256) : ∃ A c, v = .slice A n c ∧ Bys w A n := by
  rcases h.2 with ⟨hv, h0⟩ | ⟨g, cap, cur, hv, hB, hh, _, _, _, ht⟩
  · exact ⟨none, 0, by rw [hv, h0], .inl h0⟩
  · refine ⟨_, _, hv, .inr ⟨g, 0, rfl, fun k hk => ?_⟩⟩
    have h1 : l.length = n := by have := h.1; simp [u8s] at this; omega
    have h2 : (u8s l)[k]? = some (.int .u8 ((l[k]'(by omega) : Nat) : Int)) := by simp [u8s, List.getElem?_eq_getElem (show k < l.length by omega)]
    rw [← ht, List.getElem?_take] at h2
    split at h2
    · refine ⟨l[k]'(by omega), hl _ (List.getElem_mem _), ?_⟩
      have := (blkcell hh).1 k
      rw [Nat.zero_add]
      simp at h2
      simp [World.cell?, hh] at this ⊢
      first | exact h2 | (rw [h2])
    · cases h2
set_option maxRecDepth 100000 in
set_option maxHeartbeats 6400000 in
theorem fresh_any (A : Option Addr) (n c : Nat) (w : World) (hA : Bys w A n) (hn : n ≤ 1048576) :
    Calls Tryd.prog 13 #[.slice A n c, .int .i64 4] w fun e w' => ∃ A' m c', e = .returned (.slice A' m c') ∧ m ≤ 601 ∧ Bys w' A' m ∧ Below w.heap.size w w' := by
  obtain ⟨i0, hi, hz0, hz1, hz2⟩ := info_parts_ u8_info
  have HA := Lib.hid hA
  clear hA
  have e4 : IntKind.u8.wrap 4 = 4 := by decide
  go_enter Tryd.func13, Tryd.ntmps13
  go_wp2
  go_loopw [5, 6] (fun s j wr => ∃ (k : Nat) (l : List Nat), k ≤ 600 ∧ k ≤ n ∧ j = .int .i64 k ∧ (∀ z ∈ l, z < 256) ∧ Hid (wr.ownsRow w.heap.size 5 1 s (k + 1) (u8s l)) ∧ Below w.heap.size w wr) (fun _ j _ => 601 - (intOf j).toNat)
  case atStart =>
    exact ⟨0, [4], by omega, by omega, rfl, by simp, Lib.hid ⟨by simp [u8s], .inr ⟨_, 1, _, rfl, Nat.le_refl _, heap_alloc_new w _, by omega, by unfold maxLen; omega, rfl, by simp [u8s, e4]⟩⟩, (Below.refl _ _).alloc (Nat.le_refl _) _⟩
  case round =>
    obtain ⟨k, l, hk6, hkn, rfl, hl, hown, hB⟩ := hrel
    have hk0 : (0 : Int) ≤ (k : Int) := by omega
    have hsz := hB.size
    by_cases hlt : k < n
    · have hlt2 : (k : Int) < (n : Int) := by omega
      have hd1 : decide ((k : Int) < (n : Int)) = true := decide_eq_true hlt2
      by_cases h600 : k < 600
      · have h62 : (k : Int) < 600 := by omega
        have hd2 : decide ((k : Int) < 600) = true := decide_eq_true h62
        obtain ⟨b, off, hAe, hbl, z1, hzl1, hcz⟩ := Bys.at_ (HA.out.keep fun _ _ h => Below.keeps hB h) hlt
        subst hAe
        have e5 : IntKind.i64.wrap (z1 : Int) = (z1 : Int) := by simp only [IntKind.wrap_i64]; omega
        have r1 : IntKind.i64.wrap ((z1 : Int) * 3) = (z1 : Int) * 3 := by simp only [IntKind.wrap_i64]; omega
        have r2 : IntKind.i64.wrap ((k : Int) % 7 + 1) = (k : Int) % 7 + 1 := by simp only [IntKind.wrap_i64]; omega
        have r3 : IntKind.i64.wrap (4 * ((k : Int) % 7 + 1)) = 4 * ((k : Int) % 7 + 1) := by simp only [IntKind.wrap_i64]; omega
        have r4 : IntKind.i64.wrap ((z1 : Int) * 3 + 4 * ((k : Int) % 7 + 1)) = (z1 : Int) * 3 + 4 * ((k : Int) % 7 + 1) := by simp only [IntKind.wrap_i64]; omega
        have r5 : (k : Int).tmod 7 = (k : Int) % 7 := Int.tmod_eq_emod_of_nonneg (by omega)
        obtain ⟨z2, hz2', r6⟩ := u8_lt ((z1 : Int) * 3 + 4 * ((k : Int) % 7 + 1))
        go_wp2_with (at_builtin; refine wpList_append_own _ rfl _ _ 31 rfl w.heap.size 5 i0 (.int .u8 0) 1 1 Tryd.underlying31 hi hz0 hz1 hz2 rfl (by decide) _ _ _ rfl (by exact hown.out.alloc _) ⟨wr.heap.size, 0, none⟩ 1 1 [.int .u8 (z2 : Int)] rfl rfl ?c1 ?c2 ?c3 ?c4 ?c5 ?_)
        case c1 =>
          intro j u hj
          match j, hj with
          | 0, hj => simp at hj; subst hj; simp [Addr.add, r6]
        case c2 => intro u hu; simp at hu; subst hu; rfl
        case c3 => unfold maxLen; omega
        case c4 => omega
        case c5 => simp; omega
        intro v' w1 hown' hgrow _
        have hB1 : Below w.heap.size w w1 := (hB.alloc hsz _).grown hgrow (by simp; omega) (fun g hg => by have := (hown.out.lt g hg).1; omega)
        have hown3 := Lib.hid (show w1.ownsRow w.heap.size 5 1 v' (k + 1 + 1) (u8s (l ++ [z2])) by simpa [u8s] using hown')
        clear hgrow hown' hcz
        go_wp2
        exact ⟨⟨k + 1, l ++ [z2], by omega, by omega, by go_num, by intro z hz; rcases List.mem_append.1 hz with h | h; exact hl z h; (simp at h; omega), hown3, hB1⟩, by simp [intOf]; omega⟩
      · obtain rfl : k = 600 := by omega
        obtain ⟨A', c', rfl, hbys⟩ := bys_of_row hown.out hl
        go_wp2
        go_ret
        exact ⟨A', _, c', rfl, by omega, hbys, hB⟩
    · obtain rfl : k = n := by omega
      obtain ⟨A', c', rfl, hbys⟩ := bys_of_row hown.out hl
      go_wp2
      go_ret
      exact ⟨A', _, c', rfl, by omega, hbys, hB⟩
end Go.Proofs.YtkcchceoljlnaaaDoor
