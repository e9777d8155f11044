/- Contracts of Flat; how a label's levels are appended to one by one. -/
import Derived.Test.YtkcchceoljlnaaaAbove
import Derived.Test.YtkcchceoljlnaaaRegion
namespace Go.Proofs.Ytkcchceoljlnaaa
set_option linter.unusedSimpArgs false
set_option linter.unusedVariables false
open Go.RowKit

theorem own_none (w : World) (base : Nat) (t : TypeId) : w.ownsRow base t 1 (.slice none 0 0) 0 [] := ⟨rfl, .inl ⟨rfl, rfl⟩⟩
theorem own_ne {w : World} {base : Nat} {t : TypeId} {v : Value} {n : Nat} {xs : List Value} (h : w.ownsRow base t 1 v n xs) {b : Nat} (hb : b < base) : some b ≠ v.ownBlock := by
  intro e
  have := (h.lt b e.symm).1
  omega
theorem repl_map (x : Int) (k : Nat) : (List.replicate k x).map (Value.int .i64) ++ [.int .i64 x] = (List.replicate (k + 1) x).map (Value.int .i64) := by
  rw [List.replicate_succ', List.map_append]; rfl
set_option maxHeartbeats 3200000 in
theorem specFlat_yes (x : Int) (w : World) (h : inB x 0 3 = true) :
    Calls Try.prog 25 #[.int .i64 x] w fun e w' => ∃ A c, e = .returned (lab A 4 c) ∧ w'.ownsRow w.heap.size 3 1 (.slice A 4 c) 4 ((List.replicate 4 x).map (Value.int .i64)) ∧ Below w.heap.size w w' := by
  obtain ⟨i0, hi, hz0, hz1, hz2⟩ := info_parts int_info
  go_enter Try.func25, Try.ntmps25
  go_wp2_with (go_at_call 46; refine (l1In_any _ _ _ _).mono ?_; rintro e w' ⟨rfl, rfl⟩; rw [h])
  go_loopw [4] (fun i wr => ∃ (k : Nat) (v : Value), k ≤ 4 ∧ i = .int .i64 k ∧ Hid (wr.heap[w.heap.size + 1]? = some (.cells #[v] 30 (0, 0))) ∧ Hid (wr.heap[w.heap.size]? = some (.cells #[.slice none 0 0] 30 (0, 0))) ∧
    Hid (wr.ownsRow (w.heap.size + 2) 3 1 v k ((List.replicate k x).map (Value.int .i64))) ∧ Below w.heap.size w wr ∧ w.heap.size + 2 ≤ wr.heap.size) (fun i _ => 4 - (intOf i).toNat)
  case atStart => exact ⟨0, _, Nat.zero_le _, rfl, Lib.hid (by simpa using heap_alloc_new (w.alloc (.cells #[.slice none 0 0] 30)) (.cells #[.slice none 0 0] 30)), blk_alloc (heap_alloc_new w _), own_none _ _ _, (by (repeat (first | exact Below.refl _ _ | assumption | refine Below.drew ?_ | refine Below.alloc ?_ ?_ _ | refine Below.setCell ?_ ?_ _)) <;> ((try simp) <;> omega)), by simp⟩
  case round =>
    obtain ⟨k, v, hk, rfl, hbox, hbox0, hown, hB, hsz2⟩ := hrel
    have hsz := hB.size
    by_cases hlt : k < 4
    · obtain ⟨kb, fb⟩ := blkcell hbox.out
      have hlt2 : (k : Int) < 4 := by omega
      have hlt1 : w.heap.size + 1 < wr.heap.size := by omega
      go_wp2_with (at_builtin; refine wpList_append_own _ rfl _ _ 22 rfl (w.heap.size + 2) 3 i0 (.int .i64 0) 1 8 Try.underlying22 hi hz0 hz1 hz2 rfl (by decide) _ _ _ rfl (hown.out.alloc _) ⟨wr.heap.size, 0, none⟩ 1 1 [.int .i64 x] rfl rfl ?c1 ?c2 ?c3 ?c4 ?c5 ?_)
      case c1 =>
        intro j u hj
        match j, hj with
        | 0, hj => simp at hj; subst hj; simp [Addr.add]
      case c2 => intro u hu; simp at hu; subst hu; rfl
      case c3 => unfold maxLen; omega
      case c4 => omega
      case c5 => simp; omega
      intro v' w1 hown' hgrow _
      have hbox1 := (hgrow.block (w.heap.size + 1) (by simp; omega) (own_ne hown.out (by omega))).trans (blk_alloc (O := .cells #[.int .i64 x] 3) hbox.out)
      have hbox2 := (hgrow.block w.heap.size (by simp; omega) (own_ne hown.out (by omega))).trans (blk_alloc (O := .cells #[.int .i64 x] 3) hbox0.out)
      have hB1 : Below w.heap.size w w1 := ((hB.alloc hsz _)).grown hgrow (by simp; omega) (fun g hg => by have := (hown.out.lt g hg).1; omega)
      have hs1 : w.heap.size + 2 ≤ w1.heap.size := Nat.le_trans hsz2 (Nat.le_trans (by simp) hgrow.size)
      have hown3 : w1.ownsRow (w.heap.size + 2) 3 1 v' (k + 1) ((List.replicate (k + 1) x).map (Value.int .i64)) := by rw [← repl_map]; simpa using hown'
      obtain ⟨g', cap', rfl⟩ := Joins.ownsRow_form hown3 (by omega)
      have hown2 := Lib.hid (ownsRow_setCell_below (a := ⟨w.heap.size + 1, 0, none⟩) hown3 (by show w.heap.size + 1 < w.heap.size + 2; omega) (.slice (some ⟨g', 0, none⟩) (k + 1) cap'))
      have hn1 := Lib.hid (blk_set (i := 0) hbox1 (.slice (some ⟨g', 0, none⟩) (k + 1) cap'))
      have hn0 := Lib.hid (blk_far (p := ⟨w.heap.size + 1, 0, none⟩) hbox2 (by show w.heap.size ≠ w.heap.size + 1; omega) (.slice (some ⟨g', 0, none⟩) (k + 1) cap'))
      obtain ⟨kb1, fb1⟩ := blkcell hbox1
      clear hgrow hown' hown3 hbox1 hbox2 kb fb
      go_wp2
      exact ⟨⟨k + 1, _, by omega, by go_num, hn1, hn0, hown2, hB1.setCell (by show w.heap.size ≤ w.heap.size + 1; omega) _, by simpa using hs1⟩, by simp [intOf]; omega⟩
    · obtain rfl : k = 4 := by omega
      obtain ⟨g, cap, rfl⟩ := Joins.ownsRow_form hown.out (by omega)
      obtain ⟨kb, fb⟩ := blkcell hbox.out
      obtain ⟨kb0, fb0⟩ := blkcell hbox0.out
      have ho := Lib.hid (ownsRow_setCell_below (a := ⟨w.heap.size, 0, none⟩) hown.out (by show w.heap.size < w.heap.size + 2; omega) (.slice (some ⟨g, 0, none⟩) 4 cap))
      have hlt1 : w.heap.size + 1 < wr.heap.size := by omega
      have hlt0 : w.heap.size < wr.heap.size := by omega
      go_wp2
      refine bodyPost_ret (v := lab (some ⟨g, 0, none⟩) 4 cap) (by simp [results, Try.results25, go_sem, *]) rfl ⟨_, _, rfl, Joins.ownsRow_le ho.out (by omega), hB.setCell (Nat.le_refl _) _⟩
/-- what a function that gives back a label leaves -/
def LabPost (xs : List Int) (w : World) (e : Ending) (w' : World) : Prop :=
  ∃ A c, e = .returned (lab A xs.length c) ∧ Own w' w.heap.size 3 A (xs.map (Value.int .i64)) ∧ Below w.heap.size w w'
theorem Own.of_row {w : World} {B : Nat} {A : Option Addr} {n c : Nat} {t : TypeId} {xs : List Value} (h : w.ownsRow B t 1 (.slice A n c) n xs) : Own w B t A xs := by
  rcases h.2 with ⟨_, h0⟩ | ⟨g, cap, cur, hv, hB, hh, _, _, _, ht⟩
  · left
    have := h.1
    rw [h0] at this
    exact List.eq_nil_of_length_eq_zero (by omega)
  · injection hv with hA
    subst hA
    refine .inr ⟨g, cur, rfl, hB, hh, fun k v hk => ?_⟩
    rw [← ht, List.getElem?_take] at hk
    split at hk
    · simpa using hk
    · cases hk
theorem specFlat_post (x : Int) (w : World) (h : inB x 0 3 = true) : Calls Try.prog 25 #[.int .i64 x] w (LabPost (List.replicate 4 x) w) :=
  (specFlat_yes x w h).mono fun _ _ ⟨A, c, he, ho, hB⟩ => ⟨A, c, by rw [he]; rfl, Own.of_row ho, hB⟩
set_option maxHeartbeats 800000 in
theorem specFlat_no (x : Int) (w : World) (h : inB x 0 3 = false) : Calls Try.prog 25 #[.int .i64 x] w (LabPost [] w) := by
  go_enter Try.func25, Try.ntmps25
  go_wp2_with (go_at_call 46; refine (l1In_any _ _ _ _).mono ?_; rintro e w' ⟨rfl, rfl⟩; rw [h])
  refine bodyPost_ret (v := lab none 0 0) (by simp [results, Try.results25, go_sem, *]) rfl ⟨none, 0, rfl, .inl rfl, (by (repeat (first | exact Below.refl _ _ | assumption | refine Below.drew ?_ | refine Below.alloc ?_ ?_ _ | refine Below.setCell ?_ ?_ _)) <;> ((try simp) <;> omega))⟩
set_option maxHeartbeats 800000 in
theorem implFlat_no (x : Int) (w : World) (h : inB x 0 3 = false) : Calls Try.prog 26 #[.int .i64 x] w (LabPost [] w) := by
  go_enter Try.func26, Try.ntmps26
  go_wp2_with (go_at_call 47; refine (within_any _ _ _ _).mono ?_; rintro e w' ⟨rfl, rfl⟩; rw [h])
  refine bodyPost_ret (v := lab none 0 0) (by simp [results, Try.results26, go_sem, *]) rfl ⟨none, 0, rfl, .inl rfl, (by (repeat (first | exact Below.refl _ _ | assumption | refine Below.drew ?_ | refine Below.alloc ?_ ?_ _ | refine Below.setCell ?_ ?_ _)) <;> ((try simp) <;> omega))⟩
set_option maxHeartbeats 800000 in
theorem implFlat_yes (x : Int) (w : World) (h : inB x 0 3 = true) : Calls Try.prog 26 #[.int .i64 x] w (LabPost (List.replicate 4 x) w) := by
  go_enter Try.func26, Try.ntmps26
  go_wp2_with (go_at_call 47; refine (within_any _ _ _ _).mono ?_; rintro e w' ⟨rfl, rfl⟩; rw [h])
  refine bodyPost_ret (v := lab (some ⟨w.heap.size + 1, 0, none⟩) 4 4) (by simp [results, Try.results26, go_sem, *]) rfl ⟨some ⟨w.heap.size + 1, 0, none⟩, 4, rfl, ?_, (by (repeat (first | exact Below.refl _ _ | assumption | refine Below.drew ?_ | refine Below.alloc ?_ ?_ _ | refine Below.setCell ?_ ?_ _)) <;> ((try simp) <;> omega))⟩
  exact .inr ⟨w.heap.size + 1, #[.int .i64 x, .int .i64 x, .int .i64 x, .int .i64 x], rfl, by omega, by simpa using heap_alloc_new (w.alloc (.cells #[.slice (some ⟨w.heap.size + 1, 0, none⟩) 4 4] 30)) (.cells #[.int .i64 x, .int .i64 x, .int .i64 x, .int .i64 x] 3), fun k v hk => by simpa [List.replicate] using hk⟩
end Go.Proofs.Ytkcchceoljlnaaa
