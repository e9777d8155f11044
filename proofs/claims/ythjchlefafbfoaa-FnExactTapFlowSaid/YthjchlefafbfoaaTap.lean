/- Contracts of the functions on taps. -/
import Derived.Test.YthjchlefafbfoaaAmt
namespace Go.Proofs.Ythjchlefafbfoaa
set_option linter.unusedSimpArgs false
set_option linter.unusedVariables false
open Go.RowKit

abbrev tap (a b c d k r : Int) : Value := .agg #[.int .i64 a, .int .i64 b, .int .i64 c, .int .i64 d, .int .i64 k, .int .i64 r]
def tapB (a b c d k r : Int) : Bool := inB a 0 4 && inB b 0 2 && inB c 0 4 && inB d 0 2 && (if k = 1 then inB r 0 1000 else if k = 2 then inB r 0 100 else false)
def kindB (k r : Int) : Bool := if k = 1 then inB r 0 1000 else if k = 2 then inB r 0 100 else false
theorem tapB_yes {a b c d k r : Int} (h1 : inB a 0 4 = true) (h2 : inB b 0 2 = true) (h3 : inB c 0 4 = true) (h4 : inB d 0 2 = true) : tapB a b c d k r = kindB k r := by
  simp [tapB, kindB, h1, h2, h3, h4]
theorem tapB_no {a b c d k r : Int} (h : (inB a 0 4 && inB b 0 2 && inB c 0 4 && inB d 0 2) = false) : tapB a b c d k r = false := by
  simp only [tapB]; rw [h]; rfl
theorem tapB_split (a b c d : Int) : (inB a 0 4 = true ∧ inB b 0 2 = true ∧ inB c 0 4 = true ∧ inB d 0 2 = true) ∨
    ((inB a 0 4 && inB b 0 2 && inB c 0 4 && inB d 0 2) = false ∧ (inB a 0 4 = false ∨ (inB a 0 4 = true ∧ inB b 0 2 = false ∧ inB c 0 4 = false) ∨ (inB a 0 4 = true ∧ inB b 0 2 = false ∧ inB c 0 4 = true) ∨ (inB a 0 4 = true ∧ inB b 0 2 = true ∧ inB c 0 4 = false) ∨ (inB a 0 4 = true ∧ inB b 0 2 = true ∧ inB c 0 4 = true ∧ inB d 0 2 = false))) := by
  cases inB a 0 4 <;> cases inB b 0 2 <;> cases inB c 0 4 <;> cases inB d 0 2 <;> simp
theorem kind_split (k : Int) : k = 1 ∨ k = 2 ∨ ((k == 1) = false ∧ (k == 2) = false) := by simp; omega
theorem kindB_1 (r : Int) : kindB 1 r = inB r 0 1000 := rfl
theorem kindB_2 (r : Int) : kindB 2 r = inB r 0 100 := rfl
theorem kindB_3 {k r : Int} (h1 : (k == 1) = false) (h2 : (k == 2) = false) : kindB k r = false := by
  simp at h1 h2; simp [kindB, h1, h2]
theorem tapB_true {a b c d k r : Int} (h : tapB a b c d k r = true) : inB a 0 4 = true ∧ inB b 0 2 = true ∧ inB c 0 4 = true ∧ inB d 0 2 = true ∧ ((k = 1 ∧ 0 ≤ r ∧ r ≤ 1000) ∨ (k = 2 ∧ 0 ≤ r ∧ r ≤ 100)) := by
  simp only [tapB, Bool.and_eq_true] at h
  obtain ⟨⟨⟨⟨h1, h2⟩, h3⟩, h4⟩, h5⟩ := h
  refine ⟨h1, h2, h3, h4, ?_⟩
  split at h5
  · exact .inl ⟨by assumption, inB_true h5⟩
  · split at h5
    · exact .inr ⟨by assumption, inB_true h5⟩
    · cases h5
set_option maxHeartbeats 1600000 in
theorem specTapOk_no (a b c d k r : Int) (w : World) (h : (inB a 0 4 && inB b 0 2 && inB c 0 4 && inB d 0 2) = false) :
    Calls Try.prog 27 #[tap a b c d k r] w fun e w' => e = .returned (.bool false) ∧ Below w.heap.size w w' := by
  rcases tapB_split a b c d with ⟨h1, h2, h3, h4⟩ | ⟨_, h1 | ⟨h1, h2, h3⟩ | ⟨h1, h2, h3⟩ | ⟨h1, h2, h3⟩ | ⟨h1, h2, h3, h4⟩⟩
  · simp [h1, h2, h3, h4] at h
  all_goals
    clear h
    go_enter Try.func27, Try.ntmps27
    go_wp2_with (first | (go_at_call 38; refine (l6Res_any _ _).mono ?_; rintro e w' ⟨rfl, rfl⟩) | (go_at_call 39; refine (l1In_any _ _ _ _).mono ?_; rintro e w' ⟨rfl, rfl⟩))
    go_ret
    exact ⟨rfl, (by (repeat (first | exact Below.refl _ _ | assumption | refine Below.drew ?_ | refine Below.alloc ?_ ?_ _ | refine Below.setCell ?_ ?_ _)) <;> ((try simp) <;> omega))⟩
set_option maxHeartbeats 1600000 in
theorem specTapOk_kind (a b c d k r : Int) (w : World) (h1 : inB a 0 4 = true) (h2 : inB b 0 2 = true) (h3 : inB c 0 4 = true) (h4 : inB d 0 2 = true) :
    Calls Try.prog 27 #[tap a b c d k r] w fun e w' => e = .returned (.bool (kindB k r)) ∧ Below w.heap.size w w' := by
  rcases kind_split k with rfl | rfl | ⟨k1, k2⟩
  · have K := Lib.hid (kindB_1 r)
    cases h5 : inB r 0 1000
    all_goals
      go_enter Try.func27, Try.ntmps27
      go_wp2_with (first | (go_at_call 38; refine (l6Res_any _ _).mono ?_; rintro e w' ⟨rfl, rfl⟩) | (go_at_call 39; refine (l1In_any _ _ _ _).mono ?_; rintro e w' ⟨rfl, rfl⟩))
      go_ret
      exact ⟨by rw [K.out, h5]; rfl, (by (repeat (first | exact Below.refl _ _ | assumption | refine Below.drew ?_ | refine Below.alloc ?_ ?_ _ | refine Below.setCell ?_ ?_ _)) <;> ((try simp) <;> omega))⟩
  · have K := Lib.hid (kindB_2 r)
    cases h5 : inB r 0 100
    all_goals
      go_enter Try.func27, Try.ntmps27
      go_wp2_with (first | (go_at_call 38; refine (l6Res_any _ _).mono ?_; rintro e w' ⟨rfl, rfl⟩) | (go_at_call 39; refine (l1In_any _ _ _ _).mono ?_; rintro e w' ⟨rfl, rfl⟩))
      go_ret
      exact ⟨by rw [K.out, h5]; rfl, (by (repeat (first | exact Below.refl _ _ | assumption | refine Below.drew ?_ | refine Below.alloc ?_ ?_ _ | refine Below.setCell ?_ ?_ _)) <;> ((try simp) <;> omega))⟩
  · have K := Lib.hid (kindB_3 (r := r) k1 k2)
    go_enter Try.func27, Try.ntmps27
    go_wp2_with (first | (go_at_call 38; refine (l6Res_any _ _).mono ?_; rintro e w' ⟨rfl, rfl⟩) | (go_at_call 39; refine (l1In_any _ _ _ _).mono ?_; rintro e w' ⟨rfl, rfl⟩))
    go_ret
    exact ⟨by rw [K.out]; rfl, (by (repeat (first | exact Below.refl _ _ | assumption | refine Below.drew ?_ | refine Below.alloc ?_ ?_ _ | refine Below.setCell ?_ ?_ _)) <;> ((try simp) <;> omega))⟩
theorem specTapOk_any (a b c d k r : Int) (w : World) :
    Calls Try.prog 27 #[tap a b c d k r] w fun e w' => e = .returned (.bool (tapB a b c d k r)) ∧ Below w.heap.size w w' := by
  cases h : (inB a 0 4 && inB b 0 2 && inB c 0 4 && inB d 0 2)
  · rw [tapB_no h]; exact specTapOk_no a b c d k r w h
  · simp only [Bool.and_eq_true] at h
    rw [tapB_yes h.1.1.1 h.1.1.2 h.1.2 h.2]; exact specTapOk_kind a b c d k r w h.1.1.1 h.1.1.2 h.1.2 h.2
set_option maxHeartbeats 1600000 in
theorem implTapOk_no (a b c d k r : Int) (w : World) (h : (inB a 0 4 && inB b 0 2 && inB c 0 4 && inB d 0 2) = false) :
    Calls Try.prog 29 #[tap a b c d k r] w fun e w' => e = .returned (.bool false) ∧ Below w.heap.size w w' := by
  rcases tapB_split a b c d with ⟨h1, h2, h3, h4⟩ | ⟨_, h1 | ⟨h1, h2, h3⟩ | ⟨h1, h2, h3⟩ | ⟨h1, h2, h3⟩ | ⟨h1, h2, h3, h4⟩⟩
  · simp [h1, h2, h3, h4] at h
  all_goals
    clear h
    go_enter Try.func29, Try.ntmps29
    go_wp2_with (first | (go_at_call 40; refine (isPlace_any _ _).mono ?_; rintro e w' ⟨rfl, rfl⟩) | (go_at_call 41; refine (isPart_any _ _).mono ?_; rintro e w' ⟨rfl, rfl⟩) | (go_at_call 42; refine (within_any _ _ _ _).mono ?_; rintro e w' ⟨rfl, rfl⟩))
    go_ret
    exact ⟨rfl, (by (repeat (first | exact Below.refl _ _ | assumption | refine Below.drew ?_ | refine Below.alloc ?_ ?_ _ | refine Below.setCell ?_ ?_ _)) <;> ((try simp) <;> omega))⟩
set_option maxHeartbeats 1600000 in
theorem implTapOk_kind (a b c d k r : Int) (w : World) (h1 : inB a 0 4 = true) (h2 : inB b 0 2 = true) (h3 : inB c 0 4 = true) (h4 : inB d 0 2 = true) :
    Calls Try.prog 29 #[tap a b c d k r] w fun e w' => e = .returned (.bool (kindB k r)) ∧ Below w.heap.size w w' := by
  rcases kind_split k with rfl | rfl | ⟨k1, k2⟩
  · have K := Lib.hid (kindB_1 r)
    cases h5 : inB r 0 1000
    all_goals
      go_enter Try.func29, Try.ntmps29
      go_wp2_with (first | (go_at_call 40; refine (isPlace_any _ _).mono ?_; rintro e w' ⟨rfl, rfl⟩) | (go_at_call 41; refine (isPart_any _ _).mono ?_; rintro e w' ⟨rfl, rfl⟩) | (go_at_call 42; refine (within_any _ _ _ _).mono ?_; rintro e w' ⟨rfl, rfl⟩))
      go_ret
      exact ⟨by rw [K.out, h5]; rfl, (by (repeat (first | exact Below.refl _ _ | assumption | refine Below.drew ?_ | refine Below.alloc ?_ ?_ _ | refine Below.setCell ?_ ?_ _)) <;> ((try simp) <;> omega))⟩
  · have K := Lib.hid (kindB_2 r)
    cases h5 : inB r 0 100
    all_goals
      go_enter Try.func29, Try.ntmps29
      go_wp2_with (first | (go_at_call 40; refine (isPlace_any _ _).mono ?_; rintro e w' ⟨rfl, rfl⟩) | (go_at_call 41; refine (isPart_any _ _).mono ?_; rintro e w' ⟨rfl, rfl⟩) | (go_at_call 42; refine (within_any _ _ _ _).mono ?_; rintro e w' ⟨rfl, rfl⟩))
      go_ret
      exact ⟨by rw [K.out, h5]; rfl, (by (repeat (first | exact Below.refl _ _ | assumption | refine Below.drew ?_ | refine Below.alloc ?_ ?_ _ | refine Below.setCell ?_ ?_ _)) <;> ((try simp) <;> omega))⟩
  · have K := Lib.hid (kindB_3 (r := r) k1 k2)
    go_enter Try.func29, Try.ntmps29
    go_wp2_with (first | (go_at_call 40; refine (isPlace_any _ _).mono ?_; rintro e w' ⟨rfl, rfl⟩) | (go_at_call 41; refine (isPart_any _ _).mono ?_; rintro e w' ⟨rfl, rfl⟩) | (go_at_call 42; refine (within_any _ _ _ _).mono ?_; rintro e w' ⟨rfl, rfl⟩))
    go_ret
    exact ⟨by rw [K.out]; rfl, (by (repeat (first | exact Below.refl _ _ | assumption | refine Below.drew ?_ | refine Below.alloc ?_ ?_ _ | refine Below.setCell ?_ ?_ _)) <;> ((try simp) <;> omega))⟩
theorem implTapOk_any (a b c d k r : Int) (w : World) :
    Calls Try.prog 29 #[tap a b c d k r] w fun e w' => e = .returned (.bool (tapB a b c d k r)) ∧ Below w.heap.size w w' := by
  cases h : (inB a 0 4 && inB b 0 2 && inB c 0 4 && inB d 0 2)
  · rw [tapB_no h]; exact implTapOk_no a b c d k r w h
  · simp only [Bool.and_eq_true] at h
    rw [tapB_yes h.1.1.1 h.1.1.2 h.1.2 h.2]; exact implTapOk_kind a b c d k r w h.1.1.1 h.1.1.2 h.1.2 h.2
set_option maxHeartbeats 800000 in
theorem toTap_any (a b c d k r : Int) (w : World) :
    Calls Try.prog 28 #[tap a b c d k r] w fun e w' => e = .returned (tap a b c d k r) ∧ Below w.heap.size w w' := by
  go_enter Try.func28, Try.ntmps28
  go_wp2
  refine bodyPost_ret (v := tap a b c d k r) (by simp [results, Try.results28, go_sem, *]) rfl ⟨rfl, (by (repeat (first | exact Below.refl _ _ | assumption | refine Below.drew ?_ | refine Below.alloc ?_ ?_ _ | refine Below.setCell ?_ ?_ _)) <;> ((try simp) <;> omega))⟩

end Go.Proofs.Ythjchlefafbfoaa
