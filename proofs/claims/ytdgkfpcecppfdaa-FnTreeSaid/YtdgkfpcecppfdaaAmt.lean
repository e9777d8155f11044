/- Contracts of the functions on amounts. -/
import Derived.Test.YtdgkfpcecppfdaaBase
namespace Go.Proofs.Ytdgkfpcecppfdaa
set_option linter.unusedSimpArgs false
set_option linter.unusedVariables false
open Go.RowKit

/-- an amount as a value -/
abbrev amt (p r c : Int) : Value := .agg #[.int .i64 p, .int .i64 r, .int .i64 c]
def amtB (p r c : Int) : Bool := inB p 0 1000000 && inB r 0 1000000 && inB c 0 1000000
theorem amtB_split (p r c : Int) : (inB p 0 1000000 = true ∧ inB r 0 1000000 = true ∧ inB c 0 1000000 = true) ∨ (inB p 0 1000000 = true ∧ inB r 0 1000000 = true ∧ inB c 0 1000000 = false) ∨ (inB p 0 1000000 = true ∧ inB r 0 1000000 = false) ∨ inB p 0 1000000 = false := by
  cases inB p 0 1000000 <;> cases inB r 0 1000000 <;> cases inB c 0 1000000 <;> simp
theorem amtB_true {p r c : Int} (h : amtB p r c = true) : (0 ≤ p ∧ p ≤ 1000000) ∧ (0 ≤ r ∧ r ≤ 1000000) ∧ (0 ≤ c ∧ c ≤ 1000000) := by
  simp only [amtB, Bool.and_eq_true] at h
  exact ⟨inB_true h.1.1, inB_true h.1.2, inB_true h.2⟩

set_option maxHeartbeats 400000 in
theorem specAmtOk_any (p r c : Int) (w : World) :
    Calls Try.prog 45 #[amt p r c] w fun e w' => e = .returned (.bool (amtB p r c)) ∧ Below w.heap.size w w' := by
  have H := Lib.hid (show amtB p r c = (inB p 0 1000000 && inB r 0 1000000 && inB c 0 1000000) from rfl)
  rcases amtB_split p r c with ⟨h1, h2, h3⟩ | ⟨h1, h2, h3⟩ | ⟨h1, h2⟩ | h1
  all_goals
    go_enter Try.func45, Try.ntmps45
    go_wp2_with (go_at_call 63; refine (l5In_any _ _).mono ?_; rintro e w' ⟨rfl, rfl⟩)
    go_ret
    exact ⟨by rw [H.out]; simp [*], (Below.refl _ _).alloc (Nat.le_refl _) _⟩
set_option maxHeartbeats 400000 in
theorem implAmtOk_any (p r c : Int) (w : World) :
    Calls Try.prog 50 #[amt p r c] w fun e w' => e = .returned (.bool (amtB p r c)) ∧ Below w.heap.size w w' := by
  have H := Lib.hid (show amtB p r c = (inB p 0 1000000 && inB r 0 1000000 && inB c 0 1000000) from rfl)
  rcases amtB_split p r c with ⟨h1, h2, h3⟩ | ⟨h1, h2, h3⟩ | ⟨h1, h2⟩ | h1
  all_goals
    go_enter Try.func50, Try.ntmps50
    go_wp2_with (go_at_call 65; refine (isAmount_any _ _).mono ?_; rintro e w' ⟨rfl, rfl⟩)
    go_ret
    exact ⟨by rw [H.out]; simp [*], (Below.refl _ _).alloc (Nat.le_refl _) _⟩
set_option maxHeartbeats 400000 in
theorem toAmt_any (p r c : Int) (w : World) :
    Calls Try.prog 14 #[amt p r c] w fun e w' => e = .returned (amt p r c) ∧ Below w.heap.size w w' := by
  go_enter Try.func14, Try.ntmps14
  go_wp2
  refine bodyPost_ret (v := amt p r c) (by simp [results, Try.results14, go_sem]) rfl ⟨rfl, (by (repeat (first | exact Below.refl _ _ | assumption | refine Below.drew ?_ | refine Below.alloc ?_ ?_ _ | refine Below.setCell ?_ ?_ _)) <;> ((try simp) <;> omega))⟩
def fitsB (p r c p' r' c' : Int) : Bool := amtB p r c && amtB p' r' c' && decide (p ≤ p') && decide (r ≤ r') && decide (c ≤ c')
theorem fits_split (p r c p' r' c' : Int) : (amtB p r c = true ∧ amtB p' r' c' = true) ∨ (amtB p r c = true ∧ amtB p' r' c' = false) ∨ amtB p r c = false := by
  cases amtB p r c <;> cases amtB p' r' c' <;> simp
set_option maxHeartbeats 400000 in
theorem specAmtFits_any (p r c p' r' c' : Int) (w : World) :
    Calls Try.prog 67 #[amt p r c, amt p' r' c'] w fun e w' => e = .returned (.bool (fitsB p r c p' r' c')) ∧ Below w.heap.size w w' := by
  have H := Lib.hid (show fitsB p r c p' r' c' = (amtB p r c && amtB p' r' c' && decide (p ≤ p') && decide (r ≤ r') && decide (c ≤ c')) from rfl)
  rcases fits_split p r c p' r' c' with ⟨h1, h2⟩ | ⟨h1, h2⟩ | h1
  all_goals
    go_enter Try.func67, Try.ntmps67
    go_wp2_with (go_at_call 45; refine (specAmtOk_any _ _ _ _).mono ?_; rintro e w' ⟨rfl, hb⟩; obtain ⟨hc, hf⟩ := bcell hb; have hs := hb.size; (try simp only [World.size_alloc, World.size_setCell, World.size_drew, Nat.add_assoc, Nat.reduceAdd] at hs hc hf); have hz := ltl hs; (try have hz2 := ltl2 hs); have hB : Below w.heap.size w w' := (by refine Below.trans ?_ (hb.mono (by (try simp) <;> omega)); clear hb; (repeat (first | exact Below.refl _ _ | assumption | refine Below.drew ?_ | refine Below.alloc ?_ ?_ _ | refine Below.setCell ?_ ?_ _)) <;> ((try simp) <;> omega)); clear hb)
  all_goals
    go_ret
    exact ⟨by rw [H.out]; (try simp [*]) <;> omega, (by (repeat (first | exact Below.refl _ _ | assumption | refine Below.drew ?_ | refine Below.alloc ?_ ?_ _ | refine Below.setCell ?_ ?_ _)) <;> ((try simp) <;> omega))⟩
set_option maxHeartbeats 400000 in
theorem implAmtFits_any (p r c p' r' c' : Int) (w : World) :
    Calls Try.prog 68 #[amt p r c, amt p' r' c'] w fun e w' => e = .returned (.bool (fitsB p r c p' r' c')) ∧ Below w.heap.size w w' := by
  have H := Lib.hid (show fitsB p r c p' r' c' = (amtB p r c && amtB p' r' c' && decide (p ≤ p') && decide (r ≤ r') && decide (c ≤ c')) from rfl)
  rcases fits_split p r c p' r' c' with ⟨h1, h2⟩ | ⟨h1, h2⟩ | h1
  all_goals
    go_enter Try.func68, Try.ntmps68
    go_wp2_with (go_at_call 50; refine (implAmtOk_any _ _ _ _).mono ?_; rintro e w' ⟨rfl, hb⟩; obtain ⟨hc, hf⟩ := bcell hb; have hs := hb.size; (try simp only [World.size_alloc, World.size_setCell, World.size_drew, Nat.add_assoc, Nat.reduceAdd] at hs hc hf); have hz := ltl hs; (try have hz2 := ltl2 hs); have hB : Below w.heap.size w w' := (by refine Below.trans ?_ (hb.mono (by (try simp) <;> omega)); clear hb; (repeat (first | exact Below.refl _ _ | assumption | refine Below.drew ?_ | refine Below.alloc ?_ ?_ _ | refine Below.setCell ?_ ?_ _)) <;> ((try simp) <;> omega)); clear hb)
  all_goals
    go_ret
    exact ⟨by rw [H.out]; (try simp [*]) <;> omega, (by (repeat (first | exact Below.refl _ _ | assumption | refine Below.drew ?_ | refine Below.alloc ?_ ?_ _ | refine Below.setCell ?_ ?_ _)) <;> ((try simp) <;> omega))⟩

set_option maxHeartbeats 400000 in
theorem eqAmt_any (p r c p' r' c' : Int) (w : World) :
    Calls Try.prog 25 #[amt p r c, amt p' r' c'] w fun e w' => e = .returned (.bool (p == p' && r == r' && c == c')) ∧ Below w.heap.size w w' := by
  by_cases h1 : (p == p') = true
  · by_cases h2 : (r == r') = true
    · by_cases h3 : (c == c') = true
      · obtain rfl : p = p' := by simpa using h1
        obtain rfl : r = r' := by simpa using h2
        obtain rfl : c = c' := by simpa using h3
        clear h1 h2 h3
        go_enter Try.func25, Try.ntmps25
        go_wp2
        go_ret
        exact ⟨by simp, (by (repeat (first | exact Below.refl _ _ | assumption | refine Below.drew ?_ | refine Below.alloc ?_ ?_ _ | refine Below.setCell ?_ ?_ _)) <;> ((try simp) <;> omega))⟩
      · obtain rfl : p = p' := by simpa using h1
        obtain rfl : r = r' := by simpa using h2
        have h4 : (c == c') = false := by simpa using h3
        have h5 : (c != c') = true := by simpa using h3
        clear h1 h2 h3
        go_enter Try.func25, Try.ntmps25
        go_wp2
        go_ret
        exact ⟨by simp [h4], (by (repeat (first | exact Below.refl _ _ | assumption | refine Below.drew ?_ | refine Below.alloc ?_ ?_ _ | refine Below.setCell ?_ ?_ _)) <;> ((try simp) <;> omega))⟩
    · obtain rfl : p = p' := by simpa using h1
      have h4 : (r == r') = false := by simpa using h2
      have h5 : (r != r') = true := by simpa using h2
      clear h1 h2
      go_enter Try.func25, Try.ntmps25
      go_wp2
      go_ret
      exact ⟨by simp [h4], (by (repeat (first | exact Below.refl _ _ | assumption | refine Below.drew ?_ | refine Below.alloc ?_ ?_ _ | refine Below.setCell ?_ ?_ _)) <;> ((try simp) <;> omega))⟩
  · have h4 : (p == p') = false := by simpa using h1
    have h5 : (p != p') = true := by simpa using h1
    clear h1
    go_enter Try.func25, Try.ntmps25
    go_wp2
    go_ret
    exact ⟨by simp [h4], (by (repeat (first | exact Below.refl _ _ | assumption | refine Below.drew ?_ | refine Below.alloc ?_ ?_ _ | refine Below.setCell ?_ ?_ _)) <;> ((try simp) <;> omega))⟩

end Go.Proofs.Ytdgkfpcecppfdaa
