/- Contracts of the functions on amounts. -/
import Derived.Test.YthjchlefafbfoaaBase
namespace Go.Proofs.Ythjchlefafbfoaa
set_option linter.unusedSimpArgs false
set_option linter.unusedVariables false
open Go.RowKit

/-- an amount as a value -/
abbrev amt (p r c : Int) : Value := .agg #[.int .i64 p, .int .i64 r, .int .i64 c]
def amtB (p r c : Int) : Bool := inB p 0 1000000 && inB r 0 1000000 && inB c 0 1000000
theorem amtB_split (p r c : Int) : (inB p 0 1000000 = true ∧ inB r 0 1000000 = true ∧ inB c 0 1000000 = true) ∨ (inB p 0 1000000 = true ∧ inB r 0 1000000 = true ∧ inB c 0 1000000 = false) ∨ (inB p 0 1000000 = true ∧ inB r 0 1000000 = false) ∨ inB p 0 1000000 = false := by
  cases inB p 0 1000000 <;> cases inB r 0 1000000 <;> cases inB c 0 1000000 <;> simp
theorem amtB_true {p r c : Int} (h : amtB p r c = true) : (0 ≤ p ∧ p ≤ 1000000) ∧ (0 ≤ r ∧ r ≤ 1000000) ∧ (0 ≤ c ∧ c ≤ 1000000) := by
  simp only [amtB, Bool.and_eq_true] at h
  exact ⟨inB_true h.1.1, inB_true h.1.2, inB_true h.2⟩

set_option maxHeartbeats 400000 in
theorem specAmtOk_any (p r c : Int) (w : World) :
    Calls Try.prog 13 #[amt p r c] w fun e w' => e = .returned (.bool (amtB p r c)) ∧ Below w.heap.size w w' := by
  have H := Lib.hid (show amtB p r c = (inB p 0 1000000 && inB r 0 1000000 && inB c 0 1000000) from rfl)
  rcases amtB_split p r c with ⟨h1, h2, h3⟩ | ⟨h1, h2, h3⟩ | ⟨h1, h2⟩ | h1
  all_goals
    go_enter Try.func13, Try.ntmps13
    go_wp2_with (go_at_call 35; refine (l5In_any _ _).mono ?_; rintro e w' ⟨rfl, rfl⟩)
    go_ret
    exact ⟨by rw [H.out]; simp [*], (Below.refl _ _).alloc (Nat.le_refl _) _⟩
set_option maxHeartbeats 400000 in
theorem implAmtOk_any (p r c : Int) (w : World) :
    Calls Try.prog 15 #[amt p r c] w fun e w' => e = .returned (.bool (amtB p r c)) ∧ Below w.heap.size w w' := by
  have H := Lib.hid (show amtB p r c = (inB p 0 1000000 && inB r 0 1000000 && inB c 0 1000000) from rfl)
  rcases amtB_split p r c with ⟨h1, h2, h3⟩ | ⟨h1, h2, h3⟩ | ⟨h1, h2⟩ | h1
  all_goals
    go_enter Try.func15, Try.ntmps15
    go_wp2_with (go_at_call 36; refine (isAmount_any _ _).mono ?_; rintro e w' ⟨rfl, rfl⟩)
    go_ret
    exact ⟨by rw [H.out]; simp [*], (Below.refl _ _).alloc (Nat.le_refl _) _⟩
set_option maxHeartbeats 400000 in
theorem toAmt_any (p r c : Int) (w : World) :
    Calls Try.prog 14 #[amt p r c] w fun e w' => e = .returned (amt p r c) ∧ Below w.heap.size w w' := by
  go_enter Try.func14, Try.ntmps14
  go_wp2
  refine bodyPost_ret (v := amt p r c) (by simp [results, Try.results14, go_sem]) rfl ⟨rfl, (by (repeat (first | exact Below.refl _ _ | assumption | refine Below.drew ?_ | refine Below.alloc ?_ ?_ _ | refine Below.setCell ?_ ?_ _)) <;> ((try simp) <;> omega))⟩
def fitsB (p r c p' r' c' : Int) : Bool := amtB p r c && amtB p' r' c' && decide (p ≤ p') && decide (r ≤ r') && decide (c ≤ c')
theorem fits_split (p r c p' r' c' : Int) : (amtB p r c = true ∧ amtB p' r' c' = true) ∨ (amtB p r c = true ∧ amtB p' r' c' = false) ∨ amtB p r c = false := by
  cases amtB p r c <;> cases amtB p' r' c' <;> simp
set_option maxHeartbeats 400000 in
theorem specAmtFits_any (p r c p' r' c' : Int) (w : World) :
    Calls Try.prog 16 #[amt p r c, amt p' r' c'] w fun e w' => e = .returned (.bool (fitsB p r c p' r' c')) ∧ Below w.heap.size w w' := by
  have H := Lib.hid (show fitsB p r c p' r' c' = (amtB p r c && amtB p' r' c' && decide (p ≤ p') && decide (r ≤ r') && decide (c ≤ c')) from rfl)
  rcases fits_split p r c p' r' c' with ⟨h1, h2⟩ | ⟨h1, h2⟩ | h1
  all_goals
    go_enter Try.func16, Try.ntmps16
    go_wp2_with (go_at_call 13; refine (specAmtOk_any _ _ _ _).mono ?_; rintro e w' ⟨rfl, hb⟩; obtain ⟨hc, hf⟩ := bcell hb; have hs := hb.size; (try simp only [World.size_alloc, World.size_setCell, World.size_drew, Nat.add_assoc, Nat.reduceAdd] at hs hc hf); have hz := ltl hs; (try have hz2 := ltl2 hs); have hB : Below w.heap.size w w' := (by refine Below.trans ?_ (hb.mono (by (try simp) <;> omega)); clear hb; (repeat (first | exact Below.refl _ _ | assumption | refine Below.drew ?_ | refine Below.alloc ?_ ?_ _ | refine Below.setCell ?_ ?_ _)) <;> ((try simp) <;> omega)); clear hb)
  all_goals
    go_ret
    exact ⟨by rw [H.out]; (try simp [*]) <;> omega, (by (repeat (first | exact Below.refl _ _ | assumption | refine Below.drew ?_ | refine Below.alloc ?_ ?_ _ | refine Below.setCell ?_ ?_ _)) <;> ((try simp) <;> omega))⟩
set_option maxHeartbeats 400000 in
theorem implAmtFits_any (p r c p' r' c' : Int) (w : World) :
    Calls Try.prog 17 #[amt p r c, amt p' r' c'] w fun e w' => e = .returned (.bool (fitsB p r c p' r' c')) ∧ Below w.heap.size w w' := by
  have H := Lib.hid (show fitsB p r c p' r' c' = (amtB p r c && amtB p' r' c' && decide (p ≤ p') && decide (r ≤ r') && decide (c ≤ c')) from rfl)
  rcases fits_split p r c p' r' c' with ⟨h1, h2⟩ | ⟨h1, h2⟩ | h1
  all_goals
    go_enter Try.func17, Try.ntmps17
    go_wp2_with (go_at_call 15; refine (implAmtOk_any _ _ _ _).mono ?_; rintro e w' ⟨rfl, hb⟩; obtain ⟨hc, hf⟩ := bcell hb; have hs := hb.size; (try simp only [World.size_alloc, World.size_setCell, World.size_drew, Nat.add_assoc, Nat.reduceAdd] at hs hc hf); have hz := ltl hs; (try have hz2 := ltl2 hs); have hB : Below w.heap.size w w' := (by refine Below.trans ?_ (hb.mono (by (try simp) <;> omega)); clear hb; (repeat (first | exact Below.refl _ _ | assumption | refine Below.drew ?_ | refine Below.alloc ?_ ?_ _ | refine Below.setCell ?_ ?_ _)) <;> ((try simp) <;> omega)); clear hb)
  all_goals
    go_ret
    exact ⟨by rw [H.out]; (try simp [*]) <;> omega, (by (repeat (first | exact Below.refl _ _ | assumption | refine Below.drew ?_ | refine Below.alloc ?_ ?_ _ | refine Below.setCell ?_ ?_ _)) <;> ((try simp) <;> omega))⟩
theorem three_split (k : Int) : k = 0 ∨ k = 1 ∨ k = 2 ∨ ((k == 0) = false ∧ (k == 1) = false ∧ (k == 2) = false) := by
  simp; omega
def partOf (p r c k : Int) : Int := if k = 0 then p else if k = 1 then r else if k = 2 then c else 0
theorem partOf_0 (p r c : Int) : partOf p r c 0 = p := rfl
theorem partOf_1 (p r c : Int) : partOf p r c 1 = r := rfl
theorem partOf_2 (p r c : Int) : partOf p r c 2 = c := rfl
theorem partOf_3 {p r c k : Int} (h0 : (k == 0) = false) (h1 : (k == 1) = false) (h2 : (k == 2) = false) : partOf p r c k = 0 := by
  simp at h0 h1 h2; simp [partOf, h0, h1, h2]
set_option maxHeartbeats 400000 in
theorem specAmtPart_any (p r c k : Int) (w : World) :
    Calls Try.prog 18 #[amt p r c, .int .i64 k] w fun e w' => e = .returned (.int .i64 (partOf p r c k)) ∧ Below w.heap.size w w' := by
  rcases three_split k with rfl | rfl | rfl | ⟨h0, h1, h2⟩
  all_goals
    go_enter Try.func18, Try.ntmps18
    go_wp2
    go_ret
  · exact ⟨by rw [partOf_0]; rfl, (by (repeat (first | exact Below.refl _ _ | assumption | refine Below.drew ?_ | refine Below.alloc ?_ ?_ _ | refine Below.setCell ?_ ?_ _)) <;> ((try simp) <;> omega))⟩
  · exact ⟨by rw [partOf_1]; rfl, (by (repeat (first | exact Below.refl _ _ | assumption | refine Below.drew ?_ | refine Below.alloc ?_ ?_ _ | refine Below.setCell ?_ ?_ _)) <;> ((try simp) <;> omega))⟩
  · exact ⟨by rw [partOf_2]; rfl, (by (repeat (first | exact Below.refl _ _ | assumption | refine Below.drew ?_ | refine Below.alloc ?_ ?_ _ | refine Below.setCell ?_ ?_ _)) <;> ((try simp) <;> omega))⟩
  · exact ⟨by rw [partOf_3 h0 h1 h2]; rfl, (by (repeat (first | exact Below.refl _ _ | assumption | refine Below.drew ?_ | refine Below.alloc ?_ ?_ _ | refine Below.setCell ?_ ?_ _)) <;> ((try simp) <;> omega))⟩
set_option maxHeartbeats 400000 in
theorem implAmtPart_any (p r c k : Int) (w : World) :
    Calls Try.prog 19 #[amt p r c, .int .i64 k] w fun e w' => e = .returned (.int .i64 (partOf p r c k)) ∧ Below w.heap.size w w' := by
  rcases three_split k with rfl | rfl | rfl | ⟨h0, h1, h2⟩
  all_goals
    go_enter Try.func19, Try.ntmps19
    go_wp2
    go_ret
  · exact ⟨by rw [partOf_0]; rfl, (by (repeat (first | exact Below.refl _ _ | assumption | refine Below.drew ?_ | refine Below.alloc ?_ ?_ _ | refine Below.setCell ?_ ?_ _)) <;> ((try simp) <;> omega))⟩
  · exact ⟨by rw [partOf_1]; rfl, (by (repeat (first | exact Below.refl _ _ | assumption | refine Below.drew ?_ | refine Below.alloc ?_ ?_ _ | refine Below.setCell ?_ ?_ _)) <;> ((try simp) <;> omega))⟩
  · exact ⟨by rw [partOf_2]; rfl, (by (repeat (first | exact Below.refl _ _ | assumption | refine Below.drew ?_ | refine Below.alloc ?_ ?_ _ | refine Below.setCell ?_ ?_ _)) <;> ((try simp) <;> omega))⟩
  · exact ⟨by rw [partOf_3 h0 h1 h2]; rfl, (by (repeat (first | exact Below.refl _ _ | assumption | refine Below.drew ?_ | refine Below.alloc ?_ ?_ _ | refine Below.setCell ?_ ?_ _)) <;> ((try simp) <;> omega))⟩
def oneC (k n i : Int) : Int := if k = i then n else 0
set_option maxHeartbeats 400000 in
theorem specAmtOne_any (k n : Int) (w : World) :
    Calls Try.prog 20 #[.int .i64 k, .int .i64 n] w fun e w' => e = .returned (amt (oneC k n 0) (oneC k n 1) (oneC k n 2)) ∧ Below w.heap.size w w' := by
  rcases three_split k with rfl | rfl | rfl | ⟨h0, h1, h2⟩
  · go_enter Try.func20, Try.ntmps20
    go_wp2
    refine bodyPost_ret (v := amt n 0 0) (by simp [results, Try.results20, go_sem, *]) rfl ⟨rfl, (by (repeat (first | exact Below.refl _ _ | assumption | refine Below.drew ?_ | refine Below.alloc ?_ ?_ _ | refine Below.setCell ?_ ?_ _)) <;> ((try simp) <;> omega))⟩
  · go_enter Try.func20, Try.ntmps20
    go_wp2
    refine bodyPost_ret (v := amt 0 n 0) (by simp [results, Try.results20, go_sem, *]) rfl ⟨rfl, (by (repeat (first | exact Below.refl _ _ | assumption | refine Below.drew ?_ | refine Below.alloc ?_ ?_ _ | refine Below.setCell ?_ ?_ _)) <;> ((try simp) <;> omega))⟩
  · go_enter Try.func20, Try.ntmps20
    go_wp2
    refine bodyPost_ret (v := amt 0 0 n) (by simp [results, Try.results20, go_sem, *]) rfl ⟨rfl, (by (repeat (first | exact Below.refl _ _ | assumption | refine Below.drew ?_ | refine Below.alloc ?_ ?_ _ | refine Below.setCell ?_ ?_ _)) <;> ((try simp) <;> omega))⟩
  · have e0 : ∀ i, i = 0 ∨ i = 1 ∨ i = 2 → oneC k n i = 0 := by
      intro i hi; unfold oneC; simp at h0 h1 h2; rw [if_neg (by omega)]
    have E := Lib.hid e0; clear e0
    go_enter Try.func20, Try.ntmps20
    go_wp2
    rw [E.out 0 (by simp), E.out 1 (by simp), E.out 2 (by simp)]
    refine bodyPost_ret (v := amt 0 0 0) (by simp [results, Try.results20, go_sem, *]) rfl ⟨rfl, (by (repeat (first | exact Below.refl _ _ | assumption | refine Below.drew ?_ | refine Below.alloc ?_ ?_ _ | refine Below.setCell ?_ ?_ _)) <;> ((try simp) <;> omega))⟩
set_option maxHeartbeats 400000 in
theorem implAmtOne_any (k n : Int) (w : World) :
    Calls Try.prog 21 #[.int .i64 k, .int .i64 n] w fun e w' => e = .returned (amt (oneC k n 0) (oneC k n 1) (oneC k n 2)) ∧ Below w.heap.size w w' := by
  rcases three_split k with rfl | rfl | rfl | ⟨h0, h1, h2⟩
  · go_enter Try.func21, Try.ntmps21
    go_wp2
    refine bodyPost_ret (v := amt n 0 0) (by simp [results, Try.results21, go_sem, *]) rfl ⟨rfl, (by (repeat (first | exact Below.refl _ _ | assumption | refine Below.drew ?_ | refine Below.alloc ?_ ?_ _ | refine Below.setCell ?_ ?_ _)) <;> ((try simp) <;> omega))⟩
  · go_enter Try.func21, Try.ntmps21
    go_wp2
    refine bodyPost_ret (v := amt 0 n 0) (by simp [results, Try.results21, go_sem, *]) rfl ⟨rfl, (by (repeat (first | exact Below.refl _ _ | assumption | refine Below.drew ?_ | refine Below.alloc ?_ ?_ _ | refine Below.setCell ?_ ?_ _)) <;> ((try simp) <;> omega))⟩
  · go_enter Try.func21, Try.ntmps21
    go_wp2
    refine bodyPost_ret (v := amt 0 0 n) (by simp [results, Try.results21, go_sem, *]) rfl ⟨rfl, (by (repeat (first | exact Below.refl _ _ | assumption | refine Below.drew ?_ | refine Below.alloc ?_ ?_ _ | refine Below.setCell ?_ ?_ _)) <;> ((try simp) <;> omega))⟩
  · have e0 : ∀ i, i = 0 ∨ i = 1 ∨ i = 2 → oneC k n i = 0 := by
      intro i hi; unfold oneC; simp at h0 h1 h2; rw [if_neg (by omega)]
    have E := Lib.hid e0; clear e0
    go_enter Try.func21, Try.ntmps21
    go_wp2
    rw [E.out 0 (by simp), E.out 1 (by simp), E.out 2 (by simp)]
    refine bodyPost_ret (v := amt 0 0 0) (by simp [results, Try.results21, go_sem, *]) rfl ⟨rfl, (by (repeat (first | exact Below.refl _ _ | assumption | refine Below.drew ?_ | refine Below.alloc ?_ ?_ _ | refine Below.setCell ?_ ?_ _)) <;> ((try simp) <;> omega))⟩

set_option maxHeartbeats 400000 in
theorem eqAmt_any (p r c p' r' c' : Int) (w : World) :
    Calls Try.prog 22 #[amt p r c, amt p' r' c'] w fun e w' => e = .returned (.bool (p == p' && r == r' && c == c')) ∧ Below w.heap.size w w' := by
  by_cases h1 : (p == p') = true
  · by_cases h2 : (r == r') = true
    · by_cases h3 : (c == c') = true
      · obtain rfl : p = p' := by simpa using h1
        obtain rfl : r = r' := by simpa using h2
        obtain rfl : c = c' := by simpa using h3
        clear h1 h2 h3
        go_enter Try.func22, Try.ntmps22
        go_wp2
        go_ret
        exact ⟨by simp, (by (repeat (first | exact Below.refl _ _ | assumption | refine Below.drew ?_ | refine Below.alloc ?_ ?_ _ | refine Below.setCell ?_ ?_ _)) <;> ((try simp) <;> omega))⟩
      · obtain rfl : p = p' := by simpa using h1
        obtain rfl : r = r' := by simpa using h2
        have h4 : (c == c') = false := by simpa using h3
        have h5 : (c != c') = true := by simpa using h3
        clear h1 h2 h3
        go_enter Try.func22, Try.ntmps22
        go_wp2
        go_ret
        exact ⟨by simp [h4], (by (repeat (first | exact Below.refl _ _ | assumption | refine Below.drew ?_ | refine Below.alloc ?_ ?_ _ | refine Below.setCell ?_ ?_ _)) <;> ((try simp) <;> omega))⟩
    · obtain rfl : p = p' := by simpa using h1
      have h4 : (r == r') = false := by simpa using h2
      have h5 : (r != r') = true := by simpa using h2
      clear h1 h2
      go_enter Try.func22, Try.ntmps22
      go_wp2
      go_ret
      exact ⟨by simp [h4], (by (repeat (first | exact Below.refl _ _ | assumption | refine Below.drew ?_ | refine Below.alloc ?_ ?_ _ | refine Below.setCell ?_ ?_ _)) <;> ((try simp) <;> omega))⟩
  · have h4 : (p == p') = false := by simpa using h1
    have h5 : (p != p') = true := by simpa using h1
    clear h1
    go_enter Try.func22, Try.ntmps22
    go_wp2
    go_ret
    exact ⟨by simp [h4], (by (repeat (first | exact Below.refl _ _ | assumption | refine Below.drew ?_ | refine Below.alloc ?_ ?_ _ | refine Below.setCell ?_ ?_ _)) <;> ((try simp) <;> omega))⟩

end Go.Proofs.Ythjchlefafbfoaa
