/- Contracts of AmtSub, AmtAdd and sumOf. -/
import Derived.Test.YtdgkfpcecppfdaaAmt
namespace Go.Proofs.Ytdgkfpcecppfdaa
set_option linter.unusedSimpArgs false
set_option linter.unusedVariables false
open Go.RowKit

theorem fitsB_true {p r c p' r' c' : Int} (h : fitsB p r c p' r' c' = true) : 0 ≤ p ∧ p ≤ p' ∧ p' ≤ 1000000 ∧ 0 ≤ r ∧ r ≤ r' ∧ r' ≤ 1000000 ∧ 0 ≤ c ∧ c ≤ c' ∧ c' ≤ 1000000 := by
  simp only [fitsB, Bool.and_eq_true, decide_eq_true_eq] at h
  obtain ⟨⟨⟨⟨h1, h2⟩, h3⟩, h4⟩, h5⟩ := h
  have := amtB_true h1; have := amtB_true h2
  omega
set_option maxHeartbeats 800000 in
theorem specAmtSub_yes (p r c p' r' c' : Int) (w : World) (h : fitsB p' r' c' p r c = true) :
    Calls Try.prog 56 #[amt p r c, amt p' r' c'] w fun e w' => e = .returned (.tuple #[amt (p - p') (r - r') (c - c'), .bool true]) ∧ Below w.heap.size w w' := by
  obtain ⟨b1, b2, b3, b4, b5, b6, b7, b8, b9⟩ := fitsB_true h
  go_enter Try.func56, Try.ntmps56
  go_wp2_with (go_at_call 67; refine (specAmtFits_any _ _ _ _ _ _ _).mono ?_; rintro e w' ⟨rfl, hb⟩; obtain ⟨hca, hfa⟩ := bcell hb; (try simp only [World.size_alloc, World.size_setCell, World.size_drew, Nat.add_assoc, Nat.reduceAdd] at hca hfa); obtain ⟨hc, hf⟩ := bcellk (k := w.heap.size + 3) hb (by (try simp only [World.size_alloc, World.size_setCell, World.size_drew]); omega); have hs : w.heap.size + 3 ≤ w'.heap.size := (by have := hb.size; (try simp only [World.size_alloc, World.size_setCell, World.size_drew] at this); omega); have hz := ltl hs; have hz0 : w.heap.size < w'.heap.size := (by omega); have hz1 : w.heap.size + 1 < w'.heap.size := (by omega); have hz2 : w.heap.size + 1 + 1 < w'.heap.size := (by omega); have hB : Below w.heap.size w w' := (by refine Below.trans ?_ (hb.mono (by (try simp) <;> omega)); clear hb; (repeat (first | exact Below.refl _ _ | assumption | refine Below.drew ?_ | refine Below.alloc ?_ ?_ _ | refine Below.setCell ?_ ?_ _)) <;> ((try simp) <;> omega)); clear hb)
  refine bodyPost_ret (v := .tuple #[amt (p - p') (r - r') (c - c'), .bool true]) (by simp [results, Try.results56, go_sem, *]) rfl ⟨rfl, (by (repeat (first | exact Below.refl _ _ | assumption | refine Below.drew ?_ | refine Below.alloc ?_ ?_ _ | refine Below.setCell ?_ ?_ _)) <;> ((try simp) <;> omega))⟩
set_option maxHeartbeats 800000 in
theorem specAmtSub_no (p r c p' r' c' : Int) (w : World) (h : fitsB p' r' c' p r c = false) :
    Calls Try.prog 56 #[amt p r c, amt p' r' c'] w fun e w' => e = .returned (.tuple #[amt p r c, .bool false]) ∧ Below w.heap.size w w' := by
  go_enter Try.func56, Try.ntmps56
  go_wp2_with (go_at_call 67; refine (specAmtFits_any _ _ _ _ _ _ _).mono ?_; rintro e w' ⟨rfl, hb⟩; obtain ⟨hca, hfa⟩ := bcell hb; (try simp only [World.size_alloc, World.size_setCell, World.size_drew, Nat.add_assoc, Nat.reduceAdd] at hca hfa); obtain ⟨hc, hf⟩ := bcellk (k := w.heap.size + 3) hb (by (try simp only [World.size_alloc, World.size_setCell, World.size_drew]); omega); have hs : w.heap.size + 3 ≤ w'.heap.size := (by have := hb.size; (try simp only [World.size_alloc, World.size_setCell, World.size_drew] at this); omega); have hz := ltl hs; have hz0 : w.heap.size < w'.heap.size := (by omega); have hz1 : w.heap.size + 1 < w'.heap.size := (by omega); have hz2 : w.heap.size + 1 + 1 < w'.heap.size := (by omega); have hB : Below w.heap.size w w' := (by refine Below.trans ?_ (hb.mono (by (try simp) <;> omega)); clear hb; (repeat (first | exact Below.refl _ _ | assumption | refine Below.drew ?_ | refine Below.alloc ?_ ?_ _ | refine Below.setCell ?_ ?_ _)) <;> ((try simp) <;> omega)); clear hb)
  refine bodyPost_ret (v := .tuple #[amt p r c, .bool false]) (by simp [results, Try.results56, go_sem, *]) rfl ⟨rfl, (by (repeat (first | exact Below.refl _ _ | assumption | refine Below.drew ?_ | refine Below.alloc ?_ ?_ _ | refine Below.setCell ?_ ?_ _)) <;> ((try simp) <;> omega))⟩
set_option maxHeartbeats 800000 in
theorem implAmtSub_yes (p r c p' r' c' : Int) (w : World) (h : fitsB p' r' c' p r c = true) :
    Calls Try.prog 58 #[amt p r c, amt p' r' c'] w fun e w' => e = .returned (.tuple #[amt (p - p') (r - r') (c - c'), .bool true]) ∧ Below w.heap.size w w' := by
  obtain ⟨b1, b2, b3, b4, b5, b6, b7, b8, b9⟩ := fitsB_true h
  go_enter Try.func58, Try.ntmps58
  go_wp2_with (go_at_call 68; refine (implAmtFits_any _ _ _ _ _ _ _).mono ?_; rintro e w' ⟨rfl, hb⟩; obtain ⟨hca, hfa⟩ := bcell hb; (try simp only [World.size_alloc, World.size_setCell, World.size_drew, Nat.add_assoc, Nat.reduceAdd] at hca hfa); obtain ⟨hc, hf⟩ := bcellk (k := w.heap.size + 3) hb (by (try simp only [World.size_alloc, World.size_setCell, World.size_drew]); omega); have hs : w.heap.size + 3 ≤ w'.heap.size := (by have := hb.size; (try simp only [World.size_alloc, World.size_setCell, World.size_drew] at this); omega); have hz := ltl hs; have hz0 : w.heap.size < w'.heap.size := (by omega); have hz1 : w.heap.size + 1 < w'.heap.size := (by omega); have hz2 : w.heap.size + 1 + 1 < w'.heap.size := (by omega); have hB : Below w.heap.size w w' := (by refine Below.trans ?_ (hb.mono (by (try simp) <;> omega)); clear hb; (repeat (first | exact Below.refl _ _ | assumption | refine Below.drew ?_ | refine Below.alloc ?_ ?_ _ | refine Below.setCell ?_ ?_ _)) <;> ((try simp) <;> omega)); clear hb)
  refine bodyPost_ret (v := .tuple #[amt (p - p') (r - r') (c - c'), .bool true]) (by simp [results, Try.results58, go_sem, *]) rfl ⟨rfl, (by (repeat (first | exact Below.refl _ _ | assumption | refine Below.drew ?_ | refine Below.alloc ?_ ?_ _ | refine Below.setCell ?_ ?_ _)) <;> ((try simp) <;> omega))⟩
set_option maxHeartbeats 800000 in
theorem implAmtSub_no (p r c p' r' c' : Int) (w : World) (h : fitsB p' r' c' p r c = false) :
    Calls Try.prog 58 #[amt p r c, amt p' r' c'] w fun e w' => e = .returned (.tuple #[amt p r c, .bool false]) ∧ Below w.heap.size w w' := by
  go_enter Try.func58, Try.ntmps58
  go_wp2_with (go_at_call 68; refine (implAmtFits_any _ _ _ _ _ _ _).mono ?_; rintro e w' ⟨rfl, hb⟩; obtain ⟨hca, hfa⟩ := bcell hb; (try simp only [World.size_alloc, World.size_setCell, World.size_drew, Nat.add_assoc, Nat.reduceAdd] at hca hfa); obtain ⟨hc, hf⟩ := bcellk (k := w.heap.size + 3) hb (by (try simp only [World.size_alloc, World.size_setCell, World.size_drew]); omega); have hs : w.heap.size + 3 ≤ w'.heap.size := (by have := hb.size; (try simp only [World.size_alloc, World.size_setCell, World.size_drew] at this); omega); have hz := ltl hs; have hz0 : w.heap.size < w'.heap.size := (by omega); have hz1 : w.heap.size + 1 < w'.heap.size := (by omega); have hz2 : w.heap.size + 1 + 1 < w'.heap.size := (by omega); have hB : Below w.heap.size w w' := (by refine Below.trans ?_ (hb.mono (by (try simp) <;> omega)); clear hb; (repeat (first | exact Below.refl _ _ | assumption | refine Below.drew ?_ | refine Below.alloc ?_ ?_ _ | refine Below.setCell ?_ ?_ _)) <;> ((try simp) <;> omega)); clear hb)
  refine bodyPost_ret (v := .tuple #[amt p r c, .bool false]) (by simp [results, Try.results58, go_sem, *]) rfl ⟨rfl, (by (repeat (first | exact Below.refl _ _ | assumption | refine Below.drew ?_ | refine Below.alloc ?_ ?_ _ | refine Below.setCell ?_ ?_ _)) <;> ((try simp) <;> omega))⟩

set_option maxHeartbeats 800000 in
theorem sumOf_any (p r c p' r' c' : Int) (w : World) (b1 : 0 ≤ p) (b2 : p ≤ 1000000000) (b3 : 0 ≤ r) (b4 : r ≤ 1000000000) (b5 : 0 ≤ c) (b6 : c ≤ 1000000000)
    (d1 : 0 ≤ p') (d2 : p' ≤ 1000000000) (d3 : 0 ≤ r') (d4 : r' ≤ 1000000000) (d5 : 0 ≤ c') (d6 : c' ≤ 1000000000) :
    Calls Try.prog 52 #[amt p r c, amt p' r' c'] w fun e w' => e = .returned (amt (p + p') (r + r') (c + c')) ∧ Below w.heap.size w w' := by
  go_enter Try.func52, Try.ntmps52
  go_wp2
  refine bodyPost_ret (v := amt (p + p') (r + r') (c + c')) (by simp [results, Try.results52, go_sem, *]) rfl ⟨rfl, (by (repeat (first | exact Below.refl _ _ | assumption | refine Below.drew ?_ | refine Below.alloc ?_ ?_ _ | refine Below.setCell ?_ ?_ _)) <;> ((try simp) <;> omega))⟩
def addB (p r c p' r' c' : Int) : Bool := amtB p r c && amtB p' r' c' && amtB (p + p') (r + r') (c + c')
theorem addB_cases (p r c p' r' c' : Int) : (amtB p r c = true ∧ amtB p' r' c' = true ∧ amtB (p + p') (r + r') (c + c') = true ∧ addB p r c p' r' c' = true) ∨
    (addB p r c p' r' c' = false ∧ (amtB p r c = false ∨ (amtB p r c = true ∧ amtB p' r' c' = false) ∨ (amtB p r c = true ∧ amtB p' r' c' = true ∧ amtB (p + p') (r + r') (c + c') = false))) := by
  unfold addB
  cases amtB p r c <;> cases amtB p' r' c' <;> cases amtB (p + p') (r + r') (c + c') <;> simp
set_option maxHeartbeats 1600000 in
theorem specAmtAdd_yes (p r c p' r' c' : Int) (w : World) (h : addB p r c p' r' c' = true) :
    Calls Try.prog 59 #[amt p r c, amt p' r' c'] w fun e w' => e = .returned (.tuple #[amt (p + p') (r + r') (c + c'), .bool true]) ∧ Below w.heap.size w w' := by
  rcases addB_cases p r c p' r' c' with ⟨h1, h2, h3, _⟩ | ⟨h0, _⟩
  · obtain ⟨⟨a1, a2⟩, ⟨a3, a4⟩, a5, a6⟩ := amtB_true h1
    obtain ⟨⟨d1, d2⟩, ⟨d3, d4⟩, d5, d6⟩ := amtB_true h2
    clear h
    go_enter Try.func59, Try.ntmps59
    go_wp2_with (go_at_call 45; refine (specAmtOk_any _ _ _ _).mono ?_; rintro e w' ⟨rfl, hb⟩; obtain ⟨hca, hfa⟩ := bcell hb; (try simp only [World.size_alloc, World.size_setCell, World.size_drew, Nat.add_assoc, Nat.reduceAdd] at hca hfa); obtain ⟨hc, hf⟩ := bcellk (k := w.heap.size + 3) hb (by (try simp only [World.size_alloc, World.size_setCell, World.size_drew]); omega); have hs : w.heap.size + 3 ≤ w'.heap.size := (by have := hb.size; (try simp only [World.size_alloc, World.size_setCell, World.size_drew] at this); omega); have hz := ltl hs; have hz0 : w.heap.size < w'.heap.size := (by omega); have hz1 : w.heap.size + 1 < w'.heap.size := (by omega); have hz2 : w.heap.size + 1 + 1 < w'.heap.size := (by omega); have hB : Below w.heap.size w w' := (by refine Below.trans ?_ (hb.mono (by (try simp) <;> omega)); clear hb; (repeat (first | exact Below.refl _ _ | assumption | refine Below.drew ?_ | refine Below.alloc ?_ ?_ _ | refine Below.setCell ?_ ?_ _)) <;> ((try simp) <;> omega)); clear hb)
    refine bodyPost_ret (v := .tuple #[amt (p + p') (r + r') (c + c'), .bool true]) (by simp [results, Try.results59, go_sem, *]) rfl ⟨rfl, (by (repeat (first | exact Below.refl _ _ | assumption | refine Below.drew ?_ | refine Below.alloc ?_ ?_ _ | refine Below.setCell ?_ ?_ _)) <;> ((try simp) <;> omega))⟩
  · rw [h] at h0; cases h0
set_option maxHeartbeats 1600000 in
theorem specAmtAdd_no (p r c p' r' c' : Int) (w : World) (h : addB p r c p' r' c' = false) :
    Calls Try.prog 59 #[amt p r c, amt p' r' c'] w fun e w' => e = .returned (.tuple #[amt p r c, .bool false]) ∧ Below w.heap.size w w' := by
  rcases addB_cases p r c p' r' c' with ⟨h1, h2, h3, h0⟩ | ⟨_, h1 | ⟨h1, h2⟩ | ⟨h1, h2, h3⟩⟩
  · rw [h] at h0; cases h0
  · clear h
    go_enter Try.func59, Try.ntmps59
    go_wp2_with (go_at_call 45; refine (specAmtOk_any _ _ _ _).mono ?_; rintro e w' ⟨rfl, hb⟩; obtain ⟨hca, hfa⟩ := bcell hb; (try simp only [World.size_alloc, World.size_setCell, World.size_drew, Nat.add_assoc, Nat.reduceAdd] at hca hfa); obtain ⟨hc, hf⟩ := bcellk (k := w.heap.size + 3) hb (by (try simp only [World.size_alloc, World.size_setCell, World.size_drew]); omega); have hs : w.heap.size + 3 ≤ w'.heap.size := (by have := hb.size; (try simp only [World.size_alloc, World.size_setCell, World.size_drew] at this); omega); have hz := ltl hs; have hz0 : w.heap.size < w'.heap.size := (by omega); have hz1 : w.heap.size + 1 < w'.heap.size := (by omega); have hz2 : w.heap.size + 1 + 1 < w'.heap.size := (by omega); have hB : Below w.heap.size w w' := (by refine Below.trans ?_ (hb.mono (by (try simp) <;> omega)); clear hb; (repeat (first | exact Below.refl _ _ | assumption | refine Below.drew ?_ | refine Below.alloc ?_ ?_ _ | refine Below.setCell ?_ ?_ _)) <;> ((try simp) <;> omega)); clear hb)
    refine bodyPost_ret (v := .tuple #[amt p r c, .bool false]) (by simp [results, Try.results59, go_sem, *]) rfl ⟨rfl, (by (repeat (first | exact Below.refl _ _ | assumption | refine Below.drew ?_ | refine Below.alloc ?_ ?_ _ | refine Below.setCell ?_ ?_ _)) <;> ((try simp) <;> omega))⟩
  · clear h
    go_enter Try.func59, Try.ntmps59
    go_wp2_with (go_at_call 45; refine (specAmtOk_any _ _ _ _).mono ?_; rintro e w' ⟨rfl, hb⟩; obtain ⟨hca, hfa⟩ := bcell hb; (try simp only [World.size_alloc, World.size_setCell, World.size_drew, Nat.add_assoc, Nat.reduceAdd] at hca hfa); obtain ⟨hc, hf⟩ := bcellk (k := w.heap.size + 3) hb (by (try simp only [World.size_alloc, World.size_setCell, World.size_drew]); omega); have hs : w.heap.size + 3 ≤ w'.heap.size := (by have := hb.size; (try simp only [World.size_alloc, World.size_setCell, World.size_drew] at this); omega); have hz := ltl hs; have hz0 : w.heap.size < w'.heap.size := (by omega); have hz1 : w.heap.size + 1 < w'.heap.size := (by omega); have hz2 : w.heap.size + 1 + 1 < w'.heap.size := (by omega); have hB : Below w.heap.size w w' := (by refine Below.trans ?_ (hb.mono (by (try simp) <;> omega)); clear hb; (repeat (first | exact Below.refl _ _ | assumption | refine Below.drew ?_ | refine Below.alloc ?_ ?_ _ | refine Below.setCell ?_ ?_ _)) <;> ((try simp) <;> omega)); clear hb)
    refine bodyPost_ret (v := .tuple #[amt p r c, .bool false]) (by simp [results, Try.results59, go_sem, *]) rfl ⟨rfl, (by (repeat (first | exact Below.refl _ _ | assumption | refine Below.drew ?_ | refine Below.alloc ?_ ?_ _ | refine Below.setCell ?_ ?_ _)) <;> ((try simp) <;> omega))⟩
  · obtain ⟨⟨a1, a2⟩, ⟨a3, a4⟩, a5, a6⟩ := amtB_true h1
    obtain ⟨⟨d1, d2⟩, ⟨d3, d4⟩, d5, d6⟩ := amtB_true h2
    clear h
    go_enter Try.func59, Try.ntmps59
    go_wp2_with (go_at_call 45; refine (specAmtOk_any _ _ _ _).mono ?_; rintro e w' ⟨rfl, hb⟩; obtain ⟨hca, hfa⟩ := bcell hb; (try simp only [World.size_alloc, World.size_setCell, World.size_drew, Nat.add_assoc, Nat.reduceAdd] at hca hfa); obtain ⟨hc, hf⟩ := bcellk (k := w.heap.size + 3) hb (by (try simp only [World.size_alloc, World.size_setCell, World.size_drew]); omega); have hs : w.heap.size + 3 ≤ w'.heap.size := (by have := hb.size; (try simp only [World.size_alloc, World.size_setCell, World.size_drew] at this); omega); have hz := ltl hs; have hz0 : w.heap.size < w'.heap.size := (by omega); have hz1 : w.heap.size + 1 < w'.heap.size := (by omega); have hz2 : w.heap.size + 1 + 1 < w'.heap.size := (by omega); have hB : Below w.heap.size w w' := (by refine Below.trans ?_ (hb.mono (by (try simp) <;> omega)); clear hb; (repeat (first | exact Below.refl _ _ | assumption | refine Below.drew ?_ | refine Below.alloc ?_ ?_ _ | refine Below.setCell ?_ ?_ _)) <;> ((try simp) <;> omega)); clear hb)
    refine bodyPost_ret (v := .tuple #[amt p r c, .bool false]) (by simp [results, Try.results59, go_sem, *]) rfl ⟨rfl, (by (repeat (first | exact Below.refl _ _ | assumption | refine Below.drew ?_ | refine Below.alloc ?_ ?_ _ | refine Below.setCell ?_ ?_ _)) <;> ((try simp) <;> omega))⟩

end Go.Proofs.Ytdgkfpcecppfdaa
