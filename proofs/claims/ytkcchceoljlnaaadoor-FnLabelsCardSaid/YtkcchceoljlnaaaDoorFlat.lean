/- Contracts of Flat; how a label's levels are appended to one by one. -/
import Derived.Test.YtkcchceoljlnaaaDoorAbove
import Derived.Test.YtkcchceoljlnaaaDoorRegion
namespace Go.Proofs.YtkcchceoljlnaaaDoor
set_option linter.unusedSimpArgs false
set_option linter.unusedVariables false
open Go.RowKit

theorem own_none (w : World) (base : Nat) (t : TypeId) : w.ownsRow base t 1 (.slice none 0 0) 0 [] := ⟨rfl, .inl ⟨rfl, rfl⟩⟩
theorem own_ne {w : World} {base : Nat} {t : TypeId} {v : Value} {n : Nat} {xs : List Value} (h : w.ownsRow base t 1 v n xs) {b : Nat} (hb : b < base) : some b ≠ v.ownBlock := by
  intro e
  have := (h.lt b e.symm).1
  omega
theorem repl_map (x : Int) (k : Nat) : (List.replicate k x).map (Value.int .i64) ++ [.int .i64 x] = (List.replicate (k + 1) x).map (Value.int .i64) := by
  rw [List.replicate_succ', List.map_append]; rfl
/-- what a function that gives back a label leaves -/
def LabPost (xs : List Int) (w : World) (e : Ending) (w' : World) : Prop :=
  ∃ A c, e = .returned (lab A xs.length c) ∧ Own w' w.heap.size 3 A (xs.map (Value.int .i64)) ∧ Below w.heap.size w w'
theorem Own.of_row {w : World} {B : Nat} {A : Option Addr} {n c : Nat} {t : TypeId} {xs : List Value} (h : w.ownsRow B t 1 (.slice A n c) n xs) : Own w B t A xs := by
  rcases h.2 with ⟨_, h0⟩ | ⟨g, cap, cur, hv, hB, hh, _, _, _, ht⟩
  · left
    have := h.1
    rw [h0] at this
    exact List.eq_nil_of_length_eq_zero (by omega)
  · injection hv with hA
    subst hA
    refine .inr ⟨g, cur, rfl, hB, hh, fun k v hk => ?_⟩
    rw [← ht, List.getElem?_take] at hk
    split at hk
    · simpa using hk
    · cases hk
set_option maxHeartbeats 800000 in
theorem implFlat_no (x : Int) (w : World) (h : inB x 0 3 = false) : Calls Tryd.prog 20 #[.int .i64 x] w (LabPost [] w) := by
  go_enter Tryd.func20, Tryd.ntmps20
  go_wp2_with (go_at_call 33; refine (within_any _ _ _ _).mono ?_; rintro e w' ⟨rfl, rfl⟩; rw [h])
  refine bodyPost_ret (v := lab none 0 0) (by simp [results, Tryd.results20, go_sem, *]) rfl ⟨none, 0, rfl, .inl rfl, (by (repeat (first | exact Below.refl _ _ | assumption | refine Below.drew ?_ | refine Below.alloc ?_ ?_ _ | refine Below.setCell ?_ ?_ _)) <;> ((try simp) <;> omega))⟩
set_option maxHeartbeats 800000 in
theorem implFlat_yes (x : Int) (w : World) (h : inB x 0 3 = true) : Calls Tryd.prog 20 #[.int .i64 x] w (LabPost (List.replicate 4 x) w) := by
  go_enter Tryd.func20, Tryd.ntmps20
  go_wp2_with (go_at_call 33; refine (within_any _ _ _ _).mono ?_; rintro e w' ⟨rfl, rfl⟩; rw [h])
  refine bodyPost_ret (v := lab (some ⟨w.heap.size + 1, 0, none⟩) 4 4) (by simp [results, Tryd.results20, go_sem, *]) rfl ⟨some ⟨w.heap.size + 1, 0, none⟩, 4, rfl, ?_, (by (repeat (first | exact Below.refl _ _ | assumption | refine Below.drew ?_ | refine Below.alloc ?_ ?_ _ | refine Below.setCell ?_ ?_ _)) <;> ((try simp) <;> omega))⟩
  exact .inr ⟨w.heap.size + 1, #[.int .i64 x, .int .i64 x, .int .i64 x, .int .i64 x], rfl, by omega, by simpa using heap_alloc_new (w.alloc (.cells #[.slice (some ⟨w.heap.size + 1, 0, none⟩) 4 4] 27)) (.cells #[.int .i64 x, .int .i64 x, .int .i64 x, .int .i64 x] 3), fun k v hk => by simpa [List.replicate] using hk⟩
end Go.Proofs.YtkcchceoljlnaaaDoor
