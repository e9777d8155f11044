/- Contracts of the small tests on numbers and of the functions on amounts. No conditions but the ranges that each theorem names. -/
import Derived.Test.YthganncfagddgaaDoorRows
import Derived.WalkKit
import Derived.WalkSpells
import Derived.WalkLawsBesides
import Derived.Lib.Hide
namespace Go.Proofs.YthganncfagddgaaDoor
set_option linter.unusedSimpArgs false
set_option linter.unusedVariables false
open Go.RowKit

theorem bcell {W w1 : World} (hb : Below W.heap.size W w1) : (∀ b o, b < W.heap.size → w1.cell? ⟨b, o, none⟩ = W.cell? ⟨b, o, none⟩) ∧ (∀ b o, b < W.heap.size → w1.frozen? ⟨b, o, none⟩ = W.frozen? ⟨b, o, none⟩) :=
  ⟨fun b o h => hb.cell (p := ⟨b, o, none⟩) h, fun b o h => hb.frozen (p := ⟨b, o, none⟩) h⟩
theorem bcellk {W w1 : World} {k : Nat} (hb : Below W.heap.size W w1) (hk : k ≤ W.heap.size) : (∀ b o, b < k → w1.cell? ⟨b, o, none⟩ = W.cell? ⟨b, o, none⟩) ∧ (∀ b o, b < k → w1.frozen? ⟨b, o, none⟩ = W.frozen? ⟨b, o, none⟩) :=
  ⟨fun b o h => hb.cell (p := ⟨b, o, none⟩) (Nat.lt_of_lt_of_le h hk), fun b o h => hb.frozen (p := ⟨b, o, none⟩) (Nat.lt_of_lt_of_le h hk)⟩
theorem newblk {w1 w2 : World} {cs : Array Value} {t : TypeId} (hb : Below (w1.alloc (.cells cs t)).heap.size (w1.alloc (.cells cs t)) w2) : w2.heap[w1.heap.size]? = some (.cells cs t (0, 0)) :=
  (hb.block w1.heap.size (by simp)).trans (heap_alloc_new w1 _)
theorem keepblk {w1 w2 : World} {g : Nat} {O : Obj} (hb : Below w1.heap.size w1 w2) (h : w1.heap[g]? = some O) : w2.heap[g]? = some O :=
  (hb.block g (Nat.lt_of_not_le fun hn => by rw [Array.getElem?_eq_none hn] at h; cases h)).trans h
theorem blkcell {w1 : World} {g : Nat} {cs : Array Value} {t : TypeId} (h : w1.heap[g]? = some (.cells cs t (0, 0))) : (∀ j, w1.cell? ⟨g, j, none⟩ = cs[j]?) ∧ (∀ j, w1.frozen? ⟨g, j, none⟩ = false) :=
  ⟨fun j => by simp [World.cell?, h], fun j => by simp [World.frozen?, h]⟩
theorem lt_of_cell {W : World} {p : Addr} {v : Value} (h : W.cell? p = some v) : p.block < W.heap.size :=
  Nat.lt_of_not_le fun hn => by simp [World.cell?, Array.getElem?_eq_none hn] at h
theorem Below.keeps {W w1 : World} (hb : Below W.heap.size W w1) {p : Addr} {v : Value} (h : W.cell? p = some v) : w1.cell? p = some v :=
  (hb.cell (lt_of_cell h)).trans h
theorem cell_alloc_ {W : World} {o : Obj} {p : Addr} {v : Value} (h : W.cell? p = some v) : (W.alloc o).cell? p = some v := by
  rw [World.cell?_alloc_lt W o p (lt_of_cell h)]; exact h
theorem cell_realloc_ {W : World} {o o' : Obj} {p : Addr} {v : Value} (h : (W.alloc o).cell? p = some v) (hp : p.block < W.heap.size) : (W.alloc o').cell? p = some v := by
  rw [World.cell?_alloc_lt W o p hp] at h; rw [World.cell?_alloc_lt W o' p hp]; exact h
theorem cell_drew_ {W : World} {p : Addr} {v : Value} (h : W.cell? p = some v) : W.drew.cell? p = some v := h
theorem cell_set_ {W : World} {q p : Addr} {u v : Value} (h : W.cell? p = some v) (hn : q.block ≠ p.block) : (W.setCell q u).cell? p = some v :=
  (World.cell?_setCell_other W q p u (fun e => hn (by rw [e]))).trans h
theorem ltl {a b : Nat} (h : a ≤ b) : ∀ x, x < a → x < b := fun _ hx => Nat.lt_of_lt_of_le hx h
theorem ltl2 {a k b : Nat} (h : a + k ≤ b) : ∀ x, x < a → x < b := fun _ hx => Nat.lt_of_lt_of_le hx (Nat.le_trans (Nat.le_add_right _ _) h)

def inB (x a b : Int) : Bool := decide (a ≤ x) && decide (x ≤ b)
theorem inB_true {x a b : Int} (h : inB x a b = true) : a ≤ x ∧ x ≤ b := by simpa [inB] using h
theorem inB_false {x a b : Int} (h : inB x a b = false) : x < a ∨ b < x := by
  simp [inB] at h; omega

set_option maxHeartbeats 400000 in
theorem l1In_any (x a b : Int) (w : World) :
    Calls Tryd.prog 37 #[.int .i64 x, .int .i64 a, .int .i64 b] w fun e w' => e = .returned (.bool (inB x a b)) ∧ w = w' := by
  by_cases h1 : a ≤ x <;> by_cases h2 : x ≤ b
  all_goals
    have hr : inB x a b = (decide (a ≤ x) && decide (x ≤ b)) := rfl
    have H := Lib.hid hr; clear hr
    go_enter Tryd.func37, Tryd.ntmps37
    go_wp2
    go_ret
    exact ⟨by rw [H.out]; simp [h1, h2], rfl⟩

set_option maxHeartbeats 400000 in
theorem within_any (x a b : Int) (w : World) :
    Calls Tryd.prog 22 #[.int .i64 x, .int .i64 a, .int .i64 b] w fun e w' => e = .returned (.bool (inB x a b)) ∧ w = w' := by
  by_cases h1 : a ≤ x <;> by_cases h2 : x ≤ b
  all_goals
    have hr : inB x a b = (decide (a ≤ x) && decide (x ≤ b)) := rfl
    have H := Lib.hid hr; clear hr
    go_enter Tryd.func22, Tryd.ntmps22
    go_wp2
    go_ret
    exact ⟨by rw [H.out]; simp [h1, h2], rfl⟩


end Go.Proofs.YthganncfagddgaaDoor
