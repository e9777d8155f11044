/- A label of one's own: what it holds, and between which blocks it lies; marked, looked at. -/
import Derived.Test.YtkcchceoljlnaaaDoorFlat
namespace Go.Proofs.YtkcchceoljlnaaaDoor
set_option linter.unusedSimpArgs false
set_option linter.unusedVariables false
open Go.RowKit

/-- the slice at A holds the integers xs in a block of its own, from lo on, below hi -/
def OwnL (w : World) (lo hi : Nat) (A : Option Addr) (xs : List Int) : Prop :=
  xs = [] ∨ ∃ (g : Nat) (full : Array Value), A = some ⟨g, 0, none⟩ ∧ lo ≤ g ∧ g < hi ∧ w.heap[g]? = some (.cells full 3 (0, 0)) ∧ ∀ (k : Nat) (v : Value), (xs.map (Value.int .i64))[k]? = some v → full[k]? = some v
theorem OwnL.of_own {w : World} {B : Nat} {A : Option Addr} {xs : List Int} (h : Own w B 3 A (xs.map (Value.int .i64))) : OwnL w B w.heap.size A xs := by
  rcases h with h | ⟨g, full, rfl, h1, hh, hp⟩
  · left; simpa using h
  · exact .inr ⟨g, full, rfl, h1, lt_of_blk hh, hh, hp⟩
theorem OwnL.own {w : World} {lo hi : Nat} {A : Option Addr} {xs : List Int} (h : OwnL w lo hi A xs) : Own w lo 3 A (xs.map (Value.int .i64)) := by
  rcases h with rfl | ⟨g, full, rfl, h1, _, hh, hp⟩
  · exact .inl rfl
  · exact .inr ⟨g, full, rfl, h1, hh, hp⟩
theorem OwnL.of_blk {w : World} {g : Nat} {xs : List Int} (h : IBlk w g xs) : OwnL w g w.heap.size (some ⟨g, 0, none⟩) xs :=
  .inr ⟨g, _, rfl, Nat.le_refl _, h.lt, h, fun k v hk => by simpa [cellsOf] using hk⟩
theorem OwnL.ints {w : World} {lo hi : Nat} {A : Option Addr} {xs : List Int} (h : OwnL w lo hi A xs) : Ints w A xs := by
  rcases h with rfl | ⟨g, full, rfl, h1, _, hh, hp⟩
  · exact .inl rfl
  · exact .inr ⟨g, 0, rfl, fun k z hz => by rw [(blkcell hh).1, Nat.zero_add]; exact hp k _ (by simp [hz])⟩
theorem OwnL.below {w w' : World} {lo hi : Nat} {A : Option Addr} {xs : List Int} (h : OwnL w lo hi A xs) (hb : Below w.heap.size w w') : OwnL w' lo hi A xs := by
  rcases h with rfl | ⟨g, full, rfl, h1, h2, hh, hp⟩
  · exact .inl rfl
  · exact .inr ⟨g, full, rfl, h1, h2, keepblk hb hh, hp⟩
theorem OwnL.alloc {w : World} {lo hi : Nat} {A : Option Addr} {xs : List Int} (h : OwnL w lo hi A xs) (o : Obj) : OwnL (w.alloc o) lo hi A xs := by
  rcases h with rfl | ⟨g, full, rfl, h1, h2, hh, hp⟩
  · exact .inl rfl
  · exact .inr ⟨g, full, rfl, h1, h2, blk_alloc hh, hp⟩
theorem OwnL.far {w w' : World} {lo hi lo' hi' : Nat} {A : Option Addr} {xs : List Int} {row : Option Nat} (h : OwnL w lo hi A xs) (hg : w.grownBy w' row) (hr : ∀ g, row = some g → lo' ≤ g ∧ g < hi') (hd : hi ≤ lo' ∨ hi' ≤ lo) : OwnL w' lo hi A xs := by
  rcases h with rfl | ⟨g, full, rfl, h1, h2, hh, hp⟩
  · exact .inl rfl
  · exact .inr ⟨g, full, rfl, h1, h2, (hg.block g (lt_of_blk hh) (fun e => by have := hr g e.symm; omega)).trans hh, hp⟩
theorem cell_grown {w w' : World} {row : Option Nat} (hg : w.grownBy w' row) {p : Addr} {v : Value} (h : w.cell? p = some v) (hr : ∀ g, row = some g → g ≠ p.block) : w'.cell? p = some v :=
  (World.cell?_of_block (hg.block p.block (lt_of_cell h) (fun e => hr _ e.symm rfl))).trans h
theorem blk_grown {w w' : World} {row : Option Nat} {g : Nat} {O : Obj} (hg : w.grownBy w' row) (h : w.heap[g]? = some O) (hr : ∀ q, row = some q → q ≠ g) : w'.heap[g]? = some O :=
  (hg.block g (lt_of_blk h) (fun e => hr _ e.symm rfl)).trans h
theorem grown_alloc {w w' : World} {o : Obj} {row : Option Nat} (hg : (w.alloc o).grownBy w' row) : w.grownBy w' row :=
  ⟨hg.os, hg.tape, hg.output, Nat.le_trans (by simp) hg.size, fun k hk hne => (hg.block k (by simp; omega) hne).trans (Below.heap_alloc w o k hk)⟩
theorem eqLabel_self (A B : Option Addr) (n c d : Nat) (xs : List Int) (w : World) (hx : Ints w A xs) (hy : Ints w B xs) (hn : xs.length = n) (hnb : n ≤ 1099511627776) :
    Calls Tryd.prog 9 #[lab A n c, lab B n d] w fun e w' => e = .returned (.bool true) ∧ Below w.heap.size w w' :=
  (eqLabel_any A B n n c d xs xs w hx hy hn hn hnb hnb).mono fun _ _ ⟨he, hb⟩ => ⟨by rw [he, eqB_self], hb⟩

end Go.Proofs.YtkcchceoljlnaaaDoor
