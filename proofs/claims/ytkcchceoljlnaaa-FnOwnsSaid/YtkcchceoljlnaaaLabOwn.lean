/- A label of one's own: what it holds, and between which blocks it lies; marked, looked at. -/
import Derived.Test.YtkcchceoljlnaaaFlat
namespace Go.Proofs.Ytkcchceoljlnaaa
set_option linter.unusedSimpArgs false
set_option linter.unusedVariables false
open Go.RowKit

/-- the slice at A holds the integers xs in a block of its own, from lo on, below hi -/
def OwnL (w : World) (lo hi : Nat) (A : Option Addr) (xs : List Int) : Prop :=
  xs = [] ∨ ∃ (g : Nat) (full : Array Value), A = some ⟨g, 0, none⟩ ∧ lo ≤ g ∧ g < hi ∧ w.heap[g]? = some (.cells full 3 (0, 0)) ∧ ∀ (k : Nat) (v : Value), (xs.map (Value.int .i64))[k]? = some v → full[k]? = some v
theorem OwnL.of_own {w : World} {B : Nat} {A : Option Addr} {xs : List Int} (h : Own w B 3 A (xs.map (Value.int .i64))) : OwnL w B w.heap.size A xs := by
  rcases h with h | ⟨g, full, rfl, h1, hh, hp⟩
  · left; simpa using h
  · exact .inr ⟨g, full, rfl, h1, lt_of_blk hh, hh, hp⟩
theorem OwnL.own {w : World} {lo hi : Nat} {A : Option Addr} {xs : List Int} (h : OwnL w lo hi A xs) : Own w lo 3 A (xs.map (Value.int .i64)) := by
  rcases h with rfl | ⟨g, full, rfl, h1, _, hh, hp⟩
  · exact .inl rfl
  · exact .inr ⟨g, full, rfl, h1, hh, hp⟩
theorem OwnL.of_blk {w : World} {g : Nat} {xs : List Int} (h : IBlk w g xs) : OwnL w g w.heap.size (some ⟨g, 0, none⟩) xs :=
  .inr ⟨g, _, rfl, Nat.le_refl _, h.lt, h, fun k v hk => by simpa [cellsOf] using hk⟩
theorem OwnL.ints {w : World} {lo hi : Nat} {A : Option Addr} {xs : List Int} (h : OwnL w lo hi A xs) : Ints w A xs := by
  rcases h with rfl | ⟨g, full, rfl, h1, _, hh, hp⟩
  · exact .inl rfl
  · exact .inr ⟨g, 0, rfl, fun k z hz => by rw [(blkcell hh).1, Nat.zero_add]; exact hp k _ (by simp [hz])⟩
theorem OwnL.below {w w' : World} {lo hi : Nat} {A : Option Addr} {xs : List Int} (h : OwnL w lo hi A xs) (hb : Below w.heap.size w w') : OwnL w' lo hi A xs := by
  rcases h with rfl | ⟨g, full, rfl, h1, h2, hh, hp⟩
  · exact .inl rfl
  · exact .inr ⟨g, full, rfl, h1, h2, keepblk hb hh, hp⟩
theorem OwnL.alloc {w : World} {lo hi : Nat} {A : Option Addr} {xs : List Int} (h : OwnL w lo hi A xs) (o : Obj) : OwnL (w.alloc o) lo hi A xs := by
  rcases h with rfl | ⟨g, full, rfl, h1, h2, hh, hp⟩
  · exact .inl rfl
  · exact .inr ⟨g, full, rfl, h1, h2, blk_alloc hh, hp⟩
theorem OwnL.far {w w' : World} {lo hi lo' hi' : Nat} {A : Option Addr} {xs : List Int} {row : Option Nat} (h : OwnL w lo hi A xs) (hg : w.grownBy w' row) (hr : ∀ g, row = some g → lo' ≤ g ∧ g < hi') (hd : hi ≤ lo' ∨ hi' ≤ lo) : OwnL w' lo hi A xs := by
  rcases h with rfl | ⟨g, full, rfl, h1, h2, hh, hp⟩
  · exact .inl rfl
  · exact .inr ⟨g, full, rfl, h1, h2, (hg.block g (lt_of_blk hh) (fun e => by have := hr g e.symm; omega)).trans hh, hp⟩
theorem cell_grown {w w' : World} {row : Option Nat} (hg : w.grownBy w' row) {p : Addr} {v : Value} (h : w.cell? p = some v) (hr : ∀ g, row = some g → g ≠ p.block) : w'.cell? p = some v :=
  (World.cell?_of_block (hg.block p.block (lt_of_cell h) (fun e => hr _ e.symm rfl))).trans h
theorem blk_grown {w w' : World} {row : Option Nat} {g : Nat} {O : Obj} (hg : w.grownBy w' row) (h : w.heap[g]? = some O) (hr : ∀ q, row = some q → q ≠ g) : w'.heap[g]? = some O :=
  (hg.block g (lt_of_blk h) (fun e => hr _ e.symm rfl)).trans h
set_option maxHeartbeats 800000 in
theorem markIntS_zero (A : Option Addr) (c : Nat) (k : Int) (w : World) : Calls Try.prog 41 #[.slice A 0 c, .int .i64 k] w fun e w' => e = .returned (.int .i64 k) ∧ w = w' := by
  go_enter Try.func41, Try.ntmps41
  go_wp2
  go_loop [1, 5] (fun q i => q = .int .i64 k ∧ i = .int .i64 0) (fun _ _ => 0)
  case atStart => exact ⟨rfl, rfl⟩
  case round =>
    obtain ⟨rfl, rfl⟩ := hrel
    go_wp2
    go_ret
    exact ⟨rfl, rfl⟩
theorem markIntS_own (lo hi : Nat) (A : Option Addr) (n c : Nat) (xs : List Int) (k : Int) (w : World) (hx : OwnL w lo hi A xs) (hn : xs.length = n) (hnb : n ≤ 1099511627776) (hk0 : 0 ≤ k) (hk1 : k ≤ 1099511627776) :
    Calls Try.prog 41 #[.slice A n c, .int .i64 k] w fun e w' => e = .returned (.int .i64 (k + n)) ∧ OwnL w' lo hi A (markL k n) ∧ ∃ row, w.grownBy w' row ∧ ∀ g, row = some g → lo ≤ g ∧ g < hi := by
  by_cases h0 : n = 0
  · subst h0
    refine (markIntS_zero A c k w).mono ?_
    rintro e w' ⟨rfl, rfl⟩
    exact ⟨by simp, .inl rfl, none, only_refl _ _, fun g h => by cases h⟩
  · refine (markIntS_any lo A n c xs k w hx.own hn hnb hk0 hk1).mono ?_
    rintro e w' ⟨rfl, ho, hg⟩
    rcases hx with h | ⟨g, full, rfl, h1, h2, hh, hp⟩
    · subst h; simp at hn; omega
    · refine ⟨rfl, ?_, _, hg, fun g' h => by injection h with h; subst h; exact ⟨h1, h2⟩⟩
      rcases ho with h | ⟨g', full', hA, h1', hh', hp'⟩
      · left; simpa using h
      · injection hA with e
        injection e with e
        subst e
        exact .inr ⟨_, full', rfl, h1, h2, hh', hp'⟩
theorem grown_alloc {w w' : World} {o : Obj} {row : Option Nat} (hg : (w.alloc o).grownBy w' row) : w.grownBy w' row :=
  ⟨hg.os, hg.tape, hg.output, Nat.le_trans (by simp) hg.size, fun k hk hne => (hg.block k (by simp; omega) hne).trans (Below.heap_alloc w o k hk)⟩
set_option maxHeartbeats 800000 in
theorem markLabel_own (lo hi : Nat) (A : Option Addr) (n c : Nat) (xs : List Int) (k : Int) (w : World) (hx : OwnL w lo hi A xs) (hn : xs.length = n) (hnb : n ≤ 1099511627776) (hk0 : 0 ≤ k) (hk1 : k ≤ 1099511627776) :
    Calls Try.prog 27 #[lab A n c, .int .i64 k] w fun e w' => e = .returned (.int .i64 (k + n)) ∧ OwnL w' lo hi A (markL k n) ∧ ∃ row, w.grownBy w' row ∧ ∀ g, row = some g → lo ≤ g ∧ g < hi := by
  have HX := Lib.hid hx; have HN := Lib.hid hn
  clear hx hn
  go_enter Try.func27, Try.ntmps27
  go_wp2_with fail
  refine (markIntS_own lo hi A n c xs k _ (HX.out.alloc _) HN.out hnb hk0 hk1).mono ?_
  rintro e w2 ⟨rfl, ho, row, hg, hr⟩
  have HO := Lib.hid ho; have HR := Lib.hid hr; have HG := Lib.hid (grown_alloc hg)
  clear ho hr hg
  go_wp2_with fail
  go_ret
  exact ⟨rfl, HO.out, row, HG.out, HR.out⟩
set_option maxHeartbeats 800000 in
theorem heldLabel_any (A : Option Addr) (n c : Nat) (k : Int) (w : World) (hx : Ints w A (markL k n)) (hnb : n ≤ 1099511627776) (hk0 : 0 ≤ k) (hk1 : k ≤ 1099511627776) :
    Calls Try.prog 28 #[lab A n c, .int .i64 k] w fun e w' => e = .returned (.int .i64 (k + n)) ∧ Below w.heap.size w w' := by
  have HX := Lib.hid hx
  clear hx
  go_enter Try.func28, Try.ntmps28
  go_wp2_with fail
  refine (heldIntS_any A n c k _ (HX.out.alloc _) hnb hk0 hk1).mono ?_
  rintro e w2 ⟨rfl, rfl⟩
  go_wp2_with fail
  go_ret
  exact ⟨rfl, (by (repeat (first | exact Below.refl _ _ | assumption | refine Below.drew ?_ | refine Below.alloc ?_ ?_ _ | refine Below.setCell ?_ ?_ _)) <;> ((try simp) <;> omega))⟩
theorem eqLabel_self (A B : Option Addr) (n c d : Nat) (xs : List Int) (w : World) (hx : Ints w A xs) (hy : Ints w B xs) (hn : xs.length = n) (hnb : n ≤ 1099511627776) :
    Calls Try.prog 22 #[lab A n c, lab B n d] w fun e w' => e = .returned (.bool true) ∧ Below w.heap.size w w' :=
  (eqLabel_any A B n n c d xs xs w hx hy hn hn hnb hnb).mono fun _ _ ⟨he, hb⟩ => ⟨by rw [he, eqB_self], hb⟩

end Go.Proofs.Ytkcchceoljlnaaa
