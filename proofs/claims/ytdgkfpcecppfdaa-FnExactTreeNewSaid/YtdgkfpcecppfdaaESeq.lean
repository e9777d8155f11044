/- What a slice of its own holds, and between which blocks it lies. -/
import Derived.Test.YtdgkfpcecppfdaaERows
namespace Go.Proofs.Ytdgkfpcecppfdaa
set_option linter.unusedSimpArgs false
set_option linter.unusedVariables false
open Go.RowKit

/-- the slice at A holds the elements xs in a block of its own, from lo on, below hi -/
def OwnI (w : World) (lo hi : Nat) (A : Option Addr) (xs : List El) : Prop :=
  xs = [] ∨ ∃ (g : Nat) (full : Array Value), A = some ⟨g, 0, none⟩ ∧ lo ≤ g ∧ g < hi ∧ w.heap[g]? = some (.cells full 56 (0, 0)) ∧ Pre (vals xs) full
theorem OwnI.of_own {w : World} {B : Nat} {A : Option Addr} {xs : List El} (h : OwnE w B A xs) : OwnI w B w.heap.size A xs := by
  rcases h with rfl | ⟨g, full, rfl, h1, hh, hp⟩
  · exact .inl rfl
  · exact .inr ⟨g, full, rfl, h1, lt_of_blk hh, hh, hp⟩
theorem OwnI.of_blk {w : World} {g : Nat} {xs : List El} (h : EBlk w g xs) : OwnI w g w.heap.size (some ⟨g, 0, none⟩) xs := .of_own (h.own (Nat.le_refl _))
theorem OwnI.own {w : World} {lo hi : Nat} {A : Option Addr} {xs : List El} (h : OwnI w lo hi A xs) : OwnE w lo A xs := by
  rcases h with rfl | ⟨g, full, rfl, h1, _, hh, hp⟩
  · exact .inl rfl
  · exact .inr ⟨g, full, rfl, h1, hh, hp⟩
theorem OwnI.els {w : World} {lo hi : Nat} {A : Option Addr} {xs : List El} (h : OwnI w lo hi A xs) : Els w A xs := h.own.els
theorem OwnI.below {w w' : World} {lo hi : Nat} {A : Option Addr} {xs : List El} (h : OwnI w lo hi A xs) (hb : Below w.heap.size w w') : OwnI w' lo hi A xs := by
  rcases h with rfl | ⟨g, full, rfl, h1, h2, hh, hp⟩
  · exact .inl rfl
  · exact .inr ⟨g, full, rfl, h1, h2, keepblk hb hh, hp⟩
theorem OwnI.far {w w' : World} {lo hi lo' hi' : Nat} {A : Option Addr} {xs : List El} {row : Option Nat} (h : OwnI w lo hi A xs) (hg : w.grownBy w' row) (hr : ∀ g, row = some g → lo' ≤ g ∧ g < hi') (hd : hi ≤ lo' ∨ hi' ≤ lo) : OwnI w' lo hi A xs := by
  rcases h with rfl | ⟨g, full, rfl, h1, h2, hh, hp⟩
  · exact .inl rfl
  · exact .inr ⟨g, full, rfl, h1, h2, (hg.block g (lt_of_blk hh) (fun e => by have := hr g e.symm; omega)).trans hh, hp⟩
theorem markEls_own (lo hi : Nat) (A : Option Addr) (n c : Nat) (xs : List El) (k : Int) (w : World) (hx : OwnI w lo hi A xs) (hn : xs.length = n) (hnb : n ≤ 1099511627776) (hk0 : 0 ≤ k) (hk1 : k ≤ 1099511627776) :
    Calls Try.prog 17 #[.slice A n c, .int .i64 k] w fun e w' => e = .returned (.int .i64 (k + (n : Int) * 5)) ∧ OwnI w' lo hi A (markL k n) ∧ ∃ row, w.grownBy w' row ∧ ∀ g, row = some g → lo ≤ g ∧ g < hi := by
  refine (markEls_any lo A n c xs k w hx.own hn hnb hk0 hk1).mono ?_
  rintro e w' ⟨rfl, ho, row, hg, hr⟩
  have hri : ∀ g, row = some g → lo ≤ g ∧ g < hi := fun g h => by
    obtain ⟨hne, hA⟩ := hr g h
    rcases hx with h0 | ⟨g', full, hA', h1, h2, _⟩
    · exact absurd h0 hne
    · rw [hA] at hA'
      injection hA' with e
      injection e with e
      subst e
      exact ⟨h1, h2⟩
  refine ⟨rfl, ?_, row, hg, hri⟩
  rcases ho with h0 | ⟨g, full, hA, h1, hh, hp⟩
  · exact .inl h0
  · rcases hx with h0 | ⟨g', full', hA', h1', h2', hh', _⟩
    · left
      subst h0
      simp at hn
      subst hn
      rfl
    · rw [hA] at hA'
      injection hA' with e
      injection e with e
      subst e
      exact .inr ⟨g, full, hA, h1, h2', hh, hp⟩
theorem eqEls_self (A B : Option Addr) (n c d : Nat) (xs : List El) (w : World) (hx : Els w A xs) (hy : Els w B xs) (hn : xs.length = n) (hnb : n ≤ 1099511627776) :
    Calls Try.prog 16 #[.slice A n c, .slice B n d] w fun e w' => e = .returned (.bool true) ∧ Below w.heap.size w w' :=
  (eqEls_any A B n n c d xs xs w hx hy hn hn hnb hnb).mono fun _ _ ⟨he, hb⟩ => ⟨by rw [he]; simp, hb⟩

end Go.Proofs.Ytdgkfpcecppfdaa
