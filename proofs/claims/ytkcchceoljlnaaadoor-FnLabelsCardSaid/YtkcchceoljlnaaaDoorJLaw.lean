/- What the laws on two labels that give back a label need besides. -/
import Derived.Test.YtkcchceoljlnaaaDoorLabOwn
import Derived.Test.YtkcchceoljlnaaaDoorReadLab
import Derived.Test.YtkcchceoljlnaaaDoorRegionG
namespace Go.Proofs.YtkcchceoljlnaaaDoor
set_option linter.unusedSimpArgs false
set_option linter.unusedVariables false
open Go.RowKit

theorem blk_ne {x : World} {g g' : Nat} {cs cs' : Array Value} {t t' : TypeId} (h : x.heap[g]? = some (.cells cs t (0, 0))) (h' : x.heap[g']? = some (.cells cs' t' (0, 0))) (ht : t ≠ t') : g ≠ g' := by
  rintro rfl
  rw [h] at h'
  injection h' with h'
  injection h' with _ h2
  exact ht h2
theorem IBlk.farT {x : World} {g gb : Nat} {xs : List Int} {cs : Array Value} {T : TypeId} (h : IBlk x g xs) (hh : x.heap[gb]? = some (.cells cs T (0, 0))) (hT : 3 ≠ T) (i : Nat) (u : Value) : IBlk (x.setCell ⟨gb, i, none⟩ u) g xs :=
  h.far (blk_ne h hh hT)
theorem Own.below {w w' : World} {B : Nat} {t : TypeId} {A : Option Addr} {cs : List Value} (h : Own w B t A cs) (hb : Below w.heap.size w w') : Own w' B t A cs := by
  rcases h with h | ⟨g, full, rfl, h1, hh, hp⟩
  · exact .inl h
  · exact .inr ⟨g, full, rfl, h1, keepblk hb hh, hp⟩
theorem Own.alloc {w : World} {B : Nat} {t : TypeId} {A : Option Addr} {cs : List Value} (h : Own w B t A cs) (o : Obj) : Own (w.alloc o) B t A cs := by
  rcases h with h | ⟨g, full, rfl, h1, hh, hp⟩
  · exact .inl h
  · exact .inr ⟨g, full, rfl, h1, blk_alloc hh, hp⟩
theorem Own.farT {x : World} {B gb : Nat} {A : Option Addr} {xs : List Value} {cs : Array Value} {T : TypeId} (h : Own x B 3 A xs) (hh : x.heap[gb]? = some (.cells cs T (0, 0))) (hT : 3 ≠ T) (i : Nat) (u : Value) : Own (x.setCell ⟨gb, i, none⟩ u) B 3 A xs := by
  rcases h with h | ⟨g, full, rfl, h1, hg, hp⟩
  · exact .inl h
  · exact .inr ⟨g, full, rfl, h1, blk_far hg (blk_ne hg hh hT) u, hp⟩
theorem OwnL.setFar {w : World} {lo hi : Nat} {A : Option Addr} {xs : List Int} (h : OwnL w lo hi A xs) {p : Addr} (hp : hi ≤ p.block) (u : Value) : OwnL (w.setCell p u) lo hi A xs := by
  rcases h with rfl | ⟨g, full, rfl, h1, h2, hh, h3⟩
  · exact .inl rfl
  · exact .inr ⟨g, full, rfl, h1, h2, blk_far hh (by omega) u, h3⟩
theorem OwnL.drew {w : World} {lo hi : Nat} {A : Option Addr} {xs : List Int} (h : OwnL w lo hi A xs) : OwnL w.drew lo hi A xs := h
theorem OwnL.weak {w : World} {lo lo' hi : Nat} {A : Option Addr} {xs : List Int} (h : OwnL w lo hi A xs) (hl : lo' ≤ lo) : OwnL w lo' hi A xs := by
  rcases h with rfl | ⟨g, full, rfl, h1, h2, hh, h3⟩
  · exact .inl rfl
  · exact .inr ⟨g, full, rfl, by omega, h2, hh, h3⟩

end Go.Proofs.YtkcchceoljlnaaaDoor
