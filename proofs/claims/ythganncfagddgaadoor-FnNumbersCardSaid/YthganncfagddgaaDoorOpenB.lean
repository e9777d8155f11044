/- How a law's argument that is a slice of bytes is opened. -/
import Derived.Test.YthganncfagddgaaDoorDraw
import Derived.Test.YthganncfagddgaaDoorOpen
import Derived.Deep.Slices
namespace Go.Proofs.YthganncfagddgaaDoor
set_option linter.unusedSimpArgs false
set_option linter.unusedVariables false
open Go.Joins Go.ChangeShapes Go.WideShapes Go.ChangeAt Go.RowKit Go.Deep

theorem add_none_ (b off j : Nat) : (⟨b, off, none⟩ : Addr).add j = ⟨b, off + j, none⟩ := by
  unfold Addr.add; split
  · rename_i h0; subst h0; rfl
  · rfl
section
variable {H : Type} {enc : TypeId × Value → H} {w : World} {base : Nat} {spare : Nat → Bool} {held : Bool}
theorem open_bytes {fuel : Nat} {a : Option Addr} {n c : Nat} {x : DataW H × List MemPlace} (hf : DataW.trod enc Tryd.prog w base spare held fuel 27 [.slice a n c] = some x) :
    Bys w a n ∧ n ≤ 9223372036854775807 := by
  rcases open_slice Tryd.underlying27 hf with ⟨hcs, _⟩ | ⟨a', len, cap, m, n', D, Pl, hcs, _, hl, hm, hmm, _, hi⟩
  · simp at hcs
    obtain ⟨rfl, rfl, rfl⟩ := hcs
    exact ⟨.inl rfl, by omega⟩
  · simp at hcs
    obtain ⟨rfl, rfl, rfl⟩ := hcs
    have hC : Tryd.prog.cellsOf 5 = 1 := by kernel_rfl
    have hnm : n ≤ m := by rw [hmm]; split <;> omega
    refine ⟨?_, by unfold maxLen at hm; omega⟩
    have key : ∀ i, i < n → ∃ z : Nat, z < 256 ∧ w.cell? (a'.add i) = some (.int .u8 (z : Int)) := by
      intro i hin
      obtain ⟨cs', hcells, htr⟩ := hi i (by omega)
      rw [hC, Nat.mul_one] at hcells
      obtain ⟨_, hcl, hat⟩ := World.cells?_some hcells
      obtain ⟨z, e1, _, hwf⟩ := DataW.trod_int Tryd.underlying5 htr
      have h0 := hat 0 (by omega)
      rw [e1] at h0
      have hb := bounds_u8 hwf
      refine ⟨z.toNat, by omega, ?_⟩
      rw [show ((z.toNat : Nat) : Int) = z by omega]
      simpa [Addr.add] using h0
    rcases Nat.eq_zero_or_pos n with h0 | h0
    · exact .inl h0
    · right
      obtain ⟨b, of, spot⟩ := a'
      have hsp : spot = none := by
        obtain ⟨z, _, hc⟩ := key 0 h0
        simpa [Addr.add] using World.cell?_spot hc
      subst hsp
      refine ⟨b, of, rfl, fun k hk => ?_⟩
      have h1 := key k hk
      rw [add_none_] at h1
      exact h1
end

end Go.Proofs.YthganncfagddgaaDoor
