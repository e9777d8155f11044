/- How the laws' arguments that are slices of integers, and labels, are opened. -/
import Derived.Test.YtkcchceoljlnaaaDoorInts
import Derived.Test.YtkcchceoljlnaaaDoorOpen
namespace Go.Proofs.YtkcchceoljlnaaaDoor
set_option linter.unusedSimpArgs false
set_option linter.unusedVariables false
open Go.Joins Go.ChangeShapes Go.WideShapes Go.ChangeAt Go.RowKit Go.Deep

theorem ints_of {w : World} {x : Addr} {l : Nat} {zs : List Int} (hc : ∀ i, i < zs.length → w.cell? (x.add i) = some (.int .i64 (zs.getD i 0))) : Ints w (some x) (zs.take l) := by
  rcases Nat.eq_zero_or_pos zs.length with h0 | h0
  · left; rw [List.eq_nil_of_length_eq_zero h0]; simp
  · have h1 := hc 0 h0
    obtain ⟨b, off, spot⟩ := x
    have hspot : spot = none := by simpa [Addr.add] using World.cell?_spot h1
    subst hspot
    refine .inr ⟨b, off, rfl, fun k z hz => ?_⟩
    have hk : k < zs.length := by
      have := (List.getElem?_eq_some_iff.1 hz).1
      simp at this; omega
    have hzk : zs[k]? = some z := by
      rw [List.getElem?_take] at hz
      split at hz
      · exact hz
      · cases hz
    have h2 := hc k hk
    rw [show zs.getD k 0 = z from by simp [List.getD, hzk]] at h2
    by_cases hk0 : k = 0
    · subst hk0; simpa [Addr.add] using h2
    · simpa [Addr.add, hk0] using h2

section
variable {H : Type} {enc : TypeId × Value → H} {w : World} {base : Nat} {spare : Nat → Bool} {held : Bool}
theorem open_intS {fuel : Nat} {a : Option Addr} {n c : Nat} {x : DataW H × List MemPlace} (hf : DataW.trod enc Tryd.prog w base spare held fuel 22 [.slice a n c] = some x) :
    ∃ xs, Ints w a xs ∧ xs.length = n ∧ n ≤ 9223372036854775807 := by
  rcases open_ints Tryd.underlying22 Tryd.underlying3 (by kernel_rfl) hf with ⟨hcs, _⟩ | ⟨x, l, c, zs, hcs, _, hl, hm, hz, hx, hcell, hwz⟩
  · simp at hcs
    obtain ⟨rfl, rfl, rfl⟩ := hcs
    exact ⟨[], .inl rfl, rfl, by omega⟩
  · simp at hcs
    obtain ⟨rfl, rfl, rfl⟩ := hcs
    exact ⟨zs.take n, ints_of hcell, by rw [List.length_take]; split at hz <;> omega, by unfold maxLen at hm; omega⟩
theorem open_label {r : Reach} {b0 : Nat} {v : Value} {d : DataW H} {p : List MemPlace} (hv : Value.okWide Tryd.prog w r b0 24 v) (h : DataW.Trod enc Tryd.prog w base spare held 24 v d p) :
    ∃ (a : Option Addr) (n c : Nat) (xs : List Int), v = .agg #[.slice a n c] ∧ Ints w a xs ∧ xs.length = n ∧ n ≤ 9223372036854775807 := by
  obtain ⟨cs, rfl, hsz⟩ := okWide_struct Tryd.underlying24 hv
  obtain ⟨l⟩ := cs
  match l, hsz.trans (show Tryd.prog.cellsOf 24 = 1 by kernel_rfl) with
  | [c0], _ =>
    obtain ⟨fuel, hf⟩ := h
    obtain ⟨ys, n', _, hx, _, hlen, hg⟩ := DataW.trod_struct Tryd.underlying24 hf
    match ys, hlen with
    | [y0], _ =>
      have hC : Tryd.prog.cellsOf 22 = 1 := by kernel_rfl
      have h0 : DataW.trod enc Tryd.prog w base spare held n' 22 [c0] = some y0 := by simpa [Value.cells, hC] using hg 0 _ rfl
      obtain ⟨a, n, c, e⟩ := slice_form Tryd.underlying22 h0
      rw [e] at h0
      obtain ⟨xs, hI, hn, hm⟩ := open_intS h0
      simp at e
      subst e
      exact ⟨a, n, c, xs, rfl, hI, hn, hm⟩
end

end Go.Proofs.YtkcchceoljlnaaaDoor
