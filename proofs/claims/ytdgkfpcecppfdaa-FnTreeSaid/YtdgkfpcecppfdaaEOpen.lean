/- How a law's argument that is a slice of structs (Res) is opened. -/
import Derived.Test.YtdgkfpcecppfdaaERows
import Derived.Test.YtdgkfpcecppfdaaOpen
import Derived.Deep.Slices
namespace Go.Proofs.Ytdgkfpcecppfdaa
set_option linter.unusedSimpArgs false
set_option linter.unusedVariables false
open Go.Joins Go.ChangeShapes Go.WideShapes Go.ChangeAt Go.RowKit Go.Deep

theorem list_of {α : Type} {P : Nat → α → Prop} : ∀ n : Nat, (∀ i, i < n → ∃ x, P i x) → ∃ xs : List α, xs.length = n ∧ ∀ k x, xs[k]? = some x → P k x
  | 0, _ => ⟨[], rfl, fun k x h => by simp at h⟩
  | n + 1, h => by
    obtain ⟨xs, hl, hx⟩ := list_of n fun i hi => h i (by omega)
    obtain ⟨y, hy⟩ := h n (by omega)
    refine ⟨xs ++ [y], by simp [hl], fun k x hk => ?_⟩
    by_cases hkn : k < n
    · rw [List.getElem?_append_left (by omega)] at hk; exact hx k x hk
    · rw [List.getElem?_append_right (by omega)] at hk
      have : k = n := by
        have := (List.getElem?_eq_some_iff.1 hk).1
        simp at this; omega
      subst this
      simp [hl] at hk
      subst hk; exact hy
theorem add_none (b off j : Nat) : (⟨b, off, none⟩ : Addr).add j = ⟨b, off + j, none⟩ := by
  unfold Addr.add; split
  · rename_i h0; subst h0; rfl
  · rfl
section
variable {H : Type} {enc : TypeId × Value → H} {w : World} {base : Nat} {spare : Nat → Bool} {held : Bool}
theorem el_form {n : Nat} {cs : List Value} {y : DataW H × List MemPlace} (hl : cs.length = 5) (h : DataW.trod enc Try.prog w base spare held n 63 cs = some y) : ∃ c : El, cs = [.bool c.1, .int .i64 c.2.1, .int .i64 c.2.2.1, .int .i64 c.2.2.2.1, .int .i64 c.2.2.2.2] := by
  match cs, hl with
  | [v0, v1, v2, v3, v4], _ =>
    obtain ⟨ys, n', _, _, _, hyl, hf⟩ := DataW.trod_struct Try.underlying63 h
    match ys, hyl with
    | [y0, y1, y2], _ =>
      have hC : Try.prog.cellsOf 3 = 1 := by kernel_rfl
      have hD : Try.prog.cellsOf 4 = 1 := by kernel_rfl
      have hE : Try.prog.cellsOf 23 = 3 := by kernel_rfl
      have h0 : DataW.trod enc Try.prog w base spare held n' 4 [v0] = some y0 := by simpa [hD] using hf 0 _ rfl
      have h1 : DataW.trod enc Try.prog w base spare held n' 3 [v1] = some y1 := by simpa [hC] using hf 1 _ rfl
      have h2 : DataW.trod enc Try.prog w base spare held n' 23 [v2, v3, v4] = some y2 := by simpa [hE] using hf 2 _ rfl
      obtain ⟨zs, n2, _, _, _, hzl, hg⟩ := DataW.trod_struct Try.underlying23 h2
      match zs, hzl with
      | [z0, z1, z2], _ =>
        have k0 : DataW.trod enc Try.prog w base spare held n2 3 [v2] = some z0 := by simpa [hC] using hg 0 _ rfl
        have k1 : DataW.trod enc Try.prog w base spare held n2 3 [v3] = some z1 := by simpa [hC] using hg 1 _ rfl
        have k2 : DataW.trod enc Try.prog w base spare held n2 3 [v4] = some z2 := by simpa [hC] using hg 2 _ rfl
        obtain ⟨b, e0, _⟩ := DataW.trod_bool Try.underlying4 h0
        obtain ⟨q, e1, _, _⟩ := DataW.trod_int Try.underlying3 h1
        obtain ⟨p, e2, _, _⟩ := DataW.trod_int Try.underlying3 k0
        obtain ⟨r, e3, _, _⟩ := DataW.trod_int Try.underlying3 k1
        obtain ⟨c, e4, _, _⟩ := DataW.trod_int Try.underlying3 k2
        simp at e0 e1 e2 e3 e4
        exact ⟨(b, q, p, r, c), by rw [e0, e1, e2, e3, e4]⟩

theorem open_els {fuel : Nat} {a : Option Addr} {n c : Nat} {x : DataW H × List MemPlace} (hf : DataW.trod enc Try.prog w base spare held fuel 32 [.slice a n c] = some x) :
    ∃ xs, Els w a xs ∧ xs.length = n ∧ n ≤ 9223372036854775807 := by
  rcases open_slice Try.underlying32 hf with ⟨hcs, _⟩ | ⟨a', len, cap, m, n', D, Pl, hcs, _, hl, hm, hmm, _, hi⟩
  · simp at hcs
    obtain ⟨rfl, rfl, rfl⟩ := hcs
    exact ⟨[], .inl rfl, rfl, by omega⟩
  · simp at hcs
    obtain ⟨rfl, rfl, rfl⟩ := hcs
    have hC : Try.prog.cellsOf 63 = 5 := by kernel_rfl
    have hnm : n ≤ m := by rw [hmm]; split <;> omega
    have key : ∀ i, i < n → ∃ c : El, ∀ j u, ([.bool c.1, .int .i64 c.2.1, .int .i64 c.2.2.1, .int .i64 c.2.2.2.1, .int .i64 c.2.2.2.2] : List Value)[j]? = some u → w.cell? ((a'.add (i * 5)).add j) = some u := by
      intro i hin
      obtain ⟨cs', hcells, htr⟩ := hi i (by omega)
      rw [hC] at hcells
      obtain ⟨_, hcl, hat⟩ := World.cells?_some hcells
      obtain ⟨c, rfl⟩ := el_form hcl htr
      refine ⟨c, fun j u hj => ?_⟩
      have hjl : j < 5 := by have := (List.getElem?_eq_some_iff.1 hj).1; simpa using this
      rw [hat j hjl]; exact hj
    obtain ⟨xs, hxl, hxs⟩ := list_of n key
    refine ⟨xs, ?_, hxl, by unfold maxLen at hm; omega⟩
    rcases Nat.eq_zero_or_pos n with h0 | h0
    · left; exact List.eq_nil_of_length_eq_zero (by omega)
    · right
      obtain ⟨b, of, spot⟩ := a'
      have hsp : spot = none := by
        obtain ⟨c, hc⟩ := key 0 h0
        have := hc 0 _ rfl
        simpa [Addr.add] using World.cell?_spot this
      subst hsp
      refine ⟨b, of, rfl, fun k c hk => ?_⟩
      have h1 := hxs k c hk
      simp only [add_none] at h1
      exact ⟨by simpa using h1 0 _ rfl, by simpa using h1 1 _ rfl, by simpa using h1 2 _ rfl, by simpa using h1 3 _ rfl, by simpa using h1 4 _ rfl⟩
end

end Go.Proofs.Ytdgkfpcecppfdaa
