/- TreeBack in plain words. -/
import Derived.Test.YtdgkfpcecppfdaaETreePay
import Derived.Test.YtdgkfpcecppfdaaRegionG
namespace Go.Proofs.Ytdgkfpcecppfdaa
set_option linter.unusedSimpArgs false
set_option linter.unusedVariables false
open Go.RowKit
attribute [local go_sem ↓] Go.wp_at_zero Go.wp_at_succ

def toOf (t : List El) (i : Int) : Nat := if liveAt t i then i.toNat else 0
noncomputable def backOk (t : List El) (a : B3) : Bool := rightB t && (okB3 a && okB3 (add33 (sumL t) a))
noncomputable def treeBack (t : List El) (i : Int) (a : B3) : List El × Bool :=
  if backOk t a then (match t[toOf t i]? with | some x => (t.set (toOf t i) (setBal x (add33 x.2.2 a)), true) | none => (t, false)) else (t, false)
theorem treeBack_no {t : List El} {i : Int} {a : B3} (h : backOk t a = false) : treeBack t i a = (t, false) := by simp [treeBack, h]
theorem treeBack_at {t : List El} {i : Int} {a : B3} {x : El} {q : Nat} (h : backOk t a = true) (hq : toOf t i = q) (hx : t[q]? = some x) : treeBack t i a = (t.set q (setBal x (add33 x.2.2 a)), true) := by
  subst hq; simp [treeBack, h, hx]
theorem treeBack_len (t : List El) (i : Int) (a : B3) : (treeBack t i a).1.length = t.length := by
  unfold treeBack
  split
  · split <;> simp
  · rfl
theorem toOf_lt {t : List El} {i : Int} : toOf t i < 5 := by
  unfold toOf
  split
  · rename_i h
    obtain ⟨q, x, rfl, hq, _⟩ := liveAt_range h
    simpa using hq
  · omega
/-- a balance is between nought and the sum -/
theorem Right.bal_le {t : List El} (h : Right t) {q : Nat} {x : El} (hx : t[q]? = some x) : (0 ≤ x.2.2.1 ∧ x.2.2.1 ≤ (sumL t).1) ∧ (0 ≤ x.2.2.2.1 ∧ x.2.2.2.1 ≤ (sumL t).2.1) ∧ (0 ≤ x.2.2.2.2 ∧ x.2.2.2.2 ≤ (sumL t).2.2) := by
  have hs : ∀ k, k ≤ 5 → (0 ≤ (sumL (t.take k)).1 ∧ 0 ≤ (sumL (t.take k)).2.1 ∧ 0 ≤ (sumL (t.take k)).2.2) ∧ ((q < k) → x.2.2.1 ≤ (sumL (t.take k)).1 ∧ x.2.2.2.1 ≤ (sumL (t.take k)).2.1 ∧ x.2.2.2.2 ≤ (sumL (t.take k)).2.2) := by
    intro k
    induction k with
    | zero => intro _; exact ⟨by simp [sumL], fun h => by omega⟩
    | succ k ih =>
      intro hk
      obtain ⟨h1, h2⟩ := ih (by omega)
      have hy : t[k]? = some (t[k]'(by have := h.len; omega)) := List.getElem?_eq_getElem (by have := h.len; omega)
      generalize t[k]'(by have := h.len; omega) = y at hy
      have e := h.sum_snoc hy (s1 := (sumL (t.take k)).1) (s2 := (sumL (t.take k)).2.1) (s3 := (sumL (t.take k)).2.2) rfl
      have hb := amtB_true (h.bal hy)
      rw [e]
      dsimp only
      refine ⟨by omega, fun hq => ?_⟩
      by_cases hqk : q = k
      · subst hqk; rw [hx] at hy; cases hy; omega
      · have := h2 (by omega); omega
  have hl := (List.getElem?_eq_some_iff.1 hx).1
  have h5 := hs 5 (Nat.le_refl _)
  have hlen := h.len
  rw [List.take_of_length_le (by omega)] at h5
  have := h5.2 (by omega)
  have hb := amtB_true (h.bal hx)
  omega
theorem okB3_true {a : B3} (h : okB3 a = true) : (0 ≤ a.1 ∧ a.1 ≤ 1000000) ∧ (0 ≤ a.2.1 ∧ a.2.1 ≤ 1000000) ∧ (0 ≤ a.2.2 ∧ a.2.2 ≤ 1000000) := amtB_true h
theorem okB3_mk {a : B3} (h : (0 ≤ a.1 ∧ a.1 ≤ 1000000) ∧ (0 ≤ a.2.1 ∧ a.2.1 ≤ 1000000) ∧ (0 ≤ a.2.2 ∧ a.2.2 ≤ 1000000)) : okB3 a = true := by
  simp [okB3, amtB, inB]; omega
theorem implSumOf_r (a b : B3) (w : World) (ha : okB3 a = true) (hb : okB3 b = true) :
    Calls Try.prog 52 #[amt3 a, amt3 b] w fun e w' => e = .returned (amt3 (add33 a b)) ∧ Below w.heap.size w w' := by
  have h1 := okB3_true ha; have h2 := okB3_true hb
  exact sumOf_any _ _ _ _ _ _ _ (by omega) (by omega) (by omega) (by omega) (by omega) (by omega) (by omega) (by omega) (by omega) (by omega) (by omega) (by omega)
theorem implAmtOk_r (a : B3) (w : World) : Calls Try.prog 50 #[amt3 a] w fun e w' => e = .returned (.bool (okB3 a)) ∧ Below w.heap.size w w' := implAmtOk_any _ _ _ _
theorem backOk_cases (t : List El) (a : B3) : (rightB t = false ∧ backOk t a = false) ∨ (rightB t = true ∧ okB3 a = false ∧ backOk t a = false) ∨ (rightB t = true ∧ okB3 a = true ∧ okB3 (add33 (sumL t) a) = false ∧ backOk t a = false) ∨ (rightB t = true ∧ okB3 a = true ∧ okB3 (add33 (sumL t) a) = true ∧ backOk t a = true) := by
  unfold backOk
  cases rightB t <;> cases okB3 a <;> cases okB3 (add33 (sumL t) a) <;> simp

end Go.Proofs.Ytdgkfpcecppfdaa
