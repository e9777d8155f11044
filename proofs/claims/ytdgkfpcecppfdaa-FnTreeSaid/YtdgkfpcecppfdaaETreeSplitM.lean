/- TreeSplit and TreeGive in plain words. -/
import Derived.Test.YtdgkfpcecppfdaaETreeDropM
namespace Go.Proofs.Ytdgkfpcecppfdaa
set_option linter.unusedSimpArgs false
set_option linter.unusedVariables false
open Go.RowKit

theorem treePay_false {t : List El} {i : Int} {a : B3} (h : (treePay t i a).2 = false) : (treePay t i a).1 = t := by
  unfold treePay at h ⊢
  split
  · rename_i hl
    rw [if_pos hl] at h
    cases hx : t[i.toNat]? with
    | none => rfl
    | some x =>
      rw [hx] at h
      simp only at h ⊢
      unfold subR at h ⊢
      split
      · rename_i hf
        rw [if_pos hf] at h
        cases h
      · rw [setBal_self]
        exact set_same hx
  · rfl
theorem treePay_true {t : List El} {i : Int} {a : B3} (h : (treePay t i a).2 = true) : Right t ∧ ∃ (q : Nat) (x : El), i = q ∧ q < 5 ∧ t[q]? = some x ∧ x.1 = true ∧ fits3 a x.2.2 = true ∧ (treePay t i a).1 = t.set q (setBal x (sub33 x.2.2 a)) := by
  unfold treePay at h ⊢
  cases hl : (rightB t && liveAt t i)
  · rw [hl] at h; cases h
  · rw [hl] at h
    have hl2 := Bool.and_eq_true_iff.1 hl
    refine ⟨(rightB_iff t).1 hl2.1, ?_⟩
    obtain ⟨q, x, rfl, hq, hx, hxl⟩ := liveAt_range hl2.2
    rw [show ((q : Int)).toNat = q from rfl, hx] at h ⊢
    simp only [if_true] at h ⊢
    refine ⟨q, x, rfl, hq, hx, hxl, ?_⟩
    unfold subR at h ⊢
    cases hf : fits3 a x.2.2
    · rw [hf] at h; simp at h
    · simp
theorem treePay_live {t : List El} {i : Int} {a : B3} {k : Nat} {y : El} (h : (treePay t i a).1[k]? = some y) : ∃ x, t[k]? = some x ∧ y.1 = x.1 := by
  unfold treePay at h
  split at h
  · cases hx : t[i.toNat]? with
    | none => rw [hx] at h; exact ⟨y, h, rfl⟩
    | some x =>
      rw [hx] at h
      simp only [List.getElem?_set] at h
      by_cases e : i.toNat = k
      · subst e
        rw [if_pos rfl, if_pos (List.getElem?_eq_some_iff.1 hx).1] at h
        cases h
        exact ⟨x, hx, rfl⟩
      · rw [if_neg e] at h
        exact ⟨y, h, rfl⟩
  · exact ⟨y, h, rfl⟩
noncomputable def treeSplit (t : List El) (i : Int) (a : B3) : List El × Int × Bool :=
  if (treePay t i a).2 then (match t.findIdx? (fun x => !x.1) with | some k => ((treePay t i a).1.set k (true, i, a), (k : Int), true) | none => (t, 0, false)) else (t, 0, false)
theorem treeSplit_no {t : List El} {i : Int} {a : B3} (h : (treePay t i a).2 = false) : treeSplit t i a = (t, 0, false) := by simp [treeSplit, h]
theorem treeSplit_none {t : List El} {i : Int} {a : B3} (hk : ∀ j, j < t.length → ∀ c, t[j]? = some c → c.1 = true) : treeSplit t i a = (t, 0, false) := by
  have hf : t.findIdx? (fun x => !x.1) = none := by
    rw [List.findIdx?_eq_none_iff]
    intro c hc
    obtain ⟨j, hj⟩ := List.getElem?_of_mem hc
    simp [hk j (List.getElem?_eq_some_iff.1 hj).1 c hj]
  unfold treeSplit
  rw [hf]
  split <;> rfl
theorem treeSplit_some {t : List El} {i : Int} {a : B3} (h : (treePay t i a).2 = true) {k : Nat} {x : El} (hx : t[k]? = some x) (hl : x.1 = false) (hk : ∀ j, j < k → ∀ c, t[j]? = some c → c.1 = true) :
    treeSplit t i a = ((treePay t i a).1.set k (true, i, a), (k : Int), true) := by
  obtain ⟨hlt, hxe⟩ := List.getElem?_eq_some_iff.1 hx
  have hf : t.findIdx? (fun x => !x.1) = some k := by
    rw [List.findIdx?_eq_some_iff_getElem]
    refine ⟨hlt, by simp [hxe, hl], fun j hj => ?_⟩
    have := hk j hj t[j] (List.getElem?_eq_getElem (by omega))
    simp [this]
  unfold treeSplit
  rw [if_pos h, hf]
theorem treeSplit_len (t : List El) (i : Int) (a : B3) : (treeSplit t i a).1.length = t.length := by
  unfold treeSplit
  split
  · split
    · simp [treePay_len]
    · rfl
  · rfl
theorem live_snoc {xs : List El} {k : Nat} {x : El} (hk : ∀ j, j < k → ∀ c, xs[j]? = some c → c.1 = true) (hx : xs[k]? = some x) (h : x.1 = true) : ∀ j, j < k + 1 → ∀ c, xs[j]? = some c → c.1 = true := by
  intro j hj c hc
  by_cases hjk : j = k
  · subst hjk; rw [hx] at hc; cases hc; exact h
  · exact hk j (by omega) c hc
def OutN (R : List El) (z : Int) (b : Bool) (n : Nat) (w : World) (e : Ending) (w' : World) : Prop :=
  ∃ A' c', e = .returned (.tuple #[.slice A' n (n + c'), .int .i64 z, .bool b]) ∧ OwnE w' w.heap.size A' R ∧ Below w.heap.size w w'
noncomputable def treeGive (t : List El) (i j : Int) (a : B3) : List El × Bool :=
  if (treePay t i a).2 && liveAt t j then treeBack (treePay t i a).1 j a else (t, false)
theorem treeGive_no {t : List El} {i j : Int} {a : B3} (h : ((treePay t i a).2 && liveAt t j) = false) : treeGive t i j a = (t, false) := by unfold treeGive; rw [h]; rfl
theorem treeGive_yes {t : List El} {i j : Int} {a : B3} (h : ((treePay t i a).2 && liveAt t j) = true) : treeGive t i j a = treeBack (treePay t i a).1 j a := by unfold treeGive; rw [h]; rfl
theorem treeGive_len (t : List El) (i j : Int) (a : B3) : (treeGive t i j a).1.length = t.length := by
  unfold treeGive
  split
  · rw [treeBack_len, treePay_len]
  · rfl

end Go.Proofs.Ytdgkfpcecppfdaa
