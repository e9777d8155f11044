/- TreeDrop in plain words; a block that holds a tree. -/
import Derived.Test.YtdgkfpcecppfdaaETreeBackM
namespace Go.Proofs.Ytdgkfpcecppfdaa
set_option linter.unusedSimpArgs false
set_option linter.unusedVariables false
open Go.RowKit

/-- block g holds the elements xs (and maybe more behind them) -/
def OB (w : World) (g : Nat) (xs : List El) : Prop := ∃ full : Array Value, w.heap[g]? = some (.cells full 56 (0, 0)) ∧ Pre (vals xs) full
theorem OB.own {w : World} {g B : Nat} {xs : List El} (h : OB w g xs) (hB : B ≤ g) : OwnE w B (some ⟨g, 0, none⟩) xs := by
  obtain ⟨full, hh, hp⟩ := h
  exact .inr ⟨g, full, rfl, hB, hh, hp⟩
theorem OwnE.ob {w : World} {B : Nat} {A : Option Addr} {xs : List El} (h : OwnE w B A xs) (hl : xs.length = 5) : ∃ g, A = some ⟨g, 0, none⟩ ∧ B ≤ g ∧ OB w g xs := by
  obtain ⟨g, full, h1, h2, h3, h4⟩ := h.block hl
  exact ⟨g, h1, h2, full, h3, h4⟩
theorem OB.at_ {w : World} {g : Nat} {xs : List El} (h : OB w g xs) {k : Nat} {c : El} (hk : xs[k]? = some c) : w.cell? ⟨g, k * 5, none⟩ = some (.bool c.1) ∧ w.cell? ⟨g, k * 5 + 1, none⟩ = some (.int .i64 c.2.1) ∧ w.cell? ⟨g, k * 5 + 2, none⟩ = some (.int .i64 c.2.2.1) ∧ w.cell? ⟨g, k * 5 + 3, none⟩ = some (.int .i64 c.2.2.2.1) ∧ w.cell? ⟨g, k * 5 + 4, none⟩ = some (.int .i64 c.2.2.2.2) := by
  obtain ⟨full, hh, hp⟩ := h
  exact pre_at hh hp hk
theorem OB.fro {w : World} {g : Nat} {xs : List El} (h : OB w g xs) : ∀ j, w.frozen? ⟨g, j, none⟩ = false := by
  obtain ⟨full, hh, _⟩ := h
  exact (blkcell hh).2
theorem OB.lt {w : World} {g : Nat} {xs : List El} (h : OB w g xs) : g < w.heap.size := by
  obtain ⟨full, hh, _⟩ := h
  exact lt_of_blk hh
theorem OB.below {w w' : World} {g : Nat} {xs : List El} (h : OB w g xs) (hb : Below w.heap.size w w') : OB w' g xs := by
  obtain ⟨full, hh, hp⟩ := h
  exact ⟨full, keepblk hb hh, hp⟩
theorem OB.drew {w : World} {g : Nat} {xs : List El} (h : OB w g xs) : OB w.drew g xs := h
theorem OB.alloc {w : World} {g : Nat} {xs : List El} (h : OB w g xs) (o : Obj) : OB (w.alloc o) g xs := by
  obtain ⟨full, hh, hp⟩ := h
  exact ⟨full, blk_alloc hh, hp⟩
theorem OB.far {w : World} {g : Nat} {xs : List El} (h : OB w g xs) {p : Addr} (hp : g ≠ p.block) (u : Value) : OB (w.setCell p u) g xs := by
  obtain ⟨full, hh, h2⟩ := h
  exact ⟨full, blk_far hh hp u, h2⟩
theorem OB.setBal {w : World} {g : Nat} {xs : List El} {k : Nat} {x : El} (h : OB w g xs) (hk : xs[k]? = some x) (b : B3) :
    OB (((w.setCell ⟨g, k * 5 + 2, none⟩ (.int .i64 b.1)).setCell ⟨g, k * 5 + 2 + 1, none⟩ (.int .i64 b.2.1)).setCell ⟨g, k * 5 + 2 + 2, none⟩ (.int .i64 b.2.2)) g (xs.set k (setBal x b)) := by
  obtain ⟨full, hh, hp⟩ := h
  exact ⟨_, blk_set (i := k * 5 + 4) (blk_set (i := k * 5 + 3) (blk_set (i := k * 5 + 2) hh (.int .i64 b.1)) (.int .i64 b.2.1)) (.int .i64 b.2.2), by rw [← vals_setBal hk]; exact ((hp.set_ _ _).set_ _ _).set_ _ _⟩
theorem OB.setEl {w : World} {g : Nat} {xs : List El} (h : OB w g xs) (k : Nat) (c : El) :
    OB (((((w.setCell ⟨g, k * 5, none⟩ (.bool c.1)).setCell ⟨g, k * 5 + 1, none⟩ (.int .i64 c.2.1)).setCell ⟨g, k * 5 + 2, none⟩ (.int .i64 c.2.2.1)).setCell ⟨g, k * 5 + 3, none⟩ (.int .i64 c.2.2.2.1)).setCell ⟨g, k * 5 + 4, none⟩ (.int .i64 c.2.2.2.2)) g (xs.set k c) := by
  obtain ⟨full, hh, hp⟩ := h
  exact ⟨_, blk_set (i := k * 5 + 4) (blk_set (i := k * 5 + 3) (blk_set (i := k * 5 + 2) (blk_set (i := k * 5 + 1) (blk_set (i := k * 5) hh (.bool c.1)) (.int .i64 c.2.1)) (.int .i64 c.2.2.1)) (.int .i64 c.2.2.2.1)) (.int .i64 c.2.2.2.2), by rw [← vals_set]; exact ((((hp.set_ _ _).set_ _ _).set_ _ _).set_ _ _).set_ _ _⟩
theorem vals_setPar {xs : List El} {k : Nat} {x : El} (h : xs[k]? = some x) (v : Int) : (vals xs).set (k * 5 + 1) (.int .i64 v) = vals (xs.set k (x.1, v, x.2.2)) := by
  rw [← vals_set]
  have h1 := vals_at xs k
  rw [h] at h1
  have hl0 := (List.getElem?_eq_some_iff.1 h1.1).1
  have hl2 := (List.getElem?_eq_some_iff.1 h1.2.2.1).1
  have hl3 := (List.getElem?_eq_some_iff.1 h1.2.2.2.1).1
  have hl4 := (List.getElem?_eq_some_iff.1 h1.2.2.2.2).1
  apply List.ext_getElem?
  intro i
  simp only [List.getElem?_set, List.length_set]
  by_cases e4 : k * 5 + 4 = i
  · subst e4; rw [if_pos rfl, if_pos hl4, if_neg (by omega), h1.2.2.2.2]; simp
  · rw [if_neg e4]
    by_cases e3 : k * 5 + 3 = i
    · subst e3; rw [if_pos rfl, if_pos hl3, if_neg (by omega), h1.2.2.2.1]; simp
    · rw [if_neg e3]
      by_cases e2 : k * 5 + 2 = i
      · subst e2; rw [if_pos rfl, if_pos hl2, if_neg (by omega), h1.2.2.1]; simp
      · rw [if_neg e2]
        by_cases e1 : k * 5 + 1 = i
        · rw [if_pos e1, if_pos e1]
        · rw [if_neg e1, if_neg e1]
          by_cases e0 : k * 5 = i
          · subst e0; rw [if_pos rfl, if_pos hl0, h1.1]; simp
          · rw [if_neg e0]
theorem OB.setPar {w : World} {g : Nat} {xs : List El} {k : Nat} {x : El} (h : OB w g xs) (hk : xs[k]? = some x) (v : Int) :
    OB (w.setCell ⟨g, k * 5 + 1, none⟩ (.int .i64 v)) g (xs.set k (x.1, v, x.2.2)) := by
  obtain ⟨full, hh, hp⟩ := h
  exact ⟨_, blk_set (i := k * 5 + 1) hh (.int .i64 v), by rw [← vals_setPar hk]; exact hp.set_ _ _⟩
/-- what hung at i hangs at up -/
def relF (i up : Int) (x : El) : El := if x.1 && decide (x.2.1 = i) then (x.1, up, x.2.2) else x
def relTo (i up : Int) (t : List El) (k : Nat) : List El := (t.take k).map (relF i up) ++ t.drop k
theorem relTo_0 (i up : Int) (t : List El) : relTo i up t 0 = t := by simp [relTo]
theorem relTo_n (i up : Int) {t : List El} {n : Nat} (h : t.length = n) : relTo i up t n = t.map (relF i up) := by simp [relTo, ← h]
theorem relTo_at {i up : Int} {t : List El} {k : Nat} {x : El} (h : t[k]? = some x) : (relTo i up t k)[k]? = some x := by
  have hl := (List.getElem?_eq_some_iff.1 h).1
  unfold relTo
  rw [List.getElem?_append_right (by simp; omega)]
  simp [Nat.min_eq_left (Nat.le_of_lt hl), h]
theorem relTo_set {i up : Int} {t : List El} {k : Nat} {x : El} (h : t[k]? = some x) : (relTo i up t k).set k (relF i up x) = relTo i up t (k + 1) := by
  have hl := (List.getElem?_eq_some_iff.1 h).1
  have hd : t.drop k = x :: t.drop (k + 1) := by rw [List.drop_eq_getElem_cons hl]; congr 1; exact (List.getElem?_eq_some_iff.1 h).2
  unfold relTo
  rw [List.set_append_right _ _ (by simp; omega), hd]
  simp [Nat.min_eq_left (Nat.le_of_lt hl), List.take_add_one, h]
theorem relTo_same {i up : Int} {t : List El} {k : Nat} {x : El} (h : t[k]? = some x) (hf : relF i up x = x) : relTo i up t (k + 1) = relTo i up t k := by
  rw [← relTo_set h, hf]
  exact set_same (relTo_at h)
def dropT (t : List El) (q p : Nat) (z y : El) : List El := (t.set p (setBal y (add33 y.2.2 z.2.2))).set q zEl
noncomputable def treeDrop (t : List El) (i : Int) : List El × Bool :=
  if rightB t && liveAt t i && !decide (i = 0) then ((dropT t i.toNat (parAt t i).toNat (t.getD i.toNat zEl) (t.getD (parAt t i).toNat zEl)).map (relF i (parAt t i)), true) else (t, false)
theorem treeDrop_no {t : List El} {i : Int} (h : (rightB t && liveAt t i && !decide (i = 0)) = false) : treeDrop t i = (t, false) := by simp [treeDrop, h]
theorem treeDrop_at {t : List El} {q p : Nat} {z y : El} (hR : rightB t = true) (hq0 : q ≠ 0) (hz : t[q]? = some z) (hzl : z.1 = true) (hq : q < 5) (hy : t[p]? = some y) (hzp : z.2.1 = p) :
    treeDrop t q = ((dropT t q p z y).map (relF q p), true) := by
  have h2 : parAt t q = p := by rw [parAt_nat hz, hzp]
  have h3 : ¬ ((q : Int) = 0) := by omega
  have h4 : liveAt t q = true := by rw [liveAt_nat hz hq, hzl]
  simp [treeDrop, hR, h4, hq0, h2, List.getD, hz, hy]
theorem treeDrop_len (t : List El) (i : Int) : (treeDrop t i).1.length = t.length := by
  unfold treeDrop
  split <;> simp [dropT]
theorem dropT_len (t : List El) (q p : Nat) (z y : El) : (dropT t q p z y).length = t.length := by simp [dropT]
theorem Right.up {t : List El} (h : Right t) {q : Nat} {z : El} (hq : q < 5) (hz : t[q]? = some z) (hl : z.1 = true) (h0 : q ≠ 0) : ∃ (p : Nat) (y : El), p < 5 ∧ z.2.1 = (p : Int) ∧ t[p]? = some y ∧ y.1 = true ∧ p ≠ q := by
  obtain ⟨p, y, h1, h2, h3, h4⟩ := h.closed q z hq hz hl h0
  refine ⟨p, y, h1, h2, h3, h4, fun e => ?_⟩
  have hg := ((right_iff t).1 h).good q z hq hz
  unfold goodS at hg
  simp only [Bool.and_eq_true, Bool.or_eq_true, decide_eq_true_eq, Bool.not_eq_true'] at hg
  rcases hg.2 with (h5 | h5) | h5
  · exact h0 h5
  · rw [hl] at h5; cases h5
  · apply h5.1.2; rw [h2, e]
/-- two balances are no more than the sum -/
theorem Right.bal_two {t : List El} (h : Right t) {p q : Nat} {y z : El} (hy : t[p]? = some y) (hz : t[q]? = some z) (hpq : p ≠ q) : okB3 (add33 y.2.2 z.2.2) = true := by
  have hs : ∀ k, k ≤ 5 → (0 ≤ (sumL (t.take k)).1 ∧ 0 ≤ (sumL (t.take k)).2.1 ∧ 0 ≤ (sumL (t.take k)).2.2) ∧ ((p < k) → y.2.2.1 ≤ (sumL (t.take k)).1 ∧ y.2.2.2.1 ≤ (sumL (t.take k)).2.1 ∧ y.2.2.2.2 ≤ (sumL (t.take k)).2.2) ∧ ((q < k) → z.2.2.1 ≤ (sumL (t.take k)).1 ∧ z.2.2.2.1 ≤ (sumL (t.take k)).2.1 ∧ z.2.2.2.2 ≤ (sumL (t.take k)).2.2) ∧ (p < k → q < k → y.2.2.1 + z.2.2.1 ≤ (sumL (t.take k)).1 ∧ y.2.2.2.1 + z.2.2.2.1 ≤ (sumL (t.take k)).2.1 ∧ y.2.2.2.2 + z.2.2.2.2 ≤ (sumL (t.take k)).2.2) := by
    intro k
    induction k with
    | zero => intro _; exact ⟨by simp [sumL], fun h => by omega, fun h => by omega, fun h => by omega⟩
    | succ k ih =>
      intro hk
      obtain ⟨h1, h2, h3, h4⟩ := ih (by omega)
      have hv : t[k]? = some (t[k]'(by have := h.len; omega)) := List.getElem?_eq_getElem (by have := h.len; omega)
      generalize t[k]'(by have := h.len; omega) = v at hv
      have e := h.sum_snoc hv (s1 := (sumL (t.take k)).1) (s2 := (sumL (t.take k)).2.1) (s3 := (sumL (t.take k)).2.2) rfl
      have hb := amtB_true (h.bal hv)
      rw [e]
      dsimp only
      by_cases hpk : p = k
      · subst hpk; rw [hy] at hv; cases hv
        refine ⟨by omega, fun _ => by omega, fun hq => ?_, fun _ hq => ?_⟩
        · have := h3 (by omega); omega
        · have := h3 (by omega); omega
      · by_cases hqk : q = k
        · subst hqk; rw [hz] at hv; cases hv
          refine ⟨by omega, fun hp => ?_, fun _ => by omega, fun hp _ => ?_⟩
          · have := h2 (by omega); omega
          · have := h2 (by omega); omega
        · refine ⟨by omega, fun hp => ?_, fun hq => ?_, fun hp hq => ?_⟩
          · have := h2 (by omega); omega
          · have := h3 (by omega); omega
          · have := h4 (by omega) (by omega); omega
  have hl := (List.getElem?_eq_some_iff.1 hy).1
  have hl2 := (List.getElem?_eq_some_iff.1 hz).1
  have h5 := hs 5 (Nat.le_refl _)
  have hlen := h.len
  rw [List.take_of_length_le (by omega)] at h5
  have h6 := h5.2.2.2 (by omega) (by omega)
  have hb := amtB_true (h.bal hy)
  have hb2 := amtB_true (h.bal hz)
  have hsum := amtB_true h.sum
  exact okB3_mk (by simp only [add33]; omega)

end Go.Proofs.Ytdgkfpcecppfdaa
