/- Slices of structs (Res) in memory, and the laws' own functions on them (copy, compare, mark, look). -/
import Derived.Test.YtdgkfpcecppfdaaRegion
import Derived.Test.YtdgkfpcecppfdaaAmt
import Derived.Deep.QuietTactic
import Derived.BigQuiet
import Derived.Deep.OwnRows
import Derived.Deep.Draws
import Derived.Deep.RegionHeld3
import Derived.Maps.AppendAt
import Derived.OwnWalk
import Derived.Test.YtdgkfpcecppfdaaERowsB
import Derived.Test.YtdgkfpcecppfdaaERowsC
namespace Go.Proofs.Ytdgkfpcecppfdaa
set_option linter.unusedSimpArgs false
set_option linter.unusedVariables false
open Go.RowKit
attribute [local go_sem ↓] Go.wp_at_zero Go.wp_at_succ

def markOf (k : Int) (j : Nat) : El := (decide ((k + (j : Int) * 5) % 3 = 0), k + (j : Int) * 5 + 1, k + (j : Int) * 5 + 1 + 1, k + (j : Int) * 5 + 1 + 1 + 1, k + (j : Int) * 5 + 1 + 1 + 1 + 1)
def markL (k : Int) (n : Nat) : List El := (List.range n).map (markOf k)
theorem markL_len (k : Int) (n : Nat) : (markL k n).length = n := by simp [markL]
theorem markL_get {k : Int} {n j : Nat} (h : j < n) : (markL k n)[j]? = some (markOf k j) := by simp [markL, h]
/-- the first j are marked -/
def marked (k : Int) (xs : List El) (j : Nat) : List El := markL k j ++ xs.drop j
theorem marked_0 (k : Int) (xs : List El) : marked k xs 0 = xs := by simp [marked, markL]
theorem marked_n (k : Int) (xs : List El) {n : Nat} (h : xs.length = n) : marked k xs n = markL k n := by simp [marked, ← h]
theorem marked_at {k : Int} {xs : List El} {j : Nat} {x : El} (h : xs[j]? = some x) : (marked k xs j)[j]? = some x := by
  unfold marked
  rw [List.getElem?_append_right (by simp [markL_len]), markL_len, Nat.sub_self, List.getElem?_drop]
  simpa using h
theorem marked_set {k : Int} {xs : List El} {j : Nat} (hj : j < xs.length) : (marked k xs j).set j (markOf k j) = marked k xs (j + 1) := by
  have hl := markL_len k j
  have hd : xs.drop j = xs[j] :: xs.drop (j + 1) := List.drop_eq_getElem_cons hj
  unfold marked
  rw [List.set_append_right _ _ (by omega), hl, Nat.sub_self, hd, List.set_cons_zero]
  simp [markL, List.range_succ]
/-- the cells cs stand ahead in full -/
def Pre (cs : List Value) (full : Array Value) : Prop := ∀ (k : Nat) (v : Value), cs[k]? = some v → full[k]? = some v
theorem Pre.set_ {cs : List Value} {full : Array Value} (h : Pre cs full) (i : Nat) (v : Value) : Pre (cs.set i v) (full.setIfInBounds i v) := by
  intro k u hk
  rw [List.getElem?_set] at hk
  rw [Array.getElem?_setIfInBounds]
  by_cases hik : i = k
  · rw [if_pos hik] at hk ⊢
    subst hik
    by_cases hl : i < cs.length
    · rw [if_pos hl] at hk
      have := h i cs[i] (List.getElem?_eq_getElem hl)
      rw [if_pos (Array.getElem?_eq_some_iff.1 this).1]; exact hk
    · rw [if_neg hl] at hk; cases hk
  · rw [if_neg hik] at hk ⊢; exact h k u hk
/-- the slice at A, from block B on, holds the elements xs in a block of its own -/
def OwnE (w : World) (B : Nat) (A : Option Addr) (xs : List El) : Prop :=
  xs = [] ∨ ∃ (g : Nat) (full : Array Value), A = some ⟨g, 0, none⟩ ∧ B ≤ g ∧ w.heap[g]? = some (.cells full 56 (0, 0)) ∧ Pre (vals xs) full
theorem pre_at {w : World} {g : Nat} {full : Array Value} {xs : List El} {k : Nat} {c : El} (hh : w.heap[g]? = some (.cells full 56 (0, 0))) (hp : Pre (vals xs) full) (hk : xs[k]? = some c) : w.cell? ⟨g, k * 5, none⟩ = some (.bool c.1) ∧ w.cell? ⟨g, k * 5 + 1, none⟩ = some (.int .i64 c.2.1) ∧ w.cell? ⟨g, k * 5 + 2, none⟩ = some (.int .i64 c.2.2.1) ∧ w.cell? ⟨g, k * 5 + 3, none⟩ = some (.int .i64 c.2.2.2.1) ∧ w.cell? ⟨g, k * 5 + 4, none⟩ = some (.int .i64 c.2.2.2.2) := by
  have h1 := vals_at xs k
  rw [hk] at h1
  refine ⟨?_, ?_, ?_, ?_, ?_⟩
  · rw [(blkcell hh).1]; exact hp _ _ (by simpa using h1.1)
  · rw [(blkcell hh).1]; exact hp _ _ (by simpa using h1.2.1)
  · rw [(blkcell hh).1]; exact hp _ _ (by simpa using h1.2.2.1)
  · rw [(blkcell hh).1]; exact hp _ _ (by simpa using h1.2.2.2.1)
  · rw [(blkcell hh).1]; exact hp _ _ (by simpa using h1.2.2.2.2)
theorem OwnE.els {w : World} {B : Nat} {A : Option Addr} {xs : List El} (h : OwnE w B A xs) : Els w A xs := by
  rcases h with rfl | ⟨g, full, rfl, _, hh, hp⟩
  · exact .inl rfl
  · exact .inr ⟨g, 0, rfl, fun k c hc => by simpa using pre_at hh hp hc⟩
theorem EBlk.own {w : World} {g : Nat} {xs : List El} (h : EBlk w g xs) {B : Nat} (hB : B ≤ g) : OwnE w B (some ⟨g, 0, none⟩) xs := .inr ⟨g, _, rfl, hB, h, fun k v hk => by simpa using hk⟩
theorem OwnE.below {w w' : World} {B : Nat} {A : Option Addr} {xs : List El} (h : OwnE w B A xs) (hb : Below w.heap.size w w') : OwnE w' B A xs := by
  rcases h with rfl | ⟨g, full, rfl, h1, hh, hp⟩
  · exact .inl rfl
  · exact .inr ⟨g, full, rfl, h1, keepblk hb hh, hp⟩
theorem OwnE.of_row {w : World} {B : Nat} {A : Option Addr} {n c : Nat} {xs : List El} (h : w.ownsRow B 56 5 (.slice A n c) n (vals xs)) : OwnE w B A xs := by
  rcases h.2 with ⟨_, h0⟩ | ⟨g, cap, cur, hv, hB, hh, _, _, _, ht⟩
  · left
    have := h.1
    rw [vals_len, h0] at this
    exact List.eq_nil_of_length_eq_zero (by omega)
  · injection hv with hA
    subst hA
    refine .inr ⟨g, cur, rfl, hB, hh, fun k v hk => ?_⟩
    rw [← ht, List.getElem?_take] at hk
    split at hk
    · simpa using hk
    · cases hk
theorem only_setCell {a w : World} {g : Nat} (h : a.grownBy w (some g)) {p : Addr} (hp : p.block = g) (u : Value) : a.grownBy (w.setCell p u) (some g) :=
  ⟨h.os, h.tape, h.output, by simpa [World.setCell] using h.size, fun i hi hne => (Below.heap_setCell w p u i (by rintro rfl; exact hne (by rw [hp]))).trans (h.block i hi hne)⟩
theorem only_refl (w : World) (r : Option Nat) : w.grownBy w r := ⟨rfl, rfl, rfl, Nat.le_refl _, fun _ _ _ => rfl⟩
set_option maxHeartbeats 3200000 in
theorem markEls_any (B : Nat) (A : Option Addr) (n c : Nat) (xs : List El) (k : Int) (w : World) (hx : OwnE w B A xs) (hn : xs.length = n) (hnb : n ≤ 1099511627776) (hk0 : 0 ≤ k) (hk1 : k ≤ 1099511627776) :
    Calls Try.prog 17 #[.slice A n c, .int .i64 k] w fun e w' => e = .returned (.int .i64 (k + (n : Int) * 5)) ∧ OwnE w' B A (markL k n) ∧ ∃ row, w.grownBy w' row ∧ ∀ g, row = some g → xs ≠ [] ∧ A = some ⟨g, 0, none⟩ := by
  by_cases h0 : n = 0
  · subst h0
    obtain rfl : xs = [] := List.eq_nil_of_length_eq_zero hn
    clear hx hn
    go_enter Try.func17, Try.ntmps17
    go_wp2
    go_loopw [1, 5] (fun q i wr => q = .int .i64 k ∧ i = .int .i64 0 ∧ wr = w) (fun _ _ _ => 0)
    case atStart => exact ⟨rfl, rfl, rfl⟩
    case round =>
      obtain ⟨rfl, rfl, rfl⟩ := hrel
      go_wp2
      go_ret
      exact ⟨by simp, .inl rfl, none, only_refl _ _, fun g h => by cases h⟩
  · rcases hx with hx | ⟨g, full, rfl, hB, hh, hc⟩
    · subst hx; simp at hn; omega
    have HN := Lib.hid hn
    have HC := Lib.hid hc
    have HH := Lib.hid hh
    clear hn hc hh
    go_enter Try.func17, Try.ntmps17
    go_wp2
    go_loopw [1, 5] (fun q i wr => ∃ j : Nat, j ≤ n ∧ i = .int .i64 j ∧ q = .int .i64 (k + (j : Int) * 5) ∧ Hid (∃ f2 : Array Value, wr.heap[g]? = some (.cells f2 56 (0, 0)) ∧ Pre (vals (marked k xs j)) f2) ∧ Hid (w.grownBy wr (some g))) (fun _ i _ => n - (intOf i).toNat)
    case atStart => exact ⟨0, Nat.zero_le _, rfl, by simp, ⟨full, HH.out, by rw [marked_0]; exact HC.out⟩, only_refl _ _⟩
    case round =>
      obtain ⟨j, hj, rfl, rfl, hf, hg⟩ := hrel
      by_cases hlt : j < n
      · obtain ⟨f2, h1, h2⟩ := hf.out
        have ex := Lib.hid (List.getElem?_eq_getElem (l := xs) (i := j) (by have := HN.out; omega))
        generalize xs[j]'(by have := HN.out; omega) = x at *
        obtain ⟨cz0, cz1, cz2, cz3, cz4⟩ := pre_at h1 h2 (marked_at ex.out)
        have kf := (blkcell h1).2
        have hb2 := Lib.hid (show ∃ f3, (((((wr.setCell ⟨g, j * 5, none⟩ (.bool (markOf k j).1)).setCell ⟨g, j * 5 + 1, none⟩ (.int .i64 (markOf k j).2.1)).setCell ⟨g, j * 5 + 2, none⟩ (.int .i64 (markOf k j).2.2.1)).setCell ⟨g, j * 5 + 3, none⟩ (.int .i64 (markOf k j).2.2.2.1)).setCell ⟨g, j * 5 + 4, none⟩ (.int .i64 (markOf k j).2.2.2.2)).heap[g]? = some (.cells f3 56 (0, 0)) ∧ Pre (vals (marked k xs (j + 1))) f3 from
          ⟨_, blk_set (i := j * 5 + 4) (blk_set (i := j * 5 + 3) (blk_set (i := j * 5 + 2) (blk_set (i := j * 5 + 1) (blk_set (i := j * 5) h1 (.bool (markOf k j).1)) (.int .i64 (markOf k j).2.1)) (.int .i64 (markOf k j).2.2.1)) (.int .i64 (markOf k j).2.2.2.1)) (.int .i64 (markOf k j).2.2.2.2), by rw [← marked_set (by have := HN.out; omega), ← vals_set]; exact (((((h2.set_ _ _).set_ _ _).set_ _ _).set_ _ _).set_ _ _)⟩)
        have hg2 := Lib.hid (show w.grownBy (((((wr.setCell ⟨g, j * 5, none⟩ (.bool (markOf k j).1)).setCell ⟨g, j * 5 + 1, none⟩ (.int .i64 (markOf k j).2.1)).setCell ⟨g, j * 5 + 2, none⟩ (.int .i64 (markOf k j).2.2.1)).setCell ⟨g, j * 5 + 3, none⟩ (.int .i64 (markOf k j).2.2.2.1)).setCell ⟨g, j * 5 + 4, none⟩ (.int .i64 (markOf k j).2.2.2.2)) (some g) from only_setCell (only_setCell (only_setCell (only_setCell (only_setCell hg.out rfl _) rfl _) rfl _) rfl _) rfl _)
        clear h1 h2 hf
        simp only [markOf] at hb2 hg2
        go_wp2
        refine ⟨⟨j + 1, by omega, by go_num, congrArg (Value.int .i64) (by omega), hb2, hg2⟩, by simp [intOf]; omega⟩
      · obtain rfl : j = n := by omega
        go_wp2
        go_ret
        refine ⟨rfl, .inr ?_, _, hg.out, fun g' h => ⟨fun h0 => by have := HN.out; rw [h0] at this; simp at this; omega, by injection h with h; subst h; rfl⟩⟩
        obtain ⟨f2, h1, h2⟩ := hf.out
        exact ⟨g, f2, rfl, hB, h1, by rw [← marked_n k xs HN.out]; exact h2⟩
set_option maxHeartbeats 3200000 in
theorem heldEls_any (A : Option Addr) (n c : Nat) (k : Int) (w : World) (hx : Els w A (markL k n)) (hnb : n ≤ 1099511627776) (hk0 : 0 ≤ k) (hk1 : k ≤ 1099511627776) :
    Calls Try.prog 18 #[.slice A n c, .int .i64 k] w fun e w' => e = .returned (.int .i64 (k + (n : Int) * 5)) ∧ w = w' := by
  have HX := Lib.hid hx
  clear hx
  go_enter Try.func18, Try.ntmps18
  go_wp2
  go_loop [1, 5] (fun q i => ∃ j : Nat, j ≤ n ∧ i = .int .i64 j ∧ q = .int .i64 (k + (j : Int) * 5)) (fun _ i => n - (intOf i).toNat)
  case atStart => exact ⟨0, Nat.zero_le _, rfl, by simp⟩
  case round =>
    obtain ⟨j, hj, rfl, rfl⟩ := hrel
    by_cases hlt : j < n
    · obtain ⟨b, off, rfl, hb, cz0, cz1, cz2, cz3, cz4⟩ := HX.out.at_ (markL_get (k := k) hlt)
      simp only [markOf] at cz0 cz1 cz2 cz3 cz4
      have hb1 : (j : Int) < n := by omega
      cases hm : ((k + (j : Int) * 5) % 3 == 0) <;> rw [show decide ((k + (j : Int) * 5) % 3 = 0) = ((k + (j : Int) * 5) % 3 == 0) from by rw [Bool.eq_iff_iff]; simp, hm] at cz0
      all_goals
        go_wp2
        exact ⟨⟨j + 1, by omega, by go_num, congrArg (Value.int .i64) (by omega)⟩, by simp [intOf]; omega⟩
    · obtain rfl : j = n := by omega
      go_wp2
      go_ret
      exact ⟨rfl, rfl⟩
set_option maxHeartbeats 400000 in
theorem szEls_no (A : Option Addr) (n c : Nat) (k : Int) (w : World) (hn : n ≤ 9223372036854775807) (hk0 : 0 ≤ k) (hk1 : k ≤ 1099511627776) (h : k - n < 0) :
    Calls Try.prog 19 #[.slice A n c, .int .i64 k] w fun e w' => e = .returned (.int .i64 (-1)) ∧ w = w' := by
  go_enter Try.func19, Try.ntmps19
  go_wp2
  go_ret
  exact ⟨rfl, rfl⟩
set_option maxHeartbeats 400000 in
theorem szEls_yes (A : Option Addr) (n c : Nat) (k : Int) (w : World) (hn : n ≤ 9223372036854775807) (hk0 : 0 ≤ k) (hk1 : k ≤ 1099511627776) (h : ¬ k - n < 0) :
    Calls Try.prog 19 #[.slice A n c, .int .i64 k] w fun e w' => e = .returned (.int .i64 (k - n)) ∧ w = w' := by
  go_enter Try.func19, Try.ntmps19
  go_wp2
  go_ret
  exact ⟨rfl, rfl⟩
theorem els_flat {w : World} {b off : Nat} {xs : List El} (h : ∀ k c, xs[k]? = some c → w.cell? ⟨b, off + k * 5, none⟩ = some (.bool c.1) ∧ w.cell? ⟨b, off + k * 5 + 1, none⟩ = some (.int .i64 c.2.1) ∧ w.cell? ⟨b, off + k * 5 + 2, none⟩ = some (.int .i64 c.2.2.1) ∧ w.cell? ⟨b, off + k * 5 + 3, none⟩ = some (.int .i64 c.2.2.2.1) ∧ w.cell? ⟨b, off + k * 5 + 4, none⟩ = some (.int .i64 c.2.2.2.2)) :
    ∀ (j : Nat) (u : Value), (vals xs)[j]? = some u → w.cell? ((⟨b, off, none⟩ : Addr).add j) = some u := by
  intro j u hj
  have hv := vals_at xs (j / 5)
  have hadd : (⟨b, off, none⟩ : Addr).add j = ⟨b, off + j, none⟩ := by
    unfold Addr.add; split
    · rename_i h0; subst h0; rfl
    · rfl
  rw [hadd]
  rcases (show j % 5 = 0 ∨ j % 5 = 1 ∨ j % 5 = 2 ∨ j % 5 = 3 ∨ j % 5 = 4 by omega) with h0 | h0 | h0 | h0 | h0
  · have e : j / 5 * 5 = j := by omega
    rw [e] at hv
    rw [hv.1] at hj
    obtain ⟨c, hc, rfl⟩ := Option.map_eq_some_iff.1 hj
    have := (h _ c hc).1
    rwa [show off + j / 5 * 5 = off + j by omega] at this
  · have e : j / 5 * 5 + 1 = j := by omega
    rw [e] at hv
    rw [hv.2.1] at hj
    obtain ⟨c, hc, rfl⟩ := Option.map_eq_some_iff.1 hj
    have := (h _ c hc).2.1
    rwa [show off + j / 5 * 5 + 1 = off + j by omega] at this
  · have e : j / 5 * 5 + 2 = j := by omega
    rw [e] at hv
    rw [hv.2.2.1] at hj
    obtain ⟨c, hc, rfl⟩ := Option.map_eq_some_iff.1 hj
    have := (h _ c hc).2.2.1
    rwa [show off + j / 5 * 5 + 2 = off + j by omega] at this
  · have e : j / 5 * 5 + 3 = j := by omega
    rw [e] at hv
    rw [hv.2.2.2.1] at hj
    obtain ⟨c, hc, rfl⟩ := Option.map_eq_some_iff.1 hj
    have := (h _ c hc).2.2.2.1
    rwa [show off + j / 5 * 5 + 3 = off + j by omega] at this
  · have e : j / 5 * 5 + 4 = j := by omega
    rw [e] at hv
    rw [hv.2.2.2.2] at hj
    obtain ⟨c, hc, rfl⟩ := Option.map_eq_some_iff.1 hj
    have := (h _ c hc).2.2.2.2
    rwa [show off + j / 5 * 5 + 4 = off + j by omega] at this
theorem vals_one (xs : List El) : ∀ u ∈ vals xs, u.oneCell' = true := by
  intro u hu
  unfold vals at hu
  obtain ⟨c, _, hc⟩ := List.mem_flatMap.1 hu
  simp at hc
  rcases hc with rfl | rfl | rfl | rfl | rfl <;> rfl
theorem ownsRow_made (w : World) (base : Nat) (t : TypeId) (hb : base ≤ w.heap.size) : (w.alloc (.cells #[] t)).ownsRow base t 5 (.slice (some ⟨w.heap.size, 0, none⟩) 0 0) 0 [] :=
  ⟨rfl, .inr ⟨w.heap.size, 0, #[], rfl, hb, heap_alloc_new w _, Nat.le_refl _, by simp [maxLen], rfl, rfl⟩⟩
theorem copy_run (w : World) (A : Option Addr) (n c : Nat) (xs : List El) (hx : Els w A xs) (hn : xs.length = n) (hnb : n ≤ 1099511627776) :
    ∃ A' c' w1, (Builtin.append_ #[24, 24] 24 #[.slice (some ⟨w.heap.size, 0, none⟩) 0 0, .slice A n c]).run Try.prog (w.alloc (.cells #[] 56)) = .ok (.slice A' n (n + c')) w1 ∧ OwnE w1 w.heap.size A' xs ∧ Below w.heap.size w w1 := by
  obtain ⟨i0, hi, hz0, hz1, hz2⟩ := info_parts el_info
  have hown := ownsRow_made w w.heap.size 56 (Nat.le_refl _)
  rcases A with _ | ad
  · have hxs : xs = [] := by
      rcases hx with h | ⟨b, off, h, _⟩
      · exact h
      · cases h
    subst hxs
    simp at hn
    subst hn
    refine ⟨some ⟨w.heap.size, 0, none⟩, 0, w.alloc (.cells #[] 56), ?_, .inl rfl, (Below.refl _ _).alloc (Nat.le_refl _) _⟩
    simp [Builtin.append_, run_underlying Try.underlying24, sizeOf, typeInfo, hi, Builtin.lenOf, Builtin.firstCells, storeCells]
  · have hcells : ∀ j u, (vals xs)[j]? = some u → (w.alloc (.cells #[] 56)).cell? (ad.add j) = some u := by
      rcases hx with rfl | ⟨b, off, h, hc⟩
      · intro j u hj; simp [vals] at hj
      · injection h with h
        subst h
        intro j u hj
        exact cell_alloc_ (els_flat hc j u hj)
    obtain ⟨v', w', hrun, h2, h3, h4, h5⟩ := run_append_own_at (P := Try.prog) (w.alloc (.cells #[] 56)) w.heap.size 24 24 56 i0 (ev (false, 0, 0, 0, 0)) 5 40 Try.underlying24 hi hz0 hz1 hz2 rfl (by decide) _ 0 [] hown ad n c (vals xs) (by rw [vals_len, hn]) hcells (vals_one xs) (by unfold maxLen; omega) (by omega) (by simp)
    obtain ⟨hlen, hr⟩ := h2
    have hw : Below w.heap.size w w' := ((Below.refl _ _).alloc (Nat.le_refl _) _).grown h3 (by simp) (fun g hg => by simp [Value.ownBlock] at hg; omega)
    simp only [Nat.zero_add, List.nil_append] at hlen hr
    rcases hr with ⟨rfl, h0⟩ | ⟨g, cap, cur, rfl, hB, hh, hx1, hx2, hx3, hx4⟩
    · rw [h0] at hrun hn
      obtain rfl : xs = [] := List.eq_nil_of_length_eq_zero hn
      exact ⟨none, 0, w', by rw [h0]; exact hrun, .inl rfl, hw⟩
    · obtain ⟨d, rfl⟩ : ∃ d, cap = n + d := ⟨cap - n, by omega⟩
      refine ⟨some ⟨g, 0, none⟩, d, w', hrun, OwnE.of_row (n := n) (c := n + d) ⟨?_, .inr ⟨g, n + d, cur, rfl, hB, hh, hx1, hx2, hx3, ?_⟩⟩, hw⟩
      · simpa using hlen
      · simpa using hx4
theorem wpList_append_eq {P : Program} {w : World} {ops : Array Oper} {rest : List Oper} {o : Oper} {a : Act} {Q : Exit → Act → World → Prop} (hgd : o.guard = none) (s x : Operand) (t : TypeId)
    (ho : o.op = .call { callee := .builtin .append, args := #[s, x], argTypes := #[t, t] }) (v x' v' : Value) (w' : World) (hs : a.eval s = v) (hx : a.eval x = x')
    (hrun : (Builtin.append_ #[t, t] o.type #[v, x']).run P w = .ok v' w') (h : wpList P ops Q rest (a.put o.dst v') w') : wpList P ops Q (o :: rest) a w :=
  wpList_plain hgd fun K hK => by
    unfold Oper.wp execOp
    simp only [ho, resolve, invoke, builtin, Sem.run_bind, Sem.run_pure, Result.andThen_ok, List.map_toArray, List.map_cons, List.map_nil, hs, hx, hrun]
    exact hK _ _ h


end Go.Proofs.Ytdgkfpcecppfdaa
