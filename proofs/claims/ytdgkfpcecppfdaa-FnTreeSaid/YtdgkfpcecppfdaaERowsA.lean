/- Slices of structs (Res) in memory, and the laws' own functions on them (copy, compare, mark, look). -/
import Derived.Test.YtdgkfpcecppfdaaRegion
import Derived.Test.YtdgkfpcecppfdaaAmt
import Derived.Deep.QuietTactic
import Derived.BigQuiet
import Derived.Deep.OwnRows
import Derived.Deep.Draws
import Derived.Deep.RegionHeld3
import Derived.Maps.AppendAt
import Derived.OwnWalk
namespace Go.Proofs.Ytdgkfpcecppfdaa
set_option linter.unusedSimpArgs false
set_option linter.unusedVariables false
open Go.RowKit
attribute [local go_sem ↓] Go.wp_at_zero Go.wp_at_succ

abbrev El := Bool × Int × Int × Int × Int
abbrev ev (c : El) : Value := .agg #[.bool c.1, .int .i64 c.2.1, .int .i64 c.2.2.1, .int .i64 c.2.2.2.1, .int .i64 c.2.2.2.2]
def vals (xs : List El) : List Value := xs.flatMap fun c => [.bool c.1, .int .i64 c.2.1, .int .i64 c.2.2.1, .int .i64 c.2.2.2.1, .int .i64 c.2.2.2.2]
theorem vals_len : ∀ xs : List El, (vals xs).length = xs.length * 5
  | [] => rfl
  | c :: xs => by
    have := vals_len xs
    simp only [vals, List.flatMap_cons, List.length_append, List.length_cons, List.length_nil] at this ⊢
    omega
theorem vals_at : ∀ (xs : List El) (k : Nat), (vals xs)[k * 5]? = xs[k]?.map (fun c => (.bool c.1 : Value)) ∧ (vals xs)[k * 5 + 1]? = xs[k]?.map (fun c => (.int .i64 c.2.1 : Value)) ∧ (vals xs)[k * 5 + 2]? = xs[k]?.map (fun c => (.int .i64 c.2.2.1 : Value)) ∧ (vals xs)[k * 5 + 3]? = xs[k]?.map (fun c => (.int .i64 c.2.2.2.1 : Value)) ∧ (vals xs)[k * 5 + 4]? = xs[k]?.map (fun c => (.int .i64 c.2.2.2.2 : Value))
  | [], k => by simp [vals]
  | c :: xs, 0 => by simp [vals]
  | c :: xs, k + 1 => by
    have := vals_at xs k
    rw [show (k + 1) * 5 = k * 5 + 1 + 1 + 1 + 1 + 1 by omega]
    simpa [vals] using this
theorem vals_set : ∀ (xs : List El) (k : Nat) (c : El), ((((((vals xs).set (k * 5) (.bool c.1)).set (k * 5 + 1) (.int .i64 c.2.1)).set (k * 5 + 2) (.int .i64 c.2.2.1)).set (k * 5 + 3) (.int .i64 c.2.2.2.1)).set (k * 5 + 4) (.int .i64 c.2.2.2.2)) = vals (xs.set k c)
  | [], k, c => by simp [vals]
  | x :: xs, 0, c => by simp [vals]
  | x :: xs, k + 1, c => by
    have := vals_set xs k c
    rw [show (k + 1) * 5 = k * 5 + 1 + 1 + 1 + 1 + 1 by omega]
    simpa [vals] using this
/-- the slice at A holds the elements xs -/
def Els (w : World) (A : Option Addr) (xs : List El) : Prop :=
  xs = [] ∨ ∃ b off, A = some ⟨b, off, none⟩ ∧ ∀ k c, xs[k]? = some c → w.cell? ⟨b, off + k * 5, none⟩ = some (.bool c.1) ∧ w.cell? ⟨b, off + k * 5 + 1, none⟩ = some (.int .i64 c.2.1) ∧ w.cell? ⟨b, off + k * 5 + 2, none⟩ = some (.int .i64 c.2.2.1) ∧ w.cell? ⟨b, off + k * 5 + 3, none⟩ = some (.int .i64 c.2.2.2.1) ∧ w.cell? ⟨b, off + k * 5 + 4, none⟩ = some (.int .i64 c.2.2.2.2)
theorem Els.at_ {w : World} {A : Option Addr} {xs : List El} (h : Els w A xs) {k : Nat} {c : El} (hk : xs[k]? = some c) :
    ∃ b off, A = some ⟨b, off, none⟩ ∧ b < w.heap.size ∧ w.cell? ⟨b, off + k * 5, none⟩ = some (.bool c.1) ∧ w.cell? ⟨b, off + k * 5 + 1, none⟩ = some (.int .i64 c.2.1) ∧ w.cell? ⟨b, off + k * 5 + 2, none⟩ = some (.int .i64 c.2.2.1) ∧ w.cell? ⟨b, off + k * 5 + 3, none⟩ = some (.int .i64 c.2.2.2.1) ∧ w.cell? ⟨b, off + k * 5 + 4, none⟩ = some (.int .i64 c.2.2.2.2) := by
  rcases h with rfl | ⟨b, off, rfl, hc⟩
  · simp at hk
  · have h1 := hc k c hk
    exact ⟨b, off, rfl, lt_of_cell h1.1, h1⟩
theorem Els.keep {w w' : World} {A : Option Addr} {xs : List El} (h : Els w A xs) (hk : ∀ p v, w.cell? p = some v → w'.cell? p = some v) : Els w' A xs := by
  rcases h with rfl | ⟨b, off, rfl, hc⟩
  · exact .inl rfl
  · exact .inr ⟨b, off, rfl, fun k z hz => by have := hc k z hz; exact ⟨hk _ _ this.1, hk _ _ this.2.1, hk _ _ this.2.2.1, hk _ _ this.2.2.2.1, hk _ _ this.2.2.2.2⟩⟩
theorem Els.below {w w' : World} {A : Option Addr} {xs : List El} (h : Els w A xs) (hb : Below w.heap.size w w') : Els w' A xs :=
  h.keep fun _ _ hc => Below.keeps hb hc
theorem Els.alloc {w : World} {A : Option Addr} {xs : List El} (h : Els w A xs) (o : Obj) : Els (w.alloc o) A xs :=
  h.keep fun _ _ hc => cell_alloc_ hc
/-- block g holds just the elements xs -/
def EBlk (w : World) (g : Nat) (xs : List El) : Prop := w.heap[g]? = some (.cells (vals xs).toArray 56 (0, 0))
theorem EBlk.at_ {w : World} {g : Nat} {xs : List El} (h : EBlk w g xs) {k : Nat} {c : El} (hk : xs[k]? = some c) : w.cell? ⟨g, k * 5, none⟩ = some (.bool c.1) ∧ w.cell? ⟨g, k * 5 + 1, none⟩ = some (.int .i64 c.2.1) ∧ w.cell? ⟨g, k * 5 + 2, none⟩ = some (.int .i64 c.2.2.1) ∧ w.cell? ⟨g, k * 5 + 3, none⟩ = some (.int .i64 c.2.2.2.1) ∧ w.cell? ⟨g, k * 5 + 4, none⟩ = some (.int .i64 c.2.2.2.2) := by
  have h1 := vals_at xs k
  rw [hk] at h1
  refine ⟨?_, ?_, ?_, ?_, ?_⟩
  · rw [(blkcell h).1]; simpa using h1.1
  · rw [(blkcell h).1]; simpa using h1.2.1
  · rw [(blkcell h).1]; simpa using h1.2.2.1
  · rw [(blkcell h).1]; simpa using h1.2.2.2.1
  · rw [(blkcell h).1]; simpa using h1.2.2.2.2
theorem EBlk.els {w : World} {g : Nat} {xs : List El} (h : EBlk w g xs) : Els w (some ⟨g, 0, none⟩) xs :=
  .inr ⟨g, 0, rfl, fun k c hc => by simpa using h.at_ hc⟩
theorem EBlk.lt {w : World} {g : Nat} {xs : List El} (h : EBlk w g xs) : g < w.heap.size := lt_of_blk h
theorem EBlk.set_ {w : World} {g : Nat} {xs : List El} (h : EBlk w g xs) (k : Nat) (c : El) : EBlk (((((w.setCell ⟨g, k * 5, none⟩ (.bool c.1)).setCell ⟨g, k * 5 + 1, none⟩ (.int .i64 c.2.1)).setCell ⟨g, k * 5 + 2, none⟩ (.int .i64 c.2.2.1)).setCell ⟨g, k * 5 + 3, none⟩ (.int .i64 c.2.2.2.1)).setCell ⟨g, k * 5 + 4, none⟩ (.int .i64 c.2.2.2.2)) g (xs.set k c) := by
  have h1 := blk_set (i := k * 5 + 4) (blk_set (i := k * 5 + 3) (blk_set (i := k * 5 + 2) (blk_set (i := k * 5 + 1) (blk_set (i := k * 5) h (.bool c.1)) (.int .i64 c.2.1)) (.int .i64 c.2.2.1)) (.int .i64 c.2.2.2.1)) (.int .i64 c.2.2.2.2)
  unfold EBlk
  rw [h1, ← vals_set]
  simp

theorem below_drewN {B : Nat} {a w : World} (h : Below B a w) (n : Nat) : Below B a (w.drewN n) := ⟨h.os, h.tape, h.output, h.size, h.block⟩
set_option maxHeartbeats 1600000 in
theorem eqEl_any (x y : El) (w : World) :
    Calls Try.prog 46 #[ev x, ev y] w fun e w' => e = .returned (.bool (decide (x = y))) ∧ Below w.heap.size w w' := by
  obtain ⟨l, q, p, r, c⟩ := x
  obtain ⟨l', q', p', r', c'⟩ := y
  by_cases h0 : l = l'
  · subst h0
    by_cases h1 : q = q'
    · subst h1
      have hd := Lib.hid (show decide ((l, q, p, r, c) = (l, q, p', r', c')) = (p == p' && r == r' && c == c') by
        rw [Bool.eq_iff_iff]; simp [and_assoc])
      cases hq : (p == p' && r == r' && c == c')
      all_goals
        cases l
        all_goals
          go_enter Try.func46, Try.ntmps46
          go_wp2_with fail
          refine (eqAmt_any _ _ _ _ _ _ _).mono ?_
          rintro e w2 ⟨rfl, hb⟩
          rw [hq]
          have hB : Below w.heap.size w w2 := Below.trans (by (repeat (first | exact Below.refl _ _ | assumption | refine Below.drew ?_ | refine Below.alloc ?_ ?_ _ | refine Below.setCell ?_ ?_ _)) <;> ((try simp) <;> omega)) (hb.mono (by (try simp) <;> omega))
          have hd2 := Lib.hid (hd.out.trans hq)
          clear hb hq
          go_wp2
          go_ret
          exact ⟨by rw [hd2.out]; rfl, hB⟩
    · have h5 : (q != q') = true := by simpa using h1
      have hd := Lib.hid (show decide ((l, q, p, r, c) = (l, q', p', r', c')) = false by simp [h1])
      clear h1
      cases l
      all_goals
        go_enter Try.func46, Try.ntmps46
        go_wp2
        go_ret
        exact ⟨by rw [hd.out]; rfl, (by (repeat (first | exact Below.refl _ _ | assumption | refine Below.drew ?_ | refine Below.alloc ?_ ?_ _ | refine Below.setCell ?_ ?_ _)) <;> ((try simp) <;> omega))⟩
  · have h5 : (l != l') = true := by simpa using h0
    have hd := Lib.hid (show decide ((l, q, p, r, c) = (l', q', p', r', c')) = false by simp [h0])
    clear h0
    cases l <;> cases l' <;> first | (exfalso; revert h5; decide) | skip
    all_goals
      clear h5
      go_enter Try.func46, Try.ntmps46
      go_wp2
      go_ret
      exact ⟨by rw [hd.out]; rfl, (by (repeat (first | exact Below.refl _ _ | assumption | refine Below.drew ?_ | refine Below.alloc ?_ ?_ _ | refine Below.setCell ?_ ?_ _)) <;> ((try simp) <;> omega))⟩
theorem below_set {B : Nat} {a w : World} (h : Below B a w) {b o : Nat} (hp : B ≤ b) (u : Value) : Below B a (w.setCell ⟨b, o, none⟩ u) := h.setCell hp u
set_option maxHeartbeats 800000 in
theorem toEl_any (x : El) (w : World) :
    Calls Try.prog 49 #[ev x] w fun e w' => e = .returned (ev x) ∧ Below w.heap.size w w' := by
  obtain ⟨l, q, p, r, c⟩ := x
  go_enter Try.func49, Try.ntmps49
  go_wp2_with fail
  refine (toAmt_any _ _ _ _).mono ?_
  rintro e w2 ⟨rfl, hb⟩
  have hs := hb.size
  have hB : Below w.heap.size w w2 := Below.trans (by (repeat (first | exact Below.refl _ _ | assumption | refine Below.drew ?_ | refine Below.alloc ?_ ?_ _ | refine Below.setCell ?_ ?_ _)) <;> ((try simp) <;> omega)) (hb.mono (by (try simp) <;> omega))
  have hh1 := keepblk hb (blk_alloc (heap_alloc_new (w.alloc _) _))
  have hh2 := keepblk hb (heap_alloc_new ((w.alloc _).alloc _) _)
  simp only [World.size_alloc, Nat.add_assoc, Nat.reduceAdd] at hh1 hh2 hs
  obtain ⟨k1, f1⟩ := blkcell hh1
  obtain ⟨k2, f2⟩ := blkcell hh2
  have hz1 : w.heap.size + 1 < w2.heap.size := by omega
  have hz2 : w.heap.size + 2 < w2.heap.size := by omega
  clear hb hh1 hh2
  go_wp2
  refine bodyPost_ret (v := ev (l, q, p, r, c)) (by simp [results, Try.results49, go_sem, *]) rfl ⟨rfl, ?_⟩
  iterate 8 (refine below_set ?_ (by omega) _)
  exact hB

end Go.Proofs.Ytdgkfpcecppfdaa
