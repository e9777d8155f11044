/- Slices of integers in memory, and the laws' own functions on them (copy, compare, mark, look). -/
import Derived.Test.YtkcchceoljlnaaaDoorBase
import Derived.Deep.QuietTactic
import Derived.BigQuiet
import Derived.Deep.OwnRows
import Derived.Deep.Draws
namespace Go.Proofs.YtkcchceoljlnaaaDoor
set_option linter.unusedSimpArgs false
set_option linter.unusedVariables false
open Go.RowKit

/-- the slice at A holds the integers xs -/
def Ints (w : World) (A : Option Addr) (xs : List Int) : Prop :=
  xs = [] ∨ ∃ b off, A = some ⟨b, off, none⟩ ∧ ∀ k z, xs[k]? = some z → w.cell? ⟨b, off + k, none⟩ = some (.int .i64 z)
theorem Ints.at_ {w : World} {A : Option Addr} {xs : List Int} (h : Ints w A xs) {k : Nat} (hk : k < xs.length) :
    ∃ b off, A = some ⟨b, off, none⟩ ∧ b < w.heap.size ∧ w.cell? ⟨b, off + k, none⟩ = some (.int .i64 xs[k]) := by
  rcases h with rfl | ⟨b, off, rfl, hc⟩
  · simp at hk
  · have h1 := hc k xs[k] (List.getElem?_eq_getElem hk)
    exact ⟨b, off, rfl, lt_of_cell h1, h1⟩
theorem Ints.keep {w w' : World} {A : Option Addr} {xs : List Int} (h : Ints w A xs) (hk : ∀ p v, w.cell? p = some v → w'.cell? p = some v) : Ints w' A xs := by
  rcases h with rfl | ⟨b, off, rfl, hc⟩
  · exact .inl rfl
  · exact .inr ⟨b, off, rfl, fun k z hz => hk _ _ (hc k z hz)⟩
theorem Ints.below {w w' : World} {A : Option Addr} {xs : List Int} (h : Ints w A xs) (hb : Below w.heap.size w w') : Ints w' A xs :=
  h.keep fun _ _ hc => Below.keeps hb hc
theorem below_drewN {B : Nat} {a w : World} (h : Below B a w) (n : Nat) : Below B a (w.drewN n) := ⟨h.os, h.tape, h.output, h.size, h.block⟩
def eqB (xs ys : List Int) : Bool := decide (xs = ys)

set_option maxHeartbeats 1600000 in
theorem eqIntS_any (A B : Option Addr) (n m c d : Nat) (xs ys : List Int) (w : World) (hx : Ints w A xs) (hy : Ints w B ys) (hn : xs.length = n) (hm : ys.length = m) (hnb : n ≤ 1099511627776) (hmb : m ≤ 1099511627776) :
    Calls Tryd.prog 26 #[.slice A n c, .slice B m d] w fun e w' => e = .returned (.bool (eqB xs ys)) ∧ Below w.heap.size w w' := by
  by_cases hnm : n = m
  · subst hnm
    have HX := Lib.hid hx; have HY := Lib.hid hy; have HN := Lib.hid hn; have HM := Lib.hid hm
    clear hx hy hn hm
    go_enter Tryd.func26, Tryd.ntmps26
    go_wp2
    go_loopw [5] (fun i wr => ∃ k : Nat, k ≤ n ∧ i = .int .i64 k ∧ Hid (xs.take k = ys.take k) ∧ Below w.heap.size w wr) (fun i _ => n - (intOf i).toNat)
    case atStart => exact ⟨0, Nat.zero_le _, rfl, rfl, Below.refl _ _⟩
    case round =>
      obtain ⟨k, hk, rfl, hpre, hB⟩ := hrel
      by_cases hlt : k < n
      · obtain ⟨b, off, rfl, hb, hcx⟩ := (Ints.at_ (HX.out) (k := k) (by have := HN.out; omega))
        obtain ⟨b', off', rfl, hb', hcy⟩ := (Ints.at_ (HY.out) (k := k) (by have := HM.out; omega))
        have hcx := (hB.cell (p := ⟨b, off + k, none⟩) hb).trans hcx
        have hcy := (hB.cell (p := ⟨b', off' + k, none⟩) hb').trans hcy
        have ex := Lib.hid (List.getElem?_eq_getElem (l := xs) (i := k) (by have := HN.out; omega))
        have ey := Lib.hid (List.getElem?_eq_getElem (l := ys) (i := k) (by have := HM.out; omega))
        generalize xs[k]'(by have := HN.out; omega) = x at *
        generalize ys[k]'(by have := HM.out; omega) = y at *
        have hlt2 : (k : Int) < (n : Int) := by omega
        by_cases hxy : x = y
        · subst hxy
          have hs := Lib.hid (show xs.take (k + 1) = ys.take (k + 1) by
            rw [List.take_add_one, List.take_add_one, ex.out, ey.out, hpre.out])
          go_wp2_with fail
          go_quiet (fail)
          go_wp2
          exact ⟨⟨k + 1, by omega, by go_num, hs, below_drewN hB _⟩, by simp [intOf]; omega⟩
        · have h1 : (x != y) = true := by simpa using hxy
          go_wp2_with fail
          go_quiet (fail)
          go_wp2
          go_ret
          exact ⟨by rw [show eqB xs ys = false from by simp only [eqB, decide_eq_false_iff_not]; intro e; subst e; have h1 := ex.out; rw [ey.out] at h1; exact hxy (Option.some.inj h1).symm]; rfl, below_drewN hB _⟩
      · obtain rfl : k = n := by omega
        go_wp2
        go_ret
        exact ⟨by rw [show eqB xs ys = true from by have := hpre.out; rw [List.take_of_length_le (by have := HN.out; omega), List.take_of_length_le (by have := HM.out; omega)] at this; simp [eqB, this]]; rfl, hB⟩
  · have h1 : ((n : Int) != (m : Int)) = true := by simp; omega
    have HN := Lib.hid hn; have HM := Lib.hid hm
    clear hx hy hn hm
    go_enter Tryd.func26, Tryd.ntmps26
    go_wp2
    go_ret
    exact ⟨by rw [show eqB xs ys = false from by simp [eqB]; intro h; have := HN.out; have := HM.out; subst h; omega]; rfl, Below.refl _ _⟩

/-- the cells of a slice of integers -/
def cellsOf (xs : List Int) : Array Value := (xs.map (Value.int .i64)).toArray
theorem cellsOf_get (xs : List Int) (k : Nat) : (cellsOf xs)[k]? = (xs[k]?).map (Value.int .i64) := by simp [cellsOf]
theorem cellsOf_size (xs : List Int) : (cellsOf xs).size = xs.length := by simp [cellsOf]
/-- block g holds just the integers xs -/
def IBlk (w : World) (g : Nat) (xs : List Int) : Prop := w.heap[g]? = some (.cells (cellsOf xs) 3 (0, 0))
theorem IBlk.ints {w : World} {g : Nat} {xs : List Int} (h : IBlk w g xs) : Ints w (some ⟨g, 0, none⟩) xs :=
  .inr ⟨g, 0, rfl, fun k z hz => by rw [(blkcell h).1, cellsOf_get]; simp [hz]⟩
theorem IBlk.lt {w : World} {g : Nat} {xs : List Int} (h : IBlk w g xs) : g < w.heap.size :=
  Nat.lt_of_not_le fun hn => by unfold IBlk at h; rw [Array.getElem?_eq_none hn] at h; cases h
theorem IBlk.below {w w' : World} {g : Nat} {xs : List Int} (h : IBlk w g xs) (hb : Below w.heap.size w w') : IBlk w' g xs := keepblk hb h

theorem int_info : (Tryd.prog.info? 3).map (fun i => (i.zero, i.size, i.bytes)) = some (some (.int .i64 0), 1, 8) := by kernel_rfl
/-- after k rounds: the first k are copied, the others nought -/
def part (xs : List Int) (n k : Nat) : Array Value := cellsOf (xs.take k ++ List.replicate (n - k) 0)
theorem part_0 (xs : List Int) (n : Nat) : madeCells #[Value.int .i64 0] n = part xs n 0 := by
  apply Array.ext_getElem?
  intro i
  simp [part, cellsOf, madeCells, Nat.mod_one, List.getElem?_replicate, Array.getElem?_range]
  split <;> simp_all
theorem part_n (xs : List Int) {n : Nat} (h : xs.length = n) : part xs n n = cellsOf xs := by
  simp [part, List.take_of_length_le (Nat.le_of_eq h)]
theorem part_size (xs : List Int) {n k : Nat} (h : xs.length = n) (hk : k ≤ n) : (part xs n k).size = n := by
  simp [part, cellsOf]; omega
theorem part_set (xs : List Int) {n k : Nat} {x : Int} (h : xs.length = n) (hk : k < n) (hx : xs[k]? = some x) : (part xs n k).setIfInBounds k (.int .i64 x) = part xs n (k + 1) := by
  apply Array.ext_getElem?
  intro i
  have hkl : k < xs.length := by omega
  rw [Array.getElem?_setIfInBounds]
  simp only [part, cellsOf_get, cellsOf_size, List.length_append, List.length_take, List.length_replicate]
  by_cases hi : k = i
  · subst hi
    rw [if_pos rfl, if_pos (by omega), List.take_add_one, hx]
    rw [List.getElem?_append_left (by simp; omega), List.getElem?_append_right (by simp; omega)]
    simp [Nat.min_eq_left (Nat.le_of_lt hkl)]
  · rw [if_neg hi]
    by_cases hlt : i < k
    · rw [List.getElem?_append_left (by simp; omega), List.getElem?_append_left (by simp; omega), List.getElem?_take_of_lt hlt, List.getElem?_take_of_lt (by omega)]
    · rw [List.getElem?_append_right (by simp; omega), List.getElem?_append_right (by simp; omega)]
      simp only [List.length_take, List.getElem?_replicate]
      by_cases hin : i < n
      · rw [if_pos (by omega), if_pos (by omega)]
      · rw [if_neg (by omega), if_neg (by omega)]

theorem part_get {xs : List Int} {n k : Nat} (h : xs.length = n) (hk : k < n) : (part xs n k)[k]? = some (.int .i64 0) := by
  rw [part, cellsOf_get, List.getElem?_append_right (by simp; omega)]
  simp [List.getElem?_replicate]; omega
set_option maxHeartbeats 1600000 in
theorem toIntS_any (A : Option Addr) (n c : Nat) (xs : List Int) (w : World) (hx : Ints w A xs) (hn : xs.length = n) (hnb : n ≤ 1099511627776) :
    Calls Tryd.prog 23 #[.slice A n c] w fun e w' => e = .returned (.slice (some ⟨w.heap.size, 0, none⟩) n n) ∧ Below w.heap.size w w' ∧ IBlk w' w.heap.size xs := by
  have HX := Lib.hid hx; have HN := Lib.hid hn
  clear hx hn
  have hmk := run_make_row' (P := Tryd.prog) 22 3 (.int .i64 0) 8 Tryd.underlying22 int_info rfl .i64 .i64 n (by omega) (by omega)
  go_enter Tryd.func23, Tryd.ntmps23
  go_wp2
  rw [part_0 xs n]
  go_loopw [4] (fun i wr => ∃ k : Nat, k ≤ n ∧ i = .int .i64 k ∧ wr = w.alloc (.cells (part xs n k) 3)) (fun i _ => n - (intOf i).toNat)
  case atStart => exact ⟨0, Nat.zero_le _, rfl, rfl⟩
  case round =>
    obtain ⟨k, hk, rfl, rfl⟩ := hrel
    by_cases hlt : k < n
    · obtain ⟨b, off, rfl, hb, hcx⟩ := (Ints.at_ (HX.out) (k := k) (by have := HN.out; omega))
      have ex := Lib.hid (List.getElem?_eq_getElem (l := xs) (i := k) (by have := HN.out; omega))
      generalize xs[k]'(by have := HN.out; omega) = x at *
      have hget : (part xs n k)[k]? = some (.int .i64 0) := part_get HN.out hlt
      have hcx2 : (w.alloc (.cells (part xs n k) 3)).cell? ⟨b, off + k, none⟩ = some (.int .i64 x) := cell_alloc_ hcx
      have hset := Lib.hid (part_set xs HN.out hlt ex.out)
      go_wp2
      exact ⟨⟨k + 1, by omega, by go_num, by rw [hset.out]⟩, by simp [intOf]; omega⟩
    · obtain rfl : k = n := by omega
      have hp := Lib.hid (part_n xs HN.out)
      go_wp2
      go_ret
      exact ⟨rfl, (Below.refl _ _).alloc (Nat.le_refl _) _, by rw [hp.out]; exact heap_alloc_new w _⟩

/-- the slice at A, from block B on, holds the cells cs in a block of its own -/
def Own (w : World) (B : Nat) (t : TypeId) (A : Option Addr) (cs : List Value) : Prop :=
  cs = [] ∨ ∃ (g : Nat) (full : Array Value), A = some ⟨g, 0, none⟩ ∧ B ≤ g ∧ w.heap[g]? = some (.cells full t (0, 0)) ∧ ∀ (k : Nat) (v : Value), cs[k]? = some v → full[k]? = some v
theorem Own.set_ {w : World} {B g : Nat} {t : TypeId} {full : Array Value} {cs cs' : List Value} {j : Nat} {v : Value} (hB : B ≤ g) (hh : w.heap[g]? = some (.cells full t (0, 0))) (hc : ∀ (k : Nat) (u : Value), cs[k]? = some u → full[k]? = some u)
    (hj : (cs[j]?).isSome) (hs : ∀ (k : Nat) (u : Value), cs'[k]? = some u → (k = j ∧ u = v) ∨ (k ≠ j ∧ cs[k]? = some u)) :
    (w.setCell ⟨g, j, none⟩ v).heap[g]? = some (.cells (full.setIfInBounds j v) t (0, 0)) ∧ ∀ (k : Nat) (u : Value), cs'[k]? = some u → (full.setIfInBounds j v)[k]? = some u := by
  obtain ⟨u0, hu0⟩ := Option.isSome_iff_exists.1 hj
  have hjl : j < full.size := (Array.getElem?_eq_some_iff.1 (hc j u0 hu0)).1
  constructor
  · simp [World.setCell, Array.getElem?_modify, hh]
  · intro k u hk
    rw [Array.getElem?_setIfInBounds]
    rcases hs k u hk with ⟨rfl, rfl⟩ | ⟨hne, hk'⟩
    · rw [if_pos rfl, if_pos hjl]
    · rw [if_neg (Ne.symm hne)]; exact hc k u hk'
theorem only_setCell {a w : World} {g : Nat} (h : a.grownBy w (some g)) {p : Addr} (hp : p.block = g) (u : Value) : a.grownBy (w.setCell p u) (some g) :=
  ⟨h.os, h.tape, h.output, by simpa [World.setCell] using h.size, fun i hi hne => (Below.heap_setCell w p u i (by rintro rfl; exact hne (by rw [hp]))).trans (h.block i hi hne)⟩
theorem only_refl (w : World) (r : Option Nat) : w.grownBy w r := ⟨rfl, rfl, rfl, Nat.le_refl _, fun _ _ _ => rfl⟩

def markL (k : Int) (n : Nat) : List Int := (List.range n).map (fun (j : Nat) => k + (j : Int))
theorem markL_len (k : Int) (n : Nat) : (markL k n).length = n := by simp [markL]
theorem markL_get {k : Int} {n j : Nat} (h : j < n) : (markL k n)[j]? = some (k + (j : Int)) := by simp [markL, h]
/-- the first j are marked -/
def marked (k : Int) (xs : List Int) (j : Nat) : List Value := (markL k j).map (Value.int .i64) ++ (xs.drop j).map (Value.int .i64)
theorem marked_step {k : Int} {xs : List Int} {j : Nat} (hj : j < xs.length) : ∀ i u, (marked k xs (j + 1))[i]? = some u → (i = j ∧ u = .int .i64 (k + (j : Int))) ∨ (i ≠ j ∧ (marked k xs j)[i]? = some u) := by
  intro i u h
  unfold marked at h ⊢
  by_cases hi : i < j
  · right
    refine ⟨by omega, ?_⟩
    rw [List.getElem?_append_left (by simp [markL]; omega)] at h ⊢
    rw [List.getElem?_map, markL_get (by omega)] at h ⊢; exact h
  · by_cases he : i = j
    · left
      rw [List.getElem?_append_left (by simp [markL]; omega), List.getElem?_map, markL_get (by omega)] at h
      subst he
      exact ⟨rfl, by simpa using h.symm⟩
    · right
      refine ⟨he, ?_⟩
      rw [List.getElem?_append_right (by simp [markL]; omega)] at h ⊢
      simp only [List.length_map, markL_len, List.getElem?_map, List.getElem?_drop] at h ⊢
      rw [show j + (i - j) = j + 1 + (i - (j + 1)) by omega]; exact h
theorem marked_at {k : Int} {xs : List Int} {j : Nat} (hj : j < xs.length) : (marked k xs j)[j]? = some (.int .i64 xs[j]) := by
  unfold marked
  rw [List.getElem?_append_right (by simp [markL])]
  simp [markL_len]
theorem marked_0 (k : Int) (xs : List Int) : marked k xs 0 = xs.map (Value.int .i64) := by simp [marked, markL]
theorem marked_n (k : Int) (xs : List Int) : marked k xs xs.length = (markL k xs.length).map (Value.int .i64) := by simp [marked]

end Go.Proofs.YtkcchceoljlnaaaDoor
