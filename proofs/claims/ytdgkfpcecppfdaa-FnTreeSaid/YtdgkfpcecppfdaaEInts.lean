/- Slices of integers in memory, and the laws' own functions on them (copy, compare, mark, look). -/
import Derived.Test.YtdgkfpcecppfdaaRegion
import Derived.Deep.QuietTactic
import Derived.BigQuiet
import Derived.Deep.OwnRows
import Derived.Deep.Draws
namespace Go.Proofs.Ytdgkfpcecppfdaa
set_option linter.unusedSimpArgs false
set_option linter.unusedVariables false
namespace II
open Go.RowKit

/-- the slice at A holds the integers xs -/
def Ints (w : World) (A : Option Addr) (xs : List Int) : Prop :=
  xs = [] ∨ ∃ b off, A = some ⟨b, off, none⟩ ∧ ∀ k z, xs[k]? = some z → w.cell? ⟨b, off + k, none⟩ = some (.int .i64 z)
theorem Ints.at_ {w : World} {A : Option Addr} {xs : List Int} (h : Ints w A xs) {k : Nat} (hk : k < xs.length) :
    ∃ b off, A = some ⟨b, off, none⟩ ∧ b < w.heap.size ∧ w.cell? ⟨b, off + k, none⟩ = some (.int .i64 xs[k]) := by
  rcases h with rfl | ⟨b, off, rfl, hc⟩
  · simp at hk
  · have h1 := hc k xs[k] (List.getElem?_eq_getElem hk)
    exact ⟨b, off, rfl, lt_of_cell h1, h1⟩
theorem Ints.keep {w w' : World} {A : Option Addr} {xs : List Int} (h : Ints w A xs) (hk : ∀ p v, w.cell? p = some v → w'.cell? p = some v) : Ints w' A xs := by
  rcases h with rfl | ⟨b, off, rfl, hc⟩
  · exact .inl rfl
  · exact .inr ⟨b, off, rfl, fun k z hz => hk _ _ (hc k z hz)⟩
theorem Ints.below {w w' : World} {A : Option Addr} {xs : List Int} (h : Ints w A xs) (hb : Below w.heap.size w w') : Ints w' A xs :=
  h.keep fun _ _ hc => Below.keeps hb hc
theorem below_drewN {B : Nat} {a w : World} (h : Below B a w) (n : Nat) : Below B a (w.drewN n) := ⟨h.os, h.tape, h.output, h.size, h.block⟩
def eqB (xs ys : List Int) : Bool := decide (xs = ys)

set_option maxHeartbeats 1600000 in
theorem eqIntS_any (A B : Option Addr) (n m c d : Nat) (xs ys : List Int) (w : World) (hx : Ints w A xs) (hy : Ints w B ys) (hn : xs.length = n) (hm : ys.length = m) (hnb : n ≤ 1099511627776) (hmb : m ≤ 1099511627776) :
    Calls Try.prog 28 #[.slice A n c, .slice B m d] w fun e w' => e = .returned (.bool (eqB xs ys)) ∧ Below w.heap.size w w' := by
  by_cases hnm : n = m
  · subst hnm
    have HX := Lib.hid hx; have HY := Lib.hid hy; have HN := Lib.hid hn; have HM := Lib.hid hm
    clear hx hy hn hm
    go_enter Try.func28, Try.ntmps28
    go_wp2
    go_loopw [5] (fun i wr => ∃ k : Nat, k ≤ n ∧ i = .int .i64 k ∧ Hid (xs.take k = ys.take k) ∧ Below w.heap.size w wr) (fun i _ => n - (intOf i).toNat)
    case atStart => exact ⟨0, Nat.zero_le _, rfl, rfl, Below.refl _ _⟩
    case round =>
      obtain ⟨k, hk, rfl, hpre, hB⟩ := hrel
      by_cases hlt : k < n
      · obtain ⟨b, off, rfl, hb, hcx⟩ := (Ints.at_ (HX.out) (k := k) (by have := HN.out; omega))
        obtain ⟨b', off', rfl, hb', hcy⟩ := (Ints.at_ (HY.out) (k := k) (by have := HM.out; omega))
        have hcx := (hB.cell (p := ⟨b, off + k, none⟩) hb).trans hcx
        have hcy := (hB.cell (p := ⟨b', off' + k, none⟩) hb').trans hcy
        have ex := Lib.hid (List.getElem?_eq_getElem (l := xs) (i := k) (by have := HN.out; omega))
        have ey := Lib.hid (List.getElem?_eq_getElem (l := ys) (i := k) (by have := HM.out; omega))
        generalize xs[k]'(by have := HN.out; omega) = x at *
        generalize ys[k]'(by have := HM.out; omega) = y at *
        have hlt2 : (k : Int) < (n : Int) := by omega
        by_cases hxy : x = y
        · subst hxy
          have hs := Lib.hid (show xs.take (k + 1) = ys.take (k + 1) by
            rw [List.take_add_one, List.take_add_one, ex.out, ey.out, hpre.out])
          go_wp2_with fail
          go_quiet (fail)
          go_wp2
          exact ⟨⟨k + 1, by omega, by go_num, hs, below_drewN hB _⟩, by simp [intOf]; omega⟩
        · have h1 : (x != y) = true := by simpa using hxy
          go_wp2_with fail
          go_quiet (fail)
          go_wp2
          go_ret
          exact ⟨by rw [show eqB xs ys = false from by simp only [eqB, decide_eq_false_iff_not]; intro e; subst e; have h1 := ex.out; rw [ey.out] at h1; exact hxy (Option.some.inj h1).symm]; rfl, below_drewN hB _⟩
      · obtain rfl : k = n := by omega
        go_wp2
        go_ret
        exact ⟨by rw [show eqB xs ys = true from by have := hpre.out; rw [List.take_of_length_le (by have := HN.out; omega), List.take_of_length_le (by have := HM.out; omega)] at this; simp [eqB, this]]; rfl, hB⟩
  · have h1 : ((n : Int) != (m : Int)) = true := by simp; omega
    have HN := Lib.hid hn; have HM := Lib.hid hm
    clear hx hy hn hm
    go_enter Try.func28, Try.ntmps28
    go_wp2
    go_ret
    exact ⟨by rw [show eqB xs ys = false from by simp [eqB]; intro h; have := HN.out; have := HM.out; subst h; omega]; rfl, Below.refl _ _⟩

/-- the cells of a slice of integers -/
def cellsOf (xs : List Int) : Array Value := (xs.map (Value.int .i64)).toArray
theorem cellsOf_get (xs : List Int) (k : Nat) : (cellsOf xs)[k]? = (xs[k]?).map (Value.int .i64) := by simp [cellsOf]
theorem cellsOf_size (xs : List Int) : (cellsOf xs).size = xs.length := by simp [cellsOf]
/-- block g holds just the integers xs -/
def IBlk (w : World) (g : Nat) (xs : List Int) : Prop := w.heap[g]? = some (.cells (cellsOf xs) 3 (0, 0))
theorem IBlk.ints {w : World} {g : Nat} {xs : List Int} (h : IBlk w g xs) : Ints w (some ⟨g, 0, none⟩) xs :=
  .inr ⟨g, 0, rfl, fun k z hz => by rw [(blkcell h).1, cellsOf_get]; simp [hz]⟩
theorem IBlk.lt {w : World} {g : Nat} {xs : List Int} (h : IBlk w g xs) : g < w.heap.size :=
  Nat.lt_of_not_le fun hn => by unfold IBlk at h; rw [Array.getElem?_eq_none hn] at h; cases h
theorem IBlk.below {w w' : World} {g : Nat} {xs : List Int} (h : IBlk w g xs) (hb : Below w.heap.size w w') : IBlk w' g xs := keepblk hb h

theorem int_info : (Try.prog.info? 3).map (fun i => (i.zero, i.size, i.bytes)) = some (some (.int .i64 0), 1, 8) := by kernel_rfl
/-- after k rounds: the first k are copied, the others nought -/
def part (xs : List Int) (n k : Nat) : Array Value := cellsOf (xs.take k ++ List.replicate (n - k) 0)
theorem part_0 (xs : List Int) (n : Nat) : madeCells #[Value.int .i64 0] n = part xs n 0 := by
  apply Array.ext_getElem?
  intro i
  simp [part, cellsOf, madeCells, Nat.mod_one, List.getElem?_replicate, Array.getElem?_range]
  split <;> simp_all
theorem part_n (xs : List Int) {n : Nat} (h : xs.length = n) : part xs n n = cellsOf xs := by
  simp [part, List.take_of_length_le (Nat.le_of_eq h)]
theorem part_size (xs : List Int) {n k : Nat} (h : xs.length = n) (hk : k ≤ n) : (part xs n k).size = n := by
  simp [part, cellsOf]; omega
theorem part_set (xs : List Int) {n k : Nat} {x : Int} (h : xs.length = n) (hk : k < n) (hx : xs[k]? = some x) : (part xs n k).setIfInBounds k (.int .i64 x) = part xs n (k + 1) := by
  apply Array.ext_getElem?
  intro i
  have hkl : k < xs.length := by omega
  rw [Array.getElem?_setIfInBounds]
  simp only [part, cellsOf_get, cellsOf_size, List.length_append, List.length_take, List.length_replicate]
  by_cases hi : k = i
  · subst hi
    rw [if_pos rfl, if_pos (by omega), List.take_add_one, hx]
    rw [List.getElem?_append_left (by simp; omega), List.getElem?_append_right (by simp; omega)]
    simp [Nat.min_eq_left (Nat.le_of_lt hkl)]
  · rw [if_neg hi]
    by_cases hlt : i < k
    · rw [List.getElem?_append_left (by simp; omega), List.getElem?_append_left (by simp; omega), List.getElem?_take_of_lt hlt, List.getElem?_take_of_lt (by omega)]
    · rw [List.getElem?_append_right (by simp; omega), List.getElem?_append_right (by simp; omega)]
      simp only [List.length_take, List.getElem?_replicate]
      by_cases hin : i < n
      · rw [if_pos (by omega), if_pos (by omega)]
      · rw [if_neg (by omega), if_neg (by omega)]

theorem part_get {xs : List Int} {n k : Nat} (h : xs.length = n) (hk : k < n) : (part xs n k)[k]? = some (.int .i64 0) := by
  rw [part, cellsOf_get, List.getElem?_append_right (by simp; omega)]
  simp [List.getElem?_replicate]; omega
/-- the slice at A, from block B on, holds the cells cs in a block of its own -/
def Own (w : World) (B : Nat) (t : TypeId) (A : Option Addr) (cs : List Value) : Prop :=
  cs = [] ∨ ∃ (g : Nat) (full : Array Value), A = some ⟨g, 0, none⟩ ∧ B ≤ g ∧ w.heap[g]? = some (.cells full t (0, 0)) ∧ ∀ (k : Nat) (v : Value), cs[k]? = some v → full[k]? = some v
theorem Own.set_ {w : World} {B g : Nat} {t : TypeId} {full : Array Value} {cs cs' : List Value} {j : Nat} {v : Value} (hB : B ≤ g) (hh : w.heap[g]? = some (.cells full t (0, 0))) (hc : ∀ (k : Nat) (u : Value), cs[k]? = some u → full[k]? = some u)
    (hj : (cs[j]?).isSome) (hs : ∀ (k : Nat) (u : Value), cs'[k]? = some u → (k = j ∧ u = v) ∨ (k ≠ j ∧ cs[k]? = some u)) :
    (w.setCell ⟨g, j, none⟩ v).heap[g]? = some (.cells (full.setIfInBounds j v) t (0, 0)) ∧ ∀ (k : Nat) (u : Value), cs'[k]? = some u → (full.setIfInBounds j v)[k]? = some u := by
  obtain ⟨u0, hu0⟩ := Option.isSome_iff_exists.1 hj
  have hjl : j < full.size := (Array.getElem?_eq_some_iff.1 (hc j u0 hu0)).1
  constructor
  · simp [World.setCell, Array.getElem?_modify, hh]
  · intro k u hk
    rw [Array.getElem?_setIfInBounds]
    rcases hs k u hk with ⟨rfl, rfl⟩ | ⟨hne, hk'⟩
    · rw [if_pos rfl, if_pos hjl]
    · rw [if_neg (Ne.symm hne)]; exact hc k u hk'
theorem only_setCell {a w : World} {g : Nat} (h : a.grownBy w (some g)) {p : Addr} (hp : p.block = g) (u : Value) : a.grownBy (w.setCell p u) (some g) :=
  ⟨h.os, h.tape, h.output, by simpa [World.setCell] using h.size, fun i hi hne => (Below.heap_setCell w p u i (by rintro rfl; exact hne (by rw [hp]))).trans (h.block i hi hne)⟩
theorem only_refl (w : World) (r : Option Nat) : w.grownBy w r := ⟨rfl, rfl, rfl, Nat.le_refl _, fun _ _ _ => rfl⟩

def markL (k : Int) (n : Nat) : List Int := (List.range n).map (fun (j : Nat) => k + (j : Int))
theorem markL_len (k : Int) (n : Nat) : (markL k n).length = n := by simp [markL]
theorem markL_get {k : Int} {n j : Nat} (h : j < n) : (markL k n)[j]? = some (k + (j : Int)) := by simp [markL, h]
/-- the first j are marked -/
def marked (k : Int) (xs : List Int) (j : Nat) : List Value := (markL k j).map (Value.int .i64) ++ (xs.drop j).map (Value.int .i64)
theorem marked_step {k : Int} {xs : List Int} {j : Nat} (hj : j < xs.length) : ∀ i u, (marked k xs (j + 1))[i]? = some u → (i = j ∧ u = .int .i64 (k + (j : Int))) ∨ (i ≠ j ∧ (marked k xs j)[i]? = some u) := by
  intro i u h
  unfold marked at h ⊢
  by_cases hi : i < j
  · right
    refine ⟨by omega, ?_⟩
    rw [List.getElem?_append_left (by simp [markL]; omega)] at h ⊢
    rw [List.getElem?_map, markL_get (by omega)] at h ⊢; exact h
  · by_cases he : i = j
    · left
      rw [List.getElem?_append_left (by simp [markL]; omega), List.getElem?_map, markL_get (by omega)] at h
      subst he
      exact ⟨rfl, by simpa using h.symm⟩
    · right
      refine ⟨he, ?_⟩
      rw [List.getElem?_append_right (by simp [markL]; omega)] at h ⊢
      simp only [List.length_map, markL_len, List.getElem?_map, List.getElem?_drop] at h ⊢
      rw [show j + (i - j) = j + 1 + (i - (j + 1)) by omega]; exact h
theorem marked_at {k : Int} {xs : List Int} {j : Nat} (hj : j < xs.length) : (marked k xs j)[j]? = some (.int .i64 xs[j]) := by
  unfold marked
  rw [List.getElem?_append_right (by simp [markL])]
  simp [markL_len]
theorem marked_0 (k : Int) (xs : List Int) : marked k xs 0 = xs.map (Value.int .i64) := by simp [marked, markL]
theorem marked_n (k : Int) (xs : List Int) : marked k xs xs.length = (markL k xs.length).map (Value.int .i64) := by simp [marked]

set_option maxHeartbeats 1600000 in
theorem markIntS_any (B : Nat) (A : Option Addr) (n c : Nat) (xs : List Int) (k : Int) (w : World) (hx : Own w B 3 A (xs.map (Value.int .i64))) (hn : xs.length = n) (hnb : n ≤ 1099511627776) (hk0 : 0 ≤ k) (hk1 : k ≤ 1099511627776) :
    Calls Try.prog 29 #[.slice A n c, .int .i64 k] w fun e w' => e = .returned (.int .i64 (k + n)) ∧ Own w' B 3 A ((markL k n).map (Value.int .i64)) ∧ w.grownBy w' (A.map (·.block)) := by
  by_cases h0 : n = 0
  · subst h0
    obtain rfl : xs = [] := List.eq_nil_of_length_eq_zero hn
    clear hx hn
    go_enter Try.func29, Try.ntmps29
    go_wp2
    go_loopw [1, 5] (fun q i wr => q = .int .i64 k ∧ i = .int .i64 0 ∧ wr = w) (fun _ _ _ => 0)
    case atStart => exact ⟨rfl, rfl, rfl⟩
    case round =>
      obtain ⟨rfl, rfl, rfl⟩ := hrel
      go_wp2
      go_ret
      exact ⟨by simp, .inl rfl, only_refl _ _⟩
  · rcases hx with hx | ⟨g, full, rfl, hB, hh, hc⟩
    · simp at hx; subst hx; simp at hn; omega
    have HN := Lib.hid hn
    have HC := Lib.hid hc
    have HH := Lib.hid hh
    clear hn hc hh
    go_enter Try.func29, Try.ntmps29
    go_wp2
    go_loopw [1, 5] (fun q i wr => ∃ j : Nat, j ≤ n ∧ i = .int .i64 j ∧ q = .int .i64 (k + j) ∧ Hid (∃ f2 : Array Value, wr.heap[g]? = some (.cells f2 3 (0, 0)) ∧ ∀ (i : Nat) (u : Value), (marked k xs j)[i]? = some u → f2[i]? = some u) ∧ Hid (w.grownBy wr (some g))) (fun _ i _ => n - (intOf i).toNat)
    case atStart => exact ⟨0, Nat.zero_le _, rfl, by simp, ⟨full, HH.out, by rw [marked_0]; exact HC.out⟩, only_refl _ _⟩
    case round =>
      obtain ⟨j, hj, rfl, rfl, hf, hg⟩ := hrel
      by_cases hlt : j < n
      · obtain ⟨f2, h1, h2⟩ := hf.out
        have hcell : wr.cell? ⟨g, j, none⟩ = some (.int .i64 (xs[j]'(by have := HN.out; omega))) := by
          rw [(blkcell h1).1]; exact h2 _ _ (marked_at (by have := HN.out; omega))
        generalize xs[j]'(by have := HN.out; omega) = x at *
        have hfr : wr.frozen? ⟨g, j, none⟩ = false := (blkcell h1).2 j
        have hset := Lib.hid (Own.set_ (v := .int .i64 (k + (j : Int))) (cs' := marked k xs (j + 1)) hB h1 h2 (by rw [marked_at (by have := HN.out; omega)]; rfl) (marked_step (by have := HN.out; omega)))
        clear h1 h2 hf
        go_wp2
        refine ⟨⟨j + 1, by omega, by go_num, by go_num, ⟨_, hset.out.1, hset.out.2⟩, only_setCell hg.out rfl _⟩, by simp [intOf]; omega⟩
      · obtain rfl : j = n := by omega
        go_wp2
        go_ret
        refine ⟨rfl, .inr ?_, hg.out⟩
        obtain ⟨f2, h1, h2⟩ := hf.out
        exact ⟨g, f2, rfl, hB, h1, by have e := marked_n k xs; rw [HN.out] at e; rw [← e]; exact h2⟩
set_option maxHeartbeats 1600000 in
theorem heldIntS_any (A : Option Addr) (n c : Nat) (k : Int) (w : World) (hx : Ints w A (markL k n)) (hnb : n ≤ 1099511627776) (hk0 : 0 ≤ k) (hk1 : k ≤ 1099511627776) :
    Calls Try.prog 30 #[.slice A n c, .int .i64 k] w fun e w' => e = .returned (.int .i64 (k + n)) ∧ w = w' := by
  have HX := Lib.hid hx
  clear hx
  go_enter Try.func30, Try.ntmps30
  go_wp2
  go_loop [1, 5] (fun q i => ∃ j : Nat, j ≤ n ∧ i = .int .i64 j ∧ q = .int .i64 (k + j)) (fun _ i => n - (intOf i).toNat)
  case atStart => exact ⟨0, Nat.zero_le _, rfl, by simp⟩
  case round =>
    obtain ⟨j, hj, rfl, rfl⟩ := hrel
    by_cases hlt : j < n
    · obtain ⟨b, off, rfl, hb, hcx⟩ := (Ints.at_ (HX.out) (k := j) (by simp [markL_len]; omega))
      have e : (markL k n)[j]'(by simp [markL_len]; omega) = k + (j : Int) := by simp [markL]
      rw [e] at hcx
      clear e
      go_wp2
      exact ⟨⟨j + 1, by omega, by go_num, by go_num⟩, by simp [intOf]; omega⟩
    · obtain rfl : j = n := by omega
      go_wp2
      go_ret
      exact ⟨rfl, rfl⟩
/-- the slice at A holds the integers xs in a block of its own, from lo on, below hi -/
def OwnL (w : World) (lo hi : Nat) (A : Option Addr) (xs : List Int) : Prop :=
  xs = [] ∨ ∃ (g : Nat) (full : Array Value), A = some ⟨g, 0, none⟩ ∧ lo ≤ g ∧ g < hi ∧ w.heap[g]? = some (.cells full 3 (0, 0)) ∧ ∀ (k : Nat) (v : Value), (xs.map (Value.int .i64))[k]? = some v → full[k]? = some v
theorem OwnL.of_own {w : World} {B : Nat} {A : Option Addr} {xs : List Int} (h : Own w B 3 A (xs.map (Value.int .i64))) : OwnL w B w.heap.size A xs := by
  rcases h with h | ⟨g, full, rfl, h1, hh, hp⟩
  · left; simpa using h
  · exact .inr ⟨g, full, rfl, h1, lt_of_blk hh, hh, hp⟩
theorem OwnL.own {w : World} {lo hi : Nat} {A : Option Addr} {xs : List Int} (h : OwnL w lo hi A xs) : Own w lo 3 A (xs.map (Value.int .i64)) := by
  rcases h with rfl | ⟨g, full, rfl, h1, _, hh, hp⟩
  · exact .inl rfl
  · exact .inr ⟨g, full, rfl, h1, hh, hp⟩
theorem OwnL.of_blk {w : World} {g : Nat} {xs : List Int} (h : IBlk w g xs) : OwnL w g w.heap.size (some ⟨g, 0, none⟩) xs :=
  .inr ⟨g, _, rfl, Nat.le_refl _, h.lt, h, fun k v hk => by simpa [cellsOf] using hk⟩
theorem OwnL.ints {w : World} {lo hi : Nat} {A : Option Addr} {xs : List Int} (h : OwnL w lo hi A xs) : Ints w A xs := by
  rcases h with rfl | ⟨g, full, rfl, h1, _, hh, hp⟩
  · exact .inl rfl
  · exact .inr ⟨g, 0, rfl, fun k z hz => by rw [(blkcell hh).1, Nat.zero_add]; exact hp k _ (by simp [hz])⟩
theorem OwnL.below {w w' : World} {lo hi : Nat} {A : Option Addr} {xs : List Int} (h : OwnL w lo hi A xs) (hb : Below w.heap.size w w') : OwnL w' lo hi A xs := by
  rcases h with rfl | ⟨g, full, rfl, h1, h2, hh, hp⟩
  · exact .inl rfl
  · exact .inr ⟨g, full, rfl, h1, h2, keepblk hb hh, hp⟩
theorem OwnL.alloc {w : World} {lo hi : Nat} {A : Option Addr} {xs : List Int} (h : OwnL w lo hi A xs) (o : Obj) : OwnL (w.alloc o) lo hi A xs := by
  rcases h with rfl | ⟨g, full, rfl, h1, h2, hh, hp⟩
  · exact .inl rfl
  · exact .inr ⟨g, full, rfl, h1, h2, blk_alloc hh, hp⟩
theorem OwnL.far {w w' : World} {lo hi lo' hi' : Nat} {A : Option Addr} {xs : List Int} {row : Option Nat} (h : OwnL w lo hi A xs) (hg : w.grownBy w' row) (hr : ∀ g, row = some g → lo' ≤ g ∧ g < hi') (hd : hi ≤ lo' ∨ hi' ≤ lo) : OwnL w' lo hi A xs := by
  rcases h with rfl | ⟨g, full, rfl, h1, h2, hh, hp⟩
  · exact .inl rfl
  · exact .inr ⟨g, full, rfl, h1, h2, (hg.block g (lt_of_blk hh) (fun e => by have := hr g e.symm; omega)).trans hh, hp⟩
theorem cell_grown {w w' : World} {row : Option Nat} (hg : w.grownBy w' row) {p : Addr} {v : Value} (h : w.cell? p = some v) (hr : ∀ g, row = some g → g ≠ p.block) : w'.cell? p = some v :=
  (World.cell?_of_block (hg.block p.block (lt_of_cell h) (fun e => hr _ e.symm rfl))).trans h
theorem blk_grown {w w' : World} {row : Option Nat} {g : Nat} {O : Obj} (hg : w.grownBy w' row) (h : w.heap[g]? = some O) (hr : ∀ q, row = some q → q ≠ g) : w'.heap[g]? = some O :=
  (hg.block g (lt_of_blk h) (fun e => hr _ e.symm rfl)).trans h
set_option maxHeartbeats 800000 in
theorem markIntS_zero (A : Option Addr) (c : Nat) (k : Int) (w : World) : Calls Try.prog 29 #[.slice A 0 c, .int .i64 k] w fun e w' => e = .returned (.int .i64 k) ∧ w = w' := by
  go_enter Try.func29, Try.ntmps29
  go_wp2
  go_loop [1, 5] (fun q i => q = .int .i64 k ∧ i = .int .i64 0) (fun _ _ => 0)
  case atStart => exact ⟨rfl, rfl⟩
  case round =>
    obtain ⟨rfl, rfl⟩ := hrel
    go_wp2
    go_ret
    exact ⟨rfl, rfl⟩
theorem markIntS_own (lo hi : Nat) (A : Option Addr) (n c : Nat) (xs : List Int) (k : Int) (w : World) (hx : OwnL w lo hi A xs) (hn : xs.length = n) (hnb : n ≤ 1099511627776) (hk0 : 0 ≤ k) (hk1 : k ≤ 1099511627776) :
    Calls Try.prog 29 #[.slice A n c, .int .i64 k] w fun e w' => e = .returned (.int .i64 (k + n)) ∧ OwnL w' lo hi A (markL k n) ∧ ∃ row, w.grownBy w' row ∧ ∀ g, row = some g → lo ≤ g ∧ g < hi := by
  by_cases h0 : n = 0
  · subst h0
    refine (markIntS_zero A c k w).mono ?_
    rintro e w' ⟨rfl, rfl⟩
    exact ⟨by simp, .inl rfl, none, only_refl _ _, fun g h => by cases h⟩
  · refine (markIntS_any lo A n c xs k w hx.own hn hnb hk0 hk1).mono ?_
    rintro e w' ⟨rfl, ho, hg⟩
    rcases hx with h | ⟨g, full, rfl, h1, h2, hh, hp⟩
    · subst h; simp at hn; omega
    · refine ⟨rfl, ?_, _, hg, fun g' h => by injection h with h; subst h; exact ⟨h1, h2⟩⟩
      rcases ho with h | ⟨g', full', hA, h1', hh', hp'⟩
      · left; simpa using h
      · injection hA with e
        injection e with e
        subst e
        exact .inr ⟨_, full', rfl, h1, h2, hh', hp'⟩
theorem grown_alloc {w w' : World} {o : Obj} {row : Option Nat} (hg : (w.alloc o).grownBy w' row) : w.grownBy w' row :=
  ⟨hg.os, hg.tape, hg.output, Nat.le_trans (by simp) hg.size, fun k hk hne => (hg.block k (by simp; omega) hne).trans (Below.heap_alloc w o k hk)⟩

theorem ownsRow_below {w w' : World} {base : Nat} {e : TypeId} {size : Nat} {v : Value} {n : Nat} {xs : List Value} (h : w.ownsRow base e size v n xs) (hb : Below w.heap.size w w') : w'.ownsRow base e size v n xs := by
  refine ⟨h.1, ?_⟩
  rcases h.2 with h | ⟨g, cap, cur, h1, h2, h3, h4⟩
  · exact .inl h
  · exact .inr ⟨g, cap, cur, h1, h2, keepblk hb h3, h4⟩
theorem own_of_row {w : World} {B : Nat} {v : Value} {n : Nat} {xs : List Value} (h : w.ownsRow B 3 1 v n xs) : ∃ A c, v = .slice A n c ∧ Own w B 3 A xs := by
  rcases h.2 with ⟨hv, h0⟩ | ⟨g, cap, cur, hv, hB, hh, _, _, _, ht⟩
  · have h1 := h.1
    rw [h0] at h1 ⊢
    exact ⟨none, 0, hv, .inl (List.eq_nil_of_length_eq_zero (by simpa using h1))⟩
  · refine ⟨_, _, hv, .inr ⟨g, cur, rfl, hB, hh, fun k u hk => ?_⟩⟩
    rw [← ht, List.getElem?_take] at hk
    split at hk
    · simpa using hk
    · cases hk
theorem eqIntS_self (A B : Option Addr) (n c d : Nat) (xs : List Int) (w : World) (hx : Ints w A xs) (hy : Ints w B xs) (hn : xs.length = n) (hnb : n ≤ 1099511627776) :
    Calls Try.prog 28 #[.slice A n c, .slice B n d] w fun e w' => e = .returned (.bool true) ∧ Below w.heap.size w w' :=
  (eqIntS_any A B n n c d xs xs w hx hy hn hn hnb hnb).mono fun _ _ ⟨he, hb⟩ => ⟨by rw [he]; simp [eqB], hb⟩
theorem ownsRow_made1 (w : World) (base : Nat) (t : TypeId) (hb : base ≤ w.heap.size) : (w.alloc (.cells #[] t)).ownsRow base t 1 (.slice (some ⟨w.heap.size, 0, none⟩) 0 0) 0 [] :=
  ⟨rfl, .inr ⟨w.heap.size, 0, #[], rfl, hb, heap_alloc_new w _, Nat.le_refl _, by simp [maxLen], rfl, rfl⟩⟩

end II
end Go.Proofs.Ytdgkfpcecppfdaa
