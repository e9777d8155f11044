/- Slices of structs (Cat) in memory, and the laws' own functions on them (copy, compare, mark, look). -/
import Derived.Test.YtjhkaipceepjiaaRegion
import Derived.Deep.QuietTactic
import Derived.BigQuiet
import Derived.Deep.OwnRows
import Derived.Deep.Draws
import Derived.Deep.RegionHeld3
import Derived.Maps.AppendAt
import Derived.OwnWalk
namespace Go.Proofs.Ytjhkaipceepjiaa
set_option linter.unusedSimpArgs false
set_option linter.unusedVariables false
open Go.RowKit
attribute [local go_sem ↓] Go.wp_at_zero Go.wp_at_succ

abbrev El := Int × Bool
abbrev ev (c : El) : Value := .agg #[.int .i64 c.1, .bool c.2]
def vals (xs : List El) : List Value := xs.flatMap fun c => [.int .i64 c.1, .bool c.2]
theorem vals_len : ∀ xs : List El, (vals xs).length = xs.length * 2
  | [] => rfl
  | c :: xs => by
    have := vals_len xs
    simp only [vals, List.flatMap_cons, List.length_append, List.length_cons, List.length_nil] at this ⊢
    omega
theorem vals_at : ∀ (xs : List El) (k : Nat), (vals xs)[k * 2]? = xs[k]?.map (fun c => (.int .i64 c.1 : Value)) ∧ (vals xs)[k * 2 + 1]? = xs[k]?.map (fun c => (.bool c.2 : Value))
  | [], k => by simp [vals]
  | c :: xs, 0 => by simp [vals]
  | c :: xs, k + 1 => by
    have := vals_at xs k
    rw [show (k + 1) * 2 = k * 2 + 1 + 1 by omega]
    simpa [vals] using this
theorem vals_set : ∀ (xs : List El) (k : Nat) (c : El), (((vals xs).set (k * 2) (.int .i64 c.1)).set (k * 2 + 1) (.bool c.2)) = vals (xs.set k c)
  | [], k, c => by simp [vals]
  | x :: xs, 0, c => by simp [vals]
  | x :: xs, k + 1, c => by
    have := vals_set xs k c
    rw [show (k + 1) * 2 = k * 2 + 1 + 1 by omega]
    simpa [vals] using this
/-- the slice at A holds the elements xs -/
def Els (w : World) (A : Option Addr) (xs : List El) : Prop :=
  xs = [] ∨ ∃ b off, A = some ⟨b, off, none⟩ ∧ ∀ k c, xs[k]? = some c → w.cell? ⟨b, off + k * 2, none⟩ = some (.int .i64 c.1) ∧ w.cell? ⟨b, off + k * 2 + 1, none⟩ = some (.bool c.2)
theorem Els.at_ {w : World} {A : Option Addr} {xs : List El} (h : Els w A xs) {k : Nat} {c : El} (hk : xs[k]? = some c) :
    ∃ b off, A = some ⟨b, off, none⟩ ∧ b < w.heap.size ∧ w.cell? ⟨b, off + k * 2, none⟩ = some (.int .i64 c.1) ∧ w.cell? ⟨b, off + k * 2 + 1, none⟩ = some (.bool c.2) := by
  rcases h with rfl | ⟨b, off, rfl, hc⟩
  · simp at hk
  · have h1 := hc k c hk
    exact ⟨b, off, rfl, lt_of_cell h1.1, h1⟩
theorem Els.keep {w w' : World} {A : Option Addr} {xs : List El} (h : Els w A xs) (hk : ∀ p v, w.cell? p = some v → w'.cell? p = some v) : Els w' A xs := by
  rcases h with rfl | ⟨b, off, rfl, hc⟩
  · exact .inl rfl
  · exact .inr ⟨b, off, rfl, fun k z hz => by have := hc k z hz; exact ⟨hk _ _ this.1, hk _ _ this.2⟩⟩
theorem Els.below {w w' : World} {A : Option Addr} {xs : List El} (h : Els w A xs) (hb : Below w.heap.size w w') : Els w' A xs :=
  h.keep fun _ _ hc => Below.keeps hb hc
theorem Els.alloc {w : World} {A : Option Addr} {xs : List El} (h : Els w A xs) (o : Obj) : Els (w.alloc o) A xs :=
  h.keep fun _ _ hc => cell_alloc_ hc
/-- block g holds just the elements xs -/
def EBlk (w : World) (g : Nat) (xs : List El) : Prop := w.heap[g]? = some (.cells (vals xs).toArray 40 (0, 0))
theorem EBlk.at_ {w : World} {g : Nat} {xs : List El} (h : EBlk w g xs) {k : Nat} {c : El} (hk : xs[k]? = some c) : w.cell? ⟨g, k * 2, none⟩ = some (.int .i64 c.1) ∧ w.cell? ⟨g, k * 2 + 1, none⟩ = some (.bool c.2) := by
  have h1 := vals_at xs k
  rw [hk] at h1
  refine ⟨?_, ?_⟩
  · rw [(blkcell h).1]; simpa using h1.1
  · rw [(blkcell h).1]; simpa using h1.2
theorem EBlk.els {w : World} {g : Nat} {xs : List El} (h : EBlk w g xs) : Els w (some ⟨g, 0, none⟩) xs :=
  .inr ⟨g, 0, rfl, fun k c hc => by simpa using h.at_ hc⟩
theorem EBlk.lt {w : World} {g : Nat} {xs : List El} (h : EBlk w g xs) : g < w.heap.size := lt_of_blk h
theorem EBlk.set_ {w : World} {g : Nat} {xs : List El} (h : EBlk w g xs) (k : Nat) (c : El) : EBlk ((w.setCell ⟨g, k * 2, none⟩ (.int .i64 c.1)).setCell ⟨g, k * 2 + 1, none⟩ (.bool c.2)) g (xs.set k c) := by
  have h1 := blk_set (i := k * 2 + 1) (blk_set (i := k * 2) h (.int .i64 c.1)) (.bool c.2)
  unfold EBlk
  rw [h1, ← vals_set]
  simp

theorem below_drewN {B : Nat} {a w : World} (h : Below B a w) (n : Nat) : Below B a (w.drewN n) := ⟨h.os, h.tape, h.output, h.size, h.block⟩
set_option maxHeartbeats 400000 in
theorem eqEl_any (x y : El) (w : World) :
    Calls Try.prog 26 #[ev x, ev y] w fun e w' => e = .returned (.bool (decide (x = y))) ∧ Below w.heap.size w w' := by
  obtain ⟨g, l⟩ := x
  obtain ⟨g', l'⟩ := y
  by_cases h1 : g = g'
  · subst h1
    cases l <;> cases l'
    all_goals
      go_enter Try.func26, Try.ntmps26
      go_wp2
      go_ret
      exact ⟨by simp, (by (repeat (first | exact Below.refl _ _ | assumption | refine Below.drew ?_ | refine Below.alloc ?_ ?_ _ | refine Below.setCell ?_ ?_ _)) <;> ((try simp) <;> omega))⟩
  · have h4 : (g == g') = false := by simpa using h1
    have h5 : (g != g') = true := by simpa using h1
    have hd := Lib.hid (show decide ((g, l) = (g', l')) = false by simp [h1])
    clear h1
    go_enter Try.func26, Try.ntmps26
    go_wp2
    go_ret
    exact ⟨by rw [hd.out]; rfl, (by (repeat (first | exact Below.refl _ _ | assumption | refine Below.drew ?_ | refine Below.alloc ?_ ?_ _ | refine Below.setCell ?_ ?_ _)) <;> ((try simp) <;> omega))⟩
set_option maxHeartbeats 400000 in
theorem toEl_any (x : El) (w : World) :
    Calls Try.prog 24 #[ev x] w fun e w' => e = .returned (ev x) ∧ Below w.heap.size w w' := by
  go_enter Try.func24, Try.ntmps24
  go_wp2
  refine bodyPost_ret (v := ev x) (by simp [results, Try.results24, go_sem]) rfl ⟨rfl, (by (repeat (first | exact Below.refl _ _ | assumption | refine Below.drew ?_ | refine Below.alloc ?_ ?_ _ | refine Below.setCell ?_ ?_ _)) <;> ((try simp) <;> omega))⟩
set_option maxHeartbeats 3200000 in
theorem eqEls_any (A B : Option Addr) (n m c d : Nat) (xs ys : List El) (w : World) (hx : Els w A xs) (hy : Els w B ys) (hn : xs.length = n) (hm : ys.length = m) (hnb : n ≤ 1099511627776) (hmb : m ≤ 1099511627776) :
    Calls Try.prog 12 #[.slice A n c, .slice B m d] w fun e w' => e = .returned (.bool (decide (xs = ys))) ∧ Below w.heap.size w w' := by
  by_cases hnm : n = m
  · subst hnm
    have HX := Lib.hid hx; have HY := Lib.hid hy; have HN := Lib.hid hn; have HM := Lib.hid hm
    clear hx hy hn hm
    go_enter Try.func12, Try.ntmps12
    go_wp2
    go_loopw [5] (fun i wr => ∃ k : Nat, k ≤ n ∧ i = .int .i64 k ∧ Hid (xs.take k = ys.take k) ∧ Below w.heap.size w wr) (fun i _ => n - (intOf i).toNat)
    case atStart => exact ⟨0, Nat.zero_le _, rfl, rfl, Below.refl _ _⟩
    case round =>
      obtain ⟨k, hk, rfl, hpre, hB⟩ := hrel
      by_cases hlt : k < n
      · have ex := Lib.hid (List.getElem?_eq_getElem (l := xs) (i := k) (by have := HN.out; omega))
        have ey := Lib.hid (List.getElem?_eq_getElem (l := ys) (i := k) (by have := HM.out; omega))
        generalize xs[k]'(by have := HN.out; omega) = x at *
        generalize ys[k]'(by have := HM.out; omega) = y at *
        obtain ⟨b, off, rfl, hbx, cx0, cx1⟩ := HX.out.at_ ex.out
        obtain ⟨b', off', rfl, hby, cy0, cy1⟩ := HY.out.at_ ey.out
        have cx0 := Below.keeps hB cx0; have cx1 := Below.keeps hB cx1; have cy0 := Below.keeps hB cy0; have cy1 := Below.keeps hB cy1
        have hlt2 : (k : Int) < (n : Int) := by omega
        have hk0 : (0 : Int) ≤ (k : Int) := by omega
        have hsz := hB.size
        by_cases hxy : x = y
        · have hd : decide (x = y) = true := by simpa using hxy
          have hs := Lib.hid (show xs.take (k + 1) = ys.take (k + 1) by
            rw [List.take_add_one, List.take_add_one, ex.out, ey.out, hpre.out, hxy])
          clear hxy
          go_wp2_with fail
          go_region_held3 (fun w' => w'.cell? ⟨b, off + k * 2, none⟩ = some (.int .i64 x.1) ∧ w'.cell? ⟨b, off + k * 2 + 1, none⟩ = some (.bool x.2) ∧ w'.cell? ⟨b', off' + k * 2, none⟩ = some (.int .i64 y.1) ∧ w'.cell? ⟨b', off' + k * 2 + 1, none⟩ = some (.bool y.2)) ((repeat' apply And.intro) <;> (first | assumption | (simp [*]; done)))
            (first | (go_at_call 26; refine (eqEl_any x y _).mono ?_; rintro e w2 ⟨rfl, hb⟩; rw [hd]; have cx0 := Below.keeps hb cx0; have cx1 := Below.keeps hb cx1; have cy0 := Below.keeps hb cy0; have cy1 := Below.keeps hb cy1; have hB := Below.trans hB.drew (hb.mono hsz)))
          go_wp2
          exact ⟨⟨k + 1, by omega, by go_num, hs, hB⟩, by simp [intOf]; omega⟩
        · have hd : decide (x = y) = false := by simpa using hxy
          have hne := Lib.hid hxy
          clear hxy
          go_wp2_with fail
          go_region_held3 (fun w' => w'.cell? ⟨b, off + k * 2, none⟩ = some (.int .i64 x.1) ∧ w'.cell? ⟨b, off + k * 2 + 1, none⟩ = some (.bool x.2) ∧ w'.cell? ⟨b', off' + k * 2, none⟩ = some (.int .i64 y.1) ∧ w'.cell? ⟨b', off' + k * 2 + 1, none⟩ = some (.bool y.2)) ((repeat' apply And.intro) <;> (first | assumption | (simp [*]; done)))
            (first | (go_at_call 26; refine (eqEl_any x y _).mono ?_; rintro e w2 ⟨rfl, hb⟩; rw [hd]; have cx0 := Below.keeps hb cx0; have cx1 := Below.keeps hb cx1; have cy0 := Below.keeps hb cy0; have cy1 := Below.keeps hb cy1; have hB := Below.trans hB.drew (hb.mono hsz)))
          go_wp2
          go_ret
          exact ⟨by rw [show decide (xs = ys) = false from by simp only [decide_eq_false_iff_not]; intro e; subst e; have h1 := ex.out; rw [ey.out] at h1; exact hne.out (Option.some.inj h1).symm]; rfl, hB⟩
      · obtain rfl : k = n := by omega
        go_wp2
        go_ret
        exact ⟨by rw [show decide (xs = ys) = true from by have := hpre.out; rw [List.take_of_length_le (by have := HN.out; omega), List.take_of_length_le (by have := HM.out; omega)] at this; simp [this]]; rfl, hB⟩
  · have h1 : ((n : Int) != (m : Int)) = true := by simp; omega
    have HN := Lib.hid hn; have HM := Lib.hid hm
    clear hx hy hn hm
    go_enter Try.func12, Try.ntmps12
    go_wp2
    go_ret
    exact ⟨by rw [show decide (xs = ys) = false from by simp; intro h; have := HN.out; have := HM.out; subst h; omega]; rfl, Below.refl _ _⟩

theorem el_info : (Try.prog.info? 40).map (fun i => (i.zero, i.size, i.bytes)) = some (some (ev (0, false)), 2, 16) := by kernel_rfl
/-- after k rounds: the first k are copied, the others nought -/
def partE (xs : List El) (n k : Nat) : List El := xs.take k ++ List.replicate (n - k) (0, false)
theorem partE_n (xs : List El) {n : Nat} (h : xs.length = n) : partE xs n n = xs := by simp [partE, List.take_of_length_le (Nat.le_of_eq h)]
theorem partE_len (xs : List El) {n k : Nat} (h : xs.length = n) (hk : k ≤ n) : (partE xs n k).length = n := by simp [partE]; omega
theorem partE_at (xs : List El) {n k : Nat} (h : xs.length = n) (hk : k < n) : (partE xs n k)[k]? = some (0, false) := by
  have hl : (xs.take k).length = k := by simp; omega
  unfold partE
  rw [List.getElem?_append_right (by omega), hl, Nat.sub_self, show n - k = n - (k + 1) + 1 by omega, List.replicate_succ]
  rfl
theorem partE_set (xs : List El) {n k : Nat} {x : El} (h : xs.length = n) (hk : k < n) (hx : xs[k]? = some x) : (partE xs n k).set k x = partE xs n (k + 1) := by
  have hl : (xs.take k).length = k := by simp; omega
  unfold partE
  rw [List.set_append_right _ _ (by omega), hl, Nat.sub_self, show n - k = n - (k + 1) + 1 by omega, List.replicate_succ, List.set_cons_zero, List.take_add_one, hx]
  simp
theorem vals_repl (n : Nat) : madeCells (ev (0, false)).cells (n * 2) = (vals (List.replicate n (0, false))).toArray := by
  apply Array.ext_getElem?
  intro i
  have h := vals_at (List.replicate n (0, false)) (i / 2)
  rcases (show i % 2 = 0 ∨ i % 2 = 1 by omega) with h0 | h0
  · rw [show i / 2 * 2 = i by omega] at h
    by_cases hi : i < n * 2
    · simp [madeCells, h0, h.1, List.getElem?_replicate, Array.getElem?_range, Value.cells, hi, show i / 2 < n by omega]
    · simp [madeCells, h0, h.1, List.getElem?_replicate, Array.getElem?_range, Value.cells, hi, show ¬ i / 2 < n by omega]
  · rw [show i / 2 * 2 + 1 = i by omega] at h
    by_cases hi : i < n * 2
    · simp [madeCells, h0, h.2, List.getElem?_replicate, Array.getElem?_range, Value.cells, hi, show i / 2 < n by omega]
    · simp [madeCells, h0, h.2, List.getElem?_replicate, Array.getElem?_range, Value.cells, hi, show ¬ i / 2 < n by omega]
theorem make_rows {P : Program} (t e : TypeId) (i : TypeInfo) (z : Value) (ht : P.underlying t = some (.slice e)) (hi : P.info? e = some i) (hz : i.zero = some z) (n : Nat) (hb : i.bytes * n ≤ 281474976710656) (h63 : n ≤ 9223372036854775807) (w : World) :
    (Instr.makeSlice t (.int .i64 (n : Int)) (.int .i64 (n : Int))).run P w = .ok (.slice (some ⟨w.heap.size, 0, none⟩) n n) (w.alloc (.cells (madeCells z.cells (n * i.size)) e)) := by
  have hb' : (i.bytes : Int) * (n : Int) ≤ 281474976710656 := by
    have h : ((i.bytes * n : Nat) : Int) ≤ 281474976710656 := by omega
    rwa [Int.natCast_mul] at h
  have hr := run_make (P := P) w t e i z ht hi hz .i64 .i64 n n (by omega) (by omega) hb' (by omega)
  simpa only [Int.toNat_natCast] using hr
set_option maxHeartbeats 3200000 in
theorem toEls_any (A : Option Addr) (n c : Nat) (xs : List El) (w : World) (hx : Els w A xs) (hn : xs.length = n) (hnb : n ≤ 1099511627776) :
    Calls Try.prog 10 #[.slice A n c] w fun e w' => e = .returned (.slice (some ⟨w.heap.size, 0, none⟩) n n) ∧ Below w.heap.size w w' ∧ EBlk w' w.heap.size xs := by
  have HX := Lib.hid hx; have HN := Lib.hid hn
  clear hx hn
  obtain ⟨i0, hi, hz0, hz1, hz2⟩ := info_parts el_info
  have hmk : ∀ w : World, (Instr.makeSlice 25 (.int .i64 (n : Int)) (.int .i64 (n : Int))).run Try.prog w = .ok (.slice (some ⟨w.heap.size, 0, none⟩) n n) (w.alloc (.cells (vals (partE xs n 0)).toArray 40)) := by
    intro w
    have := make_rows (P := Try.prog) 25 40 i0 _ Try.underlying25 hi hz0 n (by rw [hz2]; omega) (by omega) w
    rw [this, hz1, vals_repl]; simp [partE]
  clear hi hz0 hz1 hz2
  go_enter Try.func10, Try.ntmps10
  go_wp2
  go_loopw [4] (fun i wr => ∃ k : Nat, k ≤ n ∧ i = .int .i64 k ∧ Hid (EBlk wr w.heap.size (partE xs n k)) ∧ Below w.heap.size w wr ∧ w.heap.size < wr.heap.size) (fun i _ => n - (intOf i).toNat)
  case atStart => exact ⟨0, Nat.zero_le _, rfl, heap_alloc_new w _, (Below.refl _ _).alloc (Nat.le_refl _) _, by simp⟩
  case round =>
    obtain ⟨k, hk, rfl, hblk, hB, hlt0⟩ := hrel
    by_cases hlt : k < n
    · have ex := Lib.hid (List.getElem?_eq_getElem (l := xs) (i := k) (by have := HN.out; omega))
      generalize xs[k]'(by have := HN.out; omega) = x at *
      obtain ⟨b, off, rfl, hbx, cx0, cx1⟩ := HX.out.at_ ex.out
      have cx0 := Below.keeps hB cx0; have cx1 := Below.keeps hB cx1
      have hset := Lib.hid (partE_set xs HN.out hlt ex.out)
      have hsz := hB.size
      have hk0 : (0 : Int) ≤ (k : Int) := by omega
      go_wp2_with fail
      refine (toEl_any x _).mono ?_
      rintro e w2 ⟨rfl, hb⟩
      have hblk2 : EBlk w2 w.heap.size (partE xs n k) := keepblk hb hblk.out
      obtain ⟨cz0, cz1⟩ := hblk2.at_ (partE_at xs HN.out hlt)
      have kf := (blkcell hblk2).2
      have hB := Below.trans hB (hb.mono hsz)
      have hsz2 := hb.size
      have hb2 := Lib.hid (hset.out ▸ hblk2.set_ k x)
      clear hb hblk2 hblk
      go_wp2
      exact ⟨⟨k + 1, by omega, by go_num, hb2, ((hB.setCell (Nat.le_refl _) _).setCell (Nat.le_refl _) _), by simp; omega⟩, by simp [intOf]; omega⟩
    · obtain rfl : k = n := by omega
      have hp := Lib.hid (partE_n xs HN.out)
      go_wp2
      go_ret
      exact ⟨rfl, hB, by rw [← hp.out]; exact hblk.out⟩

def markOf (k : Int) (j : Nat) : El := (k + (j : Int) * 2, decide ((k + (j : Int) * 2 + 1) % 3 = 0))
def markL (k : Int) (n : Nat) : List El := (List.range n).map (markOf k)
theorem markL_len (k : Int) (n : Nat) : (markL k n).length = n := by simp [markL]
theorem markL_get {k : Int} {n j : Nat} (h : j < n) : (markL k n)[j]? = some (markOf k j) := by simp [markL, h]
/-- the first j are marked -/
def marked (k : Int) (xs : List El) (j : Nat) : List El := markL k j ++ xs.drop j
theorem marked_0 (k : Int) (xs : List El) : marked k xs 0 = xs := by simp [marked, markL]
theorem marked_n (k : Int) (xs : List El) {n : Nat} (h : xs.length = n) : marked k xs n = markL k n := by simp [marked, ← h]
theorem marked_at {k : Int} {xs : List El} {j : Nat} {x : El} (h : xs[j]? = some x) : (marked k xs j)[j]? = some x := by
  unfold marked
  rw [List.getElem?_append_right (by simp [markL_len]), markL_len, Nat.sub_self, List.getElem?_drop]
  simpa using h
theorem marked_set {k : Int} {xs : List El} {j : Nat} (hj : j < xs.length) : (marked k xs j).set j (markOf k j) = marked k xs (j + 1) := by
  have hl := markL_len k j
  have hd : xs.drop j = xs[j] :: xs.drop (j + 1) := List.drop_eq_getElem_cons hj
  unfold marked
  rw [List.set_append_right _ _ (by omega), hl, Nat.sub_self, hd, List.set_cons_zero]
  simp [markL, List.range_succ]
/-- the cells cs stand ahead in full -/
def Pre (cs : List Value) (full : Array Value) : Prop := ∀ (k : Nat) (v : Value), cs[k]? = some v → full[k]? = some v
theorem Pre.set_ {cs : List Value} {full : Array Value} (h : Pre cs full) (i : Nat) (v : Value) : Pre (cs.set i v) (full.setIfInBounds i v) := by
  intro k u hk
  rw [List.getElem?_set] at hk
  rw [Array.getElem?_setIfInBounds]
  by_cases hik : i = k
  · rw [if_pos hik] at hk ⊢
    subst hik
    by_cases hl : i < cs.length
    · rw [if_pos hl] at hk
      have := h i cs[i] (List.getElem?_eq_getElem hl)
      rw [if_pos (Array.getElem?_eq_some_iff.1 this).1]; exact hk
    · rw [if_neg hl] at hk; cases hk
  · rw [if_neg hik] at hk ⊢; exact h k u hk
/-- the slice at A, from block B on, holds the elements xs in a block of its own -/
def OwnE (w : World) (B : Nat) (A : Option Addr) (xs : List El) : Prop :=
  xs = [] ∨ ∃ (g : Nat) (full : Array Value), A = some ⟨g, 0, none⟩ ∧ B ≤ g ∧ w.heap[g]? = some (.cells full 40 (0, 0)) ∧ Pre (vals xs) full
theorem pre_at {w : World} {g : Nat} {full : Array Value} {xs : List El} {k : Nat} {c : El} (hh : w.heap[g]? = some (.cells full 40 (0, 0))) (hp : Pre (vals xs) full) (hk : xs[k]? = some c) : w.cell? ⟨g, k * 2, none⟩ = some (.int .i64 c.1) ∧ w.cell? ⟨g, k * 2 + 1, none⟩ = some (.bool c.2) := by
  have h1 := vals_at xs k
  rw [hk] at h1
  refine ⟨?_, ?_⟩
  · rw [(blkcell hh).1]; exact hp _ _ (by simpa using h1.1)
  · rw [(blkcell hh).1]; exact hp _ _ (by simpa using h1.2)
theorem OwnE.els {w : World} {B : Nat} {A : Option Addr} {xs : List El} (h : OwnE w B A xs) : Els w A xs := by
  rcases h with rfl | ⟨g, full, rfl, _, hh, hp⟩
  · exact .inl rfl
  · exact .inr ⟨g, 0, rfl, fun k c hc => by simpa using pre_at hh hp hc⟩
theorem EBlk.own {w : World} {g : Nat} {xs : List El} (h : EBlk w g xs) {B : Nat} (hB : B ≤ g) : OwnE w B (some ⟨g, 0, none⟩) xs := .inr ⟨g, _, rfl, hB, h, fun k v hk => by simpa using hk⟩
theorem OwnE.below {w w' : World} {B : Nat} {A : Option Addr} {xs : List El} (h : OwnE w B A xs) (hb : Below w.heap.size w w') : OwnE w' B A xs := by
  rcases h with rfl | ⟨g, full, rfl, h1, hh, hp⟩
  · exact .inl rfl
  · exact .inr ⟨g, full, rfl, h1, keepblk hb hh, hp⟩
theorem OwnE.of_row {w : World} {B : Nat} {A : Option Addr} {n c : Nat} {xs : List El} (h : w.ownsRow B 40 2 (.slice A n c) n (vals xs)) : OwnE w B A xs := by
  rcases h.2 with ⟨_, h0⟩ | ⟨g, cap, cur, hv, hB, hh, _, _, _, ht⟩
  · left
    have := h.1
    rw [vals_len, h0] at this
    exact List.eq_nil_of_length_eq_zero (by omega)
  · injection hv with hA
    subst hA
    refine .inr ⟨g, cur, rfl, hB, hh, fun k v hk => ?_⟩
    rw [← ht, List.getElem?_take] at hk
    split at hk
    · simpa using hk
    · cases hk
theorem only_setCell {a w : World} {g : Nat} (h : a.grownBy w (some g)) {p : Addr} (hp : p.block = g) (u : Value) : a.grownBy (w.setCell p u) (some g) :=
  ⟨h.os, h.tape, h.output, by simpa [World.setCell] using h.size, fun i hi hne => (Below.heap_setCell w p u i (by rintro rfl; exact hne (by rw [hp]))).trans (h.block i hi hne)⟩
theorem only_refl (w : World) (r : Option Nat) : w.grownBy w r := ⟨rfl, rfl, rfl, Nat.le_refl _, fun _ _ _ => rfl⟩
set_option maxHeartbeats 3200000 in
theorem markEls_any (B : Nat) (A : Option Addr) (n c : Nat) (xs : List El) (k : Int) (w : World) (hx : OwnE w B A xs) (hn : xs.length = n) (hnb : n ≤ 1099511627776) (hk0 : 0 ≤ k) (hk1 : k ≤ 1099511627776) :
    Calls Try.prog 17 #[.slice A n c, .int .i64 k] w fun e w' => e = .returned (.int .i64 (k + (n : Int) * 2)) ∧ OwnE w' B A (markL k n) ∧ ∃ row, w.grownBy w' row ∧ ∀ g, row = some g → xs ≠ [] ∧ A = some ⟨g, 0, none⟩ := by
  by_cases h0 : n = 0
  · subst h0
    obtain rfl : xs = [] := List.eq_nil_of_length_eq_zero hn
    clear hx hn
    go_enter Try.func17, Try.ntmps17
    go_wp2
    go_loopw [1, 5] (fun q i wr => q = .int .i64 k ∧ i = .int .i64 0 ∧ wr = w) (fun _ _ _ => 0)
    case atStart => exact ⟨rfl, rfl, rfl⟩
    case round =>
      obtain ⟨rfl, rfl, rfl⟩ := hrel
      go_wp2
      go_ret
      exact ⟨by simp, .inl rfl, none, only_refl _ _, fun g h => by cases h⟩
  · rcases hx with hx | ⟨g, full, rfl, hB, hh, hc⟩
    · subst hx; simp at hn; omega
    have HN := Lib.hid hn
    have HC := Lib.hid hc
    have HH := Lib.hid hh
    clear hn hc hh
    go_enter Try.func17, Try.ntmps17
    go_wp2
    go_loopw [1, 5] (fun q i wr => ∃ j : Nat, j ≤ n ∧ i = .int .i64 j ∧ q = .int .i64 (k + (j : Int) * 2) ∧ Hid (∃ f2 : Array Value, wr.heap[g]? = some (.cells f2 40 (0, 0)) ∧ Pre (vals (marked k xs j)) f2) ∧ Hid (w.grownBy wr (some g))) (fun _ i _ => n - (intOf i).toNat)
    case atStart => exact ⟨0, Nat.zero_le _, rfl, by simp, ⟨full, HH.out, by rw [marked_0]; exact HC.out⟩, only_refl _ _⟩
    case round =>
      obtain ⟨j, hj, rfl, rfl, hf, hg⟩ := hrel
      by_cases hlt : j < n
      · obtain ⟨f2, h1, h2⟩ := hf.out
        have ex := Lib.hid (List.getElem?_eq_getElem (l := xs) (i := j) (by have := HN.out; omega))
        generalize xs[j]'(by have := HN.out; omega) = x at *
        obtain ⟨cz0, cz1⟩ := pre_at h1 h2 (marked_at ex.out)
        have kf := (blkcell h1).2
        have hb2 := Lib.hid (show ∃ f3, ((wr.setCell ⟨g, j * 2, none⟩ (.int .i64 (markOf k j).1)).setCell ⟨g, j * 2 + 1, none⟩ (.bool (markOf k j).2)).heap[g]? = some (.cells f3 40 (0, 0)) ∧ Pre (vals (marked k xs (j + 1))) f3 from
          ⟨_, blk_set (i := j * 2 + 1) (blk_set (i := j * 2) h1 (.int .i64 (markOf k j).1)) (.bool (markOf k j).2), by rw [← marked_set (by have := HN.out; omega), ← vals_set]; exact ((h2.set_ _ _).set_ _ _)⟩)
        have hg2 := Lib.hid (show w.grownBy ((wr.setCell ⟨g, j * 2, none⟩ (.int .i64 (markOf k j).1)).setCell ⟨g, j * 2 + 1, none⟩ (.bool (markOf k j).2)) (some g) from only_setCell (only_setCell hg.out rfl _) rfl _)
        clear h1 h2 hf
        simp only [markOf] at hb2 hg2
        go_wp2
        refine ⟨⟨j + 1, by omega, by go_num, congrArg (Value.int .i64) (by omega), hb2, hg2⟩, by simp [intOf]; omega⟩
      · obtain rfl : j = n := by omega
        go_wp2
        go_ret
        refine ⟨rfl, .inr ?_, _, hg.out, fun g' h => ⟨fun h0 => by have := HN.out; rw [h0] at this; simp at this; omega, by injection h with h; subst h; rfl⟩⟩
        obtain ⟨f2, h1, h2⟩ := hf.out
        exact ⟨g, f2, rfl, hB, h1, by rw [← marked_n k xs HN.out]; exact h2⟩
set_option maxHeartbeats 3200000 in
theorem heldEls_any (A : Option Addr) (n c : Nat) (k : Int) (w : World) (hx : Els w A (markL k n)) (hnb : n ≤ 1099511627776) (hk0 : 0 ≤ k) (hk1 : k ≤ 1099511627776) :
    Calls Try.prog 18 #[.slice A n c, .int .i64 k] w fun e w' => e = .returned (.int .i64 (k + (n : Int) * 2)) ∧ w = w' := by
  have HX := Lib.hid hx
  clear hx
  go_enter Try.func18, Try.ntmps18
  go_wp2
  go_loop [1, 5] (fun q i => ∃ j : Nat, j ≤ n ∧ i = .int .i64 j ∧ q = .int .i64 (k + (j : Int) * 2)) (fun _ i => n - (intOf i).toNat)
  case atStart => exact ⟨0, Nat.zero_le _, rfl, by simp⟩
  case round =>
    obtain ⟨j, hj, rfl, rfl⟩ := hrel
    by_cases hlt : j < n
    · obtain ⟨b, off, rfl, hb, cz0, cz1⟩ := HX.out.at_ (markL_get (k := k) hlt)
      simp only [markOf] at cz0 cz1
      have hb1 : (j : Int) < n := by omega
      cases hm : ((k + (j : Int) * 2 + 1) % 3 == 0) <;> rw [show decide ((k + (j : Int) * 2 + 1) % 3 = 0) = ((k + (j : Int) * 2 + 1) % 3 == 0) from by rw [Bool.eq_iff_iff]; simp, hm] at cz1
      all_goals
        go_wp2
        exact ⟨⟨j + 1, by omega, by go_num, congrArg (Value.int .i64) (by omega)⟩, by simp [intOf]; omega⟩
    · obtain rfl : j = n := by omega
      go_wp2
      go_ret
      exact ⟨rfl, rfl⟩
set_option maxHeartbeats 400000 in
theorem szEls_no (A : Option Addr) (n c : Nat) (k : Int) (w : World) (hn : n ≤ 9223372036854775807) (hk0 : 0 ≤ k) (hk1 : k ≤ 1099511627776) (h : k - n < 0) :
    Calls Try.prog 8 #[.slice A n c, .int .i64 k] w fun e w' => e = .returned (.int .i64 (-1)) ∧ w = w' := by
  go_enter Try.func8, Try.ntmps8
  go_wp2
  go_ret
  exact ⟨rfl, rfl⟩
set_option maxHeartbeats 400000 in
theorem szEls_yes (A : Option Addr) (n c : Nat) (k : Int) (w : World) (hn : n ≤ 9223372036854775807) (hk0 : 0 ≤ k) (hk1 : k ≤ 1099511627776) (h : ¬ k - n < 0) :
    Calls Try.prog 8 #[.slice A n c, .int .i64 k] w fun e w' => e = .returned (.int .i64 (k - n)) ∧ w = w' := by
  go_enter Try.func8, Try.ntmps8
  go_wp2
  go_ret
  exact ⟨rfl, rfl⟩
theorem els_flat {w : World} {b off : Nat} {xs : List El} (h : ∀ k c, xs[k]? = some c → w.cell? ⟨b, off + k * 2, none⟩ = some (.int .i64 c.1) ∧ w.cell? ⟨b, off + k * 2 + 1, none⟩ = some (.bool c.2)) :
    ∀ (j : Nat) (u : Value), (vals xs)[j]? = some u → w.cell? ((⟨b, off, none⟩ : Addr).add j) = some u := by
  intro j u hj
  have hv := vals_at xs (j / 2)
  have hadd : (⟨b, off, none⟩ : Addr).add j = ⟨b, off + j, none⟩ := by
    unfold Addr.add; split
    · rename_i h0; subst h0; rfl
    · rfl
  rw [hadd]
  rcases (show j % 2 = 0 ∨ j % 2 = 1 by omega) with h0 | h0
  · have e : j / 2 * 2 = j := by omega
    rw [e] at hv
    rw [hv.1] at hj
    obtain ⟨c, hc, rfl⟩ := Option.map_eq_some_iff.1 hj
    have := (h _ c hc).1
    rwa [show off + j / 2 * 2 = off + j by omega] at this
  · have e : j / 2 * 2 + 1 = j := by omega
    rw [e] at hv
    rw [hv.2] at hj
    obtain ⟨c, hc, rfl⟩ := Option.map_eq_some_iff.1 hj
    have := (h _ c hc).2
    rwa [show off + j / 2 * 2 + 1 = off + j by omega] at this
theorem vals_one (xs : List El) : ∀ u ∈ vals xs, u.oneCell' = true := by
  intro u hu
  unfold vals at hu
  obtain ⟨c, _, hc⟩ := List.mem_flatMap.1 hu
  simp at hc
  rcases hc with rfl | rfl <;> rfl
theorem ownsRow_made (w : World) (base : Nat) (t : TypeId) (hb : base ≤ w.heap.size) : (w.alloc (.cells #[] t)).ownsRow base t 2 (.slice (some ⟨w.heap.size, 0, none⟩) 0 0) 0 [] :=
  ⟨rfl, .inr ⟨w.heap.size, 0, #[], rfl, hb, heap_alloc_new w _, Nat.le_refl _, by simp [maxLen], rfl, rfl⟩⟩
theorem copy_run (w : World) (A : Option Addr) (n c : Nat) (xs : List El) (hx : Els w A xs) (hn : xs.length = n) (hnb : n ≤ 1099511627776) :
    ∃ A' c' w1, (Builtin.append_ #[25, 25] 25 #[.slice (some ⟨w.heap.size, 0, none⟩) 0 0, .slice A n c]).run Try.prog (w.alloc (.cells #[] 40)) = .ok (.slice A' n c') w1 ∧ OwnE w1 w.heap.size A' xs ∧ Below w.heap.size w w1 := by
  obtain ⟨i0, hi, hz0, hz1, hz2⟩ := info_parts el_info
  have hown := ownsRow_made w w.heap.size 40 (Nat.le_refl _)
  rcases A with _ | ad
  · have hxs : xs = [] := by
      rcases hx with h | ⟨b, off, h, _⟩
      · exact h
      · cases h
    subst hxs
    simp at hn
    subst hn
    refine ⟨some ⟨w.heap.size, 0, none⟩, 0, w.alloc (.cells #[] 40), ?_, .inl rfl, (Below.refl _ _).alloc (Nat.le_refl _) _⟩
    simp [Builtin.append_, run_underlying Try.underlying25, sizeOf, typeInfo, hi, Builtin.lenOf, Builtin.firstCells, storeCells]
  · have hcells : ∀ j u, (vals xs)[j]? = some u → (w.alloc (.cells #[] 40)).cell? (ad.add j) = some u := by
      rcases hx with rfl | ⟨b, off, h, hc⟩
      · intro j u hj; simp [vals] at hj
      · injection h with h
        subst h
        intro j u hj
        exact cell_alloc_ (els_flat hc j u hj)
    obtain ⟨v', w', hrun, h2, h3, h4, h5⟩ := run_append_own_at (P := Try.prog) (w.alloc (.cells #[] 40)) w.heap.size 25 25 40 i0 (ev (0, false)) 2 16 Try.underlying25 hi hz0 hz1 hz2 rfl (by decide) _ 0 [] hown ad n c (vals xs) (by rw [vals_len, hn]) hcells (vals_one xs) (by unfold maxLen; omega) (by omega) (by simp)
    obtain ⟨hlen, hr⟩ := h2
    have hw : Below w.heap.size w w' := ((Below.refl _ _).alloc (Nat.le_refl _) _).grown h3 (by simp) (fun g hg => by simp [Value.ownBlock] at hg; omega)
    simp only [Nat.zero_add, List.nil_append] at hlen hr
    rcases hr with ⟨rfl, h0⟩ | ⟨g, cap, cur, rfl, hB, hh, hx1, hx2, hx3, hx4⟩
    · rw [h0] at hrun hn
      obtain rfl : xs = [] := List.eq_nil_of_length_eq_zero hn
      exact ⟨none, 0, w', by rw [h0]; exact hrun, .inl rfl, hw⟩
    · refine ⟨some ⟨g, 0, none⟩, cap, w', hrun, OwnE.of_row (n := n) (c := cap) ⟨?_, .inr ⟨g, cap, cur, rfl, hB, hh, hx1, hx2, hx3, ?_⟩⟩, hw⟩
      · simpa using hlen
      · simpa using hx4
theorem wpList_append_eq {P : Program} {w : World} {ops : Array Oper} {rest : List Oper} {o : Oper} {a : Act} {Q : Exit → Act → World → Prop} (hgd : o.guard = none) (s x : Operand) (t : TypeId)
    (ho : o.op = .call { callee := .builtin .append, args := #[s, x], argTypes := #[t, t] }) (v x' v' : Value) (w' : World) (hs : a.eval s = v) (hx : a.eval x = x')
    (hrun : (Builtin.append_ #[t, t] o.type #[v, x']).run P w = .ok v' w') (h : wpList P ops Q rest (a.put o.dst v') w') : wpList P ops Q (o :: rest) a w :=
  wpList_plain hgd fun K hK => by
    unfold Oper.wp execOp
    simp only [ho, resolve, invoke, builtin, Sem.run_bind, Sem.run_pure, Result.andThen_ok, List.map_toArray, List.map_cons, List.map_nil, hs, hx, hrun]
    exact hK _ _ h


end Go.Proofs.Ytjhkaipceepjiaa
