/- Contracts of the functions on labels: copy, compare, measure; LabelOk, SameLabel. -/
import Derived.Test.YtkcchceoljlnaaaDoorInts
namespace Go.Proofs.YtkcchceoljlnaaaDoor
set_option linter.unusedSimpArgs false
set_option linter.unusedVariables false
open Go.RowKit

/-- a label as a value -/
abbrev lab (A : Option Addr) (n c : Nat) : Value := .agg #[.slice A n c]
def labAt (xs : List Int) (i : Nat) : Bool := inB (xs.getD i 0) 0 3
def labB (xs : List Int) : Bool := decide (xs.length = 4) && (List.range xs.length).all (labAt xs)
theorem labB_len {xs : List Int} (h : xs.length ≠ 4) : labB xs = false := by simp [labB, h]
theorem labB_no {xs : List Int} {k : Nat} (hk : k < xs.length) (h : labAt xs k = false) : labB xs = false := by
  have : (List.range xs.length).all (labAt xs) = false := by
    simp only [List.all_eq_false, List.mem_range]; exact ⟨k, hk, by simp [h]⟩
  simp [labB, this]
theorem labB_yes {xs : List Int} (hl : xs.length = 4) (h : ∀ i, i < xs.length → labAt xs i = true) : labB xs = true := by
  have : (List.range xs.length).all (labAt xs) = true := by
    simp only [List.all_eq_true, List.mem_range]; exact h
  rw [labB, this, hl]; rfl
theorem labAt_of {xs : List Int} {k : Nat} {x : Int} (hx : xs[k]? = some x) : labAt xs k = inB x 0 3 := by simp [labAt, List.getD, hx]
theorem Ints.alloc {w : World} {A : Option Addr} {xs : List Int} (h : Ints w A xs) (o : Obj) : Ints (w.alloc o) A xs := h.keep fun _ _ hc => cell_alloc_ hc

set_option maxHeartbeats 1600000 in
theorem specLabelOk_any (A : Option Addr) (n c : Nat) (xs : List Int) (w : World) (hx : Ints w A xs) (hn : xs.length = n) (hnb : n ≤ 1099511627776) :
    Calls Tryd.prog 16 #[lab A n c] w fun e w' => e = .returned (.bool (labB xs)) ∧ Below w.heap.size w w' := by
  have HX := Lib.hid hx; have HN := Lib.hid hn
  clear hx hn
  by_cases h4 : n = 4
  · subst h4
    go_enter Tryd.func16, Tryd.ntmps16
    go_wp2
    go_loop [3] (fun i => ∃ k : Nat, k ≤ 4 ∧ i = .int .i64 k ∧ Hid (∀ i, i < k → labAt xs i = true)) (fun i => 4 - (intOf i).toNat)
    case atStart => exact ⟨0, Nat.zero_le _, rfl, fun i hi => absurd hi (by omega)⟩
    case round =>
      obtain ⟨k, hk, rfl, hpre⟩ := hrel
      by_cases hlt : k < 4
      · obtain ⟨b, off, rfl, hb, hcx⟩ := Ints.at_ (HX.out.alloc (.cells #[.slice A 4 c] 27)) (k := k) (by have := HN.out; omega)
        have hok := Lib.hid (labAt_of (List.getElem?_eq_getElem (l := xs) (i := k) (by have := HN.out; omega)))
        generalize xs[k]'(by have := HN.out; omega) = x at *
        cases h1 : inB x 0 3
        · have hno := Lib.hid (labB_no (xs := xs) (k := k) (by have := HN.out; omega) (hok.out.trans h1))
          go_wp2_with (go_at_call 30; refine (l1In_any _ _ _ _).mono ?_; rintro e w' ⟨rfl, rfl⟩)
          go_ret
          exact ⟨by rw [hno.out]; rfl, (by (repeat (first | exact Below.refl _ _ | assumption | refine Below.drew ?_ | refine Below.alloc ?_ ?_ _ | refine Below.setCell ?_ ?_ _)) <;> ((try simp) <;> omega))⟩
        · have hs := Lib.hid (show ∀ i, i < k + 1 → labAt xs i = true from fun i hi => by
            rcases Nat.lt_succ_iff_lt_or_eq.1 hi with h | rfl
            · exact hpre.out i h
            · exact hok.out.trans h1)
          go_wp2_with (go_at_call 30; refine (l1In_any _ _ _ _).mono ?_; rintro e w' ⟨rfl, rfl⟩)
          exact ⟨⟨k + 1, by omega, by go_num, hs⟩, by simp [intOf]; omega⟩
      · obtain rfl : k = 4 := by omega
        have hy := Lib.hid (labB_yes HN.out (fun i hi => hpre.out i (by have := HN.out; omega)))
        go_wp2
        go_ret
        exact ⟨by rw [hy.out]; rfl, (by (repeat (first | exact Below.refl _ _ | assumption | refine Below.drew ?_ | refine Below.alloc ?_ ?_ _ | refine Below.setCell ?_ ?_ _)) <;> ((try simp) <;> omega))⟩
  · have h1 : ((n : Int) != 4) = true := by simp; omega
    have hno := Lib.hid (labB_len (xs := xs) (by rw [HN.out]; exact h4))
    go_enter Tryd.func16, Tryd.ntmps16
    go_wp2
    go_ret
    exact ⟨by rw [hno.out]; rfl, (by (repeat (first | exact Below.refl _ _ | assumption | refine Below.drew ?_ | refine Below.alloc ?_ ?_ _ | refine Below.setCell ?_ ?_ _)) <;> ((try simp) <;> omega))⟩

set_option maxHeartbeats 1600000 in
theorem implLabelOk_any (A : Option Addr) (n c : Nat) (xs : List Int) (w : World) (hx : Ints w A xs) (hn : xs.length = n) (hnb : n ≤ 1099511627776) :
    Calls Tryd.prog 24 #[lab A n c] w fun e w' => e = .returned (.bool (labB xs)) ∧ Below w.heap.size w w' := by
  have HX := Lib.hid hx; have HN := Lib.hid hn
  clear hx hn
  go_enter Tryd.func24, Tryd.ntmps24
  go_wp2
  go_loop [8] (fun i => ∃ k : Nat, k ≤ n ∧ i = .int .i64 k ∧ Hid (∀ i, i < k → labAt xs i = true)) (fun i => n - (intOf i).toNat)
  case atStart => exact ⟨0, Nat.zero_le _, rfl, fun i hi => absurd hi (by omega)⟩
  case round =>
    obtain ⟨k, hk, rfl, hpre⟩ := hrel
    by_cases hlt : k < n
    · obtain ⟨b, off, rfl, hb, hcx⟩ := Ints.at_ (HX.out.alloc (.cells #[.slice A n c] 27)) (k := k) (by have := HN.out; omega)
      have hok := Lib.hid (labAt_of (List.getElem?_eq_getElem (l := xs) (i := k) (by have := HN.out; omega)))
      generalize xs[k]'(by have := HN.out; omega) = x at *
      cases h1 : inB x 0 3
      · have hno := Lib.hid (labB_no (xs := xs) (k := k) (by have := HN.out; omega) (hok.out.trans h1))
        go_wp2_with (go_at_call 33; refine (within_any _ _ _ _).mono ?_; rintro e w' ⟨rfl, rfl⟩)
        go_ret
        exact ⟨by rw [hno.out]; rfl, (by (repeat (first | exact Below.refl _ _ | assumption | refine Below.drew ?_ | refine Below.alloc ?_ ?_ _ | refine Below.setCell ?_ ?_ _)) <;> ((try simp) <;> omega))⟩
      · have hs := Lib.hid (show ∀ i, i < k + 1 → labAt xs i = true from fun i hi => by
          rcases Nat.lt_succ_iff_lt_or_eq.1 hi with h | rfl
          · exact hpre.out i h
          · exact hok.out.trans h1)
        go_wp2_with (go_at_call 33; refine (within_any _ _ _ _).mono ?_; rintro e w' ⟨rfl, rfl⟩)
        exact ⟨⟨k + 1, by omega, by go_num, hs⟩, by simp [intOf]; omega⟩
    · obtain rfl : k = n := by omega
      by_cases h4 : k = 4
      · subst h4
        have hy := Lib.hid (labB_yes HN.out (fun i hi => hpre.out i (by have := HN.out; omega)))
        go_wp2
        go_ret
        exact ⟨by rw [hy.out]; rfl, (by (repeat (first | exact Below.refl _ _ | assumption | refine Below.drew ?_ | refine Below.alloc ?_ ?_ _ | refine Below.setCell ?_ ?_ _)) <;> ((try simp) <;> omega))⟩
      · have h1 : ((k : Int) == 4) = false := by simp; omega
        have hno := Lib.hid (labB_len (xs := xs) (by rw [HN.out]; exact h4))
        go_wp2
        go_ret
        exact ⟨by rw [hno.out]; rfl, (by (repeat (first | exact Below.refl _ _ | assumption | refine Below.drew ?_ | refine Below.alloc ?_ ?_ _ | refine Below.setCell ?_ ?_ _)) <;> ((try simp) <;> omega))⟩

set_option maxHeartbeats 1600000 in
theorem equal_any (A B : Option Addr) (n m c d : Nat) (xs ys : List Int) (w : World) (hx : Ints w A xs) (hy : Ints w B ys) (hn : xs.length = n) (hm : ys.length = m) (hnb : n ≤ 1099511627776) (hmb : m ≤ 1099511627776) :
    Calls Tryd.prog 32 #[.slice A n c, .slice B m d] w fun e w' => e = .returned (.bool (eqB xs ys)) ∧ Below w.heap.size w w' := by
  by_cases hnm : n = m
  · subst hnm
    have HX := Lib.hid hx; have HY := Lib.hid hy; have HN := Lib.hid hn; have HM := Lib.hid hm
    clear hx hy hn hm
    go_enter Tryd.func32, Tryd.ntmps32
    go_wp2
    go_loopw [13] (fun i wr => ∃ k : Nat, k ≤ n ∧ i = .int .i64 k ∧ Hid (xs.take k = ys.take k) ∧ Below w.heap.size w wr) (fun i _ => n - (intOf i).toNat)
    case atStart => exact ⟨0, Nat.zero_le _, rfl, rfl, Below.refl _ _⟩
    case round =>
      obtain ⟨k, hk, rfl, hpre, hB⟩ := hrel
      by_cases hlt : k < n
      · obtain ⟨b, off, rfl, hb, hcx⟩ := (Ints.at_ (HX.out) (k := k) (by have := HN.out; omega))
        obtain ⟨b', off', rfl, hb', hcy⟩ := (Ints.at_ (HY.out) (k := k) (by have := HM.out; omega))
        have hcx := (hB.cell (p := ⟨b, off + k, none⟩) hb).trans hcx
        have hcy := (hB.cell (p := ⟨b', off' + k, none⟩) hb').trans hcy
        have ex := Lib.hid (List.getElem?_eq_getElem (l := xs) (i := k) (by have := HN.out; omega))
        have ey := Lib.hid (List.getElem?_eq_getElem (l := ys) (i := k) (by have := HM.out; omega))
        generalize xs[k]'(by have := HN.out; omega) = x at *
        generalize ys[k]'(by have := HM.out; omega) = y at *
        have hlt2 : (k : Int) < (n : Int) := by omega
        by_cases hxy : x = y
        · subst hxy
          have hs := Lib.hid (show xs.take (k + 1) = ys.take (k + 1) by
            rw [List.take_add_one, List.take_add_one, ex.out, ey.out, hpre.out])
          go_wp2_with fail
          go_quiet (fail)
          go_wp2
          exact ⟨⟨k + 1, by omega, by go_num, hs, below_drewN hB _⟩, by simp [intOf]; omega⟩
        · have h1 : (x != y) = true := by simpa using hxy
          go_wp2_with fail
          go_quiet (fail)
          go_wp2
          go_ret
          exact ⟨by rw [show eqB xs ys = false from by simp only [eqB, decide_eq_false_iff_not]; intro e; subst e; have h1 := ex.out; rw [ey.out] at h1; exact hxy (Option.some.inj h1).symm]; rfl, below_drewN hB _⟩
      · obtain rfl : k = n := by omega
        go_wp2
        go_ret
        exact ⟨by rw [show eqB xs ys = true from by have := hpre.out; rw [List.take_of_length_le (by have := HN.out; omega), List.take_of_length_le (by have := HM.out; omega)] at this; simp [eqB, this]]; rfl, hB⟩
  · have h1 : ((n : Int) != (m : Int)) = true := by simp; omega
    have HN := Lib.hid hn; have HM := Lib.hid hm
    clear hx hy hn hm
    go_enter Tryd.func32, Tryd.ntmps32
    go_wp2
    go_ret
    exact ⟨by rw [show eqB xs ys = false from by simp [eqB]; intro h; have := HN.out; have := HM.out; subst h; omega]; rfl, Below.refl _ _⟩


set_option maxHeartbeats 1600000 in
theorem implSameLabel_any (A B : Option Addr) (n m c d : Nat) (xs ys : List Int) (w : World) (hx : Ints w A xs) (hy : Ints w B ys) (hn : xs.length = n) (hm : ys.length = m) (hnb : n ≤ 1099511627776) (hmb : m ≤ 1099511627776) :
    Calls Tryd.prog 18 #[lab A n c, lab B m d] w fun e w' => e = .returned (.bool (eqB xs ys)) ∧ Below w.heap.size w w' := by
  have HN := Lib.hid hn; have HM := Lib.hid hm
  clear hn hm
  go_enter Tryd.func18, Tryd.ntmps18
  go_wp2_with fail
  refine (equal_any _ _ _ _ _ _ xs ys _ ((hx.alloc _).alloc _) ((hy.alloc _).alloc _) HN.out HM.out hnb hmb).mono ?_
  rintro e w1 ⟨rfl, hb⟩
  have hB : Below w.heap.size w w1 := Below.trans (by (repeat (first | exact Below.refl _ _ | assumption | refine Below.drew ?_ | refine Below.alloc ?_ ?_ _ | refine Below.setCell ?_ ?_ _)) <;> ((try simp) <;> omega)) (hb.mono (by simp; omega))
  go_wp2_with fail
  go_ret
  exact ⟨rfl, hB⟩
set_option maxHeartbeats 1600000 in
theorem eqLabel_any (A B : Option Addr) (n m c d : Nat) (xs ys : List Int) (w : World) (hx : Ints w A xs) (hy : Ints w B ys) (hn : xs.length = n) (hm : ys.length = m) (hnb : n ≤ 1099511627776) (hmb : m ≤ 1099511627776) :
    Calls Tryd.prog 9 #[lab A n c, lab B m d] w fun e w' => e = .returned (.bool (eqB xs ys)) ∧ Below w.heap.size w w' := by
  have HN := Lib.hid hn; have HM := Lib.hid hm
  clear hn hm
  go_enter Tryd.func9, Tryd.ntmps9
  go_wp2_with fail
  refine (eqIntS_any _ _ _ _ _ _ xs ys _ ((hx.alloc _).alloc _) ((hy.alloc _).alloc _) HN.out HM.out hnb hmb).mono ?_
  rintro e w1 ⟨rfl, hb⟩
  have hB : Below w.heap.size w w1 := Below.trans (by (repeat (first | exact Below.refl _ _ | assumption | refine Below.drew ?_ | refine Below.alloc ?_ ?_ _ | refine Below.setCell ?_ ?_ _)) <;> ((try simp) <;> omega)) (hb.mono (by simp; omega))
  cases h : eqB xs ys
  all_goals
    go_wp2_with fail
    go_ret
    exact ⟨by rw [h]; rfl, hB⟩
theorem szIntS_any (A : Option Addr) (n c : Nat) (l : Int) (w : World) (hnb : n ≤ 9223372036854775807) (h0 : 0 ≤ l) (h1 : l ≤ 1048576) :
    Calls Tryd.prog 21 #[.slice A n c, .int .i64 l] w fun e w' => e = .returned (.int .i64 (if l - n < 0 then -1 else l - n)) ∧ w = w' := by
  by_cases h : l - n < 0
  · rw [if_pos h]
    go_enter Tryd.func21, Tryd.ntmps21
    go_wp2
    go_ret
    exact ⟨rfl, rfl⟩
  · rw [if_neg h]
    go_enter Tryd.func21, Tryd.ntmps21
    go_wp2
    go_ret
    exact ⟨rfl, rfl⟩
theorem szLabel_no (A : Option Addr) (n c : Nat) (l : Int) (w : World) (hnb : n ≤ 9223372036854775807) (h0 : 0 ≤ l) (h1 : l ≤ 1048576) (h : l - n < 0) :
    Calls Tryd.prog 5 #[lab A n c, .int .i64 l] w fun e w' => e = .returned (.int .i64 (-1)) ∧ Below w.heap.size w w' := by
  have e1 := szIntS_any A n c l
  simp only [if_pos h] at e1
  have E := Lib.hid e1
  clear e1
  go_enter Tryd.func5, Tryd.ntmps5
  go_wp2_with fail
  refine (E.out _ hnb h0 h1).mono ?_
  rintro e w' ⟨rfl, rfl⟩
  go_wp2_with fail
  go_ret
  exact ⟨rfl, (by (repeat (first | exact Below.refl _ _ | assumption | refine Below.drew ?_ | refine Below.alloc ?_ ?_ _ | refine Below.setCell ?_ ?_ _)) <;> ((try simp) <;> omega))⟩
theorem szLabel_yes (A : Option Addr) (n c : Nat) (l : Int) (w : World) (hnb : n ≤ 9223372036854775807) (h0 : 0 ≤ l) (h1 : l ≤ 1048576) (h : ¬ l - n < 0) :
    Calls Tryd.prog 5 #[lab A n c, .int .i64 l] w fun e w' => e = .returned (.int .i64 (l - n)) ∧ Below w.heap.size w w' := by
  have e1 := szIntS_any A n c l
  simp only [if_neg h] at e1
  have E := Lib.hid e1
  clear e1
  go_enter Tryd.func5, Tryd.ntmps5
  go_wp2_with fail
  refine (E.out _ hnb h0 h1).mono ?_
  rintro e w' ⟨rfl, rfl⟩
  go_wp2_with fail
  go_ret
  exact ⟨rfl, (by (repeat (first | exact Below.refl _ _ | assumption | refine Below.drew ?_ | refine Below.alloc ?_ ?_ _ | refine Below.setCell ?_ ?_ _)) <;> ((try simp) <;> omega))⟩
theorem IBlk.far {w : World} {g : Nat} {xs : List Int} (h : IBlk w g xs) {p : Addr} {v : Value} (hne : g ≠ p.block) : IBlk (w.setCell p v) g xs :=
  (Below.heap_setCell w p v g hne).trans h
set_option maxHeartbeats 1600000 in
theorem toLabel_any (A : Option Addr) (n c : Nat) (xs : List Int) (w : World) (hx : Ints w A xs) (hn : xs.length = n) (hnb : n ≤ 1099511627776) :
    Calls Tryd.prog 7 #[lab A n c] w fun e w' => e = .returned (lab (some ⟨w.heap.size + 3, 0, none⟩) n n) ∧ Below w.heap.size w w' ∧ IBlk w' (w.heap.size + 3) xs := by
  have HN := Lib.hid hn
  clear hn
  go_enter Tryd.func7, Tryd.ntmps7
  go_wp2_with fail
  refine (toIntS_any _ _ _ xs _ (((hx.alloc _).alloc _).alloc _) HN.out hnb).mono ?_
  rintro e w1 ⟨rfl, hb, hi⟩
  have hi : IBlk w1 (w.heap.size + 3) xs := by simpa using hi
  obtain ⟨hc, hf⟩ := bcellk (k := w.heap.size + 3) hb (by simp)
  have hB : Below w.heap.size w w1 := Below.trans (by (repeat (first | exact Below.refl _ _ | assumption | refine Below.drew ?_ | refine Below.alloc ?_ ?_ _ | refine Below.setCell ?_ ?_ _)) <;> ((try simp) <;> omega)) (hb.mono (by simp; omega))
  have hs := hb.size
  simp only [World.size_alloc] at hs
  have hg := hi.lt
  clear hb
  go_wp2_with fail
  refine bodyPost_ret (v := lab (some ⟨w.heap.size + 3, 0, none⟩) n n) (by simp [results, Tryd.results7, go_sem, *]) rfl ⟨rfl, (by (repeat (first | exact Below.refl _ _ | assumption | refine Below.drew ?_ | refine Below.alloc ?_ ?_ _ | refine Below.setCell ?_ ?_ _)) <;> ((try simp) <;> omega)), ?_⟩
  exact (hi.far (by simp)).far (by simp)

theorem IBlk.alloc {w : World} {g : Nat} {xs : List Int} (h : IBlk w g xs) (o : Obj) : IBlk (w.alloc o) g xs := (Below.heap_alloc w o g h.lt).trans h
theorem eqB_self (xs : List Int) : eqB xs xs = true := by simp [eqB]
/-- two labels in their boxes -/
theorem boxes2 (A B : Option Addr) (n m c d : Nat) (xs ys : List Int) (t : TypeId) (w : World) (hx : Ints w A xs) (hy : Ints w B ys) :
    ∃ W, W = ((w.alloc (.cells #[.slice A n c] t)).alloc (.cells #[.slice B m d] t)) ∧ W.cell? ⟨w.heap.size, 0, none⟩ = some (.slice A n c) ∧ W.cell? ⟨w.heap.size + 1, 0, none⟩ = some (.slice B m d) ∧ Ints W A xs ∧ Ints W B ys ∧ Below w.heap.size w W :=
  ⟨_, rfl, by simp, by simp, (hx.alloc _).alloc _, (hy.alloc _).alloc _, (by (repeat (first | exact Below.refl _ _ | assumption | refine Below.drew ?_ | refine Below.alloc ?_ ?_ _ | refine Below.setCell ?_ ?_ _)) <;> ((try simp) <;> omega))⟩

end Go.Proofs.YtkcchceoljlnaaaDoor
