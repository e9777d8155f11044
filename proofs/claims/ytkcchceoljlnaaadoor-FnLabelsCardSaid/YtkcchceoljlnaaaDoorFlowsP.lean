/- Contracts of the program's FlowsFor and Flows. -/
import Derived.Test.YtkcchceoljlnaaaDoorFlows
namespace Go.Proofs.YtkcchceoljlnaaaDoor
set_option linter.unusedSimpArgs false
set_option linter.unusedVariables false
open Go.RowKit

theorem own_ints {w : World} {base n : Nat} {t : TypeId} {v : Value} {xs : List Int} (h : w.ownsRow base t 1 v n (xs.map (Value.int .i64))) : ∃ A cap, v = .slice A n cap ∧ Ints w A xs ∧ xs.length = n := by
  obtain ⟨hl, h⟩ := h
  simp only [List.length_map, Nat.mul_one] at hl
  rcases h with ⟨rfl, rfl⟩ | ⟨g, cap, cur, rfl, _, hh, _, _, _, ht⟩
  · exact ⟨none, 0, rfl, .inl (List.eq_nil_of_length_eq_zero hl), hl⟩
  · refine ⟨some ⟨g, 0, none⟩, cap, rfl, .inr ⟨g, 0, rfl, fun k z hz => ?_⟩, hl⟩
    have h1 : (xs.map (Value.int .i64))[k]? = some (.int .i64 z) := by simp [hz]
    rw [← ht, List.getElem?_take] at h1
    split at h1
    · rw [(blkcell hh).1]; simpa using h1
    · cases h1
theorem above_mem {xs ys : List Int} {k : Nat} {c : Int} (h : (aboveTo xs ys 4)[k]? = some c) : ∃ i : Nat, i < 4 ∧ c = (i : Int) ∧ ys.getD i 0 < xs.getD i 0 := by
  have hm := List.mem_of_getElem? h
  simp only [aboveTo, List.mem_map, List.mem_filter, List.mem_range, decide_eq_true_eq] at hm
  obtain ⟨i, ⟨h1, h2⟩, rfl⟩ := hm
  exact ⟨i, h1, rfl, h2⟩
theorem above_all {xs ys : List Int} {i : Nat} (h1 : i < 4) (h2 : ys.getD i 0 < xs.getD i 0) : ∃ k : Nat, k < (aboveTo xs ys 4).length ∧ (aboveTo xs ys 4)[k]? = some (i : Int) := by
  have hm : (i : Int) ∈ aboveTo xs ys 4 := by
    simp only [aboveTo, List.mem_map, List.mem_filter, List.mem_range, decide_eq_true_eq]; exact ⟨i, ⟨h1, h2⟩, rfl⟩
  obtain ⟨k, hk⟩ := List.mem_iff_getElem?.1 hm
  exact ⟨k, (List.getElem?_eq_some_iff.1 hk).1, hk⟩
theorem flow_miss {os xs ys : List Int} {k : Nat} {c : Int} (h : (aboveTo xs ys 4)[k]? = some c) (hn : hasB os c = false) : flowB os xs ys = false := by
  obtain ⟨i, h1, rfl, h2⟩ := above_mem h
  exact flowB_no h1 (by rw [flowAt, hn]; simp; simpa [List.getD] using h2)
theorem flow_all {os xs ys : List Int} (h1 : ownB os = true) (h2 : labB xs = true) (h3 : labB ys = true) (h : ∀ (k : Nat) (c : Int), (aboveTo xs ys 4)[k]? = some c → hasB os c = true) : flowB os xs ys = true :=
  flowB_yes h1 h2 h3 fun i hi => by
    by_cases hlt : ys.getD i 0 < xs.getD i 0
    · obtain ⟨k, _, hk⟩ := above_all hi hlt
      rw [flowAt, h k _ hk]; simp
    · rw [flowAt, decide_eq_true (by omega)]; rfl

set_option maxHeartbeats 1600000 in
theorem implFlowsFor_no1 (O A B : Option Addr) (q n m e0 c d : Nat) (os xs ys : List Int) (w : World) (hK : Ints w O os) (ho : os.length = q) (hqb : q ≤ 1099511627776) (hI : Ints w A xs) (hn : xs.length = n) (hnb : n ≤ 1099511627776) (hJ : Ints w B ys) (hm : ys.length = m) (hmb : m ≤ 1099511627776) (h1 : ownB os = false) :
    Calls Tryd.prog 31 #[.slice O q e0, lab A n c, lab B m d] w fun e w' => e = .returned (.bool (flowB os xs ys)) ∧ Below w.heap.size w w' := by
  have HO := Lib.hid ho
  have HN := Lib.hid hn; have HM := Lib.hid hm
  clear hn hm ho
  have HF := Lib.hid (flowB_no1 (os := os) (xs := xs) (ys := ys) h1)
  go_enter Tryd.func31, Tryd.ntmps31
  go_wp2_with fail
  refine (implOwnOk_any O q e0 os _ (Ints.alloc (Ints.alloc hK _) _) HO.out hqb).mono ?_
  rintro e w1 ⟨rfl, hb⟩
  have ca : w1.cell? ⟨w.heap.size, 0, none⟩ = some (.slice A n c) := Below.keeps hb (by simp)
  have cb : w1.cell? ⟨w.heap.size + 1, 0, none⟩ = some (.slice B m d) := Below.keeps hb (by simp)
  have hK : Ints w1 O os := Ints.below (Ints.alloc (Ints.alloc hK _) _) hb
  have hI : Ints w1 A xs := Ints.below (Ints.alloc (Ints.alloc hI _) _) hb
  have hJ : Ints w1 B ys := Ints.below (Ints.alloc (Ints.alloc hJ _) _) hb
  have lca : w.heap.size < w1.heap.size := lt_of_cell ca
  have lcb : w.heap.size + 1 < w1.heap.size := lt_of_cell cb
  have hB : Below w.heap.size w w1 := Below.trans (by (repeat (first | exact Below.refl _ _ | assumption | refine Below.drew ?_ | refine Below.alloc ?_ ?_ _ | refine Below.setCell ?_ ?_ _)) <;> ((try simp) <;> omega)) (hb.mono (by (try simp) <;> omega))
  have hs := hB.size
  clear hb
  go_wp2_with fail
  go_ret
  exact ⟨by rw [HF.out]; rfl, hB⟩
set_option maxHeartbeats 1600000 in
theorem implFlowsFor_no2 (O A B : Option Addr) (q n m e0 c d : Nat) (os xs ys : List Int) (w : World) (hK : Ints w O os) (ho : os.length = q) (hqb : q ≤ 1099511627776) (hI : Ints w A xs) (hn : xs.length = n) (hnb : n ≤ 1099511627776) (hJ : Ints w B ys) (hm : ys.length = m) (hmb : m ≤ 1099511627776) (h1 : ownB os = true) (h2 : labB xs = false) :
    Calls Tryd.prog 31 #[.slice O q e0, lab A n c, lab B m d] w fun e w' => e = .returned (.bool (flowB os xs ys)) ∧ Below w.heap.size w w' := by
  have HO := Lib.hid ho
  have HN := Lib.hid hn; have HM := Lib.hid hm
  clear hn hm ho
  have HF := Lib.hid (flowB_no2 (os := os) (xs := xs) (ys := ys) h2)
  go_enter Tryd.func31, Tryd.ntmps31
  go_wp2_with fail
  refine (implOwnOk_any O q e0 os _ (Ints.alloc (Ints.alloc hK _) _) HO.out hqb).mono ?_
  rintro e w1 ⟨rfl, hb⟩
  have ca : w1.cell? ⟨w.heap.size, 0, none⟩ = some (.slice A n c) := Below.keeps hb (by simp)
  have cb : w1.cell? ⟨w.heap.size + 1, 0, none⟩ = some (.slice B m d) := Below.keeps hb (by simp)
  have hK : Ints w1 O os := Ints.below (Ints.alloc (Ints.alloc hK _) _) hb
  have hI : Ints w1 A xs := Ints.below (Ints.alloc (Ints.alloc hI _) _) hb
  have hJ : Ints w1 B ys := Ints.below (Ints.alloc (Ints.alloc hJ _) _) hb
  have lca : w.heap.size < w1.heap.size := lt_of_cell ca
  have lcb : w.heap.size + 1 < w1.heap.size := lt_of_cell cb
  have hB : Below w.heap.size w w1 := Below.trans (by (repeat (first | exact Below.refl _ _ | assumption | refine Below.drew ?_ | refine Below.alloc ?_ ?_ _ | refine Below.setCell ?_ ?_ _)) <;> ((try simp) <;> omega)) (hb.mono (by (try simp) <;> omega))
  have hs := hB.size
  clear hb
  go_wp2_with fail
  refine (implLabelOk_any A n c xs _ hI HN.out hnb).mono ?_
  rintro e w2 ⟨rfl, hb⟩
  have ca : w2.cell? ⟨w.heap.size, 0, none⟩ = some (.slice A n c) := Below.keeps hb ca
  have cb : w2.cell? ⟨w.heap.size + 1, 0, none⟩ = some (.slice B m d) := Below.keeps hb cb
  have hK : Ints w2 O os := Ints.keep hK (fun _ _ h => Below.keeps hb h)
  have hI : Ints w2 A xs := Ints.keep hI (fun _ _ h => Below.keeps hb h)
  have hJ : Ints w2 B ys := Ints.keep hJ (fun _ _ h => Below.keeps hb h)
  have lca : w.heap.size < w2.heap.size := lt_of_cell ca
  have lcb : w.heap.size + 1 < w2.heap.size := lt_of_cell cb
  have hB : Below w.heap.size w w2 := Below.trans hB (hb.mono hs)
  have hs := hB.size
  clear hb
  go_wp2_with fail
  go_ret
  exact ⟨by rw [HF.out]; rfl, hB⟩
set_option maxHeartbeats 1600000 in
theorem implFlowsFor_no3 (O A B : Option Addr) (q n m e0 c d : Nat) (os xs ys : List Int) (w : World) (hK : Ints w O os) (ho : os.length = q) (hqb : q ≤ 1099511627776) (hI : Ints w A xs) (hn : xs.length = n) (hnb : n ≤ 1099511627776) (hJ : Ints w B ys) (hm : ys.length = m) (hmb : m ≤ 1099511627776) (h1 : ownB os = true) (h2 : labB xs = true) (h3 : labB ys = false) :
    Calls Tryd.prog 31 #[.slice O q e0, lab A n c, lab B m d] w fun e w' => e = .returned (.bool (flowB os xs ys)) ∧ Below w.heap.size w w' := by
  have HO := Lib.hid ho
  have HN := Lib.hid hn; have HM := Lib.hid hm
  clear hn hm ho
  have HF := Lib.hid (flowB_no3 (os := os) (xs := xs) (ys := ys) h3)
  go_enter Tryd.func31, Tryd.ntmps31
  go_wp2_with fail
  refine (implOwnOk_any O q e0 os _ (Ints.alloc (Ints.alloc hK _) _) HO.out hqb).mono ?_
  rintro e w1 ⟨rfl, hb⟩
  have ca : w1.cell? ⟨w.heap.size, 0, none⟩ = some (.slice A n c) := Below.keeps hb (by simp)
  have cb : w1.cell? ⟨w.heap.size + 1, 0, none⟩ = some (.slice B m d) := Below.keeps hb (by simp)
  have hK : Ints w1 O os := Ints.below (Ints.alloc (Ints.alloc hK _) _) hb
  have hI : Ints w1 A xs := Ints.below (Ints.alloc (Ints.alloc hI _) _) hb
  have hJ : Ints w1 B ys := Ints.below (Ints.alloc (Ints.alloc hJ _) _) hb
  have lca : w.heap.size < w1.heap.size := lt_of_cell ca
  have lcb : w.heap.size + 1 < w1.heap.size := lt_of_cell cb
  have hB : Below w.heap.size w w1 := Below.trans (by (repeat (first | exact Below.refl _ _ | assumption | refine Below.drew ?_ | refine Below.alloc ?_ ?_ _ | refine Below.setCell ?_ ?_ _)) <;> ((try simp) <;> omega)) (hb.mono (by (try simp) <;> omega))
  have hs := hB.size
  clear hb
  go_wp2_with fail
  refine (implLabelOk_any A n c xs _ hI HN.out hnb).mono ?_
  rintro e w2 ⟨rfl, hb⟩
  have ca : w2.cell? ⟨w.heap.size, 0, none⟩ = some (.slice A n c) := Below.keeps hb ca
  have cb : w2.cell? ⟨w.heap.size + 1, 0, none⟩ = some (.slice B m d) := Below.keeps hb cb
  have hK : Ints w2 O os := Ints.keep hK (fun _ _ h => Below.keeps hb h)
  have hI : Ints w2 A xs := Ints.keep hI (fun _ _ h => Below.keeps hb h)
  have hJ : Ints w2 B ys := Ints.keep hJ (fun _ _ h => Below.keeps hb h)
  have lca : w.heap.size < w2.heap.size := lt_of_cell ca
  have lcb : w.heap.size + 1 < w2.heap.size := lt_of_cell cb
  have hB : Below w.heap.size w w2 := Below.trans hB (hb.mono hs)
  have hs := hB.size
  clear hb
  go_wp2_with fail
  refine (implLabelOk_any B m d ys _ hJ HM.out hmb).mono ?_
  rintro e w3 ⟨rfl, hb⟩
  have ca : w3.cell? ⟨w.heap.size, 0, none⟩ = some (.slice A n c) := Below.keeps hb ca
  have cb : w3.cell? ⟨w.heap.size + 1, 0, none⟩ = some (.slice B m d) := Below.keeps hb cb
  have hK : Ints w3 O os := Ints.keep hK (fun _ _ h => Below.keeps hb h)
  have hI : Ints w3 A xs := Ints.keep hI (fun _ _ h => Below.keeps hb h)
  have hJ : Ints w3 B ys := Ints.keep hJ (fun _ _ h => Below.keeps hb h)
  have lca : w.heap.size < w3.heap.size := lt_of_cell ca
  have lcb : w.heap.size + 1 < w3.heap.size := lt_of_cell cb
  have hB : Below w.heap.size w w3 := Below.trans hB (hb.mono hs)
  have hs := hB.size
  clear hb
  go_wp2_with fail
  go_ret
  exact ⟨by rw [HF.out]; rfl, hB⟩
set_option maxHeartbeats 6400000 in
theorem implFlowsFor_yes (O A B : Option Addr) (q n m e0 c d : Nat) (os xs ys : List Int) (w : World) (hK : Ints w O os) (ho : os.length = q) (hqb : q ≤ 1099511627776) (hI : Ints w A xs) (hn : xs.length = n) (hnb : n ≤ 1099511627776) (hJ : Ints w B ys) (hm : ys.length = m) (hmb : m ≤ 1099511627776) (h1 : ownB os = true) (h2 : labB xs = true) (h3 : labB ys = true) :
    Calls Tryd.prog 31 #[.slice O q e0, lab A n c, lab B m d] w fun e w' => e = .returned (.bool (flowB os xs ys)) ∧ Below w.heap.size w w' := by
  obtain rfl : n = 4 := hn.symm.trans (labB_four h2)
  obtain rfl : m = 4 := hm.symm.trans (labB_four h3)
  have HO := Lib.hid ho; have HN := Lib.hid hn; have HM := Lib.hid hm
  clear hn hm ho
  go_enter Tryd.func31, Tryd.ntmps31
  go_wp2_with fail
  refine (implOwnOk_any O q e0 os _ (Ints.alloc (Ints.alloc hK _) _) HO.out hqb).mono ?_
  rintro e w1 ⟨rfl, hb⟩
  have ca : w1.cell? ⟨w.heap.size, 0, none⟩ = some (.slice A 4 c) := Below.keeps hb (by simp)
  have cb : w1.cell? ⟨w.heap.size + 1, 0, none⟩ = some (.slice B 4 d) := Below.keeps hb (by simp)
  have hK : Ints w1 O os := Ints.below (Ints.alloc (Ints.alloc hK _) _) hb
  have hI : Ints w1 A xs := Ints.below (Ints.alloc (Ints.alloc hI _) _) hb
  have hJ : Ints w1 B ys := Ints.below (Ints.alloc (Ints.alloc hJ _) _) hb
  have lca : w.heap.size < w1.heap.size := lt_of_cell ca
  have lcb : w.heap.size + 1 < w1.heap.size := lt_of_cell cb
  have hB : Below w.heap.size w w1 := Below.trans (by (repeat (first | exact Below.refl _ _ | assumption | refine Below.drew ?_ | refine Below.alloc ?_ ?_ _ | refine Below.setCell ?_ ?_ _)) <;> ((try simp) <;> omega)) (hb.mono (by (try simp) <;> omega))
  have hs := hB.size
  clear hb
  go_wp2_with fail
  refine (implLabelOk_any A 4 c xs _ hI HN.out hnb).mono ?_
  rintro e w2 ⟨rfl, hb⟩
  have ca : w2.cell? ⟨w.heap.size, 0, none⟩ = some (.slice A 4 c) := Below.keeps hb ca
  have cb : w2.cell? ⟨w.heap.size + 1, 0, none⟩ = some (.slice B 4 d) := Below.keeps hb cb
  have hK : Ints w2 O os := Ints.keep hK (fun _ _ h => Below.keeps hb h)
  have hI : Ints w2 A xs := Ints.keep hI (fun _ _ h => Below.keeps hb h)
  have hJ : Ints w2 B ys := Ints.keep hJ (fun _ _ h => Below.keeps hb h)
  have lca : w.heap.size < w2.heap.size := lt_of_cell ca
  have lcb : w.heap.size + 1 < w2.heap.size := lt_of_cell cb
  have hB : Below w.heap.size w w2 := Below.trans hB (hb.mono hs)
  have hs := hB.size
  clear hb
  go_wp2_with fail
  refine (implLabelOk_any B 4 d ys _ hJ HM.out hmb).mono ?_
  rintro e w3 ⟨rfl, hb⟩
  have ca : w3.cell? ⟨w.heap.size, 0, none⟩ = some (.slice A 4 c) := Below.keeps hb ca
  have cb : w3.cell? ⟨w.heap.size + 1, 0, none⟩ = some (.slice B 4 d) := Below.keeps hb cb
  have hK : Ints w3 O os := Ints.keep hK (fun _ _ h => Below.keeps hb h)
  have hI : Ints w3 A xs := Ints.keep hI (fun _ _ h => Below.keeps hb h)
  have hJ : Ints w3 B ys := Ints.keep hJ (fun _ _ h => Below.keeps hb h)
  have lca : w.heap.size < w3.heap.size := lt_of_cell ca
  have lcb : w.heap.size + 1 < w3.heap.size := lt_of_cell cb
  have hB : Below w.heap.size w w3 := Below.trans hB (hb.mono hs)
  have hs := hB.size
  clear hb
  have H0 := Lib.hid h1; have H1 := Lib.hid h2; have H2 := Lib.hid h3
  go_wp2_with fail
  clear h1 h2 h3
  refine (above_any A B c d xs ys _ hI hJ HN.out HM.out).mono ?_
  rintro e wA ⟨v, rfl, hown, hb⟩
  obtain ⟨G, cap, rfl, hG, hGl⟩ := own_ints hown
  have hKA := hK.below hb
  have hBA : Below w.heap.size w wA := hB.trans (hb.mono hs)
  have hlen := aboveTo_len xs ys 4
  generalize hL : (aboveTo xs ys 4).length = nl at *
  have HG := Lib.hid hG; have HGl := Lib.hid hL; have HKA := Lib.hid hKA
  clear hown hb hK hI hJ hG hGl hL hKA
  go_wp2_with fail
  go_loop [26] (fun i => ∃ k : Nat, k ≤ nl ∧ i = .int .i64 k ∧ Hid (∀ (j : Nat) (x : Int), j < k → (aboveTo xs ys 4)[j]? = some x → hasB os x = true)) (fun i => nl - (intOf i).toNat)
  case atStart => exact ⟨0, Nat.zero_le _, rfl, fun j x hj => absurd hj (by omega)⟩
  case round =>
    obtain ⟨k, hk, rfl, hpre⟩ := hrel
    by_cases hlt : k < nl
    · obtain ⟨b, off, rfl, hbb, hcx⟩ := (Ints.at_ (HG.out) (k := k) (by have := HGl.out; omega))
      have ex := Lib.hid (List.getElem?_eq_getElem (l := aboveTo xs ys 4) (i := k) (by have := HGl.out; omega))
      generalize (aboveTo xs ys 4)[k]'(by have := HGl.out; omega) = x at *
      have C := Lib.hid (contains_any O q e0 os x wA HKA.out HO.out hqb)
      cases h4 : hasB os x
      · have hno := Lib.hid (flow_miss (os := os) ex.out h4)
        have C2 := Lib.hid (show Calls Tryd.prog 41 #[.slice O q e0, .int .i64 x] wA fun e w' => e = .returned (.bool false) ∧ wA = w' from by have := C.out; rw [h4] at this; exact this)
        clear C
        go_wp2_with (go_at_call 41; refine (Calls.mono C2.out ?_); rintro e w' ⟨rfl, rfl⟩)
        go_ret
        exact ⟨by rw [hno.out]; rfl, hBA⟩
      · have hs1 := Lib.hid (show ∀ (j : Nat) (z : Int), j < k + 1 → (aboveTo xs ys 4)[j]? = some z → hasB os z = true from fun j z hj hz => by
          rcases Nat.lt_succ_iff_lt_or_eq.1 hj with h' | rfl
          · exact hpre.out j z h' hz
          · rw [ex.out] at hz; cases hz; exact h4)
        have C2 := Lib.hid (show Calls Tryd.prog 41 #[.slice O q e0, .int .i64 x] wA fun e w' => e = .returned (.bool true) ∧ wA = w' from by have := C.out; rw [h4] at this; exact this)
        clear C
        go_wp2_with (go_at_call 41; refine (Calls.mono C2.out ?_); rintro e w' ⟨rfl, rfl⟩)
        exact ⟨⟨k + 1, by omega, by go_num, hs1⟩, by simp [intOf]; omega⟩
    · obtain rfl : k = nl := by omega
      have hy := Lib.hid (flow_all (os := os) H0.out H1.out H2.out (fun j z hz => hpre.out j z (by have := (List.getElem?_eq_some_iff.1 hz).1; have := HGl.out; omega) hz))
      go_wp2
      go_ret
      exact ⟨by rw [hy.out]; rfl, hBA⟩
theorem implFlowsFor_any (O A B : Option Addr) (q n m e0 c d : Nat) (os xs ys : List Int) (w : World) (hK : Ints w O os) (ho : os.length = q) (hqb : q ≤ 1099511627776) (hI : Ints w A xs) (hn : xs.length = n) (hnb : n ≤ 1099511627776) (hJ : Ints w B ys) (hm : ys.length = m) (hmb : m ≤ 1099511627776) :
    Calls Tryd.prog 31 #[.slice O q e0, lab A n c, lab B m d] w fun e w' => e = .returned (.bool (flowB os xs ys)) ∧ Below w.heap.size w w' := by
  cases h1 : ownB os
  · exact implFlowsFor_no1 O A B q n m e0 c d os xs ys w hK ho hqb hI hn hnb hJ hm hmb h1
  · cases h2 : labB xs
    · exact implFlowsFor_no2 O A B q n m e0 c d os xs ys w hK ho hqb hI hn hnb hJ hm hmb h1 h2
    · cases h3 : labB ys
      · exact implFlowsFor_no3 O A B q n m e0 c d os xs ys w hK ho hqb hI hn hnb hJ hm hmb h1 h2 h3
      · exact implFlowsFor_yes O A B q n m e0 c d os xs ys w hK ho hqb hI hn hnb hJ hm hmb h1 h2 h3
theorem ownB_nil : ownB [] = true := rfl
set_option maxHeartbeats 1600000 in
theorem implFlows_any (A B : Option Addr) (n m c d : Nat) (xs ys : List Int) (w : World) (hI : Ints w A xs) (hn : xs.length = n) (hnb : n ≤ 1099511627776) (hJ : Ints w B ys) (hm : ys.length = m) (hmb : m ≤ 1099511627776) :
    Calls Tryd.prog 17 #[lab A n c, lab B m d] w fun e w' => e = .returned (.bool (flowB [] xs ys)) ∧ Below w.heap.size w w' := by
  have HN := Lib.hid hn; have HM := Lib.hid hm
  clear hn hm
  go_enter Tryd.func17, Tryd.ntmps17
  go_wp2_with fail
  refine (implFlowsFor_any none A B 0 n m 0 c d [] xs ys _ (.inl rfl) rfl (by omega) ((hI.alloc _).alloc _) HN.out hnb ((hJ.alloc _).alloc _) HM.out hmb).mono ?_
  rintro e w1 ⟨rfl, hb⟩
  have hB : Below w.heap.size w w1 := Below.trans (by (repeat (first | exact Below.refl _ _ | assumption | refine Below.drew ?_ | refine Below.alloc ?_ ?_ _ | refine Below.setCell ?_ ?_ _)) <;> ((try simp) <;> omega)) (hb.mono (by simp; omega))
  go_wp2_with fail
  go_ret
  exact ⟨rfl, hB⟩
end Go.Proofs.YtkcchceoljlnaaaDoor
