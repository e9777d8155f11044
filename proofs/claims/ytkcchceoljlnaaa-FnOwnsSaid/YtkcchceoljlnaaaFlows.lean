/- Contracts of FlowsFor and Flows. -/
import Derived.Test.YtkcchceoljlnaaaOwn
import Derived.Test.YtkcchceoljlnaaaHas
import Derived.Test.YtkcchceoljlnaaaAbove
namespace Go.Proofs.Ytkcchceoljlnaaa
set_option linter.unusedSimpArgs false
set_option linter.unusedVariables false
open Go.RowKit

def flowAt (os xs ys : List Int) (i : Nat) : Bool := decide (xs.getD i 0 ≤ ys.getD i 0) || hasB os (i : Int)
def flowB (os xs ys : List Int) : Bool := ownB os && labB xs && labB ys && (List.range 4).all (flowAt os xs ys)
theorem flowB_no1 {os xs ys : List Int} (h : ownB os = false) : flowB os xs ys = false := by simp [flowB, h]
theorem flowB_no2 {os xs ys : List Int} (h : labB xs = false) : flowB os xs ys = false := by simp [flowB, h]
theorem flowB_no3 {os xs ys : List Int} (h : labB ys = false) : flowB os xs ys = false := by simp [flowB, h]
theorem flowB_no {os xs ys : List Int} {k : Nat} (hk : k < 4) (h : flowAt os xs ys k = false) : flowB os xs ys = false := by
  have : (List.range 4).all (flowAt os xs ys) = false := by
    simp only [List.all_eq_false, List.mem_range]; exact ⟨k, hk, by simp [h]⟩
  simp [flowB, this]
theorem flowB_yes {os xs ys : List Int} (h1 : ownB os = true) (h2 : labB xs = true) (h3 : labB ys = true) (h : ∀ i, i < 4 → flowAt os xs ys i = true) : flowB os xs ys = true := by
  have : (List.range 4).all (flowAt os xs ys) = true := by
    simp only [List.all_eq_true, List.mem_range]; exact h
  simp [flowB, this, h1, h2, h3]
theorem labB_four {xs : List Int} (h : labB xs = true) : xs.length = 4 := by
  simp only [labB, Bool.and_eq_true, decide_eq_true_eq] at h; exact h.1

set_option maxHeartbeats 1600000 in
theorem specFlowsFor_no1 (O A B : Option Addr) (q n m e0 c d : Nat) (os xs ys : List Int) (w : World) (hK : Ints w O os) (ho : os.length = q) (hqb : q ≤ 1099511627776) (hI : Ints w A xs) (hn : xs.length = n) (hnb : n ≤ 1099511627776) (hJ : Ints w B ys) (hm : ys.length = m) (hmb : m ≤ 1099511627776) (h1 : ownB os = false) :
    Calls Try.prog 37 #[.slice O q e0, lab A n c, lab B m d] w fun e w' => e = .returned (.bool (flowB os xs ys)) ∧ Below w.heap.size w w' := by
  have HO := Lib.hid ho
  have HN := Lib.hid hn; have HM := Lib.hid hm
  clear hn hm ho
  have HF := Lib.hid (flowB_no1 (os := os) (xs := xs) (ys := ys) h1)
  go_enter Try.func37, Try.ntmps37
  go_wp2_with fail
  refine (specOwnOk_any O q e0 os _ (Ints.alloc (Ints.alloc hK _) _) HO.out hqb).mono ?_
  rintro e w1 ⟨rfl, hb⟩
  have ca : w1.cell? ⟨w.heap.size, 0, none⟩ = some (.slice A n c) := Below.keeps hb (by simp)
  have cb : w1.cell? ⟨w.heap.size + 1, 0, none⟩ = some (.slice B m d) := Below.keeps hb (by simp)
  have hK : Ints w1 O os := Ints.below (Ints.alloc (Ints.alloc hK _) _) hb
  have hI : Ints w1 A xs := Ints.below (Ints.alloc (Ints.alloc hI _) _) hb
  have hJ : Ints w1 B ys := Ints.below (Ints.alloc (Ints.alloc hJ _) _) hb
  have lca : w.heap.size < w1.heap.size := lt_of_cell ca
  have lcb : w.heap.size + 1 < w1.heap.size := lt_of_cell cb
  have hB : Below w.heap.size w w1 := Below.trans (by (repeat (first | exact Below.refl _ _ | assumption | refine Below.drew ?_ | refine Below.alloc ?_ ?_ _ | refine Below.setCell ?_ ?_ _)) <;> ((try simp) <;> omega)) (hb.mono (by (try simp) <;> omega))
  have hs := hB.size
  clear hb
  go_wp2_with fail
  go_ret
  exact ⟨by rw [HF.out]; rfl, hB⟩
set_option maxHeartbeats 1600000 in
theorem specFlowsFor_no2 (O A B : Option Addr) (q n m e0 c d : Nat) (os xs ys : List Int) (w : World) (hK : Ints w O os) (ho : os.length = q) (hqb : q ≤ 1099511627776) (hI : Ints w A xs) (hn : xs.length = n) (hnb : n ≤ 1099511627776) (hJ : Ints w B ys) (hm : ys.length = m) (hmb : m ≤ 1099511627776) (h1 : ownB os = true) (h2 : labB xs = false) :
    Calls Try.prog 37 #[.slice O q e0, lab A n c, lab B m d] w fun e w' => e = .returned (.bool (flowB os xs ys)) ∧ Below w.heap.size w w' := by
  have HO := Lib.hid ho
  have HN := Lib.hid hn; have HM := Lib.hid hm
  clear hn hm ho
  have HF := Lib.hid (flowB_no2 (os := os) (xs := xs) (ys := ys) h2)
  go_enter Try.func37, Try.ntmps37
  go_wp2_with fail
  refine (specOwnOk_any O q e0 os _ (Ints.alloc (Ints.alloc hK _) _) HO.out hqb).mono ?_
  rintro e w1 ⟨rfl, hb⟩
  have ca : w1.cell? ⟨w.heap.size, 0, none⟩ = some (.slice A n c) := Below.keeps hb (by simp)
  have cb : w1.cell? ⟨w.heap.size + 1, 0, none⟩ = some (.slice B m d) := Below.keeps hb (by simp)
  have hK : Ints w1 O os := Ints.below (Ints.alloc (Ints.alloc hK _) _) hb
  have hI : Ints w1 A xs := Ints.below (Ints.alloc (Ints.alloc hI _) _) hb
  have hJ : Ints w1 B ys := Ints.below (Ints.alloc (Ints.alloc hJ _) _) hb
  have lca : w.heap.size < w1.heap.size := lt_of_cell ca
  have lcb : w.heap.size + 1 < w1.heap.size := lt_of_cell cb
  have hB : Below w.heap.size w w1 := Below.trans (by (repeat (first | exact Below.refl _ _ | assumption | refine Below.drew ?_ | refine Below.alloc ?_ ?_ _ | refine Below.setCell ?_ ?_ _)) <;> ((try simp) <;> omega)) (hb.mono (by (try simp) <;> omega))
  have hs := hB.size
  clear hb
  go_wp2_with fail
  refine (specLabelOk_any A n c xs _ hI HN.out hnb).mono ?_
  rintro e w2 ⟨rfl, hb⟩
  have ca : w2.cell? ⟨w.heap.size, 0, none⟩ = some (.slice A n c) := Below.keeps hb ca
  have cb : w2.cell? ⟨w.heap.size + 1, 0, none⟩ = some (.slice B m d) := Below.keeps hb cb
  have hK : Ints w2 O os := Ints.keep hK (fun _ _ h => Below.keeps hb h)
  have hI : Ints w2 A xs := Ints.keep hI (fun _ _ h => Below.keeps hb h)
  have hJ : Ints w2 B ys := Ints.keep hJ (fun _ _ h => Below.keeps hb h)
  have lca : w.heap.size < w2.heap.size := lt_of_cell ca
  have lcb : w.heap.size + 1 < w2.heap.size := lt_of_cell cb
  have hB : Below w.heap.size w w2 := Below.trans hB (hb.mono hs)
  have hs := hB.size
  clear hb
  go_wp2_with fail
  go_ret
  exact ⟨by rw [HF.out]; rfl, hB⟩
set_option maxHeartbeats 1600000 in
theorem specFlowsFor_no3 (O A B : Option Addr) (q n m e0 c d : Nat) (os xs ys : List Int) (w : World) (hK : Ints w O os) (ho : os.length = q) (hqb : q ≤ 1099511627776) (hI : Ints w A xs) (hn : xs.length = n) (hnb : n ≤ 1099511627776) (hJ : Ints w B ys) (hm : ys.length = m) (hmb : m ≤ 1099511627776) (h1 : ownB os = true) (h2 : labB xs = true) (h3 : labB ys = false) :
    Calls Try.prog 37 #[.slice O q e0, lab A n c, lab B m d] w fun e w' => e = .returned (.bool (flowB os xs ys)) ∧ Below w.heap.size w w' := by
  have HO := Lib.hid ho
  have HN := Lib.hid hn; have HM := Lib.hid hm
  clear hn hm ho
  have HF := Lib.hid (flowB_no3 (os := os) (xs := xs) (ys := ys) h3)
  go_enter Try.func37, Try.ntmps37
  go_wp2_with fail
  refine (specOwnOk_any O q e0 os _ (Ints.alloc (Ints.alloc hK _) _) HO.out hqb).mono ?_
  rintro e w1 ⟨rfl, hb⟩
  have ca : w1.cell? ⟨w.heap.size, 0, none⟩ = some (.slice A n c) := Below.keeps hb (by simp)
  have cb : w1.cell? ⟨w.heap.size + 1, 0, none⟩ = some (.slice B m d) := Below.keeps hb (by simp)
  have hK : Ints w1 O os := Ints.below (Ints.alloc (Ints.alloc hK _) _) hb
  have hI : Ints w1 A xs := Ints.below (Ints.alloc (Ints.alloc hI _) _) hb
  have hJ : Ints w1 B ys := Ints.below (Ints.alloc (Ints.alloc hJ _) _) hb
  have lca : w.heap.size < w1.heap.size := lt_of_cell ca
  have lcb : w.heap.size + 1 < w1.heap.size := lt_of_cell cb
  have hB : Below w.heap.size w w1 := Below.trans (by (repeat (first | exact Below.refl _ _ | assumption | refine Below.drew ?_ | refine Below.alloc ?_ ?_ _ | refine Below.setCell ?_ ?_ _)) <;> ((try simp) <;> omega)) (hb.mono (by (try simp) <;> omega))
  have hs := hB.size
  clear hb
  go_wp2_with fail
  refine (specLabelOk_any A n c xs _ hI HN.out hnb).mono ?_
  rintro e w2 ⟨rfl, hb⟩
  have ca : w2.cell? ⟨w.heap.size, 0, none⟩ = some (.slice A n c) := Below.keeps hb ca
  have cb : w2.cell? ⟨w.heap.size + 1, 0, none⟩ = some (.slice B m d) := Below.keeps hb cb
  have hK : Ints w2 O os := Ints.keep hK (fun _ _ h => Below.keeps hb h)
  have hI : Ints w2 A xs := Ints.keep hI (fun _ _ h => Below.keeps hb h)
  have hJ : Ints w2 B ys := Ints.keep hJ (fun _ _ h => Below.keeps hb h)
  have lca : w.heap.size < w2.heap.size := lt_of_cell ca
  have lcb : w.heap.size + 1 < w2.heap.size := lt_of_cell cb
  have hB : Below w.heap.size w w2 := Below.trans hB (hb.mono hs)
  have hs := hB.size
  clear hb
  go_wp2_with fail
  refine (specLabelOk_any B m d ys _ hJ HM.out hmb).mono ?_
  rintro e w3 ⟨rfl, hb⟩
  have ca : w3.cell? ⟨w.heap.size, 0, none⟩ = some (.slice A n c) := Below.keeps hb ca
  have cb : w3.cell? ⟨w.heap.size + 1, 0, none⟩ = some (.slice B m d) := Below.keeps hb cb
  have hK : Ints w3 O os := Ints.keep hK (fun _ _ h => Below.keeps hb h)
  have hI : Ints w3 A xs := Ints.keep hI (fun _ _ h => Below.keeps hb h)
  have hJ : Ints w3 B ys := Ints.keep hJ (fun _ _ h => Below.keeps hb h)
  have lca : w.heap.size < w3.heap.size := lt_of_cell ca
  have lcb : w.heap.size + 1 < w3.heap.size := lt_of_cell cb
  have hB : Below w.heap.size w w3 := Below.trans hB (hb.mono hs)
  have hs := hB.size
  clear hb
  go_wp2_with fail
  go_ret
  exact ⟨by rw [HF.out]; rfl, hB⟩
set_option maxHeartbeats 6400000 in
theorem specFlowsFor_yes (O A B : Option Addr) (q n m e0 c d : Nat) (os xs ys : List Int) (w : World) (hK : Ints w O os) (ho : os.length = q) (hqb : q ≤ 1099511627776) (hI : Ints w A xs) (hn : xs.length = n) (hnb : n ≤ 1099511627776) (hJ : Ints w B ys) (hm : ys.length = m) (hmb : m ≤ 1099511627776) (h1 : ownB os = true) (h2 : labB xs = true) (h3 : labB ys = true) :
    Calls Try.prog 37 #[.slice O q e0, lab A n c, lab B m d] w fun e w' => e = .returned (.bool (flowB os xs ys)) ∧ Below w.heap.size w w' := by
  obtain rfl : n = 4 := hn.symm.trans (labB_four h2)
  obtain rfl : m = 4 := hm.symm.trans (labB_four h3)
  have HO := Lib.hid ho
  have HN := Lib.hid hn; have HM := Lib.hid hm
  clear hn hm ho
  go_enter Try.func37, Try.ntmps37
  go_wp2_with fail
  refine (specOwnOk_any O q e0 os _ (Ints.alloc (Ints.alloc hK _) _) HO.out hqb).mono ?_
  rintro e w1 ⟨rfl, hb⟩
  have ca : w1.cell? ⟨w.heap.size, 0, none⟩ = some (.slice A 4 c) := Below.keeps hb (by simp)
  have cb : w1.cell? ⟨w.heap.size + 1, 0, none⟩ = some (.slice B 4 d) := Below.keeps hb (by simp)
  have hK : Ints w1 O os := Ints.below (Ints.alloc (Ints.alloc hK _) _) hb
  have hI : Ints w1 A xs := Ints.below (Ints.alloc (Ints.alloc hI _) _) hb
  have hJ : Ints w1 B ys := Ints.below (Ints.alloc (Ints.alloc hJ _) _) hb
  have lca : w.heap.size < w1.heap.size := lt_of_cell ca
  have lcb : w.heap.size + 1 < w1.heap.size := lt_of_cell cb
  have hB : Below w.heap.size w w1 := Below.trans (by (repeat (first | exact Below.refl _ _ | assumption | refine Below.drew ?_ | refine Below.alloc ?_ ?_ _ | refine Below.setCell ?_ ?_ _)) <;> ((try simp) <;> omega)) (hb.mono (by (try simp) <;> omega))
  have hs := hB.size
  clear hb
  go_wp2_with fail
  refine (specLabelOk_any A 4 c xs _ hI HN.out hnb).mono ?_
  rintro e w2 ⟨rfl, hb⟩
  have ca : w2.cell? ⟨w.heap.size, 0, none⟩ = some (.slice A 4 c) := Below.keeps hb ca
  have cb : w2.cell? ⟨w.heap.size + 1, 0, none⟩ = some (.slice B 4 d) := Below.keeps hb cb
  have hK : Ints w2 O os := Ints.keep hK (fun _ _ h => Below.keeps hb h)
  have hI : Ints w2 A xs := Ints.keep hI (fun _ _ h => Below.keeps hb h)
  have hJ : Ints w2 B ys := Ints.keep hJ (fun _ _ h => Below.keeps hb h)
  have lca : w.heap.size < w2.heap.size := lt_of_cell ca
  have lcb : w.heap.size + 1 < w2.heap.size := lt_of_cell cb
  have hB : Below w.heap.size w w2 := Below.trans hB (hb.mono hs)
  have hs := hB.size
  clear hb
  go_wp2_with fail
  refine (specLabelOk_any B 4 d ys _ hJ HM.out hmb).mono ?_
  rintro e w3 ⟨rfl, hb⟩
  have ca : w3.cell? ⟨w.heap.size, 0, none⟩ = some (.slice A 4 c) := Below.keeps hb ca
  have cb : w3.cell? ⟨w.heap.size + 1, 0, none⟩ = some (.slice B 4 d) := Below.keeps hb cb
  have hK : Ints w3 O os := Ints.keep hK (fun _ _ h => Below.keeps hb h)
  have hI : Ints w3 A xs := Ints.keep hI (fun _ _ h => Below.keeps hb h)
  have hJ : Ints w3 B ys := Ints.keep hJ (fun _ _ h => Below.keeps hb h)
  have lca : w.heap.size < w3.heap.size := lt_of_cell ca
  have lcb : w.heap.size + 1 < w3.heap.size := lt_of_cell cb
  have hB : Below w.heap.size w w3 := Below.trans hB (hb.mono hs)
  have hs := hB.size
  clear hb
  have HI := Lib.hid hI; have HJ := Lib.hid hJ; have HK := Lib.hid hK
  clear hI hJ hK
  have H1 := Lib.hid h2; have H2 := Lib.hid h3
  go_wp2_with fail
  clear h2 h3
  go_loopw [7] (fun i wr => ∃ k : Nat, k ≤ 4 ∧ i = .int .i64 k ∧ Hid (∀ i, i < k → flowAt os xs ys i = true) ∧ Below w3.heap.size w3 wr) (fun i _ => 4 - (intOf i).toNat)
  case atStart => exact ⟨0, Nat.zero_le _, rfl, fun i hi => absurd hi (by omega), Below.refl _ _⟩
  case round =>
    obtain ⟨k, hk, rfl, hpre, hC⟩ := hrel
    have d0 : wr.cell? ⟨w.heap.size, 0, none⟩ = some (.slice A 4 c) := Below.keeps hC ca
    have d1 : wr.cell? ⟨w.heap.size + 1, 0, none⟩ = some (.slice B 4 d) := Below.keeps hC cb
    by_cases hlt : k < 4
    · obtain ⟨b, off, rfl, hb, hcx⟩ := (Ints.at_ (HI.out) (k := k) (by have := HN.out; omega))
      obtain ⟨b', off', rfl, hb', hcy⟩ := (Ints.at_ (HJ.out) (k := k) (by have := HM.out; omega))
      have hcx := (hC.cell (p := ⟨b, off + k, none⟩) hb).trans hcx
      have hcy := (hC.cell (p := ⟨b', off' + k, none⟩) hb').trans hcy
      have ex := Lib.hid (show xs.getD k 0 = xs[k]'(by have := HN.out; omega) from by rw [List.getD, List.getElem?_eq_getElem (by have := HN.out; omega)]; rfl)
      have ey := Lib.hid (show ys.getD k 0 = ys[k]'(by have := HM.out; omega) from by rw [List.getD, List.getElem?_eq_getElem (by have := HM.out; omega)]; rfl)
      generalize xs[k]'(by have := HN.out; omega) = x at *
      generalize ys[k]'(by have := HM.out; omega) = y at *
      have hlt2 : (k : Int) < 4 := by omega
      have hk0 : (0 : Int) ≤ (k : Int) := by omega
      have step : flowAt os xs ys k = true → ∀ i, i < k + 1 → flowAt os xs ys i = true := fun h i hi => by
        rcases Nat.lt_succ_iff_lt_or_eq.1 hi with h' | rfl
        · exact hpre.out i h'
        · exact h
      have ST := Lib.hid step
      clear step

      have hKr : Ints wr O os := HK.out.below hC
      have C := Lib.hid (fun nq => quiet_left (l4Has_any O q e0 os (k : Int) (wr.drewN nq) (hKr.keep fun _ _ h => h) HO.out hqb))
      clear hKr
      by_cases hxy : y < x
      · have hd : decide (y < x) = true := decide_eq_true hxy
        cases h4 : hasB os (k : Int)
        · have hno := Lib.hid (flowB_no (os := os) (xs := xs) (ys := ys) hlt (by rw [flowAt, ex.out, ey.out, h4]; simp; omega))
          go_wp2_with fail
          go_quiet ((go_at_call 51; (have C2 := C.out; rw [h4] at C2; exact C2 _)))
          go_wp2
          go_ret
          exact ⟨by rw [hno.out]; rfl, hB.trans ((below_drewN hC _).mono hs)⟩
        · have hs1 := Lib.hid (ST.out (by rw [flowAt, h4]; simp))
          go_wp2_with fail
          go_quiet ((go_at_call 51; (have C2 := C.out; rw [h4] at C2; exact C2 _)))
          go_wp2
          exact ⟨⟨k + 1, by omega, by go_num, hs1, below_drewN hC _⟩, by simp [intOf]; omega⟩
      · have hd : decide (y < x) = false := decide_eq_false hxy
        have hs1 := Lib.hid (ST.out (by rw [flowAt, ex.out, ey.out]; simp; left; omega))
        clear C
        go_wp2_with fail
        go_quiet (fail)
        go_wp2
        exact ⟨⟨k + 1, by omega, by go_num, hs1, below_drewN hC _⟩, by simp [intOf]; omega⟩
    · obtain rfl : k = 4 := by omega
      have hy := Lib.hid (flowB_yes (os := os) h1 H1.out H2.out hpre.out)
      go_wp2
      go_ret
      exact ⟨by rw [hy.out]; rfl, hB.trans (hC.mono hs)⟩
theorem specFlowsFor_any (O A B : Option Addr) (q n m e0 c d : Nat) (os xs ys : List Int) (w : World) (hK : Ints w O os) (ho : os.length = q) (hqb : q ≤ 1099511627776) (hI : Ints w A xs) (hn : xs.length = n) (hnb : n ≤ 1099511627776) (hJ : Ints w B ys) (hm : ys.length = m) (hmb : m ≤ 1099511627776) :
    Calls Try.prog 37 #[.slice O q e0, lab A n c, lab B m d] w fun e w' => e = .returned (.bool (flowB os xs ys)) ∧ Below w.heap.size w w' := by
  cases h1 : ownB os
  · exact specFlowsFor_no1 O A B q n m e0 c d os xs ys w hK ho hqb hI hn hnb hJ hm hmb h1
  · cases h2 : labB xs
    · exact specFlowsFor_no2 O A B q n m e0 c d os xs ys w hK ho hqb hI hn hnb hJ hm hmb h1 h2
    · cases h3 : labB ys
      · exact specFlowsFor_no3 O A B q n m e0 c d os xs ys w hK ho hqb hI hn hnb hJ hm hmb h1 h2 h3
      · exact specFlowsFor_yes O A B q n m e0 c d os xs ys w hK ho hqb hI hn hnb hJ hm hmb h1 h2 h3
set_option maxHeartbeats 1600000 in
theorem specFlows_no2 (A B : Option Addr) (n m c d : Nat) (xs ys : List Int) (w : World) (hI : Ints w A xs) (hn : xs.length = n) (hnb : n ≤ 1099511627776) (hJ : Ints w B ys) (hm : ys.length = m) (hmb : m ≤ 1099511627776) (h2 : labB xs = false) :
    Calls Try.prog 35 #[lab A n c, lab B m d] w fun e w' => e = .returned (.bool (flowB [] xs ys)) ∧ Below w.heap.size w w' := by
  have HN := Lib.hid hn; have HM := Lib.hid hm
  clear hn hm
  have HF := Lib.hid (flowB_no2 (os := []) (xs := xs) (ys := ys) h2)
  go_enter Try.func35, Try.ntmps35
  go_wp2_with fail
  refine (specLabelOk_any A n c xs _ (Ints.alloc (Ints.alloc hI _) _) HN.out hnb).mono ?_
  rintro e w1 ⟨rfl, hb⟩
  have ca : w1.cell? ⟨w.heap.size, 0, none⟩ = some (.slice A n c) := Below.keeps hb (by simp)
  have cb : w1.cell? ⟨w.heap.size + 1, 0, none⟩ = some (.slice B m d) := Below.keeps hb (by simp)
  have hI : Ints w1 A xs := Ints.below (Ints.alloc (Ints.alloc hI _) _) hb
  have hJ : Ints w1 B ys := Ints.below (Ints.alloc (Ints.alloc hJ _) _) hb
  have lca : w.heap.size < w1.heap.size := lt_of_cell ca
  have lcb : w.heap.size + 1 < w1.heap.size := lt_of_cell cb
  have hB : Below w.heap.size w w1 := Below.trans (by (repeat (first | exact Below.refl _ _ | assumption | refine Below.drew ?_ | refine Below.alloc ?_ ?_ _ | refine Below.setCell ?_ ?_ _)) <;> ((try simp) <;> omega)) (hb.mono (by (try simp) <;> omega))
  have hs := hB.size
  clear hb
  go_wp2_with fail
  go_ret
  exact ⟨by rw [HF.out]; rfl, hB⟩
set_option maxHeartbeats 1600000 in
theorem specFlows_no3 (A B : Option Addr) (n m c d : Nat) (xs ys : List Int) (w : World) (hI : Ints w A xs) (hn : xs.length = n) (hnb : n ≤ 1099511627776) (hJ : Ints w B ys) (hm : ys.length = m) (hmb : m ≤ 1099511627776) (h2 : labB xs = true) (h3 : labB ys = false) :
    Calls Try.prog 35 #[lab A n c, lab B m d] w fun e w' => e = .returned (.bool (flowB [] xs ys)) ∧ Below w.heap.size w w' := by
  have HN := Lib.hid hn; have HM := Lib.hid hm
  clear hn hm
  have HF := Lib.hid (flowB_no3 (os := []) (xs := xs) (ys := ys) h3)
  go_enter Try.func35, Try.ntmps35
  go_wp2_with fail
  refine (specLabelOk_any A n c xs _ (Ints.alloc (Ints.alloc hI _) _) HN.out hnb).mono ?_
  rintro e w1 ⟨rfl, hb⟩
  have ca : w1.cell? ⟨w.heap.size, 0, none⟩ = some (.slice A n c) := Below.keeps hb (by simp)
  have cb : w1.cell? ⟨w.heap.size + 1, 0, none⟩ = some (.slice B m d) := Below.keeps hb (by simp)
  have hI : Ints w1 A xs := Ints.below (Ints.alloc (Ints.alloc hI _) _) hb
  have hJ : Ints w1 B ys := Ints.below (Ints.alloc (Ints.alloc hJ _) _) hb
  have lca : w.heap.size < w1.heap.size := lt_of_cell ca
  have lcb : w.heap.size + 1 < w1.heap.size := lt_of_cell cb
  have hB : Below w.heap.size w w1 := Below.trans (by (repeat (first | exact Below.refl _ _ | assumption | refine Below.drew ?_ | refine Below.alloc ?_ ?_ _ | refine Below.setCell ?_ ?_ _)) <;> ((try simp) <;> omega)) (hb.mono (by (try simp) <;> omega))
  have hs := hB.size
  clear hb
  go_wp2_with fail
  refine (specLabelOk_any B m d ys _ hJ HM.out hmb).mono ?_
  rintro e w2 ⟨rfl, hb⟩
  have ca : w2.cell? ⟨w.heap.size, 0, none⟩ = some (.slice A n c) := Below.keeps hb ca
  have cb : w2.cell? ⟨w.heap.size + 1, 0, none⟩ = some (.slice B m d) := Below.keeps hb cb
  have hI : Ints w2 A xs := Ints.keep hI (fun _ _ h => Below.keeps hb h)
  have hJ : Ints w2 B ys := Ints.keep hJ (fun _ _ h => Below.keeps hb h)
  have lca : w.heap.size < w2.heap.size := lt_of_cell ca
  have lcb : w.heap.size + 1 < w2.heap.size := lt_of_cell cb
  have hB : Below w.heap.size w w2 := Below.trans hB (hb.mono hs)
  have hs := hB.size
  clear hb
  go_wp2_with fail
  go_ret
  exact ⟨by rw [HF.out]; rfl, hB⟩
set_option maxHeartbeats 6400000 in
theorem specFlows_yes (A B : Option Addr) (n m c d : Nat) (xs ys : List Int) (w : World) (hI : Ints w A xs) (hn : xs.length = n) (hnb : n ≤ 1099511627776) (hJ : Ints w B ys) (hm : ys.length = m) (hmb : m ≤ 1099511627776) (h2 : labB xs = true) (h3 : labB ys = true) :
    Calls Try.prog 35 #[lab A n c, lab B m d] w fun e w' => e = .returned (.bool (flowB [] xs ys)) ∧ Below w.heap.size w w' := by
  obtain rfl : n = 4 := hn.symm.trans (labB_four h2)
  obtain rfl : m = 4 := hm.symm.trans (labB_four h3)
  have HN := Lib.hid hn; have HM := Lib.hid hm
  clear hn hm
  go_enter Try.func35, Try.ntmps35
  go_wp2_with fail
  refine (specLabelOk_any A 4 c xs _ (Ints.alloc (Ints.alloc hI _) _) HN.out hnb).mono ?_
  rintro e w1 ⟨rfl, hb⟩
  have ca : w1.cell? ⟨w.heap.size, 0, none⟩ = some (.slice A 4 c) := Below.keeps hb (by simp)
  have cb : w1.cell? ⟨w.heap.size + 1, 0, none⟩ = some (.slice B 4 d) := Below.keeps hb (by simp)
  have hI : Ints w1 A xs := Ints.below (Ints.alloc (Ints.alloc hI _) _) hb
  have hJ : Ints w1 B ys := Ints.below (Ints.alloc (Ints.alloc hJ _) _) hb
  have lca : w.heap.size < w1.heap.size := lt_of_cell ca
  have lcb : w.heap.size + 1 < w1.heap.size := lt_of_cell cb
  have hB : Below w.heap.size w w1 := Below.trans (by (repeat (first | exact Below.refl _ _ | assumption | refine Below.drew ?_ | refine Below.alloc ?_ ?_ _ | refine Below.setCell ?_ ?_ _)) <;> ((try simp) <;> omega)) (hb.mono (by (try simp) <;> omega))
  have hs := hB.size
  clear hb
  go_wp2_with fail
  refine (specLabelOk_any B 4 d ys _ hJ HM.out hmb).mono ?_
  rintro e w2 ⟨rfl, hb⟩
  have ca : w2.cell? ⟨w.heap.size, 0, none⟩ = some (.slice A 4 c) := Below.keeps hb ca
  have cb : w2.cell? ⟨w.heap.size + 1, 0, none⟩ = some (.slice B 4 d) := Below.keeps hb cb
  have hI : Ints w2 A xs := Ints.keep hI (fun _ _ h => Below.keeps hb h)
  have hJ : Ints w2 B ys := Ints.keep hJ (fun _ _ h => Below.keeps hb h)
  have lca : w.heap.size < w2.heap.size := lt_of_cell ca
  have lcb : w.heap.size + 1 < w2.heap.size := lt_of_cell cb
  have hB : Below w.heap.size w w2 := Below.trans hB (hb.mono hs)
  have hs := hB.size
  clear hb
  have HI := Lib.hid hI; have HJ := Lib.hid hJ
  clear hI hJ
  have H1 := Lib.hid h2; have H2 := Lib.hid h3
  go_wp2_with fail
  clear h2 h3
  go_loopw [5] (fun i wr => ∃ k : Nat, k ≤ 4 ∧ i = .int .i64 k ∧ Hid (∀ i, i < k → flowAt [] xs ys i = true) ∧ Below w2.heap.size w2 wr) (fun i _ => 4 - (intOf i).toNat)
  case atStart => exact ⟨0, Nat.zero_le _, rfl, fun i hi => absurd hi (by omega), Below.refl _ _⟩
  case round =>
    obtain ⟨k, hk, rfl, hpre, hC⟩ := hrel
    have d0 : wr.cell? ⟨w.heap.size, 0, none⟩ = some (.slice A 4 c) := Below.keeps hC ca
    have d1 : wr.cell? ⟨w.heap.size + 1, 0, none⟩ = some (.slice B 4 d) := Below.keeps hC cb
    by_cases hlt : k < 4
    · obtain ⟨b, off, rfl, hb, hcx⟩ := (Ints.at_ (HI.out) (k := k) (by have := HN.out; omega))
      obtain ⟨b', off', rfl, hb', hcy⟩ := (Ints.at_ (HJ.out) (k := k) (by have := HM.out; omega))
      have hcx := (hC.cell (p := ⟨b, off + k, none⟩) hb).trans hcx
      have hcy := (hC.cell (p := ⟨b', off' + k, none⟩) hb').trans hcy
      have ex := Lib.hid (show xs.getD k 0 = xs[k]'(by have := HN.out; omega) from by rw [List.getD, List.getElem?_eq_getElem (by have := HN.out; omega)]; rfl)
      have ey := Lib.hid (show ys.getD k 0 = ys[k]'(by have := HM.out; omega) from by rw [List.getD, List.getElem?_eq_getElem (by have := HM.out; omega)]; rfl)
      generalize xs[k]'(by have := HN.out; omega) = x at *
      generalize ys[k]'(by have := HM.out; omega) = y at *
      have hlt2 : (k : Int) < 4 := by omega
      have hk0 : (0 : Int) ≤ (k : Int) := by omega
      have step : flowAt [] xs ys k = true → ∀ i, i < k + 1 → flowAt [] xs ys i = true := fun h i hi => by
        rcases Nat.lt_succ_iff_lt_or_eq.1 hi with h' | rfl
        · exact hpre.out i h'
        · exact h
      have ST := Lib.hid step
      clear step

      by_cases hxy : y < x
      · have hno := Lib.hid (flowB_no (os := []) (xs := xs) (ys := ys) hlt (by rw [flowAt, ex.out, ey.out]; simp [hasB]; omega))
        have hd : decide (y < x) = true := decide_eq_true hxy
        go_wp2_with fail
        go_quiet (fail)
        go_wp2
        go_ret
        exact ⟨by rw [hno.out]; rfl, hB.trans ((below_drewN hC _).mono hs)⟩
      · have hd : decide (y < x) = false := decide_eq_false hxy
        have hs1 := Lib.hid (ST.out (by rw [flowAt, ex.out, ey.out]; simp; left; omega))
        go_wp2_with fail
        go_quiet (fail)
        go_wp2
        exact ⟨⟨k + 1, by omega, by go_num, hs1, below_drewN hC _⟩, by simp [intOf]; omega⟩
    · obtain rfl : k = 4 := by omega
      have hy := Lib.hid (flowB_yes (os := []) rfl H1.out H2.out hpre.out)
      go_wp2
      go_ret
      exact ⟨by rw [hy.out]; rfl, hB.trans (hC.mono hs)⟩
theorem specFlows_any (A B : Option Addr) (n m c d : Nat) (xs ys : List Int) (w : World) (hI : Ints w A xs) (hn : xs.length = n) (hnb : n ≤ 1099511627776) (hJ : Ints w B ys) (hm : ys.length = m) (hmb : m ≤ 1099511627776) :
    Calls Try.prog 35 #[lab A n c, lab B m d] w fun e w' => e = .returned (.bool (flowB [] xs ys)) ∧ Below w.heap.size w w' := by
  cases h2 : labB xs
  · exact specFlows_no2 A B n m c d xs ys w hI hn hnb hJ hm hmb h2
  · cases h3 : labB ys
    · exact specFlows_no3 A B n m c d xs ys w hI hn hnb hJ hm hmb h2 h3
    · exact specFlows_yes A B n m c d xs ys w hI hn hnb hJ hm hmb h2 h3
end Go.Proofs.Ytkcchceoljlnaaa
