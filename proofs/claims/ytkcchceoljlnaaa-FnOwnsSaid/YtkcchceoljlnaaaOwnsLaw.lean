/- FnOwns: the plain law; what has computes. -/
import Derived.Test.YtkcchceoljlnaaaDrawOwns
namespace Go.Proofs.Ytkcchceoljlnaaa
set_option linter.unusedSimpArgs false
set_option linter.unusedVariables false
open Go.RowKit
attribute [local go_sem ↓] Go.wp_at_zero Go.wp_at_succ

theorem flowB_parts {os xs ys : List Int} : flowB os xs ys = true ↔ ownB os = true ∧ labB xs = true ∧ labB ys = true ∧ ∀ i, i < 4 → flowAt os xs ys i = true := by
  simp only [flowB, Bool.and_eq_true, List.all_eq_true, List.mem_range, and_assoc]
theorem flow_more {os xs ys : List Int} (h1 : ownB os = true) (h2 : flowB [] xs ys = true) : flowB os xs ys = true := by
  obtain ⟨_, a, b, c⟩ := flowB_parts.1 h2
  refine flowB_parts.2 ⟨h1, a, b, fun i hi => ?_⟩
  have h := c i hi
  simp only [flowAt, Bool.or_eq_true] at h ⊢
  rcases h with h | h
  · exact .inl h
  · simp [hasB] at h
def abovP (p : Nat → Bool) : List Int := ((List.range 4).filter p).map (fun (i : Nat) => (i : Int))
theorem above_P (xs ys : List Int) : aboveTo xs ys 4 = abovP (fun i => decide (ys.getD i 0 < xs.getD i 0)) := rfl
theorem abovP_own (p : Nat → Bool) : ownB (abovP p) = true := by
  have e : List.range 4 = [0, 1, 2, 3] := rfl
  unfold abovP
  rw [e]
  simp only [List.filter]
  cases p 0 <;> cases p 1 <;> cases p 2 <;> cases p 3 <;> decide
theorem abovP_nodup (p : Nat → Bool) : (abovP p).Nodup := by
  have e : List.range 4 = [0, 1, 2, 3] := rfl
  unfold abovP
  rw [e]
  simp only [List.filter]
  cases p 0 <;> cases p 1 <;> cases p 2 <;> cases p 3 <;> decide
theorem mem_abovP {p : Nat → Bool} {i : Nat} : (i : Int) ∈ abovP p ↔ i < 4 ∧ p i = true := by
  simp only [abovP, List.mem_map, List.mem_filter, List.mem_range]
  constructor
  · rintro ⟨j, h, e⟩
    have : j = i := by omega
    subst this; exact h
  · intro h; exact ⟨i, h, rfl⟩
theorem above_flow {os xs ys : List Int} (h : flowB os xs ys = true) : flowB (aboveTo xs ys 4) xs ys = true := by
  obtain ⟨_, a, b, c⟩ := flowB_parts.1 h
  rw [above_P]
  refine flowB_parts.2 ⟨abovP_own _, a, b, fun i hi => ?_⟩
  simp only [flowAt, Bool.or_eq_true, decide_eq_true_eq, hasB]
  by_cases hl : xs.getD i 0 ≤ ys.getD i 0
  · exact .inl hl
  · exact .inr (mem_abovP.2 ⟨hi, by simpa using hl⟩)
theorem above_in {os xs ys : List Int} {i : Nat} {x : Int} (h : flowB os xs ys = true) (hx : (aboveTo xs ys 4)[i]? = some x) : hasB os x = true := by
  obtain ⟨_, a, b, c⟩ := flowB_parts.1 h
  have hm := List.mem_of_getElem? hx
  rw [above_P] at hm
  obtain ⟨j, hj, rfl⟩ := List.mem_map.1 hm
  have hj := mem_abovP.1 (show ((j : Nat) : Int) ∈ abovP _ from hm)
  have h1 := c j hj.1
  simp only [flowAt, Bool.or_eq_true, decide_eq_true_eq] at h1
  rcases h1 with h1 | h1
  · have := hj.2; simp only [decide_eq_true_eq] at this; omega
  · exact h1
theorem above_less {xs ys : List Int} {i : Nat} {x : Int} (hx : (aboveTo xs ys 4)[i]? = some x) : flowB ((aboveTo xs ys 4).take i ++ (aboveTo xs ys 4).drop (i + 1)) xs ys = false := by
  have hm := List.mem_of_getElem? hx
  have hlt := (List.getElem?_eq_some_iff.1 hx).1
  have hex := (List.getElem?_eq_some_iff.1 hx).2
  have hnd := abovP_nodup (fun i => decide (ys.getD i 0 < xs.getD i 0))
  rw [← above_P] at hnd
  have e : aboveTo xs ys 4 = (aboveTo xs ys 4).take i ++ x :: (aboveTo xs ys 4).drop (i + 1) := by
    rw [← hex, ← List.drop_eq_getElem_cons hlt, List.take_append_drop]
  have hno : x ∉ (aboveTo xs ys 4).take i ++ (aboveTo xs ys 4).drop (i + 1) := by
    rw [e] at hnd
    obtain ⟨_, h2, h3⟩ := List.nodup_append.1 hnd
    intro hmm
    rcases List.mem_append.1 hmm with h4 | h4
    · exact h3 x h4 x (by simp) rfl
    · exact (List.nodup_cons.1 h2).1 h4
  generalize hL : (aboveTo xs ys 4).take i ++ (aboveTo xs ys 4).drop (i + 1) = L at hno ⊢
  rw [above_P] at hm
  obtain ⟨j, hj, rfl⟩ := List.mem_map.1 hm
  have hj := mem_abovP.1 (show ((j : Nat) : Int) ∈ abovP _ from hm)
  refine flowB_no hj.1 ?_
  have h2 := hj.2
  simp only [decide_eq_true_eq] at h2
  simp only [flowAt, hasB, Bool.or_eq_false_iff, decide_eq_false_iff_not]
  exact ⟨by omega, hno⟩
theorem above_none {os xs ys : List Int} (h : flowB os xs ys = true) : flowB [] xs ys = decide ((aboveTo xs ys 4).length = 0) := by
  obtain ⟨_, a, b, c⟩ := flowB_parts.1 h
  by_cases hl : (aboveTo xs ys 4).length = 0
  · rw [decide_eq_true hl]
    have := above_flow h
    rwa [List.length_eq_zero_iff.1 hl] at this
  · rw [decide_eq_false hl]
    cases hf : flowB [] xs ys
    · rfl
    · exfalso
      obtain ⟨x, hx⟩ : ∃ x, (aboveTo xs ys 4)[0]? = some x := ⟨_, List.getElem?_eq_getElem (by omega)⟩
      have := above_in hf hx
      simp [hasB] at this
set_option maxHeartbeats 1600000 in
theorem has_any (A : Option Addr) (n c : Nat) (os : List Int) (x : Int) (w : World) (hx : Ints w A os) (hn : os.length = n) (hnb : n ≤ 1099511627776) :
    Calls Try.prog 45 #[.slice A n c, .int .i64 x] w fun e w' => e = .returned (.bool (hasB os x)) ∧ w = w' := by
  have HX := Lib.hid hx; have HN := Lib.hid hn
  clear hx hn
  go_enter Try.func45, Try.ntmps45
  go_wp2
  go_loop [5] (fun i => ∃ k : Nat, k ≤ n ∧ i = .int .i64 k ∧ Hid (∀ j, j < k → os[j]? ≠ some x)) (fun i => n - (intOf i).toNat)
  case atStart => exact ⟨0, Nat.zero_le _, rfl, fun i hi => absurd hi (by omega)⟩
  case round =>
    obtain ⟨k, hk, rfl, hpre⟩ := hrel
    by_cases hlt : k < n
    · obtain ⟨b, off, rfl, hb, hcx⟩ := Ints.at_ HX.out (k := k) (by have := HN.out; omega)
      have ex := Lib.hid (List.getElem?_eq_getElem (l := os) (i := k) (by have := HN.out; omega))
      generalize os[k]'(by have := HN.out; omega) = y at *
      have hlt2 : (k : Int) < (n : Int) := by omega
      have hk0 : (0 : Int) ≤ (k : Int) := by omega
      by_cases hxy : y = x
      · subst hxy
        have hy := Lib.hid (hasB_yes ex.out)
        go_wp2
        go_ret
        exact ⟨by rw [hy.out]; rfl, rfl⟩
      · have h1 : (y == x) = false := by simpa using hxy
        have hs := Lib.hid (show ∀ j, j < k + 1 → os[j]? ≠ some x from fun j hj => by
          rcases Nat.lt_succ_iff_lt_or_eq.1 hj with h | rfl
          · exact hpre.out j h
          · rw [ex.out]; exact fun e => hxy (Option.some.inj e))
        go_wp2
        exact ⟨⟨k + 1, by omega, by go_num, hs⟩, by simp [intOf]; omega⟩
    · obtain rfl : k = n := by omega
      have hy := Lib.hid (hasB_no (os := os) (x := x) (fun j hj => hpre.out j (by have := HN.out; omega)))
      go_wp2
      go_ret
      exact ⟨by rw [hy.out]; rfl, rfl⟩

theorem row_cap {w : World} {B : Nat} {v : Value} {n : Nat} {xs : List Int} (h : w.ownsRow B 3 1 v n (xs.map (Value.int .i64))) : ∃ A c, v = .slice A n c ∧ n ≤ c ∧ Own w B 3 A (xs.map (Value.int .i64)) := by
  obtain ⟨A, c, rfl, ho⟩ := own_of_row h
  refine ⟨A, c, rfl, ?_, ho⟩
  rcases h.2 with ⟨hv, h0⟩ | ⟨g, cap, cur, hv, _, _, hc, _⟩
  · omega
  · injection hv with h1 h2 h3
    omega
def OutC (L : List Int) (w : World) (e : Ending) (w' : World) : Prop :=
  ∃ A' c', e = .returned (.slice A' L.length c') ∧ Own w' w.heap.size 3 A' (L.map (Value.int .i64)) ∧ L.length ≤ c' ∧ Below w.heap.size w w'
set_option maxHeartbeats 3200000 in
theorem implNeeds_cap (O A B : Option Addr) (q n m e0 c d : Nat) (os xs ys : List Int) (w : World) (hK : Ints w O os) (ho : os.length = q) (hqb : q ≤ 1099511627776) (hI : Ints w A xs) (hn : xs.length = n) (hnb : n ≤ 1099511627776) (hJ : Ints w B ys) (hm : ys.length = m) (hmb : m ≤ 1099511627776) :
    Calls Try.prog 40 #[.slice O q e0, lab A n c, lab B m d] w (OutC (needsR os xs ys) w) := by
  have C := Lib.hid (fun w' h1 h2 h3 => implFlowsFor_any O A B q n m e0 c d os xs ys w' h1 ho hqb h2 hn hnb h3 hm hmb)
  have HK := Lib.hid hK; have HI := Lib.hid hI; have HJ := Lib.hid hJ
  cases hf : flowB os xs ys
  · have hr := Lib.hid (needsR_no hf)
    rw [hf] at C
    clear hK hI hJ hn hm ho hf
    go_enter Try.func40, Try.ntmps40
    go_wp2_with fail
    refine (C.out _ ((HK.out.alloc _).alloc _) ((HI.out.alloc _).alloc _) ((HJ.out.alloc _).alloc _)).mono ?_
    rintro e w2 ⟨rfl, hb⟩
    have hB := Below.trans (((Below.refl w.heap.size w).alloc (Nat.le_refl _) _).alloc (by simp) _) (hb.mono (by simp; omega))
    clear hb
    go_wp2
    go_ret
    exact ⟨none, 0, by rw [hr.out]; rfl, by rw [hr.out]; exact .inl rfl, by rw [hr.out]; exact Nat.le_refl _, hB⟩
  · have hr := Lib.hid (needsR_yes hf)
    have hl := flowB_labs hf
    obtain rfl : n = 4 := by rw [← hn]; exact labB_len4 hl.1
    obtain rfl : m = 4 := by rw [← hm]; exact labB_len4 hl.2
    have D := Lib.hid (fun w' h1 h2 => above_any A B c d xs ys w' h1 h2 hn hm)
    rw [hf] at C
    clear hK hI hJ hn hm ho hf hl
    go_enter Try.func40, Try.ntmps40
    go_wp2_with fail
    refine (C.out _ ((HK.out.alloc _).alloc _) ((HI.out.alloc _).alloc _) ((HJ.out.alloc _).alloc _)).mono ?_
    rintro e w2 ⟨rfl, hb⟩
    have hB := Below.trans (((Below.refl w.heap.size w).alloc (Nat.le_refl _) _).alloc (by simp) _) (hb.mono (by simp; omega))
    have c0 : w2.cell? ⟨w.heap.size, 0, none⟩ = some (.slice A 4 c) := Below.keeps hb (by simp)
    have c1 : w2.cell? ⟨w.heap.size + 1, 0, none⟩ = some (.slice B 4 d) := Below.keeps hb (by simp)
    have hs := hB.size
    clear hb
    go_wp2_with fail
    refine (D.out _ (HI.out.keep fun _ _ h => Below.keeps hB h) (HJ.out.keep fun _ _ h => Below.keeps hB h)).mono ?_
    rintro e w3 ⟨v, rfl, ho, hb⟩
    obtain ⟨A', c', rfl, hcap, ho2⟩ := row_cap ho
    have HO := Lib.hid (ho2.more hs)
    have hB := Below.trans hB (hb.mono hs)
    clear hb ho ho2
    go_wp2
    go_ret
    exact ⟨A', c', by rw [hr.out]; rfl, by rw [hr.out]; exact HO.out, by rw [hr.out]; exact hcap, hB⟩
/-- append([]int{}, n[:i]...), then append(.., n[i+1:]...) -/
theorem copy_runR (w : World) (A : Option Addr) (n c : Nat) (xs : List Int) (hx : Ints w A xs) (hn : xs.length = n) (hnb : n ≤ 1099511627776) :
    ∃ v' w1, (Builtin.append_ #[22, 22] 22 #[.slice (some ⟨w.heap.size, 0, none⟩) 0 0, .slice A n c]).run Try.prog (w.alloc (.cells #[] 3)) = .ok v' w1 ∧ w1.ownsRow w.heap.size 3 1 v' n (xs.map (Value.int .i64)) ∧ Below w.heap.size w w1 := by
  obtain ⟨i0, hi, hz0, hz1, hz2⟩ := info_parts int_info
  have hown := ownsRow_made w w.heap.size 3 (Nat.le_refl _)
  rcases A with _ | ad
  · have hxs : xs = [] := by
      rcases hx with h | ⟨b, off, h, _⟩
      · exact h
      · cases h
    subst hxs
    simp at hn
    subst hn
    refine ⟨.slice (some ⟨w.heap.size, 0, none⟩) 0 0, w.alloc (.cells #[] 3), ?_, hown, (Below.refl _ _).alloc (Nat.le_refl _) _⟩
    simp [Builtin.append_, run_underlying Try.underlying22, sizeOf, typeInfo, hi, Builtin.lenOf, Builtin.firstCells, storeCells]
  · have hcells : ∀ j u, (xs.map (Value.int .i64))[j]? = some u → (w.alloc (.cells #[] 3)).cell? (ad.add j) = some u := by
      rcases hx with rfl | ⟨b, off, h, hc⟩
      · intro j u hj; simp at hj
      · injection h with h
        subst h
        intro j u hj
        exact cell_alloc_ (ints_flat hc j u hj)
    obtain ⟨v', w', hrun, h2, h3, h4, h5⟩ := run_append_own_at (P := Try.prog) (w.alloc (.cells #[] 3)) w.heap.size 22 22 3 i0 (.int .i64 0) 1 8 Try.underlying22 hi hz0 hz1 hz2 rfl (by decide) _ 0 [] hown ad n c (xs.map (Value.int .i64)) (by simp [hn]) hcells (by intro u hu; obtain ⟨z, _, rfl⟩ := List.mem_map.1 hu; rfl) (by unfold maxLen; omega) (by omega) (by simp)
    have hw : Below w.heap.size w w' := ((Below.refl _ _).alloc (Nat.le_refl _) _).grown h3 (by simp) (fun g hg => by simp [Value.ownBlock] at hg; omega)
    simp only [Nat.zero_add, List.nil_append] at h2
    exact ⟨v', w', hrun, h2, hw⟩
theorem more_runR (w : World) (B : Nat) (v : Value) (k : Nat) (os : List Int) (hown : w.ownsRow B 3 1 v k (os.map (Value.int .i64))) (hB : B ≤ w.heap.size) (ad : Addr) (n c : Nat) (xs : List Int) (hx : Ints w (some ad) xs) (hn : xs.length = n) (hnb : n ≤ 1048576) (hkb : k ≤ 1048576) :
    ∃ v' w1, (Builtin.append_ #[22, 22] 22 #[v, .slice (some ad) n c]).run Try.prog w = .ok v' w1 ∧ w1.ownsRow B 3 1 v' (k + n) ((os ++ xs).map (Value.int .i64)) ∧ Below B w w1 := by
  obtain ⟨i0, hi, hz0, hz1, hz2⟩ := info_parts int_info
  have hcells : ∀ j u, (xs.map (Value.int .i64))[j]? = some u → w.cell? (ad.add j) = some u := by
    rcases hx with rfl | ⟨b, off, h, hc⟩
    · intro j u hj; simp at hj
    · injection h with h
      subst h
      intro j u hj
      exact ints_flat hc j u hj
  obtain ⟨v', w', hrun, h2, h3, h4, h5⟩ := run_append_own_at (P := Try.prog) w B 22 22 3 i0 (.int .i64 0) 1 8 Try.underlying22 hi hz0 hz1 hz2 rfl (by decide) v k (os.map (Value.int .i64)) hown ad n c (xs.map (Value.int .i64)) (by simp [hn]) hcells (by intro u hu; obtain ⟨z, _, rfl⟩ := List.mem_map.1 hu; rfl) (by unfold maxLen; omega) (by omega) hB
  refine ⟨v', w', hrun, by rw [List.map_append]; exact h2, (Below.refl _ _).grown h3 hB (fun g hg => (hown.lt g hg).1)⟩

end Go.Proofs.Ytkcchceoljlnaaa
