/- Contracts of ShowLabel: the program's and the reference's. -/
import Derived.Test.YtkcchceoljlnaaaDoorLabel
import Derived.Test.YtkcchceoljlnaaaDoorDec
import Derived.Test.YtkcchceoljlnaaaDoorRegion
namespace Go.Proofs.YtkcchceoljlnaaaDoor
set_option linter.unusedSimpArgs false
set_option linter.unusedVariables false
open Go.RowKit

def showL (xs : List Int) : List UInt8 := xs.flatMap Lib.itoa
def showS (xs : List Int) : ByteArray := if labB xs then ⟨(showL xs).toArray⟩ else ⟨#[]⟩
theorem showL_snoc {xs : List Int} {k : Nat} {x : Int} (h : xs[k]? = some x) : showL (xs.take (k + 1)) = showL (xs.take k) ++ Lib.itoa x := by
  unfold showL
  rw [List.take_add_one, h, List.flatMap_append]
  simp
theorem app_decS (l : List UInt8) (x : Int) : (⟨l.toArray⟩ : ByteArray) ++ decS x = ⟨(l ++ Lib.itoa x).toArray⟩ := by
  apply ByteArray.ext
  simp [decS]
theorem itoa_one {x : Int} (h : inB x 0 3 = true) : (Lib.itoa x).length = 1 := by
  have h := inB_true h
  unfold Lib.itoa
  rw [if_neg (by omega), Lib.decDigits_length, Lib.nDigits_small (by omega)]
theorem labB_at {xs : List Int} (h : labB xs = true) {k : Nat} {x : Int} (hx : xs[k]? = some x) : inB x 0 3 = true := by
  simp only [labB, Bool.and_eq_true, decide_eq_true_eq, List.all_eq_true, List.mem_range] at h
  have := h.2 k (List.getElem?_eq_some_iff.1 hx).1
  rwa [labAt_of hx] at this
theorem labB_four {xs : List Int} (h : labB xs = true) : xs.length = 4 := by
  simp only [labB, Bool.and_eq_true, decide_eq_true_eq] at h
  exact h.1
theorem showL_len {xs : List Int} (h : labB xs = true) : ∀ k, k ≤ 4 → (showL (xs.take k)).length = k
  | 0, _ => by simp [showL]
  | k + 1, hk => by
    have ex : xs[k]? = some (xs[k]'(by have := labB_four h; omega)) := List.getElem?_eq_getElem (by have := labB_four h; omega)
    rw [showL_snoc ex, List.length_append, showL_len h k (by omega), itoa_one (labB_at h ex)]
set_option maxRecDepth 100000 in
set_option maxHeartbeats 3200000 in
theorem specShow_any (A : Option Addr) (n c : Nat) (xs : List Int) (w : World) (hx : Ints w A xs) (hn : xs.length = n) (hnb : n ≤ 1099511627776) :
    Calls Tryd.prog 6 #[lab A n c] w fun e w' => e = .returned (.string (showS xs)) ∧ Below w.heap.size w w' := by
  have HX := Lib.hid hx
  have C := Lib.hid (fun w' h => specLabelOk_any A n c xs w' h hn hnb)
  clear hx
  cases hl : labB xs
  · have hr := Lib.hid (show showS xs = ⟨#[]⟩ by simp [showS, hl])
    rw [hl] at C
    clear hl
    go_enter Tryd.func6, Tryd.ntmps6
    go_wp2_with fail
    refine (C.out _ (HX.out.alloc _)).mono ?_
    rintro e w1 ⟨rfl, hb⟩
    have hB := Below.trans ((Below.refl w.heap.size w).alloc (Nat.le_refl _) _) (hb.mono (by simp))
    clear hb
    go_wp2
    go_ret
    exact ⟨by rw [hr.out]; rfl, hB⟩
  · obtain rfl : n = 4 := by rw [← hn, labB_four hl]
    have HL := Lib.hid hl
    have HN := Lib.hid hn
    rw [hl] at C
    clear hl hn
    go_enter Tryd.func6, Tryd.ntmps6
    go_wp2_with fail
    refine (C.out _ (HX.out.alloc _)).mono ?_
    rintro e w1 ⟨rfl, hb⟩
    have hB := Below.trans ((Below.refl w.heap.size w).alloc (Nat.le_refl _) _) (hb.mono (by simp))
    have hbox := Lib.hid (keepblk hb (heap_alloc_new w (.cells #[.slice A 4 c] 27)))
    have HX1 := Lib.hid ((HX.out.alloc (.cells #[.slice A 4 c] 27)).below hb)
    clear hb
    go_wp2
    go_loopw [3, 4] (fun out i wr => ∃ (k : Nat) (s : ByteArray), k ≤ 4 ∧ i = .int .i64 k ∧ out = .string s ∧ Hid (s = ⟨(showL (xs.take k)).toArray⟩) ∧ Hid (wr.heap[w.heap.size]? = some (.cells #[.slice A 4 c] 27 (0, 0))) ∧ Hid (Ints wr A xs) ∧ Below w.heap.size w wr) (fun _ i _ => 4 - (intOf i).toNat)
    case atStart => exact ⟨0, _, Nat.zero_le _, rfl, rfl, rfl, hbox.out, HX1.out, hB⟩
    case round =>
      obtain ⟨k, s, hk, rfl, rfl, hs, hbx, hI, hB⟩ := hrel
      by_cases hlt : k < 4
      · have ex := Lib.hid (List.getElem?_eq_getElem (l := xs) (i := k) (by have := HN.out; omega))
        obtain ⟨b, off, rfl, hbb, hcx⟩ := Ints.at_ hI.out (k := k) (by have := HN.out; omega)
        generalize xs[k]'(by have := HN.out; omega) = x at *
        have hx03 := inB_true (labB_at HL.out ex.out)
        have hs2 := Lib.hid (show s ++ decS x = ⟨(showL (xs.take (k + 1))).toArray⟩ by rw [hs.out, app_decS, showL_snoc ex.out])
        have hsz : s.size ≤ 4 := by
          rw [hs.out]
          have := showL_len HL.out k hk
          simp [ByteArray.size, this]; omega
        have hdz : (decS x).size ≤ 1 := by
          have := itoa_one (labB_at HL.out ex.out)
          simp [decS, ByteArray.size, this]
        have hlt2 : (k : Int) < 4 := by omega
        have hk0 : (0 : Int) ≤ (k : Int) := by omega
        have hsw := hB.size
        have hlb := lt_of_blk hbx.out
        obtain ⟨kb, fb⟩ := blkcell hbx.out
        have D := Lib.hid (specDec_any x (by omega) (by omega) wr)
        clear hx03
        go_wp2_with fail
        refine D.out.mono ?_
        rintro e w2 ⟨rfl, hb⟩
        have hbx2 := Lib.hid (keepblk hb hbx.out)
        have hI2 := Lib.hid (hI.out.below hb)
        have hB2 := Below.trans hB (hb.mono hsw)
        clear hb kb fb hcx
        generalize decS x = d at *
        go_wp2
        exact ⟨⟨k + 1, s ++ d, by omega, by go_num, rfl, hs2, hbx2, hI2, hB2⟩, by simp [intOf]; omega⟩
      · obtain rfl : k = 4 := by omega
        have hr := Lib.hid (show showS xs = s by rw [hs.out, List.take_of_length_le (by have := HN.out; omega)]; simp [showS, HL.out])
        go_wp2
        go_ret
        exact ⟨by rw [hr.out]; rfl, hB⟩
set_option maxRecDepth 100000 in
set_option maxHeartbeats 3200000 in
theorem implShow_any (A : Option Addr) (n c : Nat) (xs : List Int) (w : World) (hx : Ints w A xs) (hn : xs.length = n) (hnb : n ≤ 1099511627776) (ht : DTab w) :
    Calls Tryd.prog 8 #[lab A n c] w fun e w' => e = .returned (.string (showS xs)) ∧ Below w.heap.size w w' := by
  have HX := Lib.hid hx
  have HT := Lib.hid ht
  have C := Lib.hid (fun w' h => implLabelOk_any A n c xs w' h hn hnb)
  clear hx ht
  cases hl : labB xs
  · have hr := Lib.hid (show showS xs = ⟨#[]⟩ by simp [showS, hl])
    rw [hl] at C
    clear hl
    go_enter Tryd.func8, Tryd.ntmps8
    go_wp2_with fail
    refine (C.out _ (HX.out.alloc _)).mono ?_
    rintro e w1 ⟨rfl, hb⟩
    have hB := Below.trans ((Below.refl w.heap.size w).alloc (Nat.le_refl _) _) (hb.mono (by simp))
    clear hb
    go_wp2
    go_ret
    exact ⟨by rw [hr.out]; rfl, hB⟩
  · obtain rfl : n = 4 := by rw [← hn, labB_four hl]
    have HL := Lib.hid hl
    have HN := Lib.hid hn
    rw [hl] at C
    clear hl hn
    go_enter Tryd.func8, Tryd.ntmps8
    go_wp2_with fail
    refine (C.out _ (HX.out.alloc _)).mono ?_
    rintro e w1 ⟨rfl, hb⟩
    have hB := Below.trans ((Below.refl w.heap.size w).alloc (Nat.le_refl _) _) (hb.mono (by simp))
    have hbox := Lib.hid (keepblk hb (heap_alloc_new w (.cells #[.slice A 4 c] 27)))
    have HX1 := Lib.hid ((HX.out.alloc (.cells #[.slice A 4 c] 27)).below hb)
    have hlb := lt_of_blk hbox.out
    obtain ⟨kb, fb⟩ := blkcell hbox.out
    clear hb
    go_wp2
    clear kb fb hlb
    go_loopw [3, 12] (fun out i wr => ∃ (k : Nat) (s : ByteArray), k ≤ 4 ∧ i = .int .i64 k ∧ out = .string s ∧ Hid (s = ⟨(showL (xs.take k)).toArray⟩) ∧ Hid (Ints wr A xs) ∧ Below w.heap.size w wr) (fun _ i _ => 4 - (intOf i).toNat)
    case atStart => exact ⟨0, _, Nat.zero_le _, rfl, rfl, rfl, HX1.out, hB⟩
    case round =>
      obtain ⟨k, s, hk, rfl, rfl, hs, hI, hB⟩ := hrel
      by_cases hlt : k < 4
      · have ex := Lib.hid (List.getElem?_eq_getElem (l := xs) (i := k) (by have := HN.out; omega))
        obtain ⟨b, off, rfl, hbb, hcx⟩ := Ints.at_ hI.out (k := k) (by have := HN.out; omega)
        generalize xs[k]'(by have := HN.out; omega) = x at *
        have hx03 := inB_true (labB_at HL.out ex.out)
        have hs2 := Lib.hid (show s ++ decS x = ⟨(showL (xs.take (k + 1))).toArray⟩ by rw [hs.out, app_decS, showL_snoc ex.out])
        have hsz : s.size ≤ 4 := by
          rw [hs.out]
          have := showL_len HL.out k hk
          simp [ByteArray.size, this]; omega
        have hdz : (decS x).size ≤ 1 := by
          have := itoa_one (labB_at HL.out ex.out)
          simp [decS, ByteArray.size, this]
        have hlt2 : (k : Int) < 4 := by omega
        have hk0 : (0 : Int) ≤ (k : Int) := by omega
        have hsw := hB.size
        have D := Lib.hid (implDec_any x (by omega) (by omega) wr (HT.out.below hB))
        clear hx03
        go_wp2_with fail
        refine D.out.mono ?_
        rintro e w2 ⟨rfl, hb⟩
        have hI2 := Lib.hid (hI.out.below hb)
        have hB2 := Below.trans hB (hb.mono hsw)
        clear hb hcx
        generalize decS x = d at *
        go_wp2
        exact ⟨⟨k + 1, s ++ d, by omega, by go_num, rfl, hs2, hI2, hB2⟩, by simp [intOf]; omega⟩
      · obtain rfl : k = 4 := by omega
        have hr := Lib.hid (show showS xs = s by rw [hs.out, List.take_of_length_le (by have := HN.out; omega)]; simp [showS, HL.out])
        go_wp2
        go_ret
        exact ⟨by rw [hr.out]; rfl, hB⟩

end Go.Proofs.YtkcchceoljlnaaaDoor
