/- Contracts of ReadLabel. -/
import Derived.Test.YtkcchceoljlnaaaDoorLabOwn
import Derived.Deep.RegionLaw
import Derived.Deep.AppendLies
namespace Go.Proofs.YtkcchceoljlnaaaDoor
set_option linter.unusedSimpArgs false
set_option linter.unusedVariables false
open Go.RowKit
attribute [local go_sem ↓] Go.wp_at_zero Go.wp_at_succ

def dig (b : UInt8) : Int := (b.toNat : Int) - 48
def digs (s : ByteArray) (k : Nat) : List Int := (s.data.toList.take k).map dig
theorem digs_len (s : ByteArray) {k : Nat} (h : k ≤ s.size) : (digs s k).length = k := by
  have : s.data.toList.length = s.size := rfl
  simp [digs]; omega
theorem digs_snoc (s : ByteArray) {k : Nat} (h : k < s.size) : (digs s (k + 1)).map (Value.int .i64) = (digs s k).map (Value.int .i64) ++ [.int .i64 (dig s[k])] := by
  unfold digs
  rw [List.take_succ_eq_append_getElem (by simpa using h)]
  simp [dig]
  rfl
/-- what reading a label leaves -/
def LabB (L : List Int) (b : Bool) (w : World) (e : Ending) (w' : World) : Prop :=
  ∃ A c, e = .returned (.tuple #[lab A L.length c, .bool b]) ∧ Own w' w.heap.size 3 A (L.map (Value.int .i64)) ∧ Below w.heap.size w w'
def readL (D : List Int) : List Int := if labB D then D else []
theorem readL_no {D : List Int} (h : labB D = false) : readL D = [] := by simp [readL, h]
theorem readL_yes {D : List Int} (h : labB D = true) : readL D = D := by simp [readL, h]
theorem ownsRow_below {w w' : World} {base : Nat} {e : TypeId} {size : Nat} {v : Value} {n : Nat} {xs : List Value} (h : w.ownsRow base e size v n xs) (hb : Below w.heap.size w w') : w'.ownsRow base e size v n xs := by
  refine ⟨h.1, ?_⟩
  rcases h.2 with h | ⟨g, cap, cur, h1, h2, h3, h4⟩
  · exact .inl h
  · exact .inr ⟨g, cap, cur, h1, h2, keepblk hb h3, h4⟩
theorem own_of_row {w : World} {B : Nat} {v : Value} {n : Nat} {xs : List Int} (h : w.ownsRow B 3 1 v n (xs.map (Value.int .i64))) : ∃ A c, v = .slice A n c ∧ Own w B 3 A (xs.map (Value.int .i64)) := by
  rcases h.2 with ⟨hv, h0⟩ | ⟨g, cap, cur, hv, hB, hh, _, _, _, ht⟩
  · have h1 := h.1
    rw [h0] at h1 ⊢
    exact ⟨none, 0, hv, .inl (List.eq_nil_of_length_eq_zero (by simpa using h1))⟩
  · refine ⟨_, _, hv, .inr ⟨g, cur, rfl, hB, hh, fun k u hk => ?_⟩⟩
    rw [← ht, List.getElem?_take] at hk
    split at hk
    · simpa using hk
    · cases hk
theorem Own.ints {w : World} {B : Nat} {A : Option Addr} {xs : List Int} (h : Own w B 3 A (xs.map (Value.int .i64))) : Ints w A xs := (OwnL.of_own h).ints
set_option maxHeartbeats 6400000 in
theorem implReadLabel_any (s : ByteArray) (w : World) (hs : s.size ≤ 1048576) :
    Calls Tryd.prog 19 #[.string s] w (LabB (readL (digs s s.size)) (labB (digs s s.size)) w) := by
  obtain ⟨i0, hi, hz0, hz1, hz2⟩ := info_parts int_info
  have hm : s.size ≤ s.size := by exact Nat.le_refl _
  have C := Lib.hid (fun A c w' h => implLabelOk_any A s.size c (digs s s.size) w' h (digs_len s hm) (by omega))
  have HM := Lib.hid hm
  go_enter Tryd.func19, Tryd.ntmps19
  go_wp2
  go_loopw [5] (fun i wr => ∃ (k : Nat) (v : Value), k ≤ s.size ∧ i = .int .i64 k ∧ Hid (wr.heap[w.heap.size + 1]? = some (.cells #[v] 27 (0, 0))) ∧ Hid (wr.heap[w.heap.size]? = some (.cells #[.slice none 0 0] 27 (0, 0))) ∧
    Hid (wr.ownsRow (w.heap.size + 2) 3 1 v k ((digs s k).map (Value.int .i64))) ∧ Below w.heap.size w wr ∧ w.heap.size + 2 ≤ wr.heap.size) (fun i _ => s.size - (intOf i).toNat)
  case atStart => exact ⟨0, _, Nat.zero_le _, rfl, Lib.hid (by simpa using heap_alloc_new (w.alloc (.cells #[.slice none 0 0] 27)) (.cells #[.slice none 0 0] 27)), blk_alloc (heap_alloc_new w _), own_none _ _ _, (by (repeat (first | exact Below.refl _ _ | assumption | refine Below.drew ?_ | refine Below.alloc ?_ ?_ _ | refine Below.setCell ?_ ?_ _)) <;> ((try simp) <;> omega)), by simp⟩
  case round =>
    obtain ⟨k, v, hk, rfl, hbox, hbox0, hown, hB, hsz2⟩ := hrel
    have hsz := hB.size
    by_cases hlt : k < s.size
    · obtain ⟨kb, fb⟩ := blkcell hbox.out
      have hlt3 : k < s.size := by omega
      have hlt2 : (k : Int) < (s.size : Int) := by omega
      have hk0 : (0 : Int) ≤ (k : Int) := by omega
      have hlt1 : w.heap.size + 1 < wr.heap.size := by omega
      have hsn := Lib.hid (digs_snoc s hlt3)
      have hby : (s[k].toNat : Int) < 256 := by have := s[k].toNat_lt; omega
      have hd := Lib.hid (show dig s[k] = (s[k].toNat : Int) - 48 from rfl)
      have e5 : IntKind.i64.wrap (s[k].toNat : Int) = (s[k].toNat : Int) := by simp only [IntKind.wrap_i64]; omega
      have e6 : IntKind.i64.wrap ((s[k].toNat : Int) - 48) = (s[k].toNat : Int) - 48 := by simp only [IntKind.wrap_i64]; omega
      go_wp2_with fail
      go_region_law ((refine step_append_lies _ (by rfl) _ _ _ (by rfl) (w.heap.size + 2) 3 i0 _ 1 8 Tryd.underlying22 hi hz0 hz1 hz2 rfl (by omega) v _ _ (by rfl) (by exact (hown.out.alloc _)) ⟨wr.heap.size, 0, none⟩ 1 1 [.int .i64 ((s[k].toNat : Int) - 48)] (by rfl) (by rfl) (World.news_of_block (cs := #[.int .i64 ((s[k].toNat : Int) - 48)]) (t := 3) (fr := (0, 0)) (heap_alloc_new wr _)) (by intro u hu; simp at hu; subst hu; rfl) (by omega) (by unfold maxLen; omega) (by omega) (by simp; omega) (wr.heap.size + 1) (by simp) ?_; intro gg cap w1 hown1 hgrow hat hlt4; have hbox1 := (hgrow.block (w.heap.size + 1) (by simp; omega) (own_ne hown.out (by omega))).trans (blk_alloc (O := .cells #[.int .i64 ((s[k].toNat : Int) - 48)] 3) hbox.out); obtain ⟨kb1, fb1⟩ := blkcell hbox1; have hs1 : w.heap.size + 2 ≤ w1.heap.size := Nat.le_trans hsz2 (Nat.le_trans (by simp) hgrow.size)))
      all_goals
        clear e5 e6
        have hbox2 := (hgrow.block w.heap.size (by simp; omega) (own_ne hown.out (by omega))).trans (blk_alloc (O := .cells #[.int .i64 ((s[k].toNat : Int) - 48)] 3) hbox0.out)
        have hB1 : Below w.heap.size w w1 := ((hB.alloc hsz _).drew).grown hgrow (by simp; omega) (fun g hg => by have := (hown.out.lt g hg).1; omega)
        have hown3 : w1.ownsRow (w.heap.size + 2) 3 1 (.slice (some ⟨gg, 0, none⟩) (k + 1) cap) (k + 1) ((digs s (k + 1)).map (Value.int .i64)) := by rw [hsn.out, hd.out]; simpa using hown1
        have hown2 := Lib.hid (ownsRow_setCell_below (a := ⟨w.heap.size + 1, 0, none⟩) hown3 (by show w.heap.size + 1 < w.heap.size + 2; omega) (.slice (some ⟨gg, 0, none⟩) (k + 1) cap))
        have hn1 := Lib.hid (blk_set (i := 0) hbox1 (.slice (some ⟨gg, 0, none⟩) (k + 1) cap))
        have hn0 := Lib.hid (blk_far (p := ⟨w.heap.size + 1, 0, none⟩) hbox2 (by show w.heap.size ≠ w.heap.size + 1; omega) (.slice (some ⟨gg, 0, none⟩) (k + 1) cap))
        have hBn := Lib.hid (hB1.setCell (p := ⟨w.heap.size + 1, 0, none⟩) (by show w.heap.size ≤ w.heap.size + 1; omega) (.slice (some ⟨gg, 0, none⟩) (k + 1) cap))
        clear hgrow hown1 hown3 hbox1 hbox2 kb fb kb1 fb1
        go_wp2
        exact ⟨⟨k + 1, _, by omega, by go_num, hn1, hn0, hown2, hBn.out, by simpa using hs1⟩, by simp [intOf]; omega⟩
    · obtain rfl : k = s.size := by omega
      obtain ⟨AA, cc, rfl, hOw⟩ := own_of_row hown.out
      have HI := Lib.hid hOw.ints
      have HOw := Lib.hid hown.out
      obtain ⟨kb, fb⟩ := blkcell hbox.out
      have hcl : decide ((s.size : Int) < (s.size : Int)) = false := by simp
      all_goals
        go_wp2_with fail
        refine (C.out _ _ _ HI.out).mono ?_
        rintro e w2 ⟨rfl, hb⟩
        have hbox0 := keepblk hb hbox0.out
        have hbox := keepblk hb hbox.out
        obtain ⟨kb0, fb0⟩ := blkcell hbox0
        clear kb fb
        obtain ⟨kb, fb⟩ := blkcell hbox
        have hB := Below.trans hB (hb.mono hsz)
        have HOw := Lib.hid (ownsRow_below HOw.out hb)
        have hlt1 : w.heap.size + 1 < w2.heap.size := lt_of_blk hbox
        have hlt0 : w.heap.size < w2.heap.size := lt_of_blk hbox0
        clear hb hbox hbox0 hOw
        cases hl : labB (digs s s.size)
        · have hr := Lib.hid (readL_no hl)
          go_wp2
          refine bodyPost_ret (v := .tuple #[lab none 0 0, .bool false]) (by simp [results, Tryd.results19, go_sem, *]) rfl ⟨none, 0, by rw [hr.out, hl]; rfl, by rw [hr.out]; exact .inl rfl, hB.setCell (Nat.le_refl _) _⟩
        · have hr := Lib.hid (readL_yes hl)
          have hdl := Lib.hid (digs_len s HM.out)
          have ho := Lib.hid (ownsRow_setCell_below (a := ⟨w.heap.size, 0, none⟩) HOw.out (by show w.heap.size < w.heap.size + 2; omega) (.slice AA s.size cc))
          go_wp2
          refine bodyPost_ret (v := .tuple #[lab AA s.size cc, .bool true]) (by simp [results, Tryd.results19, go_sem, *]) rfl ⟨AA, cc, by rw [hr.out, hl, hdl.out], by rw [hr.out]; exact Own.of_row (n := s.size) (c := cc) (Joins.ownsRow_le ho.out (by omega)), hB.setCell (Nat.le_refl _) _⟩
end Go.Proofs.YtkcchceoljlnaaaDoor
