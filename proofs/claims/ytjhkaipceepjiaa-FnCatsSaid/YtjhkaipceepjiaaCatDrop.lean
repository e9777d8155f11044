/- Contracts of CatDrop. -/
import Derived.Test.YtjhkaipceepjiaaCatNew
namespace Go.Proofs.Ytjhkaipceepjiaa
set_option linter.unusedSimpArgs false
set_option linter.unusedVariables false
open Go.RowKit
attribute [local go_sem ↓] Go.wp_at_zero Go.wp_at_succ

def catDrop (xs : List El) (id : Int) : List El × Bool :=
  if catOf xs id < 0 then (xs, false) else (xs.set (catOf xs id).toNat ((xs.getD (catOf xs id).toNat (0, false)).1, false), true)
theorem catOf_pos {xs : List El} {id : Int} (h : 0 ≤ catOf xs id) : ∃ (q : Nat) (x : El), catOf xs id = q ∧ q < 4 ∧ xs[q]? = some x ∧ xs.length = 4 ∧ x.2 = true := by
  cases hok : catsOkB xs
  · rw [catOf_no hok] at h; omega
  · by_cases hneg : id < 0
    · rw [catOf_neg hneg] at h; omega
    · obtain ⟨m, rfl⟩ := Int.eq_ofNat_of_zero_le (show 0 ≤ id by omega)
      have h4 := catsOk_len hok
      have hq : (m : Int) % 4 = ((m % 4 : Nat) : Int) := by omega
      have hx : xs[m % 4]? = some (xs[m % 4]'(by omega)) := List.getElem?_eq_getElem (by omega)
      have := catOf_at hok hq hx
      rw [this] at h
      split at h
      · rename_i hc
        exact ⟨m % 4, _, by rw [this, if_pos hc], by omega, hx, h4, hc.1⟩
      · omega
def DropPost (xs : List El) (id : Int) (n : Nat) (w : World) (e : Ending) (w' : World) : Prop :=
  ∃ A' c', e = .returned (.tuple #[.slice A' n c', .bool (catDrop xs id).2]) ∧ OwnE w' w.heap.size A' (catDrop xs id).1 ∧ Below w.heap.size w w'
theorem vals_set1 {xs : List El} {k : Nat} {c : El} (h : xs[k]? = some c) (b : Bool) : (vals xs).set (k * 2 + 1) (.bool b) = vals (xs.set k (c.1, b)) := by
  rw [← vals_set]
  congr 1
  have h1 := (vals_at xs k).1
  rw [h] at h1
  apply List.ext_getElem?
  intro i
  rw [List.getElem?_set]
  split
  · rename_i e
    subst e
    rw [h1]
    have := (List.getElem?_eq_some_iff.1 h1).1
    simp [this]
  · rfl
theorem own_set1 {w : World} {B g : Nat} {full : Array Value} {xs : List El} {k : Nat} {c : El} (hB : B ≤ g) (hh : w.heap[g]? = some (.cells full 40 (0, 0))) (hp : Pre (vals xs) full) (h : xs[k]? = some c) (b : Bool) :
    OwnE (w.setCell ⟨g, k * 2 + 1, none⟩ (.bool b)) B (some ⟨g, 0, none⟩) (xs.set k (c.1, b)) :=
  .inr ⟨g, _, rfl, hB, blk_set (i := k * 2 + 1) hh (.bool b), by rw [← vals_set1 h]; exact hp.set_ _ _⟩
theorem own_at {w : World} {B g : Nat} {xs : List El} {k : Nat} {c : El} (h : OwnE w B (some ⟨g, 0, none⟩) xs) (hk : xs[k]? = some c) :
    B ≤ g ∧ w.cell? ⟨g, k * 2, none⟩ = some (.int .i64 c.1) ∧ w.cell? ⟨g, k * 2 + 1, none⟩ = some (.bool c.2) ∧ ∀ j, w.frozen? ⟨g, j, none⟩ = false := by
  rcases h with rfl | ⟨g', full, hA, hB, hh, hp⟩
  · simp at hk
  · injection hA with hA
    injection hA with hA
    subst hA
    obtain ⟨d0, d1⟩ := pre_at hh hp hk
    exact ⟨hB, d0, d1, (blkcell hh).2⟩
theorem own_set1' {w : World} {B g : Nat} {xs : List El} {k : Nat} {c : El} (h : OwnE w B (some ⟨g, 0, none⟩) xs) (hk : xs[k]? = some c) (b : Bool) :
    OwnE (w.setCell ⟨g, k * 2 + 1, none⟩ (.bool b)) B (some ⟨g, 0, none⟩) (xs.set k (c.1, b)) := by
  rcases h with rfl | ⟨g', full, hA, hB, hh, hp⟩
  · simp at hk
  · injection hA with hA
    injection hA with hA
    subst hA
    exact own_set1 hB hh hp hk b
theorem own_block {w : World} {B : Nat} {A : Option Addr} {xs : List El} (h : OwnE w B A xs) (hl : xs.length = 4) : ∃ g, A = some ⟨g, 0, none⟩ := by
  rcases h with rfl | ⟨g, full, hA, _⟩
  · simp at hl
  · exact ⟨g, hA⟩
set_option maxHeartbeats 3200000 in
theorem specCatDrop_any (A : Option Addr) (n c : Nat) (xs : List El) (id : Int) (w : World) (hx : Els w A xs) (hn : xs.length = n) (hnb : n ≤ 1099511627776) (hid : id ≤ 9223372036854775807) :
    Calls Try.prog 19 #[.slice A n c, .int .i64 id] w (DropPost xs id n w) := by
  have C := Lib.hid (fun w' h => specCatOf_any A n c xs id w' h hn hnb hid)
  obtain ⟨A', c', w1, hrun, hown, hB⟩ := copy_run w A n c xs hx hn hnb
  have HO := Lib.hid hown; have HR := Lib.hid hrun
  clear hown hrun
  have HX := Lib.hid hx
  clear hx
  by_cases hneg : catOf xs id < 0
  · have hr := Lib.hid (show catDrop xs id = (xs, false) by simp [catDrop, hneg])
    clear hn
    generalize catOf xs id = z at *
    go_enter Try.func19, Try.ntmps19
    go_wp2_with (first | (at_builtin; refine wpList_append_eq rfl _ _ _ rfl _ _ _ _ (by rfl) (by rfl) HR.out ?_) | (go_at_call 13; refine (C.out _ (HX.out.below hB)).mono ?_; rintro e w2 ⟨rfl, hb⟩))
    have hB2 := Below.trans hB (hb.mono hB.size)
    have HO := Lib.hid (HO.out.below hb)
    clear hb
    go_ret2
    exact ⟨A', c', by rw [hr.out]; rfl, by rw [hr.out]; exact HO.out, hB2⟩
  · obtain ⟨q, x, hq, hq4, hxq, hl4, hxl⟩ := catOf_pos (show 0 ≤ catOf xs id by omega)
    have hr := Lib.hid (show catDrop xs id = (xs.set q (x.1, false), true) by
      unfold catDrop; rw [if_neg hneg, hq]; simp [List.getD, hxq])
    obtain rfl : n = 4 := by omega
    rw [hq] at C
    have ex := Lib.hid hxq
    have HN := Lib.hid hl4
    obtain ⟨g, rfl⟩ := own_block HO.out hl4
    clear hq hneg hn hxl hxq hl4
    have hq2 : (q : Int) < 4 := by omega
    have hq0 : (0 : Int) ≤ (q : Int) := by omega
    go_enter Try.func19, Try.ntmps19
    go_wp2_with (first | (at_builtin; refine wpList_append_eq rfl _ _ _ rfl _ _ _ _ (by rfl) (by rfl) HR.out ?_) | (go_at_call 13; refine (C.out _ (HX.out.below hB)).mono ?_; rintro e w2 ⟨rfl, hb⟩; have HO := Lib.hid (HO.out.below hb); obtain ⟨hBg, d0, d1, kf⟩ := own_at HO.out ex.out))
    have hB2 := Below.trans hB (hb.mono hB.size)
    have HS := Lib.hid (own_set1' HO.out ex.out false)
    have hBS := Lib.hid (hB2.setCell (p := ⟨g, q * 2 + 1, none⟩) hBg (.bool false))
    go_ret2
    exact ⟨_, _, by rw [hr.out]; rfl, by rw [hr.out]; exact HS.out, hBS.out⟩
set_option maxHeartbeats 3200000 in
theorem implCatDrop_any (A : Option Addr) (n c : Nat) (xs : List El) (id : Int) (w : World) (hx : Els w A xs) (hn : xs.length = n) (hnb : n ≤ 1099511627776) (hid : id ≤ 9223372036854775807) :
    Calls Try.prog 20 #[.slice A n c, .int .i64 id] w (DropPost xs id n w) := by
  have C := Lib.hid (fun w' h => implCatOf_any A n c xs id w' h hn hnb hid)
  have HR := Lib.hid (copyCats_any A n c xs w hx hn hnb)
  have HX := Lib.hid hx
  clear hx
  by_cases hneg : catOf xs id < 0
  · have hr := Lib.hid (show catDrop xs id = (xs, false) by simp [catDrop, hneg])
    clear hn
    generalize catOf xs id = z at *
    go_enter Try.func20, Try.ntmps20
    go_wp2_with (first | (go_at_call 27; refine (Calls.mono HR.out ?_); rintro e w1 ⟨A', c', rfl, hown, hB⟩; have HO := Lib.hid hown; clear hown) | (go_at_call 14; refine (C.out _ (HX.out.below hB)).mono ?_; rintro e w2 ⟨rfl, hb⟩))
    have hB2 := Below.trans hB (hb.mono hB.size)
    have HO := Lib.hid (HO.out.below hb)
    clear hb
    go_ret2
    exact ⟨A', c', by rw [hr.out]; rfl, by rw [hr.out]; exact HO.out, hB2⟩
  · obtain ⟨q, x, hq, hq4, hxq, hl4, hxl⟩ := catOf_pos (show 0 ≤ catOf xs id by omega)
    have hr := Lib.hid (show catDrop xs id = (xs.set q (x.1, false), true) by
      unfold catDrop; rw [if_neg hneg, hq]; simp [List.getD, hxq])
    obtain rfl : n = 4 := by omega
    rw [hq] at C
    have ex := Lib.hid hxq
    have HN := Lib.hid hl4
    clear hq hneg hn hxl hxq hl4
    have hq2 : (q : Int) < 4 := by omega
    have hq0 : (0 : Int) ≤ (q : Int) := by omega
    go_enter Try.func20, Try.ntmps20
    go_wp2_with (first | (go_at_call 27; refine (Calls.mono HR.out ?_); rintro e w1 ⟨A', c', rfl, hown, hB⟩; obtain ⟨g, rfl⟩ := own_block hown HN.out; have HO := Lib.hid hown; clear hown) | (go_at_call 14; refine (C.out _ (HX.out.below hB)).mono ?_; rintro e w2 ⟨rfl, hb⟩; have HO := Lib.hid (HO.out.below hb); obtain ⟨hBg, d0, d1, kf⟩ := own_at HO.out ex.out))
    have hB2 := Below.trans hB (hb.mono hB.size)
    have HS := Lib.hid (own_set1' HO.out ex.out false)
    have hBS := Lib.hid (hB2.setCell (p := ⟨g, q * 2 + 1, none⟩) hBg (.bool false))
    go_ret2
    exact ⟨_, _, by rw [hr.out]; rfl, by rw [hr.out]; exact HS.out, hBS.out⟩

end Go.Proofs.Ytjhkaipceepjiaa
