/- Contracts of the functions on categories. -/
import Derived.Test.YtjhkaipceepjiaaCRows
namespace Go.Proofs.Ytjhkaipceepjiaa
set_option linter.unusedSimpArgs false
set_option linter.unusedVariables false
open Go.RowKit
attribute [local go_sem ↓] Go.wp_at_zero Go.wp_at_succ

def genB (c : El) : Bool := inB c.1 0 999
def catsOkB (xs : List El) : Bool := decide (xs.length = 4) && xs.all genB
theorem all_snoc {xs : List El} {k : Nat} {x : El} (p : El → Bool) (h : xs[k]? = some x) : (xs.take (k + 1)).all p = ((xs.take k).all p && p x) := by
  rw [List.take_add_one, h, List.all_append]; simp
theorem all_no {xs : List El} {k : Nat} {x : El} {p : El → Bool} (h : xs[k]? = some x) (hp : p x = false) : xs.all p = false := by
  rw [List.all_eq_false]
  exact ⟨x, List.mem_of_getElem? h, by simp [hp]⟩
set_option maxHeartbeats 1600000 in
theorem specCatsOk_any (A : Option Addr) (n c : Nat) (xs : List El) (w : World) (hx : Els w A xs) (hn : xs.length = n) (hnb : n ≤ 1099511627776) :
    Calls Try.prog 9 #[.slice A n c] w fun e w' => e = .returned (.bool (catsOkB xs)) ∧ Below w.heap.size w w' := by
  by_cases h4 : n = 4
  · subst h4
    have HX := Lib.hid hx; have HN := Lib.hid hn
    clear hx hn
    go_enter Try.func9, Try.ntmps9
    go_wp2
    go_loop [3] (fun i => ∃ k : Nat, k ≤ 4 ∧ i = .int .i64 k ∧ Hid ((xs.take k).all genB = true)) (fun i => 4 - (intOf i).toNat)
    case atStart => exact ⟨0, Nat.zero_le _, rfl, rfl⟩
    case round =>
      obtain ⟨k, hk, rfl, hall⟩ := hrel
      by_cases hlt : k < 4
      · have ex := Lib.hid (List.getElem?_eq_getElem (l := xs) (i := k) (by have := HN.out; omega))
        generalize xs[k]'(by have := HN.out; omega) = x at *
        obtain ⟨b, off, rfl, hbx, c0, c1⟩ := HX.out.at_ ex.out
        have hlt2 : (k : Int) < 4 := by omega
        cases hg : inB x.1 0 999
        · have hr := Lib.hid (show catsOkB xs = false by simp [catsOkB, all_no ex.out (show genB x = false from hg)])
          go_wp2_with (go_at_call 23; refine (l1In_any _ _ _ _).mono ?_; rintro e w' ⟨rfl, rfl⟩; rw [hg])
          go_ret
          exact ⟨by rw [hr.out]; rfl, Below.refl _ _⟩
        · have hs := Lib.hid (show (xs.take (k + 1)).all genB = true by rw [all_snoc genB ex.out, hall.out, show genB x = true from hg]; rfl)
          go_wp2_with (go_at_call 23; refine (l1In_any _ _ _ _).mono ?_; rintro e w' ⟨rfl, rfl⟩; rw [hg])
          exact ⟨⟨k + 1, by omega, by go_num, hs⟩, by simp [intOf]; omega⟩
      · obtain rfl : k = 4 := by omega
        have hr := Lib.hid (show catsOkB xs = true by
          have := hall.out
          rw [List.take_of_length_le (by have := HN.out; omega)] at this
          simp [catsOkB, this, HN.out])
        go_wp2
        go_ret
        exact ⟨by rw [hr.out]; rfl, Below.refl _ _⟩
  · have h1 : ((n : Int) != 4) = true := by simp; omega
    have hr := Lib.hid (show catsOkB xs = false by simp [catsOkB, hn, h4])
    clear hx hn
    go_enter Try.func9, Try.ntmps9
    go_wp2
    go_ret
    exact ⟨by rw [hr.out]; rfl, Below.refl _ _⟩
set_option maxHeartbeats 1600000 in
theorem implCatsOk_any (A : Option Addr) (n c : Nat) (xs : List El) (w : World) (hx : Els w A xs) (hn : xs.length = n) (hnb : n ≤ 1099511627776) :
    Calls Try.prog 11 #[.slice A n c] w fun e w' => e = .returned (.bool (catsOkB xs)) ∧ Below w.heap.size w w' := by
  have HX := Lib.hid hx; have HN := Lib.hid hn
  clear hx hn
  go_enter Try.func11, Try.ntmps11
  go_wp2
  go_loopw [7] (fun i wr => ∃ k : Nat, k ≤ n ∧ i = .int .i64 k ∧ Hid ((xs.take k).all genB = true) ∧ Below w.heap.size w wr) (fun i _ => n - (intOf i).toNat)
  case atStart => exact ⟨0, Nat.zero_le _, rfl, rfl, Below.refl _ _⟩
  case round =>
    obtain ⟨k, hk, rfl, hall, hB⟩ := hrel
    have hsz := hB.size
    by_cases hlt : k < n
    · have ex := Lib.hid (List.getElem?_eq_getElem (l := xs) (i := k) (by have := HN.out; omega))
      generalize xs[k]'(by have := HN.out; omega) = x at *
      obtain ⟨b, off, rfl, hbx, c0, c1⟩ := HX.out.at_ ex.out
      have c0 := Below.keeps hB c0; have c1 := Below.keeps hB c1
      have hlt2 : (k : Int) < n := by omega
      cases hg : inB x.1 0 999
      · have hr := Lib.hid (show catsOkB xs = false by simp [catsOkB, all_no ex.out (show genB x = false from hg)])
        go_wp2_with (go_at_call 25; refine (within_any _ _ _ _).mono ?_; rintro e w' ⟨rfl, rfl⟩; rw [hg])
        go_ret
        exact ⟨by rw [hr.out]; rfl, hB.alloc hsz _⟩
      · have hs := Lib.hid (show (xs.take (k + 1)).all genB = true by rw [all_snoc genB ex.out, hall.out, show genB x = true from hg]; rfl)
        go_wp2_with (go_at_call 25; refine (within_any _ _ _ _).mono ?_; rintro e w' ⟨rfl, rfl⟩; rw [hg])
        exact ⟨⟨k + 1, by omega, by go_num, hs, hB.alloc hsz _⟩, by simp [intOf]; omega⟩
    · obtain rfl : k = n := by omega
      have hr := Lib.hid (show catsOkB xs = decide ((k : Int) = 4) by
        have := hall.out
        rw [List.take_of_length_le (by have := HN.out; omega)] at this
        simp [catsOkB, this, HN.out]; omega)
      by_cases h4 : k = 4
      · subst h4
        go_wp2
        go_ret
        exact ⟨by rw [hr.out]; rfl, hB⟩
      · have h5 : ((k : Int) == 4) = false := by simp; omega
        have h6 : decide ((k : Int) = 4) = false := by simp; omega
        rw [h6] at hr
        go_wp2
        go_ret
        exact ⟨by rw [hr.out]; rfl, hB⟩

def catOf (xs : List El) (id : Int) : Int :=
  if catsOkB xs = true ∧ 0 ≤ id then (match xs[(id % 4).toNat]? with | some c => if c.2 = true ∧ c.1 = id / 4 then id % 4 else -1 | none => -1) else -1
theorem catsOk_len {xs : List El} (h : catsOkB xs = true) : xs.length = 4 := by
  simp only [catsOkB, Bool.and_eq_true, decide_eq_true_eq] at h; exact h.1
theorem catsOk_gen {xs : List El} (h : catsOkB xs = true) {k : Nat} {x : El} (hx : xs[k]? = some x) : 0 ≤ x.1 ∧ x.1 ≤ 999 := by
  simp only [catsOkB, Bool.and_eq_true, List.all_eq_true] at h
  exact inB_true (h.2 x (List.mem_of_getElem? hx))
theorem catOf_no {xs : List El} {id : Int} (h : catsOkB xs = false) : catOf xs id = -1 := by simp [catOf, h]
theorem catOf_neg {xs : List El} {id : Int} (h : id < 0) : catOf xs id = -1 := by
  unfold catOf; rw [if_neg (by omega)]
theorem catOf_at {xs : List El} {m q : Nat} {x : El} (h : catsOkB xs = true) (hq : (m : Int) % 4 = q) (hx : xs[q]? = some x) : catOf xs m = if x.2 = true ∧ x.1 = (m : Int) / 4 then (q : Int) else -1 := by
  unfold catOf
  rw [if_pos ⟨h, by omega⟩, hq, show ((q : Int)).toNat = q from rfl, hx]
set_option maxHeartbeats 3200000 in
theorem specCatOf_any (A : Option Addr) (n c : Nat) (xs : List El) (id : Int) (w : World) (hx : Els w A xs) (hn : xs.length = n) (hnb : n ≤ 1099511627776) (hid : id ≤ 9223372036854775807) :
    Calls Try.prog 13 #[.slice A n c, .int .i64 id] w fun e w' => e = .returned (.int .i64 (catOf xs id)) ∧ Below w.heap.size w w' := by
  have C := Lib.hid (fun w' h => specCatsOk_any A n c xs w' h hn hnb)
  have HX := Lib.hid hx
  clear hx
  cases hok : catsOkB xs
  · have hr := Lib.hid (catOf_no (id := id) hok)
    clear hn
    rw [hok] at C
    have HK := Lib.hid hok
    clear hok
    go_enter Try.func13, Try.ntmps13
    go_wp2_with (go_at_call 9; refine (C.out _ HX.out).mono ?_; rintro e w2 ⟨rfl, hb⟩)
    go_ret
    exact ⟨by rw [hr.out]; rfl, hb⟩
  · rw [hok] at C
    by_cases hneg : id < 0
    · have hr := Lib.hid (catOf_neg (xs := xs) hneg)
      clear hn
      clear hok
      go_enter Try.func13, Try.ntmps13
      go_wp2_with (go_at_call 9; refine (C.out _ HX.out).mono ?_; rintro e w2 ⟨rfl, hb⟩)
      go_ret
      exact ⟨by rw [hr.out]; rfl, hb⟩
    · obtain ⟨m, rfl⟩ := Int.eq_ofNat_of_zero_le (show 0 ≤ id by omega)
      obtain ⟨q, hq⟩ : ∃ q : Nat, (m : Int) % 4 = q := ⟨m % 4, by omega⟩
      have hq4 : q < 4 := by omega
      have h4 := catsOk_len hok
      obtain rfl : n = 4 := by omega
      have ex := Lib.hid (List.getElem?_eq_getElem (l := xs) (i := q) (by omega))
      generalize xs[q]'(by omega) = x at *
      have hr := Lib.hid (catOf_at hok hq ex.out)
      have HK := Lib.hid hok
      clear hok h4 hn
      obtain ⟨b, off, rfl, hbx, c0, c1⟩ := HX.out.at_ ex.out
      have hq2 : (q : Int) < 4 := by omega
      have hq0 : (0 : Int) ≤ (q : Int) := by omega
      cases hl : x.2
      · rw [hl] at c1
        have hr2 := Lib.hid (show catOf xs m = -1 by rw [hr.out, if_neg (by simp [hl])])
        clear hl
        go_enter Try.func13, Try.ntmps13
        go_wp2_with (go_at_call 9; refine (C.out _ HX.out).mono ?_; rintro e w2 ⟨rfl, hb⟩; have c0 := Below.keeps hb c0; have c1 := Below.keeps hb c1)
        go_ret
        exact ⟨by rw [hr2.out]; rfl, hb⟩
      · rw [hl] at c1
        by_cases hg : x.1 = (m : Int) / 4
        · have hr2 := Lib.hid (show catOf xs m = q by rw [hr.out, if_pos ⟨hl, hg⟩])
          have hg2 : (x.1 != (m : Int) / 4) = false := by simpa using hg
          have hg3 := Lib.hid hg
          clear hl hg
          go_enter Try.func13, Try.ntmps13
          go_wp2_with (go_at_call 9; refine (C.out _ HX.out).mono ?_; rintro e w2 ⟨rfl, hb⟩; have c0 := Below.keeps hb c0; have c1 := Below.keeps hb c1)
          go_ret
          exact ⟨by rw [hr2.out, ← hq]; rfl, hb⟩
        · have hr2 := Lib.hid (show catOf xs m = -1 by rw [hr.out, if_neg (by simp [hg])])
          have hg2 : (x.1 != (m : Int) / 4) = true := by simpa using hg
          have hg3 := Lib.hid hg
          clear hl hg
          go_enter Try.func13, Try.ntmps13
          go_wp2_with (go_at_call 9; refine (C.out _ HX.out).mono ?_; rintro e w2 ⟨rfl, hb⟩; have c0 := Below.keeps hb c0; have c1 := Below.keeps hb c1)
          go_ret
          exact ⟨by rw [hr2.out]; rfl, hb⟩
set_option maxHeartbeats 3200000 in
theorem implCatOf_any (A : Option Addr) (n c : Nat) (xs : List El) (id : Int) (w : World) (hx : Els w A xs) (hn : xs.length = n) (hnb : n ≤ 1099511627776) (hid : id ≤ 9223372036854775807) :
    Calls Try.prog 14 #[.slice A n c, .int .i64 id] w fun e w' => e = .returned (.int .i64 (catOf xs id)) ∧ Below w.heap.size w w' := by
  have C := Lib.hid (fun w' h => implCatsOk_any A n c xs w' h hn hnb)
  have HX := Lib.hid hx
  clear hx
  cases hok : catsOkB xs
  · have hr := Lib.hid (catOf_no (id := id) hok)
    clear hn
    rw [hok] at C
    have HK := Lib.hid hok
    clear hok
    go_enter Try.func14, Try.ntmps14
    go_wp2_with (go_at_call 11; refine (C.out _ HX.out).mono ?_; rintro e w2 ⟨rfl, hb⟩)
    go_ret
    exact ⟨by rw [hr.out]; rfl, hb⟩
  · rw [hok] at C
    by_cases hneg : id < 0
    · have hr := Lib.hid (catOf_neg (xs := xs) hneg)
      clear hn
      clear hok
      go_enter Try.func14, Try.ntmps14
      go_wp2_with (go_at_call 11; refine (C.out _ HX.out).mono ?_; rintro e w2 ⟨rfl, hb⟩)
      go_ret
      exact ⟨by rw [hr.out]; rfl, hb⟩
    · obtain ⟨m, rfl⟩ := Int.eq_ofNat_of_zero_le (show 0 ≤ id by omega)
      obtain ⟨q, hq⟩ : ∃ q : Nat, (m : Int) % 4 = q := ⟨m % 4, by omega⟩
      have hq4 : q < 4 := by omega
      have h4 := catsOk_len hok
      obtain rfl : n = 4 := by omega
      have ex := Lib.hid (List.getElem?_eq_getElem (l := xs) (i := q) (by omega))
      generalize xs[q]'(by omega) = x at *
      have hr := Lib.hid (catOf_at hok hq ex.out)
      have HK := Lib.hid hok
      clear hok h4 hn
      obtain ⟨b, off, rfl, hbx, c0, c1⟩ := HX.out.at_ ex.out
      have hq2 : (q : Int) < 4 := by omega
      have hq0 : (0 : Int) ≤ (q : Int) := by omega
      cases hl : x.2
      · rw [hl] at c1
        have hr2 := Lib.hid (show catOf xs m = -1 by rw [hr.out, if_neg (by simp [hl])])
        clear hl
        go_enter Try.func14, Try.ntmps14
        go_wp2_with (go_at_call 11; refine (C.out _ HX.out).mono ?_; rintro e w2 ⟨rfl, hb⟩; have c0 := Below.keeps hb c0; have c1 := Below.keeps hb c1)
        go_ret
        exact ⟨by rw [hr2.out]; rfl, hb⟩
      · rw [hl] at c1
        by_cases hg : x.1 = (m : Int) / 4
        · have hr2 := Lib.hid (show catOf xs m = q by rw [hr.out, if_pos ⟨hl, hg⟩])
          have hg2 : (x.1 != (m : Int) / 4) = false := by simpa using hg
          have hg3 := Lib.hid hg
          clear hl hg
          go_enter Try.func14, Try.ntmps14
          go_wp2_with (go_at_call 11; refine (C.out _ HX.out).mono ?_; rintro e w2 ⟨rfl, hb⟩; have c0 := Below.keeps hb c0; have c1 := Below.keeps hb c1)
          go_ret
          exact ⟨by rw [hr2.out, ← hq]; rfl, hb⟩
        · have hr2 := Lib.hid (show catOf xs m = -1 by rw [hr.out, if_neg (by simp [hg])])
          have hg2 : (x.1 != (m : Int) / 4) = true := by simpa using hg
          have hg3 := Lib.hid hg
          clear hl hg
          go_enter Try.func14, Try.ntmps14
          go_wp2_with (go_at_call 11; refine (C.out _ HX.out).mono ?_; rintro e w2 ⟨rfl, hb⟩; have c0 := Below.keeps hb c0; have c1 := Below.keeps hb c1)
          go_ret
          exact ⟨by rw [hr2.out]; rfl, hb⟩

end Go.Proofs.Ytjhkaipceepjiaa
