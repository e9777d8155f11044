/- Contracts of CatNew and CatDrop. -/
import Derived.Test.YtjhkaipceepjiaaCats
namespace Go.Proofs.Ytjhkaipceepjiaa
set_option linter.unusedSimpArgs false
set_option linter.unusedVariables false
open Go.RowKit
attribute [local go_sem ↓] Go.wp_at_zero Go.wp_at_succ

def freeB (c : El) : Bool := !c.2 && decide (c.1 < 999)
def catNew (xs : List El) : List El × Int × Bool :=
  if catsOkB xs = true then (match xs.findIdx? freeB with | some k => (xs.set k ((xs.getD k (0, false)).1 + 1, true), (k : Int) + 4 * ((xs.getD k (0, false)).1 + 1), true) | none => (xs, 0, false)) else (xs, 0, false)
theorem catNew_no {xs : List El} (h : catsOkB xs = false) : catNew xs = (xs, 0, false) := by simp [catNew, h]
theorem catNew_none {xs : List El} (h : catsOkB xs = true) (hk : ∀ j, j < xs.length → ∀ c, xs[j]? = some c → freeB c = false) : catNew xs = (xs, 0, false) := by
  have hf : xs.findIdx? freeB = none := by
    rw [List.findIdx?_eq_none_iff]
    intro c hc
    obtain ⟨j, hj⟩ := List.getElem?_of_mem hc
    exact hk j (List.getElem?_eq_some_iff.1 hj).1 c hj
  simp [catNew, h, hf]
theorem catNew_some {xs : List El} (h : catsOkB xs = true) {k : Nat} {x : El} (hx : xs[k]? = some x) (hl : x.2 = false) (hg : x.1 < 999) (hk : ∀ j, j < k → ∀ c, xs[j]? = some c → freeB c = false) :
    catNew xs = (xs.set k (x.1 + 1, true), (k : Int) + 4 * (x.1 + 1), true) := by
  obtain ⟨hlt, hxe⟩ := List.getElem?_eq_some_iff.1 hx
  have hf : xs.findIdx? freeB = some k := by
    rw [List.findIdx?_eq_some_iff_getElem]
    refine ⟨hlt, by simp [hxe, freeB, hl, hg], fun j hj => ?_⟩
    have := hk j hj xs[j] (List.getElem?_eq_getElem (by omega))
    simp [this]
  have hd : xs.getD k (0, false) = x := by simp [List.getD, hx]
  simp only [catNew, h, hf, hd, if_true]
def NewPost (xs : List El) (n : Nat) (w : World) (e : Ending) (w' : World) : Prop :=
  ∃ A' c', e = .returned (.tuple #[.slice A' n c', .int .i64 (catNew xs).2.1, .bool (catNew xs).2.2]) ∧ OwnE w' w.heap.size A' (catNew xs).1 ∧ Below w.heap.size w w'
theorem OwnE.drewN {w : World} {B : Nat} {A : Option Addr} {xs : List El} (h : OwnE w B A xs) (n : Nat) : OwnE (w.drewN n) B A xs := h
theorem OwnE.alloc {w : World} {B : Nat} {A : Option Addr} {xs : List El} (h : OwnE w B A xs) (o : Obj) : OwnE (w.alloc o) B A xs := by
  rcases h with rfl | ⟨g, full, rfl, h1, hh, hp⟩
  · exact .inl rfl
  · exact .inr ⟨g, full, rfl, h1, blk_alloc hh, hp⟩
theorem own_set {w : World} {B g : Nat} {full : Array Value} {xs : List El} (hB : B ≤ g) (hh : w.heap[g]? = some (.cells full 40 (0, 0))) (hp : Pre (vals xs) full) (k : Nat) (c : El) :
    OwnE ((w.setCell ⟨g, k * 2, none⟩ (.int .i64 c.1)).setCell ⟨g, k * 2 + 1, none⟩ (.bool c.2)) B (some ⟨g, 0, none⟩) (xs.set k c) :=
  .inr ⟨g, _, rfl, hB, blk_set (i := k * 2 + 1) (blk_set (i := k * 2) hh (.int .i64 c.1)) (.bool c.2), by rw [← vals_set]; exact (hp.set_ _ _).set_ _ _⟩
theorem prev_snoc {xs : List El} {k : Nat} {x : El} (hk : ∀ j, j < k → ∀ c, xs[j]? = some c → freeB c = false) (hx : xs[k]? = some x) (h : freeB x = false) : ∀ j, j < k + 1 → ∀ c, xs[j]? = some c → freeB c = false := by
  intro j hj c hc
  by_cases hjk : j = k
  · subst hjk; rw [hx] at hc; cases hc; exact h
  · exact hk j (by omega) c hc
set_option maxHeartbeats 6400000 in
theorem specCatNew_any (A : Option Addr) (n c : Nat) (xs : List El) (w : World) (hx : Els w A xs) (hn : xs.length = n) (hnb : n ≤ 1099511627776) :
    Calls Try.prog 15 #[.slice A n c] w (NewPost xs n w) := by
  have C := Lib.hid (fun w' h => specCatsOk_any A n c xs w' h hn hnb)
  obtain ⟨A', c', w1, hrun, hown, hB⟩ := copy_run w A n c xs hx hn hnb
  have HO := Lib.hid hown; have HR := Lib.hid hrun
  clear hown hrun
  have HX := Lib.hid hx
  clear hx
  cases hok : catsOkB xs
  · have hr := Lib.hid (catNew_no hok)
    clear hn
    rw [hok] at C
    have HK := Lib.hid hok
    clear hok
    go_enter Try.func15, Try.ntmps15
    go_wp2_with (first | (at_builtin; refine wpList_append_eq rfl _ _ _ rfl _ _ _ _ (by rfl) (by rfl) HR.out ?_) | (go_at_call 9; refine (C.out _ (HX.out.below hB)).mono ?_; rintro e w2 ⟨rfl, hb⟩))
    have hB2 := Below.trans hB (hb.mono hB.size)
    have HO := Lib.hid (HO.out.below hb)
    clear hb
    go_ret3
    exact ⟨A', c', by rw [hr.out]; rfl, by rw [hr.out]; exact HO.out, hB2⟩
  · rw [hok] at C
    have h4 := catsOk_len hok
    obtain rfl : n = 4 := by omega
    have HN := Lib.hid h4
    have HK := Lib.hid hok
    clear hok h4 hn
    go_enter Try.func15, Try.ntmps15
    go_wp2_with (first | (at_builtin; refine wpList_append_eq rfl _ _ _ rfl _ _ _ _ (by rfl) (by rfl) HR.out ?_) | (go_at_call 9; refine (C.out _ (HX.out.below hB)).mono ?_; rintro e w2 ⟨rfl, hb⟩))
    have hB2 := Below.trans hB (hb.mono hB.size)
    have HO := Lib.hid (HO.out.below hb)
    have hsz2 := hB2.size
    clear hb hB
    go_loop [6] (fun i => ∃ k : Nat, k ≤ 4 ∧ i = .int .i64 k ∧ Hid (∀ j, j < k → ∀ c, xs[j]? = some c → freeB c = false)) (fun i => 4 - (intOf i).toNat)
    case atStart => exact ⟨0, Nat.zero_le _, rfl, fun j hj => by omega⟩
    case round =>
      obtain ⟨k, hk, rfl, hprev⟩ := hrel
      by_cases hlt : k < 4
      · have ex := Lib.hid (List.getElem?_eq_getElem (l := xs) (i := k) (by have := HN.out; omega))
        generalize xs[k]'(by have := HN.out; omega) = x at *
        obtain ⟨b, off, rfl, hbx, c0, c1⟩ := HX.out.at_ ex.out
        have c0 := Below.keeps hB2 c0; have c1 := Below.keeps hB2 c1
        have hlt2 : (k : Int) < 4 := by omega
        have hk0 : (0 : Int) ≤ (k : Int) := by omega
        cases hl : x.2
        · rw [hl] at c1
          by_cases hg : x.1 < 999
          · obtain ⟨hg0, _⟩ := catsOk_gen HK.out ex.out
            rcases HO.out with h0 | ⟨g, full, rfl, hBg, hh, hp⟩
            · exfalso; have := HN.out; rw [h0] at this; simp at this
            obtain ⟨d0, d1⟩ := pre_at hh hp ex.out
            have kf := (blkcell hh).2
            have hr := Lib.hid (catNew_some HK.out ex.out hl hg hprev.out)
            have HS := Lib.hid (own_set hBg hh hp k (x.1 + 1, true))
            have hne : ¬ b = g := by omega
            have hne2 : ¬ g = b := by omega
            have hBS := Lib.hid ((hB2.setCell (p := ⟨g, k * 2, none⟩) hBg (.int .i64 (x.1 + 1))).setCell (p := ⟨g, k * 2 + 1, none⟩) hBg (.bool true))
            clear hh hp hl
            go_wp2_with fail
            go_quiet (fail)
            go_wp2
            go_ret3
            exact ⟨_, _, by rw [hr.out]; rfl, by rw [hr.out]; exact HS.out, below_drewN hBS.out _⟩
          · have hs := Lib.hid (prev_snoc hprev.out ex.out (by simp [freeB, hg]))
            have hg1 : decide (x.1 < 999) = false := by simpa using hg
            clear hl
            go_wp2
            exact ⟨⟨k + 1, by omega, by go_num, hs⟩, by simp [intOf]; omega⟩
        · rw [hl] at c1
          have hs := Lib.hid (prev_snoc hprev.out ex.out (by simp [freeB, hl]))
          clear hl
          go_wp2
          exact ⟨⟨k + 1, by omega, by go_num, hs⟩, by simp [intOf]; omega⟩
      · obtain rfl : k = 4 := by omega
        have hr := Lib.hid (catNew_none HK.out (fun j hj => hprev.out j (by have := HN.out; omega)))
        go_wp2
        go_ret3
        exact ⟨A', c', by rw [hr.out]; rfl, by rw [hr.out]; exact HO.out, hB2⟩
set_option maxHeartbeats 1600000 in
theorem copyCats_any (A : Option Addr) (n c : Nat) (xs : List El) (w : World) (hx : Els w A xs) (hn : xs.length = n) (hnb : n ≤ 1099511627776) :
    Calls Try.prog 27 #[.slice A n c] w fun e w' => ∃ A' c', e = .returned (.slice A' n c') ∧ OwnE w' w.heap.size A' xs ∧ Below w.heap.size w w' := by
  obtain ⟨A', c', w1, hrun, hown, hB⟩ := copy_run w A n c xs hx hn hnb
  clear hx hn
  have HO := Lib.hid hown
  have HR := Lib.hid hrun
  clear hown hrun
  go_enter Try.func27, Try.ntmps27
  go_wp2_with (at_builtin; refine wpList_append_eq rfl _ _ _ rfl _ _ _ _ (by rfl) (by rfl) HR.out ?_)
  go_ret
  exact ⟨_, _, rfl, HO.out, hB⟩
set_option maxHeartbeats 6400000 in
theorem implCatNew_any (A : Option Addr) (n c : Nat) (xs : List El) (w : World) (hx : Els w A xs) (hn : xs.length = n) (hnb : n ≤ 1099511627776) :
    Calls Try.prog 16 #[.slice A n c] w (NewPost xs n w) := by
  have C := Lib.hid (fun w' h => implCatsOk_any A n c xs w' h hn hnb)
  have HR := Lib.hid (copyCats_any A n c xs w hx hn hnb)
  have HX := Lib.hid hx
  clear hx
  cases hok : catsOkB xs
  · have hr := Lib.hid (catNew_no hok)
    clear hn
    rw [hok] at C
    have HK := Lib.hid hok
    clear hok
    go_enter Try.func16, Try.ntmps16
    go_wp2_with (first | (go_at_call 27; refine (Calls.mono HR.out ?_); rintro e w1 ⟨A', c', rfl, hown, hB⟩; have HO := Lib.hid hown; clear hown) | (go_at_call 11; refine (C.out _ (HX.out.below hB)).mono ?_; rintro e w2 ⟨rfl, hb⟩))
    have hB2 := Below.trans hB (hb.mono hB.size)
    have HO := Lib.hid (HO.out.below hb)
    clear hb
    go_ret3
    exact ⟨A', c', by rw [hr.out]; rfl, by rw [hr.out]; exact HO.out, hB2⟩
  · rw [hok] at C
    have h4 := catsOk_len hok
    obtain rfl : n = 4 := by omega
    have HN := Lib.hid h4
    have HK := Lib.hid hok
    clear hok h4 hn
    go_enter Try.func16, Try.ntmps16
    go_wp2_with (first | (go_at_call 27; refine (Calls.mono HR.out ?_); rintro e w1 ⟨A', c', rfl, hown, hB⟩; have HO := Lib.hid hown; clear hown) | (go_at_call 11; refine (C.out _ (HX.out.below hB)).mono ?_; rintro e w2 ⟨rfl, hb⟩))
    have hB2 := Below.trans hB (hb.mono hB.size)
    have HO := Lib.hid (HO.out.below hb)
    have hsz2 := hB2.size
    clear hb hB
    go_loopw [16] (fun i wr => ∃ k : Nat, k ≤ 4 ∧ i = .int .i64 k ∧ Hid (∀ j, j < k → ∀ c, xs[j]? = some c → freeB c = false) ∧ Below w2.heap.size w2 wr) (fun i _ => 4 - (intOf i).toNat)
    case atStart => exact ⟨0, Nat.zero_le _, rfl, fun j hj => by omega, Below.refl _ _⟩
    case round =>
      obtain ⟨k, hk, rfl, hprev, hBr⟩ := hrel
      have hB2 := Below.trans hB2 (hBr.mono hsz2)
      have HO := Lib.hid (HO.out.below hBr)
      have hszr := hBr.size
      have hsz3 := hB2.size
      by_cases hlt : k < 4
      · have ex := Lib.hid (List.getElem?_eq_getElem (l := xs) (i := k) (by have := HN.out; omega))
        generalize xs[k]'(by have := HN.out; omega) = x at *
        obtain ⟨b, off, rfl, hbx, c0, c1⟩ := HX.out.at_ ex.out
        have c0 := Below.keeps hB2 c0; have c1 := Below.keeps hB2 c1
        have hlt2 : (k : Int) < 4 := by omega
        have hk0 : (0 : Int) ≤ (k : Int) := by omega
        cases hl : x.2
        · rw [hl] at c1
          by_cases hg : x.1 < 999
          · obtain ⟨hg0, _⟩ := catsOk_gen HK.out ex.out
            rcases HO.out with h0 | ⟨g, full, rfl, hBg, hh, hp⟩
            · exfalso; have := HN.out; rw [h0] at this; simp at this
            have hgl := lt_of_blk hh
            obtain ⟨d0, d1⟩ := pre_at hh hp ex.out
            have kf := (blkcell hh).2
            have hr := Lib.hid (catNew_some HK.out ex.out hl hg hprev.out)
            have HS := Lib.hid (OwnE.alloc (own_set hBg hh hp k (x.1 + 1, true)) (.cells #[.int .i64 x.1, .bool false] 40))
            have hne : ¬ b = g := by omega
            have hne2 : ¬ g = b := by omega
            have hBS := Lib.hid (((hB2.setCell (p := ⟨g, k * 2, none⟩) hBg (.int .i64 (x.1 + 1))).setCell (p := ⟨g, k * 2 + 1, none⟩) hBg (.bool true)).alloc (by simpa using hsz3) (.cells #[.int .i64 x.1, .bool false] 40))
            clear hh hp hl
            go_wp2_with fail
            go_quiet (fail)
            go_wp2
            go_ret3
            exact ⟨_, _, by rw [hr.out]; rfl, by rw [hr.out]; exact HS.out, below_drewN hBS.out _⟩
          · have hs := Lib.hid (prev_snoc hprev.out ex.out (by simp [freeB, hg]))
            have hg1 : decide (x.1 < 999) = false := by simpa using hg
            clear hl
            go_wp2
            exact ⟨⟨k + 1, by omega, by go_num, hs, hBr.alloc hszr _⟩, by simp [intOf]; omega⟩
        · rw [hl] at c1
          have hs := Lib.hid (prev_snoc hprev.out ex.out (by simp [freeB, hl]))
          clear hl
          go_wp2
          exact ⟨⟨k + 1, by omega, by go_num, hs, hBr.alloc hszr _⟩, by simp [intOf]; omega⟩
      · obtain rfl : k = 4 := by omega
        have hr := Lib.hid (catNew_none HK.out (fun j hj => hprev.out j (by have := HN.out; omega)))
        go_wp2
        go_ret3
        exact ⟨A', c', by rw [hr.out]; rfl, by rw [hr.out]; exact HO.out, hB2⟩

end Go.Proofs.Ytjhkaipceepjiaa
