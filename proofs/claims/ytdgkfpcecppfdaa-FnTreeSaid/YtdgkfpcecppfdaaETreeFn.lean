/- The trees' functions in plain words, and contracts of the reference's look at a reserve and of the copies. -/
import Derived.Test.YtdgkfpcecppfdaaETreeSum
namespace Go.Proofs.Ytdgkfpcecppfdaa
set_option linter.unusedSimpArgs false
set_option linter.unusedVariables false
open Go.RowKit
attribute [local go_sem ↓] Go.wp_at_zero Go.wp_at_succ

open Classical in
noncomputable def rightB (t : List El) : Bool := decide (Right t)
theorem rightB_iff (t : List El) : rightB t = true ↔ Right t := by unfold rightB; simp
def balAt (t : List El) (i : Int) : Int × Int × Int := match t[i.toNat]? with | some x => x.2.2 | none => (0, 0, 0)
theorem balAt_nat {t : List El} {j : Nat} {x : El} (h : t[j]? = some x) : balAt t j = x.2.2 := by
  unfold balAt
  rw [show ((j : Int)).toNat = j from rfl, h]
abbrev B3 := Int × Int × Int
abbrev amt3 (b : B3) : Value := amt b.1 b.2.1 b.2.2
def fits3 (a b : B3) : Bool := fitsB a.1 a.2.1 a.2.2 b.1 b.2.1 b.2.2
def okB3 (a : B3) : Bool := amtB a.1 a.2.1 a.2.2
def add33 (a b : B3) : B3 := (a.1 + b.1, a.2.1 + b.2.1, a.2.2 + b.2.2)
def sub33 (a b : B3) : B3 := (a.1 - b.1, a.2.1 - b.2.1, a.2.2 - b.2.2)
def setBal (x : El) (b : B3) : El := (x.1, x.2.1, b)
theorem setBal_self (x : El) : setBal x x.2.2 = x := rfl
def subR (a b : B3) : B3 × Bool := if fits3 b a then (sub33 a b, true) else (a, false)
def addR (a b : B3) : B3 × Bool := if okB3 a && okB3 b && okB3 (add33 a b) then (add33 a b, true) else (a, false)
theorem specAmtSub_r (a b : B3) (w : World) :
    Calls Try.prog 56 #[amt3 a, amt3 b] w fun e w' => e = .returned (.tuple #[amt3 (subR a b).1, .bool (subR a b).2]) ∧ Below w.heap.size w w' := by
  unfold subR
  cases h : fits3 b a
  · exact specAmtSub_no _ _ _ _ _ _ _ h
  · exact specAmtSub_yes _ _ _ _ _ _ _ h
theorem implAmtSub_r (a b : B3) (w : World) :
    Calls Try.prog 58 #[amt3 a, amt3 b] w fun e w' => e = .returned (.tuple #[amt3 (subR a b).1, .bool (subR a b).2]) ∧ Below w.heap.size w w' := by
  unfold subR
  cases h : fits3 b a
  · exact implAmtSub_no _ _ _ _ _ _ _ h
  · exact implAmtSub_yes _ _ _ _ _ _ _ h
theorem specAmtAdd_r (a b : B3) (w : World) :
    Calls Try.prog 59 #[amt3 a, amt3 b] w fun e w' => e = .returned (.tuple #[amt3 (addR a b).1, .bool (addR a b).2]) ∧ Below w.heap.size w w' := by
  unfold addR
  cases h : (okB3 a && okB3 b && okB3 (add33 a b))
  · exact specAmtAdd_no _ _ _ _ _ _ _ h
  · exact specAmtAdd_yes _ _ _ _ _ _ _ h
/-- what a function gives back: a slice of its own and a bool -/
def OutB (R : List El) (b : Bool) (n : Nat) (w : World) (e : Ending) (w' : World) : Prop :=
  ∃ A' c', e = .returned (.tuple #[.slice A' n (n + c'), .bool b]) ∧ OwnE w' w.heap.size A' R ∧ Below w.heap.size w w'
theorem OwnE.drewN {w : World} {B : Nat} {A : Option Addr} {xs : List El} (h : OwnE w B A xs) (n : Nat) : OwnE (w.drewN n) B A xs := h
theorem OwnE.alloc {w : World} {B : Nat} {A : Option Addr} {xs : List El} (h : OwnE w B A xs) (o : Obj) : OwnE (w.alloc o) B A xs := by
  rcases h with rfl | ⟨g, full, rfl, h1, hh, hp⟩
  · exact .inl rfl
  · exact .inr ⟨g, full, rfl, h1, blk_alloc hh, hp⟩
theorem OwnE.more {w : World} {B B' : Nat} {A : Option Addr} {xs : List El} (h : OwnE w B A xs) (hB : B' ≤ B) : OwnE w B' A xs := by
  rcases h with rfl | ⟨g, full, rfl, h1, hh, hp⟩
  · exact .inl rfl
  · exact .inr ⟨g, full, rfl, Nat.le_trans hB h1, hh, hp⟩
theorem OwnE.block {w : World} {B : Nat} {A : Option Addr} {xs : List El} (h : OwnE w B A xs) (hl : xs.length = 5) : ∃ (g : Nat) (full : Array Value), A = some ⟨g, 0, none⟩ ∧ B ≤ g ∧ w.heap[g]? = some (.cells full 56 (0, 0)) ∧ Pre (vals xs) full := by
  rcases h with rfl | h
  · simp at hl
  · exact h
theorem vals_setBal {xs : List El} {k : Nat} {x : El} (h : xs[k]? = some x) (b : B3) : ((((vals xs).set (k * 5 + 2) (.int .i64 b.1)).set (k * 5 + 3) (.int .i64 b.2.1)).set (k * 5 + 4) (.int .i64 b.2.2)) = vals (xs.set k (setBal x b)) := by
  rw [← vals_set]
  have h1 := vals_at xs k
  rw [h] at h1
  have hl0 := (List.getElem?_eq_some_iff.1 h1.1).1
  have hl1 := (List.getElem?_eq_some_iff.1 h1.2.1).1
  congr 3
  apply List.ext_getElem?
  intro i
  rw [List.getElem?_set, List.getElem?_set]
  by_cases e1 : k * 5 + 1 = i
  · subst e1; rw [h1.2.1]; simp [hl1, setBal]
  · rw [if_neg e1]
    by_cases e0 : k * 5 = i
    · subst e0; rw [h1.1]; simp [hl0, setBal]
    · rw [if_neg e0]
theorem OwnE.setBal {w : World} {B g : Nat} {full : Array Value} {xs : List El} {k : Nat} {x : El} (hB : B ≤ g) (hh : w.heap[g]? = some (.cells full 56 (0, 0))) (hp : Pre (vals xs) full) (h : xs[k]? = some x) (b : B3) :
    OwnE (((w.setCell ⟨g, k * 5 + 2, none⟩ (.int .i64 b.1)).setCell ⟨g, k * 5 + 2 + 1, none⟩ (.int .i64 b.2.1)).setCell ⟨g, k * 5 + 2 + 2, none⟩ (.int .i64 b.2.2)) B (some ⟨g, 0, none⟩) (xs.set k (setBal x b)) :=
  .inr ⟨g, _, rfl, hB, blk_set (i := k * 5 + 4) (blk_set (i := k * 5 + 3) (blk_set (i := k * 5 + 2) hh (.int .i64 b.1)) (.int .i64 b.2.1)) (.int .i64 b.2.2), by rw [← vals_setBal h]; exact ((hp.set_ _ _).set_ _ _).set_ _ _⟩

set_option maxHeartbeats 1600000 in
theorem copyTree_any (A : Option Addr) (n c : Nat) (xs : List El) (w : World) (hx : Els w A xs) (hn : xs.length = n) (hnb : n ≤ 1099511627776) :
    Calls Try.prog 57 #[.slice A n c] w fun e w' => ∃ A' c', e = .returned (.slice A' n (n + c')) ∧ OwnE w' w.heap.size A' xs ∧ Below w.heap.size w w' := by
  obtain ⟨A', c', w1, hrun, hown, hB⟩ := copy_run w A n c xs hx hn hnb
  clear hx hn
  have HO := Lib.hid hown
  have HR := Lib.hid hrun
  clear hown hrun
  go_enter Try.func57, Try.ntmps57
  go_wp2_with (at_builtin; refine wpList_append_eq rfl _ _ _ rfl _ _ _ _ (by rfl) (by rfl) HR.out ?_)
  go_ret
  exact ⟨_, _, rfl, HO.out, hB⟩
set_option maxHeartbeats 1600000 in
theorem l6Copy_any (A : Option Addr) (n c : Nat) (xs : List El) (w : World) (hx : Els w A xs) (hn : xs.length = n) (hnb : n ≤ 1099511627776) :
    Calls Try.prog 55 #[.slice A n c] w fun e w' => ∃ A' c', e = .returned (.slice A' n (n + c')) ∧ OwnE w' w.heap.size A' xs ∧ Below w.heap.size w w' := by
  obtain ⟨A', c', w1, hrun, hown, hB⟩ := copy_run w A n c xs hx hn hnb
  clear hx hn
  have HO := Lib.hid hown
  have HR := Lib.hid hrun
  clear hown hrun
  go_enter Try.func55, Try.ntmps55
  go_wp2_with (at_builtin; refine wpList_append_eq rfl _ _ _ rfl _ _ _ _ (by rfl) (by rfl) HR.out ?_)
  go_ret
  exact ⟨_, _, rfl, HO.out, hB⟩
theorem liveAt_out {t : List El} {i : Int} (h : inB i 0 4 = false) : liveAt t i = false := by simp [liveAt, h]
set_option maxHeartbeats 1600000 in
theorem l6Live_any (A : Option Addr) (n c : Nat) (t : List El) (i : Int) (w : World) (hx : Els w A t) (hn : t.length = n) (hnb : n ≤ 1099511627776) :
    Calls Try.prog 53 #[.slice A n c, .int .i64 i] w fun e w' => e = .returned (.bool (rightB t && liveAt t i)) ∧ Below w.heap.size w w' := by
  have C := Lib.hid (fun w' h => specTreeOk_any A n c t (rightB t) w' h hn hnb (rightB_iff t))
  have HX := Lib.hid hx
  cases hb : rightB t
  · rw [hb] at C
    clear hx hn hb
    go_enter Try.func53, Try.ntmps53
    go_wp2_with (go_at_call 20; refine (C.out _ HX.out).mono ?_; rintro e w2 ⟨rfl, hb⟩)
    go_ret
    exact ⟨rfl, hb⟩
  · have hR := (rightB_iff t).1 hb
    obtain rfl : n = 5 := by rw [← hn]; exact hR.len
    rw [hb] at C
    cases hin : inB i 0 4
    · have hr := Lib.hid (liveAt_out (t := t) hin)
      clear hx hn hb hR
      go_enter Try.func53, Try.ntmps53
      go_wp2_with (first | (go_at_call 20; refine (C.out _ HX.out).mono ?_; rintro e w2 ⟨rfl, hb⟩) | (go_at_call 47; refine (l6Res_any _ _).mono ?_; rintro e w' ⟨rfl, rfl⟩; rw [hin]))
      go_ret
      exact ⟨by rw [hr.out]; rfl, hb⟩
    · have hb' := inB_true hin
      obtain ⟨q, rfl⟩ := Int.eq_ofNat_of_zero_le hb'.1
      have ex := Lib.hid (List.getElem?_eq_getElem (l := t) (i := q) (by omega))
      generalize t[q]'(by omega) = x at *
      have hr := Lib.hid (liveAt_nat ex.out (by omega))
      obtain ⟨b, off, rfl, hbx, c0, c1, c2, c3, c4⟩ := hx.at_ ex.out
      clear hx hn hb hR
      have hq0 : (0 : Int) ≤ (q : Int) := by omega
      have hq5 : (q : Int) < 5 := by omega
      go_enter Try.func53, Try.ntmps53
      go_wp2_with (first | (go_at_call 20; refine (C.out _ HX.out).mono ?_; rintro e w2 ⟨rfl, hb⟩; have c0 := Below.keeps hb c0) | (go_at_call 47; refine (l6Res_any _ _).mono ?_; rintro e w' ⟨rfl, rfl⟩; rw [hin]))
      go_ret
      exact ⟨by rw [hr.out]; rfl, hb⟩

end Go.Proofs.Ytdgkfpcecppfdaa
