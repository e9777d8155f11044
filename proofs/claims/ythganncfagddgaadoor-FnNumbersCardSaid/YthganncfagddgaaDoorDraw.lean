/- Contracts of the reference's draws: a cursor over bytes; what comes is some number in its range. -/
import Derived.Test.YthganncfagddgaaDoorRegionG
import Derived.Deep.QuietTactic
import Derived.BigQuiet
import Derived.Deep.Draws
import Derived.Laws.BitsAllLaws
import Derived.Laws.BitsLemmas
namespace Go.Proofs.YthganncfagddgaaDoor
set_option linter.unusedSimpArgs false
set_option linter.unusedVariables false
open Go.RowKit
attribute [local go_sem ↓] Go.wp_at_zero Go.wp_at_succ

/-- the slice at A holds n bytes -/
def Bys (w : World) (A : Option Addr) (n : Nat) : Prop :=
  n = 0 ∨ ∃ b off, A = some ⟨b, off, none⟩ ∧ ∀ k, k < n → ∃ z : Nat, z < 256 ∧ w.cell? ⟨b, off + k, none⟩ = some (.int .u8 (z : Int))
theorem Bys.keep {w w' : World} {A : Option Addr} {n : Nat} (h : Bys w A n) (hk : ∀ p v, w.cell? p = some v → w'.cell? p = some v) : Bys w' A n := by
  rcases h with h | ⟨b, off, rfl, hc⟩
  · exact .inl h
  · exact .inr ⟨b, off, rfl, fun k hk' => by obtain ⟨z, h1, h2⟩ := hc k hk'; exact ⟨z, h1, hk _ _ h2⟩⟩
theorem Bys.at_ {w : World} {A : Option Addr} {n : Nat} (h : Bys w A n) {k : Nat} (hk : k < n) : ∃ b off, A = some ⟨b, off, none⟩ ∧ b < w.heap.size ∧ ∃ z : Nat, z < 256 ∧ w.cell? ⟨b, off + k, none⟩ = some (.int .u8 (z : Int)) := by
  rcases h with h | ⟨b, off, rfl, hc⟩
  · omega
  · obtain ⟨z, h1, h2⟩ := hc k hk
    exact ⟨b, off, rfl, lt_of_cell h2, z, h1, h2⟩
/-- the cursor lies in block g -/
def CurAt (w : World) (g : Nat) (A : Option Addr) (n c : Nat) : Prop :=
  ∃ (i : Nat) (h : Int), i ≤ n ∧ w.heap[g]? = some (.cells #[.slice A n c, .int .i64 i, .int .i64 h] 53 (0, 0))
/-- a draw's world: over W, with the cursor in block g -/
structure Dr (W : World) (g : Nat) (A : Option Addr) (n c : Nat) (w : World) : Prop where
  below : Below W.heap.size W w
  ge : W.heap.size ≤ g
  cur : CurAt w g A n c
theorem and_le (a : Int) (m : Nat) (hm : m < 4611686018427387904) : ∃ z : Nat, z ≤ m ∧ bits .and .i64 a (m : Int) = (z : Int) := by
  have h1 : (BitVec.ofInt 64 (m : Int)).toNat = m := by
    rw [BitVec.ofInt_natCast, BitVec.toNat_ofNat]; exact Nat.mod_eq_of_lt (by omega)
  refine ⟨(BitVec.ofInt 64 a &&& BitVec.ofInt 64 (m : Int)).toNat, ?_, ?_⟩
  · rw [BitVec.toNat_and, h1]; exact Nat.and_le_right
  · show IntKind.i64.wrap ((BitVec.ofInt 64 a &&& BitVec.ofInt 64 (m : Int)).toNat : Int) = _
    have h2 : (BitVec.ofInt 64 a &&& BitVec.ofInt 64 (m : Int)).toNat ≤ m := by rw [BitVec.toNat_and, h1]; exact Nat.and_le_right
    rw [IntKind.wrap_i64]
    omega
theorem below_drewN_ {B : Nat} {a w : World} (h : Below B a w) (n : Nat) : Below B a (w.drewN n) := ⟨h.os, h.tape, h.output, h.size, h.block⟩
theorem gr_refl (w : World) (r : Option Nat) : w.grownBy w r := ⟨rfl, rfl, rfl, Nat.le_refl _, fun _ _ _ => rfl⟩
theorem gr_drewN {a w : World} {row : Option Nat} (h : a.grownBy w row) (n : Nat) : a.grownBy (w.drewN n) row := ⟨h.os, h.tape, h.output, h.size, h.block⟩
theorem gr_set {a w : World} {g : Nat} (h : a.grownBy w (some g)) (i : Nat) (u : Value) : a.grownBy (w.setCell ⟨g, i, none⟩ u) (some g) :=
  ⟨h.os, h.tape, h.output, by simpa [World.setCell] using h.size, fun k hk hne => (Below.heap_setCell w ⟨g, i, none⟩ u k (by rintro rfl; exact hne rfl)).trans (h.block k hk hne)⟩
theorem gr_trans {a b c : World} {row : Option Nat} (h : a.grownBy b row) (k : b.grownBy c row) : a.grownBy c row :=
  ⟨k.os.trans h.os, k.tape.trans h.tape, k.output.trans h.output, Nat.le_trans h.size k.size, fun i hi hne => (k.block i (Nat.lt_of_lt_of_le hi h.size) hne).trans (h.block i hi hne)⟩
theorem gr_below {a w : World} (h : Below a.heap.size a w) (row : Option Nat) : a.grownBy w row := ⟨h.os, h.tape, h.output, h.size, fun i hi _ => h.block i hi⟩
theorem gr_alloc {a w : World} {row : Option Nat} (h : a.grownBy w row) (o : Obj) : a.grownBy (w.alloc o) row :=
  gr_trans h (gr_below ((Below.refl _ _).alloc (Nat.le_refl _) o) row)
theorem Dr.step {W : World} {g : Nat} {A : Option Addr} {n c : Nat} {w w' : World} (h : Dr W g A n c w) (hg : w.grownBy w' (some g)) (hc : CurAt w' g A n c) : Dr W g A n c w' :=
  ⟨h.below.grown hg h.below.size (fun k hk => by injection hk with hk; subst hk; exact h.ge), h.ge, hc⟩
theorem Dr.bel {W : World} {g : Nat} {A : Option Addr} {n c : Nat} {w w' : World} (h : Dr W g A n c w) (hb : Below w.heap.size w w') : Dr W g A n c w' := by
  obtain ⟨i, x, hi, hh⟩ := h.cur
  exact ⟨Below.trans h.below (hb.mono h.below.size), h.ge, i, x, hi, keepblk hb hh⟩
theorem Dr.lt {W : World} {g : Nat} {A : Option Addr} {n c : Nat} {w : World} (h : Dr W g A n c w) : g < w.heap.size := by
  obtain ⟨i, x, hi, hh⟩ := h.cur
  exact lt_of_blk hh
theorem Bys.dr {W : World} {g : Nat} {A : Option Addr} {n c : Nat} {w : World} {A' : Option Addr} {n' : Nat} (hA : Bys W A' n') (h : Dr W g A n c w) : Bys w A' n' := hA.keep fun _ _ hc => Below.keeps h.below hc
def ByteP (W : World) (g : Nat) (A : Option Addr) (n c : Nat) (w : World) (lim : Int) (e : Ending) (w' : World) : Prop :=
  ∃ z : Int, 0 ≤ z ∧ z < lim ∧ e = .returned (.int .i64 z) ∧ Dr W g A n c w' ∧ w.grownBy w' (some g)
set_option maxHeartbeats 3200000 in
theorem l1Byte_any (W : World) (g : Nat) (A : Option Addr) (n c : Nat) (w : World) (hA : Bys W A n) (hn : n ≤ 1048576) (hd : Dr W g A n c w) :
    Calls Tryd.prog 35 #[.pointer (some ⟨g, 0, none⟩)] w (ByteP W g A n c w 256) := by
  obtain ⟨i, h, hi, hh⟩ := hd.cur
  have HA := Lib.hid hA; have HD := Lib.hid hd; have HH := Lib.hid hh
  obtain ⟨kc, fc⟩ := blkcell hh
  clear hA hd hh
  go_enter Tryd.func35, Tryd.ntmps35
  go_wp2_with fail
  go_quiet (fail)
  generalize wrap64 (wrap64 (h * 6364136223846793005) + 1442695040888963407) = H
  generalize bits BinOp.xor IntKind.i64 (H / 8589934592) (H / 35184372088832) = Y
  obtain ⟨z0, hz0, e0⟩ := and_le Y 255 (by omega)
  have e1 : bits BinOp.and IntKind.i64 Y 255 = (z0 : Int) := e0
  rw [e1]
  clear e0 e1 kc fc
  have hh2 : ((w.setCell ⟨g, 2, none⟩ (.int .i64 H)).drewN nq).heap[g]? = some (.cells #[.slice A n c, .int .i64 i, .int .i64 H] 53 (0, 0)) := blk_set (i := 2) HH.out _
  have hg2 : w.grownBy ((w.setCell ⟨g, 2, none⟩ (.int .i64 H)).drewN nq) (some g) := gr_drewN (gr_set (gr_refl _ _) _ _) _
  generalize (w.setCell ⟨g, 2, none⟩ (.int .i64 H)).drewN nq = X at hh2 hg2 ⊢
  obtain ⟨kc, fc⟩ := blkcell hh2
  have hgl := lt_of_blk hh2
  have hi0 : (0 : Int) ≤ (i : Int) := by omega
  have HX := Lib.hid hh2
  have HG := Lib.hid hg2
  have HDX := Lib.hid (HD.out.step hg2 ⟨i, H, hi, hh2⟩)
  clear hh2 hg2
  by_cases hin : i < n
  · obtain ⟨b, off, rfl, hbl, z1, hz1, hcz⟩ := Bys.at_ (HA.out.dr HDX.out) hin
    have hin2 : (i : Int) < (n : Int) := by omega
    have hd1 : decide ((i : Int) < (n : Int)) = true := by simpa using hin
    have hd2 : decide (i < n) = true := by simpa using hin
    go_wp2_with fail
    go_quiet (fail)
    have e5 : IntKind.i64.wrap (z1 : Int) = (z1 : Int) := by simp only [IntKind.wrap_i64]; omega
    have e6 : IntKind.i64.wrap ((z0 : Int) + (z1 : Int)) = (z0 : Int) + (z1 : Int) := by simp only [IntKind.wrap_i64]; omega
    go_wp2_with fail
    go_quiet (fail)
    obtain ⟨z2, hz2, e2⟩ := and_le ((z0 : Int) + (z1 : Int)) 255 (by omega)
    have e3 : bits BinOp.and IntKind.i64 ((z0 : Int) + (z1 : Int)) 255 = (z2 : Int) := e2
    rw [e3]
    clear e2 e3 e5 e6 hcz
    have hset := Lib.hid (fun (j : Nat) (v : Value) => blk_set (w := X.drewN j) (i := 1) HX.out v)
    clear HH
    go_wp2
    go_ret
    refine ⟨z2, by omega, by omega, rfl, HDX.out.step (by repeat (first | exact gr_refl _ _ | refine gr_drewN ?_ _ | refine gr_set ?_ _ _)) ⟨i + 1, H, by omega, ?_⟩, gr_trans HG.out (by repeat (first | exact gr_refl _ _ | refine gr_drewN ?_ _ | refine gr_set ?_ _ _))⟩
    refine (hset.out _ _).trans ?_
    simp
  · have hd1 : decide ((i : Int) < (n : Int)) = false := by simpa using hin
    have hd2 : decide (i < n) = false := by simpa using hin
    have hin2 : (n : Int) ≤ (i : Int) := by omega
    go_wp2_with fail
    go_quiet (fail)
    go_wp2
    go_ret
    exact ⟨z0, by omega, by omega, rfl, (HDX.out.bel (below_drewN_ (Below.refl _ _) _)), gr_drewN HG.out _⟩
set_option maxHeartbeats 3200000 in
theorem l1Below_any (W : World) (g : Nat) (A : Option Addr) (n c : Nat) (m : Int) (w : World) (hA : Bys W A n) (hn : n ≤ 1048576) (hm0 : 0 < m) (hm : m ≤ 2000000000) (hd : Dr W g A n c w) :
    Calls Tryd.prog 33 #[.pointer (some ⟨g, 0, none⟩), .int .i64 m] w (ByteP W g A n c w m) := by
  have C := Lib.hid (fun w' h => l1Byte_any W g A n c w' hA hn h)
  have HD := Lib.hid hd
  clear hA hd
  by_cases h256 : m ≤ 256
  · go_enter Tryd.func33, Tryd.ntmps33
    go_wp2_with fail
    refine (C.out _ HD.out).mono ?_
    rintro e w1 ⟨z, hz0, hz1, rfl, hD1, hg1⟩
    have H1 := Lib.hid hD1; have G1 := Lib.hid hg1
    clear hD1 hg1
    go_wp2
    go_ret
    exact ⟨z % m, Int.emod_nonneg _ (by omega), Int.emod_lt_of_pos _ hm0, rfl, H1.out, G1.out⟩
  · have h257 : (256 : Int) < m := by omega
    clear h256
    go_enter Tryd.func33, Tryd.ntmps33
    go_wp2_with fail
    refine (C.out _ HD.out).mono ?_
    rintro e w1 ⟨z1, hz1, hz1', rfl, hD1, hg1⟩
    have H1 := Lib.hid hD1; have G1 := Lib.hid hg1
    clear hD1 hg1
    go_wp2_with fail
    refine (C.out _ H1.out).mono ?_
    rintro e w2 ⟨z2, hz2, hz2', rfl, hD2, hg2⟩
    have H2 := Lib.hid hD2; have G2 := Lib.hid (gr_trans G1.out hg2)
    clear hD2 hg2
    go_wp2_with fail
    refine (C.out _ H2.out).mono ?_
    rintro e w3 ⟨z3, hz3, hz3', rfl, hD3, hg3⟩
    have H3 := Lib.hid hD3; have G3 := Lib.hid (gr_trans G2.out hg3)
    clear hD3 hg3
    go_wp2_with fail
    refine (C.out _ H3.out).mono ?_
    rintro e w4 ⟨z4, hz4, hz4', rfl, hD4, hg4⟩
    have H4 := Lib.hid hD4; have G4 := Lib.hid (gr_trans G3.out hg4)
    clear hD4 hg4
    go_wp2
    go_ret
    exact ⟨_, Int.emod_nonneg _ (by omega), Int.emod_lt_of_pos _ hm0, rfl, H4.out, G4.out⟩
def OnceP (W : World) (g : Nat) (A : Option Addr) (n c : Nat) (w : World) (e : Ending) (w' : World) : Prop :=
  ∃ z : Bool, e = .returned (.bool z) ∧ Dr W g A n c w' ∧ w.grownBy w' (some g)
set_option maxHeartbeats 800000 in
theorem l1Once_any (W : World) (g : Nat) (A : Option Addr) (n c : Nat) (m : Int) (w : World) (hA : Bys W A n) (hn : n ≤ 1048576) (hm0 : 0 < m) (hm : m ≤ 2000000000) (hd : Dr W g A n c w) :
    Calls Tryd.prog 28 #[.pointer (some ⟨g, 0, none⟩), .int .i64 m] w (OnceP W g A n c w) := by
  have C := Lib.hid (fun w' h => l1Below_any W g A n c m w' hA hn hm0 hm h)
  have HD := Lib.hid hd
  clear hA hd
  go_enter Tryd.func28, Tryd.ntmps28
  go_wp2_with fail
  refine (C.out _ HD.out).mono ?_
  rintro e w1 ⟨z, hz0, hz1, rfl, hD1, hg1⟩
  have H1 := Lib.hid hD1; have G1 := Lib.hid hg1
  clear hD1 hg1
  cases hz : (z == (0 : Int))
  · have hz2 : ¬ z = 0 := by simpa using hz
    go_wp2
    go_ret
    exact ⟨_, rfl, H1.out, G1.out⟩
  · have hz2 : z = 0 := by simpa using hz
    have HZ := Lib.hid hz2
    clear hz2
    go_wp2
    go_ret
    exact ⟨_, rfl, H1.out, G1.out⟩
def NewP (A : Option Addr) (n c : Nat) (w : World) (e : Ending) (w' : World) : Prop :=
  ∃ g, e = .returned (.pointer (some ⟨g, 0, none⟩)) ∧ Dr w g A n c w'
set_option maxHeartbeats 3200000 in
theorem l1New_any (A : Option Addr) (n c : Nat) (w : World) (hA : Bys w A n) (hn : n ≤ 1048576) :
    Calls Tryd.prog 23 #[.slice A n c] w (NewP A n c w) := by
  have HA := Lib.hid hA
  clear hA
  go_enter Tryd.func23, Tryd.ntmps23
  go_wp2
  go_loop [3, 4] (fun hv iv => ∃ (k : Nat) (z : Int), k ≤ n ∧ iv = .int .i64 k ∧ hv = .int .i64 z ∧ 0 ≤ z ∧ z ≤ 2000000000) (fun _ iv => n - (intOf iv).toNat)
  case atStart => exact ⟨0, _, Nat.zero_le _, rfl, rfl, by omega, by omega⟩
  case round =>
    obtain ⟨k, z, hk, rfl, rfl, hz0, hz1⟩ := hrel
    by_cases hlt : k < n
    · obtain ⟨b, off, rfl, hbl, z1, hz1', hcz⟩ := HA.out.at_ hlt
      have hlt2 : (k : Int) < (n : Int) := by omega
      have hk0 : (0 : Int) ≤ (k : Int) := by omega
      by_cases h4 : k < 4000
      · have h42 : (k : Int) < 4000 := by omega
        have h43 : decide ((k : Int) < 4000) = true := decide_eq_true h42
        go_wp2
        obtain ⟨z2, hz2, e2⟩ := and_le (z * 131 + (z1 : Int) + 7) 1073741823 (by omega)
        have e3 : bits BinOp.and IntKind.i64 (z * 131 + (z1 : Int) + 7) 1073741823 = (z2 : Int) := e2
        exact ⟨⟨k + 1, z2, by omega, by go_num, by rw [e3], by omega, by omega⟩, by simp [intOf]; omega⟩
      · have h42 : (4000 : Int) ≤ (k : Int) := by omega
        have h43 : decide ((k : Int) < 4000) = false := decide_eq_false (by omega)
        go_wp2
        go_ret
        exact ⟨_, rfl, (Below.refl _ _).alloc (Nat.le_refl _) _, Nat.le_refl _, 0, z, Nat.zero_le _, heap_alloc_new w _⟩
    · obtain rfl : k = n := by omega
      go_wp2
      go_ret
      exact ⟨_, rfl, (Below.refl _ _).alloc (Nat.le_refl _) _, Nat.le_refl _, 0, z, Nat.zero_le _, heap_alloc_new w _⟩

end Go.Proofs.YthganncfagddgaaDoor
