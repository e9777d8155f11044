/- TreeNew in plain words; contracts of TreeNew. -/
import Derived.Test.YtdgkfpcecppfdaaETreeDropM
namespace Go.Proofs.Ytdgkfpcecppfdaa
set_option linter.unusedSimpArgs false
set_option linter.unusedVariables false
open Go.RowKit
attribute [local go_sem ↓] Go.wp_at_zero Go.wp_at_succ

def newT (a : B3) : List El := [(true, -1, a), zEl, zEl, zEl, zEl]
theorem newT_right (a : B3) : Right (newT a) ↔ okB3 a = true := by
  have hs : sumL (newT a) = a := by simp [sumL, newT, zEl, add3]
  constructor
  · intro h
    have := h.sum
    rw [hs] at this
    exact this
  · intro h
    refine ⟨rfl, ⟨_, rfl, rfl, rfl⟩, fun j x hj hx => ?_, by rw [hs]; exact h⟩
    match j, hj with
    | 0, _ =>
      simp [newT] at hx
      subst hx
      have h' : balOk (true, -1, a) = true := h
      simp [goodI, h', upI]
    | 1, _ => simp [newT] at hx; subst hx; simp [goodI, zEl]
    | 2, _ => simp [newT] at hx; subst hx; simp [goodI, zEl]
    | 3, _ => simp [newT] at hx; subst hx; simp [goodI, zEl]
    | 4, _ => simp [newT] at hx; subst hx; simp [goodI, zEl]
def treeNew (a : B3) : List El × Bool := if okB3 a then (newT a, true) else ([], false)
theorem make5 (w : World) : (Instr.makeSlice 24 (.int .i64 5) (.int .i64 5)).run Try.prog w = .ok (.slice (some ⟨w.heap.size, 0, none⟩) 5 5) (w.alloc (.cells (vals (List.replicate 5 zEl)).toArray 56)) := by
  obtain ⟨i0, hi, hz0, hz1, hz2⟩ := info_parts el_info
  have := make_rows (P := Try.prog) 24 56 i0 _ Try.underlying24 hi hz0 5 (by rw [hz2]; omega) (by omega) w
  rw [hz1, vals_repl] at this
  exact this
set_option maxHeartbeats 6400000 in
theorem implTreeNew_any (a : B3) (w : World) :
    Calls Try.prog 15 #[amt3 a] w (OutB (treeNew a).1 (treeNew a).2 (treeNew a).1.length w) := by
  have C := Lib.hid (fun (A : Option Addr) (c : Nat) w' h => implTreeOk_any A 5 c (newT a) (okB3 a) w' h rfl (by omega) (newT_right a).symm)
  have hmk := make5
  obtain ⟨Z, hZ⟩ : ∃ Z, Z = (vals (List.replicate 5 zEl)).toArray := ⟨_, rfl⟩
  rw [← hZ] at hmk
  have z0 : Z[0]? = some (.bool false) := by rw [hZ]; rfl
  have z1 : Z[1]? = some (.int .i64 0) := by rw [hZ]; rfl
  have z2 : Z[2]? = some (.int .i64 0) := by rw [hZ]; rfl
  have z3 : Z[3]? = some (.int .i64 0) := by rw [hZ]; rfl
  have z4 : Z[4]? = some (.int .i64 0) := by rw [hZ]; rfl
  obtain ⟨V, hV⟩ : ∃ V, V = (vals (newT a)).toArray := ⟨_, rfl⟩
  have HV := Lib.hid (show ((((Z.setIfInBounds 0 (.bool true)).setIfInBounds 1 (.int .i64 (-1))).setIfInBounds 2 (.int .i64 a.1)).setIfInBounds 3 (.int .i64 a.2.1)).setIfInBounds 4 (.int .i64 a.2.2) = V by rw [hZ, hV]; rfl)
  have HE := Lib.hid (fun w' : World => show EBlk (w'.alloc (.cells V 56)) w'.heap.size (newT a) by unfold EBlk; rw [← hV]; exact heap_alloc_new w' _)
  clear hZ hV
  have hr := Lib.hid (show treeNew a = if okB3 a then (newT a, true) else ([], false) from rfl)
  go_enter Try.func15, Try.ntmps15
  go_wp2_with fail
  rw [HV.out]
  refine (C.out _ _ _ (EBlk.els (g := w.heap.size + 1) (by have := HE.out (w.alloc (.cells #[.int .i64 a.1, .int .i64 a.2.1, .int .i64 a.2.2] 27)); simpa only [World.size_alloc] using this))).mono ?_
  rintro e w1 ⟨rfl, hb⟩
  have hE := Lib.hid (keepblk hb (HE.out (w.alloc (.cells #[.int .i64 a.1, .int .i64 a.2.1, .int .i64 a.2.2] 27))))
  have hB := Lib.hid (Below.trans (((Below.refl w.heap.size w).alloc (Nat.le_refl _) _).alloc (by simp) _) (hb.mono (by simp; omega)))
  clear hb
  cases hk : okB3 a
  · rw [hk] at hr
    clear hk
    go_wp2
    go_ret2
    exact ⟨none, 0, by rw [hr.out]; rfl, by rw [hr.out]; exact .inl rfl, hB.out⟩
  · rw [hk] at hr
    clear hk
    go_wp2
    go_ret2
    exact ⟨_, 0, by rw [hr.out]; rfl, by rw [hr.out]; exact EBlk.own (xs := newT a) (g := w.heap.size + 1) (by have := hE.out; simp only [World.size_alloc] at this; exact this) (by omega), hB.out⟩
theorem specAmtOk_r (a : B3) (w : World) : Calls Try.prog 45 #[amt3 a] w fun e w' => e = .returned (.bool (okB3 a)) ∧ Below w.heap.size w w' := specAmtOk_any _ _ _ _
set_option maxHeartbeats 6400000 in
theorem specTreeNew_any (a : B3) (w : World) :
    Calls Try.prog 13 #[amt3 a] w (OutB (treeNew a).1 (treeNew a).2 (treeNew a).1.length w) := by
  have C := Lib.hid (fun w' => specAmtOk_r a w')
  have hmk := make5
  obtain ⟨Z, hZ⟩ : ∃ Z, Z = (vals (List.replicate 5 zEl)).toArray := ⟨_, rfl⟩
  rw [← hZ] at hmk
  have z0 : Z[0]? = some (.bool false) := by rw [hZ]; rfl
  have z1 : Z[1]? = some (.int .i64 0) := by rw [hZ]; rfl
  have z2 : Z[2]? = some (.int .i64 0) := by rw [hZ]; rfl
  have z3 : Z[3]? = some (.int .i64 0) := by rw [hZ]; rfl
  have z4 : Z[4]? = some (.int .i64 0) := by rw [hZ]; rfl
  obtain ⟨V, hV⟩ : ∃ V, V = (vals (newT a)).toArray := ⟨_, rfl⟩
  have HV := Lib.hid (show ((((Z.setIfInBounds 0 (.bool true)).setIfInBounds 1 (.int .i64 (-1))).setIfInBounds 2 (.int .i64 a.1)).setIfInBounds 3 (.int .i64 a.2.1)).setIfInBounds 4 (.int .i64 a.2.2) = V by rw [hZ, hV]; rfl)
  have HE := Lib.hid (fun w' : World => show EBlk (w'.alloc (.cells V 56)) w'.heap.size (newT a) by unfold EBlk; rw [← hV]; exact heap_alloc_new w' _)
  clear hZ hV
  have hr := Lib.hid (show treeNew a = if okB3 a then (newT a, true) else ([], false) from rfl)
  cases hk : okB3 a
  · rw [hk] at hr C
    clear hk
    go_enter Try.func13, Try.ntmps13
    go_wp2_with fail
    refine (C.out _).mono ?_
    rintro e w1 ⟨rfl, hb⟩
    have hs := hb.size
    have hB := Lib.hid (Below.trans ((Below.refl w.heap.size w).alloc (Nat.le_refl _) _) (hb.mono (by simp)))
    clear hb
    go_wp2
    go_ret2
    exact ⟨_, 0, by rw [hr.out]; rfl, by rw [hr.out]; exact .inl rfl, hB.out.alloc hB.out.size _⟩
  · rw [hk] at hr C
    clear hk
    go_enter Try.func13, Try.ntmps13
    go_wp2_with fail
    refine (C.out _).mono ?_
    rintro e w1 ⟨rfl, hb⟩
    have hs := hb.size
    have hB := Lib.hid (Below.trans ((Below.refl w.heap.size w).alloc (Nat.le_refl _) _) (hb.mono (by simp)))
    have hbox := keepblk hb (heap_alloc_new w _)
    obtain ⟨kb, fb⟩ := blkcell hbox
    have hlb := lt_of_blk hbox
    clear hb hbox
    go_wp2
    rw [HV.out]
    go_ret2
    exact ⟨_, 0, by rw [hr.out]; rfl, by rw [hr.out]; exact EBlk.own (HE.out w1) hB.out.size, hB.out.alloc hB.out.size _⟩

end Go.Proofs.Ytdgkfpcecppfdaa
