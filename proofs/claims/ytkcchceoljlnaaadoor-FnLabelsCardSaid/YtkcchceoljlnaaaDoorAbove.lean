/- Contract of above: which categories of the first label stand above those of the second. -/
import Derived.Test.YtkcchceoljlnaaaDoorLabel
import Derived.OwnWalk
import Derived.Lib.SmallJoins
namespace Go.Proofs.YtkcchceoljlnaaaDoor
set_option linter.unusedSimpArgs false
set_option linter.unusedVariables false
open Go.RowKit

def aboveTo (xs ys : List Int) (k : Nat) : List Int := ((List.range k).filter (fun i => decide (ys.getD i 0 < xs.getD i 0))).map (fun (i : Nat) => (i : Int))
theorem aboveTo_hit {xs ys : List Int} {k : Nat} (h : ys.getD k 0 < xs.getD k 0) : aboveTo xs ys (k + 1) = aboveTo xs ys k ++ [(k : Int)] := by
  have e : List.filter (fun i => decide (ys.getD i 0 < xs.getD i 0)) [k] = [k] := by rw [List.filter_cons, if_pos (by simpa using h)]; rfl
  simp only [aboveTo, List.range_succ, List.filter_append, e, List.map_append, List.map_cons, List.map_nil]
theorem aboveTo_miss {xs ys : List Int} {k : Nat} (h : ¬ ys.getD k 0 < xs.getD k 0) : aboveTo xs ys (k + 1) = aboveTo xs ys k := by
  have e : List.filter (fun i => decide (ys.getD i 0 < xs.getD i 0)) [k] = [] := by rw [List.filter_cons, if_neg (by simpa using h)]; rfl
  simp only [aboveTo, List.range_succ, List.filter_append, e, List.append_nil]
theorem aboveTo_len (xs ys : List Int) (k : Nat) : (aboveTo xs ys k).length ≤ k := by
  simp only [aboveTo, List.length_map]; exact Nat.le_trans (List.length_filter_le _ _) (by simp)
theorem ownsRow_made (w : World) (base : Nat) (t : TypeId) (hb : base ≤ w.heap.size) : (w.alloc (.cells #[] t)).ownsRow base t 1 (.slice (some ⟨w.heap.size, 0, none⟩) 0 0) 0 [] :=
  ⟨rfl, .inr ⟨w.heap.size, 0, #[], rfl, hb, heap_alloc_new w _, Nat.le_refl _, by simp [maxLen], rfl, rfl⟩⟩

set_option maxHeartbeats 3200000 in
theorem above_any (A B : Option Addr) (c d : Nat) (xs ys : List Int) (w : World) (hx : Ints w A xs) (hy : Ints w B ys) (hn : xs.length = 4) (hm : ys.length = 4) :
    Calls Tryd.prog 40 #[lab A 4 c, lab B 4 d] w fun e w' => ∃ v, e = .returned v ∧ w'.ownsRow w.heap.size 3 1 v (aboveTo xs ys 4).length ((aboveTo xs ys 4).map (Value.int .i64)) ∧ Below w.heap.size w w' := by
  obtain ⟨W, hW, c0, c1, hX, hY, hBW⟩ := boxes2 A B 4 4 c d xs ys 27 w hx hy
  have HW := Lib.hid hW; have HX := Lib.hid hX; have HY := Lib.hid hY; have HN := Lib.hid hn; have HM := Lib.hid hm
  have hsW : w.heap.size ≤ W.heap.size := hBW.size
  clear hx hy hn hm hW hX hY
  obtain ⟨i0, hi, hz0, hz1, hz2⟩ := info_parts int_info
  go_enter Tryd.func40, Tryd.ntmps40
  have eW : w.heap.size + 1 + 1 = W.heap.size := by rw [HW.out]; simp
  have EW := Lib.hid eW
  clear eW
  go_wp2
  rw [← HW.out, EW.out]
  go_loopw [5, 12] (fun v i wr => ∃ k : Nat, k ≤ 4 ∧ i = .int .i64 k ∧ wr.ownsRow W.heap.size 3 1 v (aboveTo xs ys k).length ((aboveTo xs ys k).map (Value.int .i64)) ∧ Below W.heap.size W wr) (fun _ i _ => 4 - (intOf i).toNat)
  case atStart => exact ⟨0, Nat.zero_le _, rfl, ownsRow_made W _ _ (Nat.le_refl _), (Below.refl _ _).alloc (Nat.le_refl _) _⟩
  case round =>
    obtain ⟨k, hk, rfl, hown, hB⟩ := hrel
    have d0 : wr.cell? ⟨w.heap.size, 0, none⟩ = some (.slice A 4 c) := Below.keeps hB c0
    have d1 : wr.cell? ⟨w.heap.size + 1, 0, none⟩ = some (.slice B 4 d) := Below.keeps hB c1
    have hsz := hB.size
    by_cases hlt : k < 4
    · obtain ⟨b, off, rfl, hb, hcx⟩ := (Ints.at_ (HX.out) (k := k) (by have := HN.out; omega))
      obtain ⟨b', off', rfl, hb', hcy⟩ := (Ints.at_ (HY.out) (k := k) (by have := HM.out; omega))
      have hcx := (hB.cell (p := ⟨b, off + k, none⟩) hb).trans hcx
      have hcy := (hB.cell (p := ⟨b', off' + k, none⟩) hb').trans hcy
      have ex := Lib.hid (show xs.getD k 0 = xs[k]'(by have := HN.out; omega) from by rw [List.getD, List.getElem?_eq_getElem (by have := HN.out; omega)]; rfl)
      have ey := Lib.hid (show ys.getD k 0 = ys[k]'(by have := HM.out; omega) from by rw [List.getD, List.getElem?_eq_getElem (by have := HM.out; omega)]; rfl)
      generalize xs[k]'(by have := HN.out; omega) = x at *
      generalize ys[k]'(by have := HM.out; omega) = y at *
      have hlt2 : (k : Int) < 4 := by omega
      by_cases hxy : y < x
      · have hst := Lib.hid (aboveTo_hit (xs := xs) (ys := ys) (k := k) (by rw [ex.out, ey.out]; exact hxy))
        have hlen := aboveTo_len xs ys k
        have HO := Lib.hid hown
        clear hown
        go_wp2_with (at_builtin; refine wpList_append_own _ rfl _ _ 22 rfl W.heap.size 3 i0 (.int .i64 0) 1 8 Tryd.underlying22 hi hz0 hz1 hz2 rfl (by decide) _ _ _ rfl (HO.out.alloc _) ⟨wr.heap.size, 0, none⟩ 1 1 [.int .i64 (k : Int)] rfl rfl ?c1 ?c2 ?c3 ?c4 ?c5 ?_)
        case c1 =>
          intro j u hj
          match j, hj with
          | 0, hj => simp at hj; subst hj; simp [Addr.add]
        case c2 => intro u hu; simp at hu; subst hu; rfl
        case c3 => unfold maxLen; omega
        case c4 => omega
        case c5 => simp; omega
        intro v' w1 hown' hgrow _
        have hB1 : Below W.heap.size W w1 := ((hB.alloc hsz _)).grown hgrow (by simp; omega) (fun g hg => by
          rcases HO.out.2 with ⟨rfl, _⟩ | ⟨g', cap, cur, rfl, hge, _⟩
          · simp [Value.ownBlock] at hg
          · simp [Value.ownBlock] at hg; omega)
        have hown2 := Lib.hid hown'
        clear hown' hgrow
        go_wp2
        refine ⟨⟨k + 1, by omega, by go_num, ?_, hB1⟩, by simp [intOf]; omega⟩
        rw [hst.out, List.length_append, List.map_append]
        exact hown2.out
      · have hst := Lib.hid (aboveTo_miss (xs := xs) (ys := ys) (k := k) (by rw [ex.out, ey.out]; exact hxy))
        have HO := Lib.hid hown
        clear hown
        go_wp2
        refine ⟨⟨k + 1, by omega, by go_num, ?_, hB⟩, by simp [intOf]; omega⟩
        rw [hst.out]
        exact HO.out
    · obtain rfl : k = 4 := by omega
      go_wp2
      go_ret
      exact ⟨_, rfl, Joins.ownsRow_le hown hsW, hBW.trans (hB.mono hsW)⟩
end Go.Proofs.YtkcchceoljlnaaaDoor
