/- TreeAbove in plain words; contracts of TreeAbove. -/
import Derived.Test.YtdgkfpcecppfdaaETreeFn
import Derived.Test.YtdgkfpcecppfdaaEInts
namespace Go.Proofs.Ytdgkfpcecppfdaa
set_option linter.unusedSimpArgs false
set_option linter.unusedVariables false
open Go.RowKit
attribute [local go_sem ↓] Go.wp_at_zero Go.wp_at_succ

/-- those above a place, within f steps -/
def aboveN (t : List El) : Nat → Int → List Int
  | 0, _ => []
  | f + 1, i => if i = 0 then [] else parAt t i :: aboveN t f (parAt t i)
noncomputable def treeAbove (t : List El) (i : Int) : List Int := if rightB t && liveAt t i then aboveN t 5 i else []
theorem treeAbove_no {t : List El} {i : Int} (h : (rightB t && liveAt t i) = false) : treeAbove t i = [] := by simp [treeAbove, h]
theorem treeAbove_yes {t : List El} {i : Int} (h : (rightB t && liveAt t i) = true) : treeAbove t i = aboveN t 5 i := by simp [treeAbove, h]
theorem aboveN_len (t : List El) : ∀ (f : Nat) (i : Int), (aboveN t f i).length ≤ f
  | 0, _ => by simp [aboveN]
  | f + 1, i => by
    unfold aboveN
    split
    · simp
    · have := aboveN_len t f (parAt t i)
      simp; omega
theorem treeAbove_len (t : List El) (i : Int) : (treeAbove t i).length ≤ 5 := by
  unfold treeAbove
  split
  · exact aboveN_len t 5 i
  · simp
/-- place z is live and leads to 0 within f steps; those above it are L -/
def Way (t : List El) (f : Nat) (z : Nat) (L : List Int) : Prop := z < 5 ∧ (∃ x, t[z]? = some x ∧ x.1 = true) ∧ upI t f z = true ∧ aboveN t f z = L
theorem Way.start {t : List El} (h : Right t) {z : Nat} {x : El} (hz : z < 5) (hx : t[z]? = some x) (hl : x.1 = true) : Way t 5 z (aboveN t 5 z) := by
  refine ⟨hz, ⟨x, hx, hl⟩, ?_, rfl⟩
  have hg := h.good z x hz hx
  unfold goodI at hg
  rw [if_pos hl, Bool.and_eq_true] at hg
  exact hg.2
theorem Way.end_ {t : List El} {f : Nat} {L : List Int} (h : Way t f 0 L) : L = [] := by
  obtain ⟨_, _, h1, h2⟩ := h
  cases f with
  | zero => simp [upI] at h1
  | succ f => simp [aboveN] at h2; exact h2
theorem Way.next {t : List El} (hR : Right t) {f z : Nat} {L : List Int} (h : Way t f z L) (h0 : z ≠ 0) : ∃ (f' p : Nat) (x : El) (L' : List Int), f = f' + 1 ∧ t[z]? = some x ∧ x.2.1 = (p : Int) ∧ L = (p : Int) :: L' ∧ Way t f' p L' := by
  obtain ⟨hz, ⟨x, hx, hl⟩, h1, h2⟩ := h
  cases f with
  | zero => simp [upI] at h1
  | succ f =>
    obtain ⟨p, y, hp, hpar, hy, hyl⟩ := hR.closed z x hz hx hl h0
    have hpa : parAt t z = p := by rw [parAt_nat hx, hpar]
    have hla : liveAt t z = true := by rw [liveAt_nat hx hz, hl]
    rw [upI, if_neg (by omega), hla, if_pos rfl, hpa] at h1
    rw [aboveN, if_neg (by omega), hpa] at h2
    exact ⟨f, p, x, aboveN t f p, rfl, hx, hpar, h2.symm, hp, ⟨y, hy, hyl⟩, h1, rfl⟩
theorem Way.root {t : List El} (hR : Right t) : ∃ x, t[0]? = some x ∧ x.2.1 = -1 := by
  obtain ⟨x, h1, _, h2⟩ := hR.root
  exact ⟨x, h1, h2⟩
def lenOf (v : Value) : Nat := match v with | .slice _ n _ => n | _ => 0
def OutI (L : List Int) (w : World) (e : Ending) (w' : World) : Prop :=
  ∃ A' c', e = .returned (.slice A' L.length c') ∧ II.Own w' w.heap.size 3 A' (L.map (Value.int .i64)) ∧ Below w.heap.size w w'
theorem out_of_row {w w' : World} {v : Value} {L : List Int} (ho : w'.ownsRow w.heap.size 3 1 v L.length (L.map (Value.int .i64))) (hb : Below w.heap.size w w') : OutI L w (.returned v) w' := by
  obtain ⟨A, c, rfl, h⟩ := II.own_of_row ho
  exact ⟨A, c, rfl, h, hb⟩
/-- what was gathered so far, of all -/
def Sofar (w wr : World) (v : Value) (L : List Int) : Prop := wr.ownsRow w.heap.size 3 1 v L.length (L.map (Value.int .i64)) ∧ Below w.heap.size w wr ∧ lenOf v = L.length
theorem Sofar.grow {w wr w1 : World} {v v' : Value} {L : List Int} {p : Int} (h : Sofar w wr v L) (hs : w.heap.size ≤ wr.heap.size)
    (hown : w1.ownsRow w.heap.size 3 1 v' (L.length + 1) (L.map (Value.int .i64) ++ [.int .i64 p])) (hg : (wr.alloc (.cells #[.int .i64 p] 3)).grownBy w1 v.ownBlock) : Sofar w w1 v' (L ++ [p]) := by
  refine ⟨by rw [List.length_append, List.map_append]; exact hown, ((h.2.1.alloc hs _)).grown hg (by simp; omega) (fun g hg => ?_), ?_⟩
  · rcases h.1.2 with ⟨rfl, _⟩ | ⟨g', cap, cur, rfl, hge, _⟩
    · simp [Value.ownBlock] at hg
    · simp [Value.ownBlock] at hg; omega
  · obtain ⟨A, c, rfl, _⟩ := II.own_of_row hown
    simp [lenOf]

set_option maxHeartbeats 6400000 in
theorem implTreeAbove_any (A : Option Addr) (n c : Nat) (t : List El) (i : Int) (w : World) (hx : Els w A t) (hn : t.length = n) (hnb : n ≤ 1099511627776) :
    Calls Try.prog 27 #[.slice A n c, .int .i64 i] w (OutI (treeAbove t i) w) := by
  have HX := Lib.hid hx; have HN := Lib.hid hn
  have C := Lib.hid (fun w' h => implTreeOk_any A n c t (rightB t) w' h hn hnb (rightB_iff t))
  cases hR : rightB t
  · have hr := Lib.hid (treeAbove_no (t := t) (i := i) (by simp [hR]))
    rw [hR] at C
    clear hx hn hR
    go_enter Try.func27, Try.ntmps27
    go_wp2_with fail
    refine (C.out _ (HX.out.alloc _)).mono ?_
    rintro e w1 ⟨rfl, hb⟩
    have HO := Lib.hid (II.ownsRow_below (II.ownsRow_made1 w w.heap.size 3 (Nat.le_refl _)) hb)
    have hB := Below.trans ((Below.refl w.heap.size w).alloc (Nat.le_refl _) _) (hb.mono (by simp))
    clear hb
    go_wp2
    go_ret
    rw [hr.out]
    exact out_of_row (L := []) HO.out hB
  · have hRR := (rightB_iff t).1 hR
    obtain rfl : n = 5 := by rw [← hn]; exact hRR.len
    rw [hR] at C
    cases hla : liveAt t i
    · have hr := Lib.hid (treeAbove_no (t := t) (i := i) (by simp [hla]))
      clear hx hn hR hRR
      go_enter Try.func27, Try.ntmps27
      go_wp2_with fail
      refine (C.out _ (HX.out.alloc _)).mono ?_
      rintro e w1 ⟨rfl, hb⟩
      have HO := Lib.hid (II.ownsRow_below (II.ownsRow_made1 w w.heap.size 3 (Nat.le_refl _)) hb)
      have hB := Below.trans ((Below.refl w.heap.size w).alloc (Nat.le_refl _) _) (hb.mono (by simp))
      clear hb
      go_wp2_with fail
      refine (isLive_any A c t i _ (HX.out.keep fun _ _ h => Below.keeps hB h) HN.out).mono ?_
      rintro e _ ⟨rfl, rfl⟩
      rw [hla]
      clear hla
      go_wp2
      go_ret
      rw [hr.out]
      exact out_of_row (L := []) HO.out hB
    · obtain ⟨q, x, rfl, hq, hxq, hxl⟩ := liveAt_range hla
      have HW := Lib.hid (Way.start hRR hq hxq hxl)
      have hr := Lib.hid (treeAbove_yes (t := t) (i := q) (by simp [hla, hR]))
      have HRR := Lib.hid hRR
      obtain ⟨i0, hi, hz0, hz1, hz2⟩ := info_parts II.int_info
      clear hx hn hR hRR hxq hxl
      go_enter Try.func27, Try.ntmps27
      go_wp2_with fail
      refine (C.out _ (HX.out.alloc _)).mono ?_
      rintro e w1 ⟨rfl, hb⟩
      have HS := Lib.hid (show Sofar w w1 _ [] from ⟨II.ownsRow_below (II.ownsRow_made1 w w.heap.size 3 (Nat.le_refl _)) hb, Below.trans ((Below.refl w.heap.size w).alloc (Nat.le_refl _) _) (hb.mono (by simp)), rfl⟩)
      have hB := Below.trans ((Below.refl w.heap.size w).alloc (Nat.le_refl _) _) (hb.mono (by simp))
      clear hb
      go_wp2_with fail
      refine (isLive_any A c t q _ (HX.out.keep fun _ _ h => Below.keeps hB h) HN.out).mono ?_
      rintro e _ ⟨rfl, rfl⟩
      rw [hla]
      clear hla hB
      go_wp2
      go_loopw [1, 5] (fun iv v wr => ∃ (f z : Nat) (L R : List Int), iv = .int .i64 z ∧ Hid (Way t f z R) ∧ Hid (L ++ R = aboveN t 5 q) ∧ Hid (L.length + f = 5) ∧ Hid (Sofar w wr v L)) (fun _ v _ => 5 - lenOf v)
      case atStart => exact ⟨5, q, [], _, rfl, HW.out, rfl, rfl, HS.out⟩
      case round =>
        obtain ⟨f, z, L, R, rfl, hw, hL, hlen, hso⟩ := hrel
        by_cases h0 : z = 0
        · subst h0
          have hfin := Lib.hid (show L = aboveN t 5 q by have := hL.out; rwa [hw.out.end_, List.append_nil] at this)
          have h1 : ((0 : Int) != 0) = false := by decide
          go_wp2
          go_ret
          rw [hr.out, ← hfin.out]
          exact out_of_row hso.out.1 hso.out.2.1
        · obtain ⟨f', p, x', L', hf, hz, hpar, hRL, hw2⟩ := hw.out.next HRR.out h0
          have hB := hso.out.2.1
          have hs := hB.size
          obtain ⟨b, off, rfl, hbx, c0, c1, c2, c3, c4⟩ := HX.out.at_ hz
          rw [hpar] at c1
          have c1 := Below.keeps hB c1
          have hzl : z < 5 := hw.out.1
          have hz0' : (0 : Int) ≤ (z : Int) := by omega
          have hz5 : (z : Int) < 5 := by omega
          have h1 : ((z : Int) != 0) = true := by simp; omega
          have hw3 := Lib.hid hw2; have hL3 := Lib.hid (show (L ++ [(p : Int)]) ++ L' = aboveN t 5 q by rw [List.append_assoc, ← hL.out, hRL]; rfl)
          have hlen3 := Lib.hid (show (L ++ [(p : Int)]).length + f' = 5 by have := hlen.out; simp; omega)
          have hll : L.length < 5 := by have := hlen.out; omega
          have hlv := Lib.hid hso.out.2.2
          have HO := Lib.hid hso.out.1
          clear hz hpar hRL hw2 h0 hf c0 c2 c3 c4 hw
          go_wp2_with (at_builtin; refine wpList_append_own _ rfl _ _ 39 rfl w.heap.size 3 i0 (.int .i64 0) 1 8 Try.underlying39 hi hz0 hz1 hz2 rfl (by decide) _ _ _ rfl (HO.out.alloc _) ⟨wr.heap.size, 0, none⟩ 1 1 [.int .i64 (p : Int)] rfl rfl ?c1 ?c2 ?c3 ?c4 ?c5 ?_)
          case c1 =>
            intro j u hj
            match j, hj with
            | 0, hj => simp at hj; subst hj; simp [Addr.add]
          case c2 => intro u hu; simp at hu; subst hu; rfl
          case c3 => unfold maxLen; omega
          case c4 => omega
          case c5 => simp; omega
          intro v' w3 hown' hgrow _
          have HS3 := Lib.hid (hso.out.grow hs hown' hgrow)
          have hlv3 := Lib.hid HS3.out.2.2
          clear hown' hgrow
          go_wp2
          exact ⟨⟨f', p, _, L', rfl, hw3, hL3, hlen3, HS3⟩, by rw [hlv3.out, hlv.out]; simp; omega⟩

/-- the reference's place: behind the root, or a place on the way -/
def At (t : List El) (f : Nat) (a : Int) (R : List Int) : Prop := (a = -1 ∧ R = []) ∨ ∃ (p : Nat) (R' : List Int), a = p ∧ R = a :: R' ∧ Way t f p R'
theorem At.start {t : List El} (hR : Right t) {f z : Nat} {L : List Int} (h : Way t f z L) : ∃ (x : El), t[z]? = some x ∧ At t (f - 1) x.2.1 L := by
  by_cases h0 : z = 0
  · subst h0
    obtain ⟨x, hx, hp⟩ := Way.root hR
    exact ⟨x, hx, .inl ⟨hp, h.end_⟩⟩
  · obtain ⟨f', p, x, L', hf, hz, hpar, hRL, hw2⟩ := h.next hR h0
    subst hf
    refine ⟨x, hz, .inr ⟨p, L', hpar, ?_, hw2⟩⟩
    rw [hRL, hpar]
set_option maxHeartbeats 6400000 in
theorem specTreeAbove_any (A : Option Addr) (n c : Nat) (t : List El) (i : Int) (w : World) (hx : Els w A t) (hn : t.length = n) (hnb : n ≤ 1099511627776) :
    Calls Try.prog 26 #[.slice A n c, .int .i64 i] w (OutI (treeAbove t i) w) := by
  have HX := Lib.hid hx; have HN := Lib.hid hn
  have C := Lib.hid (fun w' h => l6Live_any A n c t i w' h hn hnb)
  cases hl : (rightB t && liveAt t i)
  · have hr := Lib.hid (treeAbove_no hl)
    rw [hl] at C
    clear hx hn hl
    go_enter Try.func26, Try.ntmps26
    go_wp2_with fail
    refine (C.out _ (HX.out.alloc _)).mono ?_
    rintro e w1 ⟨rfl, hb⟩
    have HO := Lib.hid (II.ownsRow_below (II.ownsRow_made1 w w.heap.size 3 (Nat.le_refl _)) hb)
    have hB := Below.trans ((Below.refl w.heap.size w).alloc (Nat.le_refl _) _) (hb.mono (by simp))
    clear hb
    go_wp2
    go_ret
    rw [hr.out]
    exact out_of_row (L := []) HO.out hB
  · have hl2 := Bool.and_eq_true_iff.1 hl
    have hRR := (rightB_iff t).1 hl2.1
    obtain rfl : n = 5 := by rw [← hn]; exact hRR.len
    obtain ⟨q, x, rfl, hq, hxq, hxl⟩ := liveAt_range hl2.2
    obtain ⟨x', hx', hat⟩ := At.start hRR (Way.start hRR hq hxq hxl)
    rw [hxq] at hx'
    cases hx'
    have HA := Lib.hid hat
    have hr := Lib.hid (treeAbove_yes hl)
    have HRR := Lib.hid hRR
    obtain ⟨i0, hi, hz0, hz1, hz2⟩ := info_parts II.int_info
    rw [hl] at C
    obtain ⟨b, off, rfl, hbx, c0, c1, c2, c3, c4⟩ := hx.at_ hxq
    have hq0' : (0 : Int) ≤ (q : Int) := by omega
    have hq5 : (q : Int) < 5 := by omega
    clear hx hn hl hl2 hRR hxq hxl hat c0 c2 c3 c4
    go_enter Try.func26, Try.ntmps26
    go_wp2_with fail
    refine (C.out _ (HX.out.alloc _)).mono ?_
    rintro e w1 ⟨rfl, hb⟩
    have HS := Lib.hid (show Sofar w w1 _ [] from ⟨II.ownsRow_below (II.ownsRow_made1 w w.heap.size 3 (Nat.le_refl _)) hb, Below.trans ((Below.refl w.heap.size w).alloc (Nat.le_refl _) _) (hb.mono (by simp)), rfl⟩)
    have c1 := Below.keeps hb (cell_alloc_ c1)
    clear hb
    go_wp2
    clear c1
    go_loopw [5, 6] (fun v av wr => ∃ (f : Nat) (a : Int) (L R : List Int), av = .int .i64 a ∧ Hid (At t f a R) ∧ Hid (L ++ R = aboveN t 5 q) ∧ Hid (L.length + f = 4) ∧ Hid (Sofar w wr v L)) (fun v av _ => 5 - lenOf v)
    case atStart => exact ⟨4, _, [], _, rfl, HA.out, rfl, rfl, HS.out⟩
    case round =>
      obtain ⟨f, a, L, R, rfl, hat, hL, hlen, hso⟩ := hrel
      rcases hat.out with ⟨rfl, hR⟩ | ⟨p, R', rfl, hR, hw⟩
      · have hfin := Lib.hid (show L = aboveN t 5 q by have := hL.out; rwa [hR, List.append_nil] at this)
        clear hR
        go_wp2
        go_ret
        rw [hr.out, ← hfin.out]
        exact out_of_row hso.out.1 hso.out.2.1
      · obtain ⟨y, hy, hat2⟩ := At.start HRR.out hw
        have hp5' : p < 5 := hw.1
        have hp0' : (0 : Int) ≤ (p : Int) := by omega
        have hp5 : (p : Int) < 5 := by omega
        have hB := hso.out.2.1
        have hs := hB.size
        obtain ⟨b2, off2, hA2, -, -, y1, -, -, -⟩ := HX.out.at_ hy
        obtain ⟨rfl, rfl⟩ : b = b2 ∧ off = off2 := by injection hA2 with hA2; injection hA2 with h1 h2; exact ⟨h1, h2⟩
        have hL3 := Lib.hid (show (L ++ [(p : Int)]) ++ R' = aboveN t 5 q by rw [List.append_assoc, ← hL.out, hR]; rfl)
        have hf0 : f ≠ 0 := fun e => by subst e; have := hw.2.2.1; simp [upI] at this
        have hat3 := Lib.hid hat2
        have hlen3 := Lib.hid (show (L ++ [(p : Int)]).length + (f - 1) = 4 by have := hlen.out; simp; omega)
        have hll : L.length < 5 := by have := hlen.out; omega
        have hlv := Lib.hid hso.out.2.2
        have HO := Lib.hid hso.out.1
        clear hR hw hy hA2 hat2 hf0
        go_wp2_with (at_builtin; refine wpList_append_own _ rfl _ _ 39 rfl w.heap.size 3 i0 (.int .i64 0) 1 8 Try.underlying39 hi hz0 hz1 hz2 rfl (by decide) _ _ _ rfl (HO.out.alloc _) ⟨wr.heap.size, 0, none⟩ 1 1 [.int .i64 (p : Int)] rfl rfl ?c1 ?c2 ?c3 ?c4 ?c5 ?_)
        case c1 =>
          intro j u hj
          match j, hj with
          | 0, hj => simp at hj; subst hj; simp [Addr.add]
        case c2 => intro u hu; simp at hu; subst hu; rfl
        case c3 => unfold maxLen; omega
        case c4 => omega
        case c5 => simp; omega
        intro v' w3 hown' hgrow _
        have HS3 := Lib.hid (hso.out.grow hs hown' hgrow)
        have hlv3 := Lib.hid HS3.out.2.2
        have y1 := Below.keeps HS3.out.2.1 y1
        clear hown' hgrow
        go_wp2
        exact ⟨⟨f - 1, y.2.1, _, R', rfl, hat3, hL3, hlen3, HS3⟩, by rw [hlv3.out, hlv.out]; simp; omega⟩

end Go.Proofs.Ytdgkfpcecppfdaa
