/- The reference's draws are functions of the code's bytes: a number, a text, the text of a number that may be spoilt. -/
import Derived.Test.YthganncfagddgaaDoorDetS
import Derived.Test.YthganncfagddgaaDoorVar
import Derived.Test.YthganncfagddgaaDoorOpenB
namespace Go.Proofs.YthganncfagddgaaDoor
set_option linter.unusedSimpArgs false
set_option linter.unusedVariables false
open Go.RowKit
attribute [local go_sem ↓] Go.wp_at_zero Go.wp_at_succ

def varS (v : Int) : ByteArray := if inB v 0 562949953421311 then ⟨(varL v.toNat).toArray⟩ else ⟨#[]⟩
theorem varS_yes {v : Nat} (h : inB (v : Int) 0 562949953421311 = true) : varS (v : Int) = ⟨(varL v).toArray⟩ := by
  unfold varS; rw [if_pos h, Int.toNat_natCast]
theorem varS_no {v : Int} (h : inB v 0 562949953421311 = false) : varS v = ⟨#[]⟩ := by
  unfold varS; rw [if_neg (by rw [h]; decide)]
theorem varS_size (v : Int) : (varS v).size ≤ 7 := by
  cases h : inB v 0 562949953421311
  · rw [varS_no h]; simp [ByteArray.size]
  · have hb := inB_true h
    obtain ⟨k, rfl⟩ := Int.eq_ofNat_of_zero_le hb.1
    rw [varS_yes h]
    have := varL_len 6 k (by have : (128 : Nat) ^ 7 = 562949953421312 := rfl; omega)
    simpa [ByteArray.size] using this
theorem specVar_any (v : Int) (w : World) : Calls Tryd.prog 27 #[.int .i64 v] w fun e w' => e = .returned (.string (varS v)) ∧ Below w.heap.size w w' := by
  cases h : inB v 0 562949953421311
  · rw [varS_no h]
    exact (specVar_no v w h).mono fun _ _ ⟨h1, h2⟩ => ⟨h1, h2 ▸ Below.refl _ _⟩
  · obtain ⟨k, rfl⟩ := Int.eq_ofNat_of_zero_le (inB_true h).1
    rw [varS_yes h]
    exact specVar_yes k w h
theorem implVar_any (v : Int) (w : World) : Calls Tryd.prog 13 #[.int .i64 v] w fun e w' => e = .returned (.string (varS v)) ∧ Below w.heap.size w w' := by
  cases h : inB v 0 562949953421311
  · rw [varS_no h]
    exact (implVar_no v w h).mono fun _ _ ⟨h1, h2⟩ => ⟨h1, h2 ▸ Below.refl _ _⟩
  · obtain ⟨k, rfl⟩ := Int.eq_ofNat_of_zero_le (inB_true h).1
    rw [varS_yes h]
    exact implVar_yes k w h
set_option maxHeartbeats 1600000 in
theorem DrawVar_any (A : Option Addr) (n c : Nat) (l : List Nat) (w : World) (hA : BysL w A l) (hl : l.length = n) (hn : n ≤ 1048576) :
    Calls Tryd.prog 11 #[.slice A n c] w fun e w' => ∃ v : Int, e = .returned (.int .i64 v) ∧ -9223372036854775808 ≤ v ∧ v ≤ 9223372036854775807 ∧ Below w.heap.size w w' := by
  have N := Lib.hid (l1New_det A n c l w hA hl hn)
  obtain ⟨⟨v, s1⟩, h1⟩ : ∃ r, numF l (startF l) = r := ⟨_, rfl⟩
  have hb := numF_bd l (startF l)
  rw [h1] at hb
  have V := Lib.hid (fun g w' h => l1Num_det w g A n c l (startF l) w' hA hl hn h h1)
  have HB := Lib.hid hb
  clear hA h1 hb hl
  go_enter Tryd.func11, Tryd.ntmps11
  go_wp2_with fail
  refine N.out.mono ?_
  rintro e w1 ⟨g, rfl, hD⟩
  have HD := Lib.hid hD
  clear hD
  go_wp2_with fail
  refine (V.out _ _ HD.out).mono ?_
  rintro e w2 ⟨rfl, hD, hg⟩
  have HW := Lib.hid hD.dr.below
  clear hD hg
  go_wp2
  go_ret
  exact ⟨v, rfl, HB.out.1, HB.out.2, HW.out⟩
set_option maxHeartbeats 1600000 in
theorem DrawHex_any (A : Option Addr) (n c : Nat) (l : List Nat) (w : World) (hA : BysL w A l) (hl : l.length = n) (hn : n ≤ 1048576) :
    Calls Tryd.prog 12 #[.slice A n c] w fun e w' => ∃ t : List UInt8, e = .returned (.string ⟨t.toArray⟩) ∧ t.length ≤ 40 ∧ Below w.heap.size w w' := by
  have N := Lib.hid (l1New_det A n c l w hA hl hn)
  obtain ⟨⟨t, s1⟩, h1⟩ : ∃ r, textF l ((40 : Nat) : Int) (startF l) = r := ⟨_, rfl⟩
  have hb := textF_len l 40 (startF l)
  rw [h1] at hb
  have V := Lib.hid (fun g w' h => l1Text_det w g A n c l 40 (startF l) w' hA hl hn (by omega) h h1)
  have HB := Lib.hid hb
  clear hA h1 hb hl
  go_enter Tryd.func12, Tryd.ntmps12
  go_wp2_with fail
  refine N.out.mono ?_
  rintro e w1 ⟨g, rfl, hD⟩
  have HD := Lib.hid hD
  clear hD
  go_wp2_with fail
  refine (V.out _ _ HD.out).mono ?_
  rintro e w2 ⟨rfl, hD, hg⟩
  have HW := Lib.hid hD.dr.below
  clear hD hg
  go_wp2
  go_ret
  exact ⟨t, rfl, HB.out, HW.out⟩
def rvF (l : List Nat) : ByteArray :=
  if (belowF l 4 (textF l ((4 : Nat) : Int) (numF l (startF l)).2).2).1 = 0 then (spoilF l (varS (numF l (startF l)).1 ++ ⟨(textF l ((4 : Nat) : Int) (numF l (startF l)).2).1.toArray⟩) (belowF l 4 (textF l ((4 : Nat) : Int) (numF l (startF l)).2).2).2).1
  else varS (numF l (startF l)).1 ++ ⟨(textF l ((4 : Nat) : Int) (numF l (startF l)).2).1.toArray⟩
set_option maxHeartbeats 3200000 in
theorem DrawReadVar_det (A : Option Addr) (n c : Nat) (l : List Nat) (w : World) (hA : BysL w A l) (hl : l.length = n) (hn : n ≤ 1048576) :
    Calls Tryd.prog 19 #[.slice A n c] w fun e w' => e = .returned (.string (rvF l)) ∧ (rvF l).size ≤ 100 ∧ Below w.heap.size w w' := by
  have N := Lib.hid (l1New_det A n c l w hA hl hn)
  obtain ⟨⟨v, s1⟩, h1⟩ : ∃ r, numF l (startF l) = r := ⟨_, rfl⟩
  obtain ⟨⟨t, s2⟩, h2⟩ : ∃ r, textF l ((4 : Nat) : Int) s1 = r := ⟨_, rfl⟩
  obtain ⟨⟨o, s3⟩, h3⟩ : ∃ r, belowF l 4 s2 = r := ⟨_, rfl⟩
  have hb := textF_len l 4 s1
  rw [h2] at hb
  have hb : t.length ≤ 4 := hb
  have hv := varS_size v
  obtain ⟨S, hS⟩ : ∃ S, varS v ++ (⟨t.toArray⟩ : ByteArray) = S := ⟨_, rfl⟩
  have hSz : S.size ≤ 11 := by rw [← hS, ByteArray.size_append]; simp only [ByteArray.size, List.size_toArray] at hv ⊢; omega
  obtain ⟨⟨T, s4⟩, h4⟩ : ∃ r, spoilF l S s3 = r := ⟨_, rfl⟩
  have hTz := spoilF_size l S s3
  rw [h4] at hTz
  have EF := Lib.hid (show rvF l = if o = 0 then T else S by unfold rvF; simp only [h1, h2, h3, hS, h4])
  have V := Lib.hid (fun g w' h => l1Num_det w g A n c l (startF l) w' hA hl hn h h1)
  have X := Lib.hid (fun g w' h => l1Text_det w g A n c l 4 s1 w' hA hl hn (by omega) h h2)
  have O := Lib.hid (fun g w' h => l1Once_det w g A n c l 4 s2 w' hA hl hn (by omega) (by omega) h h3)
  have Z := Lib.hid (fun g w' h => l1Spoil_det w g A n c l S s3 w' hA hl hn h (by omega) h4)
  have HS := Lib.hid hS
  have zv : (varS v).size ≤ 7 := hv
  have zt : (⟨t.toArray⟩ : ByteArray).size ≤ 4 := by simpa [ByteArray.size] using hb
  clear hA h1 h2 h3 h4 hb hv hl hS
  generalize hvs : varS v = VS at *
  have VV := Lib.hid (fun w => show Calls Tryd.prog 27 #[.int .i64 v] w fun e w' => e = .returned (.string VS) ∧ Below w.heap.size w w' by rw [← hvs]; exact specVar_any v w)
  clear hvs
  generalize (⟨t.toArray⟩ : ByteArray) = TS at *
  go_enter Tryd.func19, Tryd.ntmps19
  go_wp2_with fail
  refine N.out.mono ?_
  rintro e w1 ⟨g, rfl, hD⟩
  have HD := Lib.hid hD
  clear hD
  go_wp2_with fail
  refine (V.out _ _ HD.out).mono ?_
  rintro e w2 ⟨rfl, hD, hg⟩
  have HD := Lib.hid hD
  clear hD hg
  go_wp2_with fail
  refine (VV.out _).mono ?_
  rintro e w3 ⟨rfl, hb⟩
  have HD := Lib.hid (HD.out.bel hb)
  clear hb
  go_wp2_with fail
  refine (X.out _ _ HD.out).mono ?_
  rintro e w4 ⟨rfl, hD, hg⟩
  have HD := Lib.hid hD
  clear hD hg
  go_wp2_with fail
  refine (O.out _ _ HD.out).mono ?_
  rintro e w5 ⟨rfl, hD, hg⟩
  have HD := Lib.hid hD
  clear hD hg
  rw [HS.out]
  by_cases ho : o = 0
  · have eo : (o == (0 : Int)) = true := by simpa using ho
    have HF := Lib.hid (show rvF l = T by rw [EF.out, if_pos ho])
    rw [eo]
    clear ho eo EF
    go_wp2_with fail
    refine (Z.out _ _ HD.out).mono ?_
    rintro e w6 ⟨rfl, hD, hg⟩
    have HW := Lib.hid hD.dr.below
    clear hD hg
    go_wp2
    go_ret
    rw [HF.out]
    exact ⟨rfl, by omega, HW.out⟩
  · have eo : (o == (0 : Int)) = false := by simpa using ho
    have HF := Lib.hid (show rvF l = S by rw [EF.out, if_neg ho])
    have HW := Lib.hid HD.out.dr.below
    rw [eo]
    clear ho eo EF
    go_wp2
    go_ret
    rw [HF.out]
    exact ⟨rfl, by omega, HW.out⟩

end Go.Proofs.YthganncfagddgaaDoor
