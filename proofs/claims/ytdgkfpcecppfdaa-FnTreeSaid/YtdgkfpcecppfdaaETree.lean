/- The plain law of trees: what a right tree is, in the program's words and in the reference's. No program in sight. -/
import Derived.Test.YtdgkfpcecppfdaaERows
namespace Go.Proofs.Ytdgkfpcecppfdaa
set_option linter.unusedSimpArgs false
set_option linter.unusedVariables false
open Go.RowKit

def zEl : El := (false, 0, 0, 0, 0)
def liveAt (t : List El) (i : Int) : Bool := inB i 0 4 && (match t[i.toNat]? with | some x => x.1 | none => false)
def parAt (t : List El) (i : Int) : Int := match t[i.toNat]? with | some x => x.2.1 | none => 0
/-- place i leads to 0 within f steps -/
def upI (t : List El) : Nat → Int → Bool
  | 0, _ => false
  | f + 1, i => if i = 0 then true else if liveAt t i then upI t f (parAt t i) else false
def balOk (x : El) : Bool := amtB x.2.2.1 x.2.2.2.1 x.2.2.2.2
def goodI (t : List El) (j : Nat) (x : El) : Bool := if x.1 then balOk x && upI t 5 j else decide (x = zEl)
def add3 (s : Int × Int × Int) (x : El) : Int × Int × Int := (s.1 + x.2.2.1, s.2.1 + x.2.2.2.1, s.2.2 + x.2.2.2.2)
def sumL (t : List El) : Int × Int × Int := t.foldl (fun s x => if x.1 then add3 s x else s) (0, 0, 0)
def goodTo (t : List El) (f : List El → Nat → El → Bool) (k : Nat) : Prop := ∀ j x, j < k → t[j]? = some x → f t j x = true
/-- a right tree, in the program's words -/
structure Right (t : List El) : Prop where
  len : t.length = 5
  root : ∃ x, t[0]? = some x ∧ x.1 = true ∧ x.2.1 = -1
  good : goodTo t goodI 5
  sum : amtB (sumL t).1 (sumL t).2.1 (sumL t).2.2 = true
/-- the reference's first loop -/
def goodS (t : List El) (j : Nat) (x : El) : Bool := (x.1 || decide (x = zEl)) && balOk x && (decide (j = 0) || !x.1 || (inB x.2.1 0 4 && decide (x.2.1 ≠ j) && liveAt t x.2.1))
/-- where one stands after f steps up -/
def goUp (t : List El) : Nat → Int → Int
  | 0, i => i
  | f + 1, i => if 0 < i then goUp t f (parAt t i) else i
def rootS (t : List El) (j : Nat) (x : El) : Bool := !x.1 || decide (goUp t 5 j = 0)
structure RightS (t : List El) : Prop where
  len : t.length = 5
  root : ∃ x, t[0]? = some x ∧ x.1 = true ∧ x.2.1 = -1
  good : goodTo t goodS 5
  up : goodTo t rootS 5
  sum : amtB (sumL t).1 (sumL t).2.1 (sumL t).2.2 = true

theorem liveAt_nat {t : List El} {j : Nat} {x : El} (h : t[j]? = some x) (hj : j < 5) : liveAt t j = x.1 := by
  unfold liveAt
  rw [show ((j : Int)).toNat = j from rfl, h]
  have : inB (j : Int) 0 4 = true := by simp [inB]; omega
  simp [this]
theorem parAt_nat {t : List El} {j : Nat} {x : El} (h : t[j]? = some x) : parAt t j = x.2.1 := by
  unfold parAt
  rw [show ((j : Int)).toNat = j from rfl, h]
theorem liveAt_range {t : List El} {i : Int} (h : liveAt t i = true) : ∃ (q : Nat) (x : El), i = q ∧ q < 5 ∧ t[q]? = some x ∧ x.1 = true := by
  unfold liveAt at h
  simp only [Bool.and_eq_true] at h
  obtain ⟨h1, h2⟩ := h
  have hb := inB_true h1
  refine ⟨i.toNat, ?_⟩
  cases hx : t[i.toNat]? with
  | none => rw [hx] at h2; cases h2
  | some x => rw [hx] at h2; exact ⟨x, by omega, by omega, rfl, h2⟩
def stepF (a b c d x : Fin 5) : Fin 5 := if x = 0 then 0 else if x = 1 then a else if x = 2 then b else if x = 3 then c else d
theorem five_key : ∀ a b c d i : Fin 5, stepF a b c d (stepF a b c d (stepF a b c d (stepF a b c d (stepF a b c d i)))) = 0 → stepF a b c d (stepF a b c d (stepF a b c d (stepF a b c d i))) = 0 := by
  decide +kernel
/-- five steps are no more than four, for parents among five places -/
theorem five_four (s : Fin 5 → Fin 5) (h0 : s 0 = 0) (i : Fin 5) : s (s (s (s (s i)))) = 0 → s (s (s (s i))) = 0 := by
  have e : stepF (s 1) (s 2) (s 3) (s 4) = s := by
    funext x
    match x with
    | 0 => exact h0.symm
    | 1 => rfl
    | 2 => rfl
    | 3 => rfl
    | 4 => rfl
  have h := five_key (s 1) (s 2) (s 3) (s 4) i
  rwa [e] at h
/-- each that is live and not 0 has a live parent -/
def Closed (t : List El) : Prop := ∀ j x, j < 5 → t[j]? = some x → x.1 = true → j ≠ 0 → ∃ (q : Nat) (y : El), q < 5 ∧ x.2.1 = (q : Int) ∧ t[q]? = some y ∧ y.1 = true
theorem up_go {t : List El} (hc : Closed t) : ∀ (f j : Nat) (x : El), j < 5 → t[j]? = some x → x.1 = true → upI t (f + 1) j = decide (goUp t f j = 0)
  | 0, j, x, hj, hx, hl => by
    simp only [upI, goUp]
    split
    · rename_i h; simp [h]
    · rename_i h; simp; omega
  | f + 1, j, x, hj, hx, hl => by
    rw [upI, goUp]
    by_cases h0 : j = 0
    · subst h0; simp
    · obtain ⟨q, y, hq, he, hy, hyl⟩ := hc j x hj hx hl h0
      rw [if_neg (by omega), liveAt_nat hx hj, hl, if_pos rfl, if_pos (by omega), parAt_nat hx, he]
      exact up_go hc f q y hq hy hyl
theorem go_more {t : List El} : ∀ (f : Nat) (i : Int), goUp t f i = 0 → goUp t (f + 1) i = 0
  | 0, i, h => by
    simp only [goUp] at h
    subst h; simp [goUp]
  | f + 1, i, h => by
    rw [goUp] at h ⊢
    by_cases hi : 0 < i
    · rw [if_pos hi] at h ⊢; exact go_more f _ h
    · rw [if_neg hi] at h ⊢; exact h
def sOf (t : List El) (x : Fin 5) : Fin 5 := if x = 0 then 0 else if h : (parAt t x.val).toNat < 5 then ⟨(parAt t x.val).toNat, h⟩ else 0
def itF (s : Fin 5 → Fin 5) : Nat → Fin 5 → Fin 5
  | 0, x => x
  | f + 1, x => itF s f (s x)
theorem go_fin {t : List El} (hc : Closed t) : ∀ (f j : Nat) (x : El) (hj : j < 5), t[j]? = some x → x.1 = true → goUp t f j = ((itF (sOf t) f ⟨j, hj⟩ : Fin 5).val : Int)
  | 0, j, x, hj, hx, hl => rfl
  | f + 1, j, x, hj, hx, hl => by
    rw [goUp]
    by_cases h0 : j = 0
    · subst h0
      have hs : sOf t ⟨0, hj⟩ = ⟨0, hj⟩ := rfl
      have ih := go_fin hc f 0 x hj hx hl
      show _ = ((itF (sOf t) f (sOf t ⟨0, hj⟩) : Fin 5).val : Int)
      rw [hs, ← ih, if_neg (by omega)]
      clear ih hs
      induction f with
      | zero => rfl
      | succ f ih => rw [goUp, if_neg (by omega)]
    · obtain ⟨q, y, hq, he, hy, hyl⟩ := hc j x hj hx hl h0
      have hp : parAt t j = q := by rw [parAt_nat hx, he]
      have hs : sOf t ⟨j, hj⟩ = ⟨q, hq⟩ := by
        unfold sOf
        rw [if_neg (by intro e; exact h0 (congrArg Fin.val e))]
        have e : (parAt t ((⟨j, hj⟩ : Fin 5).val : Nat)).toNat = q := by show (parAt t (j : Nat)).toNat = q; rw [hp]; rfl
        rw [dif_pos (by omega)]
        exact Fin.ext e
      show _ = ((itF (sOf t) f (sOf t ⟨j, hj⟩) : Fin 5).val : Int)
      rw [hs, if_pos (by omega), hp]
      exact go_fin hc f q y hq hy hyl
theorem go_five {t : List El} (hc : Closed t) {j : Nat} {x : El} (hj : j < 5) (hx : t[j]? = some x) (hl : x.1 = true) : goUp t 5 j = 0 ↔ goUp t 4 j = 0 := by
  constructor
  · intro h
    rw [go_fin hc 5 j x hj hx hl] at h
    rw [go_fin hc 4 j x hj hx hl]
    have h5 : itF (sOf t) 5 ⟨j, hj⟩ = 0 := Fin.ext (by show (itF (sOf t) 5 ⟨j, hj⟩).val = 0; omega)
    have h4 : itF (sOf t) 4 ⟨j, hj⟩ = 0 := five_four (sOf t) rfl ⟨j, hj⟩ h5
    rw [h4]; rfl
  · exact go_more 4 _
theorem up_self {t : List El} {i : Int} (h0 : i ≠ 0) (hp : parAt t i = i) : ∀ f, upI t f i = false
  | 0 => rfl
  | f + 1 => by
    rw [upI, if_neg h0, hp, up_self h0 hp f]; simp
theorem Right.closed {t : List El} (h : Right t) : Closed t := by
  intro j x hj hx hl h0
  have hg := h.good j x hj hx
  unfold goodI at hg
  rw [if_pos hl, Bool.and_eq_true] at hg
  have hu := hg.2
  rw [upI, if_neg (by omega), liveAt_nat hx hj, hl, if_pos rfl, parAt_nat hx, upI] at hu
  by_cases hp : x.2.1 = 0
  · obtain ⟨r, hr, hrl, _⟩ := h.root
    exact ⟨0, r, by omega, by simpa using hp, hr, hrl⟩
  · rw [if_neg hp] at hu
    cases hla : liveAt t x.2.1
    · rw [hla] at hu; simp at hu
    · obtain ⟨q, y, he, hq, hy, hyl⟩ := liveAt_range hla
      exact ⟨q, y, hq, he, hy, hyl⟩
theorem RightS.closed {t : List El} (h : RightS t) : Closed t := by
  intro j x hj hx hl h0
  have hg := h.good j x hj hx
  unfold goodS at hg
  simp only [Bool.and_eq_true, Bool.or_eq_true, decide_eq_true_eq, Bool.not_eq_true'] at hg
  rcases hg.2 with (h1 | h1) | h1
  · exact absurd h1 h0
  · rw [hl] at h1; cases h1
  · obtain ⟨q, y, he, hq, hy, hyl⟩ := liveAt_range h1.2
    exact ⟨q, y, hq, he, hy, hyl⟩
theorem balOk_z : balOk zEl = true := by decide
theorem right_iff (t : List El) : Right t ↔ RightS t := by
  constructor
  · intro h
    have hc := h.closed
    refine ⟨h.len, h.root, fun j x hj hx => ?_, fun j x hj hx => ?_, h.sum⟩
    · have hg := h.good j x hj hx
      unfold goodI at hg
      cases hl : x.1
      · rw [hl] at hg
        simp only [Bool.false_eq_true, if_false, decide_eq_true_eq] at hg
        subst hg
        simp [goodS, zEl]
        exact balOk_z
      · rw [hl, if_pos rfl, Bool.and_eq_true] at hg
        unfold goodS
        rw [hl, hg.1]
        by_cases h0 : j = 0
        · simp [h0]
        · obtain ⟨q, y, hq, he, hy, hyl⟩ := hc j x hj hx hl h0
          have hne : x.2.1 ≠ (j : Int) := fun e => by
            have hs := up_self (t := t) (i := (j : Int)) (by omega) (by rw [parAt_nat hx, e]) 5
            rw [hs] at hg; cases hg.2
          have hin : inB x.2.1 0 4 = true := by rw [he]; simp [inB]; omega
          rw [hin, he, liveAt_nat hy hq, hyl, ← he]
          simp [hne]
    · unfold rootS
      cases hl : x.1
      · rfl
      · have hg := h.good j x hj hx
        unfold goodI at hg
        rw [hl, if_pos rfl, Bool.and_eq_true] at hg
        have hu := hg.2
        rw [up_go hc 4 j x hj hx hl, decide_eq_true_eq] at hu
        simp [(go_five hc hj hx hl).2 hu]
  · intro h
    have hc := h.closed
    refine ⟨h.len, h.root, fun j x hj hx => ?_, h.sum⟩
    have hg := h.good j x hj hx
    have hu := h.up j x hj hx
    unfold goodS at hg
    unfold rootS at hu
    unfold goodI
    cases hl : x.1
    · rw [hl] at hg
      simp only [Bool.false_or, Bool.and_eq_true, decide_eq_true_eq] at hg
      simp [hg.1.1]
    · rw [hl] at hg hu
      simp only [Bool.not_true, Bool.false_or, decide_eq_true_eq] at hu
      have h4 := (go_five hc hj hx hl).1 hu
      rw [if_pos rfl, up_go hc 4 j x hj hx hl, h4]
      simp only [Bool.true_or, Bool.true_and, Bool.and_eq_true] at hg
      simp [hg.1]
end Go.Proofs.Ytdgkfpcecppfdaa
