/- FnLabels: the plain law on labels. -/
import Derived.Test.YtkcchceoljlnaaaDoorFlowsP
import Derived.Test.YtkcchceoljlnaaaDoorJoin
import Derived.Test.YtkcchceoljlnaaaDoorMeet
import Derived.Test.YtkcchceoljlnaaaDoorFlat
import Derived.Test.YtkcchceoljlnaaaDoorShow
namespace Go.Proofs.YtkcchceoljlnaaaDoor
set_option linter.unusedSimpArgs false
set_option linter.unusedVariables false
open Go.RowKit

theorem labB_at4 {xs : List Int} (h : labB xs = true) {k : Nat} (hk : k < 4) : 0 ≤ xs.getD k 0 ∧ xs.getD k 0 ≤ 3 := by
  have hl := labB_len4 h
  have hx : xs[k]? = some (xs.getD k 0) := by
    rw [List.getD_eq_getElem?_getD, List.getElem?_eq_getElem (by omega)]; rfl
  have := labB_at h hx
  simp only [inB, Bool.and_eq_true, decide_eq_true_eq] at this
  omega
theorem flow_iff {xs ys : List Int} (h1 : labB xs = true) (h2 : labB ys = true) : flowB [] xs ys = true ↔ ∀ i, i < 4 → xs.getD i 0 ≤ ys.getD i 0 := by
  simp [flowB, h1, h2, flowAt, hasB, ownB_nil]
theorem labB_of {xs : List Int} (hl : xs.length = 4) (h : ∀ i, i < 4 → 0 ≤ xs.getD i 0 ∧ xs.getD i 0 ≤ 3) : labB xs = true := by
  refine labB_yes hl fun i hi => ?_
  have := h i (by omega)
  simp only [labAt, inB, Bool.and_eq_true, decide_eq_true_eq]
  exact this
theorem zip_getD (f : Int → Int → Int) {xs ys : List Int} (h1 : xs.length = 4) (h2 : ys.length = 4) {i : Nat} (hi : i < 4) : (zipL f xs ys).getD i 0 = f (xs.getD i 0) (ys.getD i 0) := by
  have e1 : xs[i]? = some (xs.getD i 0) := by rw [List.getD_eq_getElem?_getD, List.getElem?_eq_getElem (by omega)]; rfl
  have e2 : ys[i]? = some (ys.getD i 0) := by rw [List.getD_eq_getElem?_getD, List.getElem?_eq_getElem (by omega)]; rfl
  rw [List.getD_eq_getElem?_getD, zipL_at e1 e2]; rfl
theorem ext4 {xs ys : List Int} (h1 : xs.length = 4) (h2 : ys.length = 4) (h : ∀ i, i < 4 → xs.getD i 0 = ys.getD i 0) : xs = ys := by
  apply List.ext_getElem (by omega)
  intro i h3 h4
  have := h i (by omega)
  rw [List.getD_eq_getElem?_getD, List.getD_eq_getElem?_getD, List.getElem?_eq_getElem h3, List.getElem?_eq_getElem h4] at this
  exact this
theorem zip_lab {f : Int → Int → Int} (hf : ∀ x y : Int, f x y = x ∨ f x y = y) {xs ys : List Int} (h1 : labB xs = true) (h2 : labB ys = true) : labB (zipL f xs ys) = true := by
  have l1 := labB_len4 h1; have l2 := labB_len4 h2
  refine labB_of (zipL_len f l1 l2) fun i hi => ?_
  rw [zip_getD f l1 l2 hi]
  rcases hf (xs.getD i 0) (ys.getD i 0) with e | e <;> rw [e]
  · exact labB_at4 h1 hi
  · exact labB_at4 h2 hi
theorem max_or (x y : Int) : max x y = x ∨ max x y = y := by omega
theorem min_or (x y : Int) : min x y = x ∨ min x y = y := by omega
/-- what the law asks of two labels -/
structure LabLaw (xs ys J M : List Int) : Prop where
  lj : labB J = true
  lm : labB M = true
  aj : flowB [] xs J = true
  bj : flowB [] ys J = true
  ma : flowB [] M xs = true
  mb : flowB [] M ys = true
  sj : joinR max ys xs = J
  sm : joinR min ys xs = M
  am : joinR max xs M = xs
  fa : flowB [] (List.replicate 4 0) xs = true
  af : flowB [] xs (List.replicate 4 3) = true
theorem flat_lab {x : Int} (h0 : 0 ≤ x) (h1 : x ≤ 3) : labB (List.replicate 4 x) = true := by
  refine labB_of (by simp) fun i hi => ?_
  rw [List.getD_eq_getElem?_getD, List.getElem?_replicate, if_pos hi]
  exact ⟨h0, h1⟩
theorem flat_getD {x : Int} {i : Nat} (hi : i < 4) : (List.replicate 4 x).getD i 0 = x := by
  rw [List.getD_eq_getElem?_getD, List.getElem?_replicate, if_pos hi]; rfl
theorem labLaw {xs ys : List Int} (h1 : labB xs = true) (h2 : labB ys = true) : LabLaw xs ys (joinR max xs ys) (joinR min xs ys) := by
  have l1 := labB_len4 h1; have l2 := labB_len4 h2
  have lj := zip_lab max_or h1 h2
  have lm := zip_lab min_or h1 h2
  rw [joinR_yes h1 h2, joinR_yes h1 h2]
  refine ⟨lj, lm, (flow_iff h1 lj).2 fun i hi => ?_, (flow_iff h2 lj).2 fun i hi => ?_, (flow_iff lm h1).2 fun i hi => ?_, (flow_iff lm h2).2 fun i hi => ?_, ?_, ?_, ?_, (flow_iff (flat_lab (by omega) (by omega)) h1).2 fun i hi => ?_, (flow_iff h1 (flat_lab (by omega) (by omega))).2 fun i hi => ?_⟩
  · rw [zip_getD _ l1 l2 hi]; omega
  · rw [zip_getD _ l1 l2 hi]; omega
  · rw [zip_getD _ l1 l2 hi]; omega
  · rw [zip_getD _ l1 l2 hi]; omega
  · rw [joinR_yes h2 h1]
    refine ext4 (zipL_len _ l2 l1) (zipL_len _ l1 l2) fun i hi => ?_
    rw [zip_getD _ l1 l2 hi, zip_getD _ l2 l1 hi]; omega
  · rw [joinR_yes h2 h1]
    refine ext4 (zipL_len _ l2 l1) (zipL_len _ l1 l2) fun i hi => ?_
    rw [zip_getD _ l1 l2 hi, zip_getD _ l2 l1 hi]; omega
  · rw [joinR_yes h1 lm]
    refine ext4 (zipL_len _ l1 (labB_len4 lm)) l1 fun i hi => ?_
    rw [zip_getD _ l1 (labB_len4 lm) hi, zip_getD _ l1 l2 hi]; omega
  · rw [flat_getD hi]; exact (labB_at4 h1 hi).1
  · rw [flat_getD hi]; exact (labB_at4 h1 hi).2
theorem bool_iff {a b : Bool} (h : a = true ↔ b = true) : a = b := by cases a <;> cases b <;> simp_all
theorem join_least {xs ys zs : List Int} (h1 : labB xs = true) (h2 : labB ys = true) (h3 : labB zs = true) (h : flowB [] xs zs = true) : flowB [] ys zs = flowB [] (joinR max xs ys) zs := by
  have l1 := labB_len4 h1; have l2 := labB_len4 h2
  rw [joinR_yes h1 h2]
  apply bool_iff
  rw [flow_iff h2 h3, flow_iff (zip_lab max_or h1 h2) h3]
  rw [flow_iff h1 h3] at h
  constructor
  · intro h4 i hi
    have := h i hi; have := h4 i hi
    rw [zip_getD _ l1 l2 hi]; omega
  · intro h4 i hi
    have := h4 i hi
    rw [zip_getD _ l1 l2 hi] at this; omega
theorem meet_most {xs ys zs : List Int} (h1 : labB xs = true) (h2 : labB ys = true) (h3 : labB zs = true) (h : flowB [] zs xs = true) : flowB [] zs ys = flowB [] zs (joinR min xs ys) := by
  have l1 := labB_len4 h1; have l2 := labB_len4 h2
  rw [joinR_yes h1 h2]
  apply bool_iff
  rw [flow_iff h3 h2, flow_iff h3 (zip_lab min_or h1 h2)]
  rw [flow_iff h3 h1] at h
  constructor
  · intro h4 i hi
    have := h i hi; have := h4 i hi
    rw [zip_getD _ l1 l2 hi]; omega
  · intro h4 i hi
    have := h4 i hi
    rw [zip_getD _ l1 l2 hi] at this; omega
theorem flow_on {xs ys zs : List Int} (h1 : labB xs = true) (h2 : labB ys = true) (h3 : labB zs = true) (h : flowB [] xs ys = true) (h' : flowB [] ys zs = true) : flowB [] xs zs = true := by
  rw [flow_iff h1 h2] at h
  rw [flow_iff h2 h3] at h'
  rw [flow_iff h1 h3]
  intro i hi
  have := h i hi; have := h' i hi
  omega
theorem flow_same {xs ys : List Int} (h1 : labB xs = true) (h2 : labB ys = true) (h : flowB [] xs ys = true) (h' : flowB [] ys xs = true) : eqB xs ys = true := by
  rw [flow_iff h1 h2] at h
  rw [flow_iff h2 h1] at h'
  have e : xs = ys := ext4 (labB_len4 h1) (labB_len4 h2) fun i hi => by have := h i hi; have := h' i hi; omega
  rw [e]; exact eqB_self _
theorem flow_oks {xs ys : List Int} (h : flowB [] xs ys = true) : labB xs = true ∧ labB ys = true := by
  simp only [flowB, Bool.and_eq_true] at h
  exact ⟨h.1.1.2, h.1.2⟩
theorem itoa_dig {x : Int} (h : inB x 0 3 = true) : (Lib.itoa x).map dig = [x] := by
  simp only [inB, Bool.and_eq_true, decide_eq_true_eq] at h
  have : x = 0 ∨ x = 1 ∨ x = 2 ∨ x = 3 := by omega
  rcases this with rfl | rfl | rfl | rfl
  · rw [show (0 : Int) = ((0 : Nat) : Int) from rfl, Lib.itoa_nonneg, Lib.decDigits_one (by omega)]; decide
  · rw [show (1 : Int) = ((1 : Nat) : Int) from rfl, Lib.itoa_nonneg, Lib.decDigits_one (by omega)]; decide
  · rw [show (2 : Int) = ((2 : Nat) : Int) from rfl, Lib.itoa_nonneg, Lib.decDigits_one (by omega)]; decide
  · rw [show (3 : Int) = ((3 : Nat) : Int) from rfl, Lib.itoa_nonneg, Lib.decDigits_one (by omega)]; decide
theorem showL_digs {xs : List Int} (h : ∀ x ∈ xs, inB x 0 3 = true) : (showL xs).map dig = xs := by
  induction xs with
  | nil => rfl
  | cons x xs ih =>
    have h1 := itoa_dig (h x List.mem_cons_self)
    have h2 := ih fun y hy => h y (List.mem_cons_of_mem _ hy)
    simp only [showL, List.flatMap_cons, List.map_append] at h2 ⊢
    rw [h1, h2]; rfl
theorem show_size {xs : List Int} (h : labB xs = true) : (showS xs).size = 4 := by
  have h1 := showL_len h 4 (Nat.le_refl _)
  rw [List.take_of_length_le (by have := labB_len4 h; omega)] at h1
  have : showS xs = ⟨(showL xs).toArray⟩ := by simp [showS, h]
  rw [this]
  simpa [ByteArray.size] using h1
theorem show_digs {xs : List Int} (h : labB xs = true) : digs (showS xs) (showS xs).size = xs := by
  have : showS xs = ⟨(showL xs).toArray⟩ := by simp [showS, h]
  have hz := show_size h
  rw [hz]
  rw [this] at hz ⊢
  unfold digs
  have h1 : (showL xs).length = 4 := by simpa [ByteArray.size] using hz
  rw [List.take_of_length_le (by simp; omega)]
  refine showL_digs fun x hx => ?_
  obtain ⟨k, hk⟩ := List.getElem?_of_mem hx
  exact labB_at h hk

end Go.Proofs.YtkcchceoljlnaaaDoor
