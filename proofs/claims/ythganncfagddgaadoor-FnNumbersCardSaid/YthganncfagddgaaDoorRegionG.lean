/- A region that draws its order and has guarded operations, by an invariant. Plain lemmas, no condition on the program. -/
import Derived.Test.YthganncfagddgaaDoorRegion
namespace Go.Proofs.YthganncfagddgaaDoor
set_option linter.unusedSimpArgs false
set_option linter.unusedVariables false
open Go.RowKit

section
variable {P : Program} {ops : Array Oper} {Q : Exit → Act → World → Prop} {md : Region.Mode}

theorem wanted_yes {b : Bool} {A B : Prop} (h : b = true) (hA : A) : if b = true then A else B := by rw [if_pos h]; exact hA
theorem wanted_no {b : Bool} {A B : Prop} (h : b = false) (hB : B) : if b = true then A else B := by rw [h]; exact hB
/-- as wp_region_fr, where operations may be guarded -/
theorem wp_region_fg {U : Type} {id : Nat} {l0 : List Oper} {a : Act} {w : World} (ps : List (List Nat)) (ds : U → List (Nat × Value)) (u0 : U) (F : Array Bool → U → World → Prop)
    (hm : P.follows .mixedOrders = true) (hps : l0.map (predsOf .any) = ps) (h0 : putAll a (ds u0) = a) (hF : F (Array.replicate l0.length false) u0 w.drew)
    (hstep : EachOpP (fun i o p => ∀ l u x, F l u x → l.getD i true = false → AllOn l p → ∀ K : Act → World → Prop, (∀ u' x', F (l.setIfInBounds i true) u' x' → K (putAll a (ds u')) x') → Shut (if Region.wanted o (yielded l0.toArray (putAll a (ds u)).tmps) = true then Oper.wp P o (putAll a (ds u)) x K Q else K ((putAll a (ds u)).put o.dst undef) x)) 0 l0 ps)
    (hend : ∀ l u x, F l u x → (∀ {j : Nat} {p : List Nat}, ps[j]? = some p → AllOn l p → l.getD j false = true) → Shut (Q .normal (putAll a (ds u)) x)) : (Code.region id l0.toArray true).wp P Q a w := by
  refine wp_region_any hm (wpAny_inv (fun l a' w => l.size = l0.length ∧ ∃ u, a' = putAll a (ds u) ∧ F l u w) ?_ ?_ _ _ _ _ ⟨by simp, u0, h0.symm, by simpa using hF⟩ (by simp))
  · rintro l a' x i ⟨hsz, u, rfl, hu⟩ hi
    obtain ⟨hun, o, ho, hpre⟩ := mem_ready.1 hi
    have ho' : l0[i]? = some o := by simpa using ho
    have hst := EachOp.at_ (EachOpP.each hps hstep) ho'
    rw [Nat.zero_add] at hst
    refine wpOp_step ho fun K' hK => ?_
    exact (hst l u x hu hun (allOn_of fun j hj => by
      unfold predsOf at hj
      obtain ⟨e, he, rfl⟩ := List.mem_map.1 hj
      obtain ⟨he, hb⟩ := List.mem_filter.1 he
      exact hpre e (by simpa using he) hb) K' fun u' x' h' => hK _ _ ⟨by simpa using hsz, u', rfl, h'⟩).open_
  · rintro l a' x ⟨hsz, u, rfl, hu⟩ hr
    refine (hend l u x hu fun {j p} hj hp => ?_).open_
    rw [← hps, List.getElem?_map] at hj
    cases ho : l0[j]? with
    | none => rw [ho] at hj; cases hj
    | some o =>
      rw [ho] at hj
      cases hj
      exact ready_nil_on hr hsz ho hp
theorem off_self {l : Array Bool} {i : Nat} (h : l.getD i true = false) : l.getD i false = false := by
  rw [Array.getD_eq_getD_getElem?] at h ⊢
  cases h2 : l[i]? with
  | none => rfl
  | some b => rw [h2] at h; simpa using h
theorem off_set {l : Array Bool} {i t : Nat} (h : (l.setIfInBounds i true).getD t false = false) : l.getD t false = false := by
  cases h2 : l.getD t false with
  | false => rfl
  | true => rw [on_keep h2] at h; cases h
theorem self_absurd {l : Array Bool} {i : Nat} {p : Prop} (hun : l.getD i true = false) (h : (l.setIfInBounds i true).getD i false = false) : p := by
  rw [Array.getD_eq_getD_getElem?] at hun h
  rw [Array.getElem?_setIfInBounds, if_pos rfl] at h
  cases h2 : l[i]? with
  | none => rw [h2] at hun; simp at hun
  | some b => rw [if_pos (Array.getElem?_eq_some_iff.1 h2).1] at h; cases h
theorem allOn_keep {l : Array Bool} {i : Nat} : ∀ {r : List Nat}, AllOn l r → AllOn (l.setIfInBounds i true) r
  | [], _ => trivial
  | _ :: _, h => ⟨on_keep h.1, allOn_keep h.2⟩
theorem last_off {l : Array Bool} {t i : Nat} {r : List Nat} (HL : Hid (l.getD t false = true → AllOn l r)) (hi : i ∈ r) (hun : l.getD i true = false) : l.getD t false = false := by
  cases h : l.getD t false with
  | false => rfl
  | true => exact off_of_on hun (of_allOn (HL.out h) i hi)
end

end Go.Proofs.YthganncfagddgaaDoor
