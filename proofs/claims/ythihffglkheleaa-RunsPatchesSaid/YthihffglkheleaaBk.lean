/- A law of regions that draw their order (for every seat): operations that may come in many orders, by an invariant over what has come up. -/
import Derived.Test.YthihffglkheleaaBh
set_option linter.unusedVariables false
set_option linter.unusedSimpArgs false
namespace Go.Proofs.Ythihffglkheleaa
open Go.RowKit

section
variable {P : Program} {ops : Array Oper} {Q : Exit → Act → World → Prop} {md : Region.Mode} {S : World → Prop} {late : List Nat}
/-- all that may have come up one operation later -/
def stepAll (md : Region.Mode) (ops : Array Oper) (L : List (Array Bool)) : List (Array Bool) :=
  (L.flatMap fun x => (Region.ready md ops x).map fun i => x.setIfInBounds i true).eraseDups
/-- n operations, all of F, come up next, in whatever order; then 'target' is what has come up. -/
def invOK (md : Region.Mode) (ops : Array Oper) (F : List Nat) (target : Array Bool) : Nat → List (Array Bool) → Bool
  | 0, L => L.all fun x => x == target
  | n + 1, L => (L.all fun x => !(Region.ready md ops x).isEmpty && (Region.ready md ops x).all fun i => F.contains i) && invOK md ops F target n (stepAll md ops L)
theorem mem_stepAll {L : List (Array Bool)} {x : Array Bool} {i : Nat} (hx : x ∈ L) (hi : i ∈ Region.ready md ops x) : x.setIfInBounds i true ∈ stepAll md ops L := by
  unfold stepAll
  rw [List.mem_eraseDups]
  exact List.mem_flatMap.2 ⟨x, hx, List.mem_map.2 ⟨i, hi, rfl⟩⟩
theorem wpAnyL_inv {l : List Oper} (hops : ops = l.toArray) (F : List Nat) (target : Array Bool) (J : Array Bool → Act → World → Prop)
    (hstep : ∀ i ∈ F, ∀ listed a w, i ∈ Region.ready md ops listed → S w → J listed a w → ∀ K : Act → World → Prop, Hid (∀ a' w', S w' → J (listed.setIfInBounds i true) a' w' → K a' w') →
      ∀ o, l[i]? = some o → Region.wanted o (yielded ops a.tmps) = true ∧ o.wp P a w K Q) :
    ∀ (n fuel : Nat) (L : List (Array Bool)) (listed : Array Bool) (a : Act) (w : World), invOK md ops F target n L = true → listed ∈ L → S w → J listed a w →
      (∀ a w, S w → J target a w → wpAnyL P md ops Q S late fuel target a w) → wpAnyL P md ops Q S late (fuel + n) listed a w
  | 0, fuel, L, listed, a, w, hc, hL, hS, hJ, hend => by
    have : listed = target := by
      have h := List.all_eq_true.1 (show (L.all fun x => x == target) = true from hc) listed hL
      simpa using h
    subst this
    exact hend a w hS hJ
  | n + 1, fuel, L, listed, a, w, hc, hL, hS, hJ, hend => by
    simp only [invOK, Bool.and_eq_true] at hc
    obtain ⟨h1, hc'⟩ := hc
    have h2 := List.all_eq_true.1 h1 listed hL
    simp only [Bool.and_eq_true, Bool.not_eq_true', List.all_eq_true] at h2
    obtain ⟨hne, hall⟩ := h2
    refine ⟨fun h0 => by rw [h0] at hne; simp at hne, fun i hi => ?_⟩
    have hiF : i ∈ F := by simpa using hall i hi
    obtain ⟨_, o, ho, _⟩ := mem_ready.1 hi
    have ho' : l[i]? = some o := by rw [hops] at ho; simpa using ho
    have h := hstep i hiF listed a w hi hS hJ (fun a' w' => (isLate late (listed.setIfInBounds i true) = true ∨ S w') ∧ wpAnyL P md ops Q S late (fuel + n) (listed.setIfInBounds i true) a' w')
      (Lib.hid fun a' w' hS' hJ' => ⟨.inr hS', wpAnyL_inv hops F target J hstep n fuel _ _ a' w' hc' (mem_stepAll hL hi) hS' hJ' hend⟩) o ho'
    unfold wpOp
    simp only [ho, h.1, if_true]
    exact .inl h.2
/-- what has come up ahead of number i -/
theorem ready_dep {i j : Nat} {listed : Array Bool} (h : i ∈ Region.ready md ops listed) (hw : waitsFor md ops [i] j = true) : listed.getD j false = true :=
  waitsFor_spec hw (List.mem_singleton.2 rfl) h
theorem ready_not {i : Nat} {listed : Array Bool} (h : i ∈ Region.ready md ops listed) : i < listed.size ∧ listed.getD i false = false := by
  have h0 := (mem_ready.1 h).1
  rcases Nat.lt_or_ge i listed.size with h' | h'
  · exact ⟨h', by simpa [h'] using h0⟩
  · simp [Array.getElem?_eq_none h'] at h0
theorem set_self {listed : Array Bool} {i : Nat} (h : i < listed.size) : (listed.setIfInBounds i true).getD i false = true := by simp [h]
theorem set_other {listed : Array Bool} {i k : Nat} (h : i ≠ k) : (listed.setIfInBounds i true).getD k false = listed.getD k false := getD_set_ne false h
theorem wpAnyL_name {fuel : Nat} {listed : Array Bool} {a : Act} {w : World} (h : ∀ a0, a0 = a → wpAnyL P md ops Q S late fuel listed a0 w) : wpAnyL P md ops Q S late fuel listed a w := h a rfl
end
end Go.Proofs.Ythihffglkheleaa
