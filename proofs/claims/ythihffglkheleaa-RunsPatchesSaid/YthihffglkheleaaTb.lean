/- Words for tiles: colours and arrays of them, whole in a block. -/
import Derived.Test.YthihffglkheleaaTa
import Derived.Test.YthihffglkheleaaBe
import Derived.Test.YthihffglkheleaaBc
import Derived.Test.YthihffglkheleaaBd
import Derived.Deep.WholeRow
set_option linter.unusedVariables false
set_option linter.unusedSimpArgs false
namespace Go.Proofs.Ythihffglkheleaa
open Go.RowKit

@[reducible] def vC (c : Col) : Value := .agg #[e8 c.1, e8 c.2.1, e8 c.2.2.1, e8 c.2.2.2]
def cc (c : Col) : List Value := [e8 c.1, e8 c.2.1, e8 c.2.2.1, e8 c.2.2.2]
def tcl (t : List Col) : List Value := t.flatMap cc
def tcA (t : List Col) : Array Value := (tcl t).toArray
theorem tcl_length (t : List Col) : (tcl t).length = 4 * t.length := by
  induction t with
  | nil => rfl
  | cons c t ih => simp only [tcl, List.flatMap_cons, List.length_append, List.length_cons] at ih ⊢; rw [ih]; simp [cc]; omega
theorem tcA_size (t : List Col) : (tcA t).size = 4 * t.length := by rw [← tcl_length]; simp [tcA]
theorem tcl_get (t : List Col) : ∀ (i : Nat) (hi : i < t.length) (j : Nat), j < 4 → (tcl t)[i * 4 + j]? = (cc t[i])[j]? := by
  induction t with
  | nil => intro i hi; simp at hi
  | cons c t ih =>
    intro i hi j hj
    have hl : (cc c).length = 4 := rfl
    cases i with
    | zero =>
      simp only [tcl, List.flatMap_cons, List.getElem_cons_zero, Nat.zero_mul, Nat.zero_add]
      rw [List.getElem?_append_left (by omega)]
    | succ i =>
      simp only [tcl, List.flatMap_cons, List.getElem_cons_succ]
      rw [List.getElem?_append_right (by omega), hl, show (i + 1) * 4 + j - 4 = i * 4 + j by omega]
      exact ih i (by simpa using hi) j hj
/-- An array (or a struct), whole in a block. -/
def BoxA (w : World) (b : Nat) (ty : TypeId) (cs : Array Value) : Prop := w.heap[b]? = some (.cells cs ty (0, 0))
section
variable {w w' : World} {b : Nat} {ty : TypeId} {cs : Array Value}
theorem BoxA.new (w : World) (ty : TypeId) (cs : Array Value) : BoxA (w.alloc (.cells cs ty)) w.heap.size ty cs := heap_alloc_new w _
theorem BoxA.lt (h : BoxA w b ty cs) : b < w.heap.size := (Array.getElem?_eq_some_iff.1 h).1
theorem BoxA.chg {M : Nat → Prop} (h : BoxA w b ty cs) (hc : Chg M w w') (hm : ¬ M b) : BoxA w' b ty cs := (hc.block b h.lt hm).trans h
theorem BoxA.later (h : BoxA w b ty cs) (hc : New w w') : BoxA w' b ty cs := (hc.block b h.lt).trans h
theorem BoxA.cell (h : BoxA w b ty cs) (i : Nat) : w.cell? ⟨b, i, none⟩ = cs[i]? := by simp [World.cell?, show w.heap[b]? = _ from h]
theorem BoxA.free (h : BoxA w b ty cs) (i : Nat) : w.frozen? ⟨b, i, none⟩ = false := by simp [World.frozen?, show w.heap[b]? = _ from h]
theorem BoxA.set (h : BoxA w b ty cs) (i : Nat) (v : Value) : BoxA (w.setCell ⟨b, i, none⟩ v) b ty (cs.setIfInBounds i v) := by
  have hl := h.lt
  unfold BoxA at h ⊢
  rw [Array.getElem?_eq_getElem hl] at h
  injection h with h
  simp only [World.setCell, Array.getElem?_modify, if_true]
  rw [Array.getElem?_eq_getElem hl]
  simp [h]
theorem BoxA.col {t : List Col} (h : BoxA w b ty (tcA t)) (i : Nat) (hi : i < t.length) :
    w.cell? ⟨b, i * 4, none⟩ = some (e8 t[i].1) ∧ w.cell? ⟨b, i * 4 + 1, none⟩ = some (e8 t[i].2.1) ∧ w.cell? ⟨b, i * 4 + 2, none⟩ = some (e8 t[i].2.2.1) ∧ w.cell? ⟨b, i * 4 + 3, none⟩ = some (e8 t[i].2.2.2) := by
  have hg : ∀ j, j < 4 → w.cell? ⟨b, i * 4 + j, none⟩ = (cc t[i])[j]? := fun j hj => by
    rw [h.cell, ← tcl_get t i hi j hj]
    simp [tcA]
  exact ⟨hg 0 (by omega), hg 1 (by omega), hg 2 (by omega), hg 3 (by omega)⟩
end

theorem run_eqC (c d : Col) (w : World) : (binOp .eql 27 (vC c) (vC d)).run Try.prog w = .ok (.bool (decide (c = d))) w := by
  obtain ⟨⟨r, _⟩, ⟨g, _⟩, ⟨b, _⟩, ⟨a, _⟩⟩ := c
  obtain ⟨⟨r', _⟩, ⟨g', _⟩, ⟨b', _⟩, ⟨a', _⟩⟩ := d
  by_cases h1 : r = r' <;> by_cases h2 : g = g' <;> by_cases h3 : b = b' <;> by_cases h4 : a = a' <;> simp [go_sem, h1, h2, h3, h4]
theorem run_neC (c d : Col) (w : World) : (binOp .neq 27 (vC c) (vC d)).run Try.prog w = .ok (.bool (decide (c ≠ d))) w := by
  obtain ⟨⟨r, _⟩, ⟨g, _⟩, ⟨b, _⟩, ⟨a, _⟩⟩ := c
  obtain ⟨⟨r', _⟩, ⟨g', _⟩, ⟨b', _⟩, ⟨a', _⟩⟩ := d
  by_cases h1 : r = r' <;> by_cases h2 : g = g' <;> by_cases h3 : b = b' <;> by_cases h4 : a = a' <;> simp [go_sem, h1, h2, h3, h4]
theorem run_eqC_ne {c d : Col} (h : ¬ c = d) (w : World) : (binOp .eql 27 (vC c) (vC d)).run Try.prog w = .ok (.bool false) w := by rw [run_eqC, decide_eq_false h]
theorem run_neC_ne {c d : Col} (h : ¬ c = d) (w : World) : (binOp .neq 27 (vC c) (vC d)).run Try.prog w = .ok (.bool true) w := by rw [run_neC, decide_eq_true h]
theorem info_u8 : (Try.prog.info? 5).map (fun i => (i.zero, i.size, i.bytes)) = some (some (e8 ⟨0, by omega⟩), 1, 1) := by kernel_rfl
theorem size_u8 : (Try.prog.info? 5).map (·.size) = some 1 := by kernel_rfl
theorem size_tile : (Try.prog.info? 29).map (·.size) = some 256 := by kernel_rfl
theorem size_tc {t : List Col} (h : t.length = 64) : (Try.prog.info? 29).map (·.size) = some (tcA t).size := by rw [tcA_size, h]; exact size_tile
theorem New.trans' {M : Nat → Prop} {a b c : World} (h : New a b) (k : Chg M b c) (hm : ∀ k, k < a.heap.size → ¬ M k) : New a c :=
  Below.trans h (k.below h.size hm)
/-- A call that returns a new row. -/
def OutS (bs : List U8) (w : World) (e : Ending) (w' : World) : Prop := ∃ A c, e = .returned (.slice A bs.length c) ∧ New w w' ∧ Own e8 5 w.heap.size w' (.slice A bs.length c) bs
theorem hmf : ∀ (fn : Fn) (first cap : Array Value) (w : World), (Instr.makeFunc fn first cap).run Try.prog w = .ok (.func fn first cap) w := fun _ _ _ _ => rfl
/-- each: the maker of what is ranged over -/
theorem rn_each (cs : Array Value) (w : World) :
    Calls Try.prog 31 #[.agg cs] w fun e w' => e = .returned (.func (.func 55) #[] #[.pointer (some ⟨w.heap.size, 0, none⟩)]) ∧ w' = w.alloc (.cells cs 29) := by
  have hmf := hmf
  go_enter Try.func31, Try.ntmps31
  go_wp2_with fail
  go_ret
  exact ⟨rfl, rfl⟩
end Go.Proofs.Ythihffglkheleaa
