/- What comes in, opened: tiles and canvases. -/
import Derived.Test.YthihffglkheleaaUa
import Derived.Test.YthihffglkheleaaBj
set_option linter.unusedVariables false
set_option linter.unusedSimpArgs false
namespace Go.Proofs.Ythihffglkheleaa
open Go.ChangeShapes Go.WideShapes Go.RowKit

section
variable {H : Type} {henc : TypeId × Value → H} {W : World}
theorem cells4 : Try.prog.cellsOf 27 = 4 := by kernel_rfl
theorem cells256 : Try.prog.cellsOf 29 = 256 := by kernel_rfl
theorem color_of_trod {n : Nat} {cs : List Value} {y : DataW H × List MemPlace} (h : DataW.trod henc Try.prog W 0 (fun _ => true) true n 27 cs = some y) : ∃ c : Col, cs = cc c := by
  obtain ⟨y0, y1, y2, y3, m, _, hl, e0, e1, e2, e3⟩ := Joins.trod_struct4 Try.underlying27 h
  have hu : Try.prog.cellsOf 5 = 1 := by kernel_rfl
  rw [cells4] at hl
  simp only [hu] at e0 e1 e2 e3
  match cs, hl with
  | [a, b, c, d], _ =>
    obtain ⟨x0, f0⟩ := trod_u8 Try.underlying5 e0
    obtain ⟨x1, f1⟩ := trod_u8 Try.underlying5 e1
    obtain ⟨x2, f2⟩ := trod_u8 Try.underlying5 e2
    obtain ⟨x3, f3⟩ := trod_u8 Try.underlying5 e3
    simp at f0 f1 f2 f3
    exact ⟨(x0, x1, x2, x3), by rw [f0, f1, f2, f3]; rfl⟩
theorem tile_of_trod {n : Nat} {cs : List Value} {y : DataW H × List MemPlace} (h : DataW.trod henc Try.prog W 0 (fun _ => true) true n 29 cs = some y) : ∃ t : { t : List Col // t.length = 64 }, cs = tcl t.1 := by
  obtain ⟨ys, m, _, _, hl, hyl, hel⟩ := DataW.trod_array Try.underlying29 h
  rw [cells256] at hl
  rw [cells4] at hel
  have hc : ∀ i : Fin 64, ∃ c : Col, (cs.drop (i.1 * 4)).take 4 = cc c := fun i => by
    have h1 := hel i.1 i.2
    rw [List.getElem?_eq_getElem (by omega)] at h1
    exact color_of_trod h1
  have htl : (List.ofFn fun i => Classical.choose (hc i)).length = 64 := List.length_ofFn
  refine ⟨⟨List.ofFn fun i => Classical.choose (hc i), htl⟩, ?_⟩
  apply List.ext_getElem?
  intro k
  by_cases hk : k < 256
  · obtain ⟨q, r, hr, rfl⟩ : ∃ q r, r < 4 ∧ k = q * 4 + r := ⟨k / 4, k % 4, by omega, by omega⟩
    have hq : q < 64 := by omega
    have h1 := Classical.choose_spec (hc ⟨q, hq⟩)
    have h2 := tcl_get (List.ofFn fun i => Classical.choose (hc i)) q (by omega) r hr
    rw [h2]
    have h3 : (List.ofFn fun i => Classical.choose (hc i))[q]'(by omega) = Classical.choose (hc ⟨q, hq⟩) := by rw [List.getElem_ofFn]
    rw [h3, ← h1, List.getElem?_take, if_pos hr, List.getElem?_drop]
  · rw [List.getElem?_eq_none (by omega), List.getElem?_eq_none (by rw [tcl_length, htl]; omega)]
theorem rdT_of_C {v : Value} {xs : List { t : List Col // t.length = 64 }} {lo hi : Nat} (h : RdC 256 (fun t => tcl t.1) lo hi W v xs) : RdT lo hi W v (xs.map Subtype.val) :=
  ⟨h.map (enc' := tcl) Subtype.val (fun _ => rfl), fun t ht => by obtain ⟨x, _, rfl⟩ := List.mem_map.1 ht; exact x.2⟩
/-- a slice of tiles that came in -/
theorem tiles_of_trod {base : Nat} {v : Value} {d : DataW H} {p : List MemPlace} (hv : Value.okWide Try.prog W .any base 22 v) (h : DataW.Trod henc Try.prog W 0 (fun _ => true) true 22 v d p) : ∃ ts : List (List Col), RdT 0 W.heap.size W v ts := by
  obtain ⟨xs, hx⟩ := rdc_of_trod (K := 256) (enc := fun t : { t : List Col // t.length = 64 } => tcl t.1) (by omega) Try.underlying22 cells256 (fun n cs y hy => tile_of_trod hy) hv h
  exact ⟨_, rdT_of_C hx⟩
/-- a tile that came in -/
theorem tile_of_arg {base : Nat} {v : Value} {d : DataW H} {p : List MemPlace} (hv : Value.okWide Try.prog W .any base 29 v) (h : DataW.Trod henc Try.prog W 0 (fun _ => true) true 29 v d p) : ∃ t : List Col, t.length = 64 ∧ v = .agg (tcA t) := by
  unfold Value.okWide at hv
  rw [Try.underlying29] at hv
  obtain ⟨cs, rfl, _, _⟩ := hv
  obtain ⟨fuel, hf⟩ := h
  obtain ⟨t, ht⟩ := tile_of_trod hf
  refine ⟨t.1, t.2, ?_⟩
  have : cs.toList = tcl t.1 := ht
  rw [tcA, ← this]
/-- a canvas that came in -/
theorem canvas_of_arg {base : Nat} {v : Value} {d : DataW H} {p : List MemPlace} (hv : Value.okWide Try.prog W .any base 43 v) (h : DataW.Trod henc Try.prog W 0 (fun _ => true) true 43 v d p) :
    ∃ (wd hg : I64) (A : Option Addr) (c : Nat) (ts : List (List Col)), v = vCv wd.1 hg.1 A ts.length c ∧ RdT 0 W.heap.size W (.slice A ts.length c) ts := by
  obtain ⟨cs, rfl, _⟩ := okWide_struct Try.underlying43 hv
  obtain ⟨fuel, hf⟩ := h
  have hf' : DataW.trod henc Try.prog W 0 (fun _ => true) true fuel 43 cs.toList = some (d, p) := hf
  obtain ⟨y0, y1, y2, m, _, hl, e0, e1, e2⟩ := Deep.trod_struct3 Try.underlying43 hf'
  have h3 : Try.prog.cellsOf 43 = 3 := by kernel_rfl
  have hi : Try.prog.cellsOf 3 = 1 := by kernel_rfl
  have hs : Try.prog.cellsOf 22 = 1 := by kernel_rfl
  rw [h3] at hl
  simp only [hi, hs] at e0 e1 e2
  obtain ⟨l⟩ := cs
  simp only at hl e0 e1 e2
  match l, hl with
  | [a, b, c], _ =>
    obtain ⟨x0, f0⟩ := trod_i64 Try.underlying3 e0
    obtain ⟨x1, f1⟩ := trod_i64 Try.underlying3 e1
    obtain ⟨u, f2, xs, hx⟩ := rdc_of_cells (K := 256) (enc := fun t : { t : List Col // t.length = 64 } => tcl t.1) (by omega) Try.underlying22 cells256 (fun n cs y hy => tile_of_trod hy) e2
    simp at f0 f1 f2
    have hT := rdT_of_C hx
    obtain ⟨A, c', e, _, _⟩ := hT.form
    subst e
    exact ⟨x0, x1, A, c', xs.map Subtype.val, by rw [f0, f1, f2], hT⟩
end
end Go.Proofs.Ythihffglkheleaa
