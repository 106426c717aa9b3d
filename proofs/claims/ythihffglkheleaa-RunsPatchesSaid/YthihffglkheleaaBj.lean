/- What comes in, opened: slices inside structs (for every seat). -/
import Derived.Test.YthihffglkheleaaBi
import Derived.Lib.SmallJoins
set_option linter.unusedVariables false
set_option linter.unusedSimpArgs false
namespace Go.Proofs.Ythihffglkheleaa
open Go.ChangeShapes Go.WideShapes Go.RowKit

section
variable {H : Type} {henc : TypeId × Value → H} {P : Program}
/-- A slice that is a struct's field. -/
theorem rdc_of_cells {α : Type} {K : Nat} (hK : 0 < K) {enc : α → List Value} {t e : TypeId} (ht : P.underlying t = some (.slice e)) (hc : P.cellsOf e = K)
    {W : World} (hel : ∀ (n : Nat) (cs : List Value) (y : DataW H × List MemPlace), DataW.trod henc P W 0 (fun _ => true) true n e cs = some y → ∃ x : α, cs = enc x)
    {fuel : Nat} {cs : List Value} {y : DataW H × List MemPlace} (hf : DataW.trod henc P W 0 (fun _ => true) true fuel t cs = some y) : ∃ c, cs = [c] ∧ ∃ xs : List α, RdC K enc 0 W.heap.size W c xs := by
  rcases Deep.open_slice ht hf with ⟨hcs, _⟩ | ⟨a, len, cap, m, n, D, Pl, hcs, _, hl, hm, hmm, _, hcell⟩
  · exact ⟨_, hcs, [], none, 0, rfl, by simp, by simp, .inl rfl⟩
  · refine ⟨_, hcs, ?_⟩
    simp only [if_true] at hmm
    subst hmm
    have hx : ∀ i : Fin len, ∃ x : α, ∀ j, j < K → W.cell? ((a.add (i.1 * K)).add j) = (enc x)[j]? := fun i => by
      obtain ⟨cs', h1, h2⟩ := hcell i.1 (by omega)
      rw [hc] at h1
      obtain ⟨x, rfl⟩ := hel _ _ _ h2
      exact ⟨x, (cells_get K h1).2⟩
    have hfirst : 0 < len → ∃ u, W.cell? a = some u := fun h0 => by
      obtain ⟨cs', h1, h2⟩ := hcell 0 (by omega)
      rw [hc] at h1
      obtain ⟨hl1, hl2⟩ := cells_get K h1
      have := hl2 0 hK
      rw [List.getElem?_eq_getElem (by omega)] at this
      exact ⟨_, by simpa [Addr.add] using this⟩
    let xs : List α := List.ofFn fun i => Classical.choose (hx i)
    have hxl : xs.length = len := List.length_ofFn
    refine ⟨xs, some a, _, by rw [hxl], by rw [hxl]; exact hl, by simpa [maxLen] using hm, ?_⟩
    rcases Nat.eq_zero_or_pos len with h0 | hpos
    · exact .inl (List.eq_nil_of_length_eq_zero (by omega))
    · obtain ⟨u, hu⟩ := hfirst hpos
      obtain ⟨b, off, rfl, hb⟩ := spot_none hu
      refine .inr ⟨b, off, rfl, Nat.zero_le _, hb, hb, fun i hi j hj => ?_⟩
      have h1 := Classical.choose_spec (hx ⟨i, by omega⟩) j hj
      have h2 : xs[i] = Classical.choose (hx ⟨i, by omega⟩) := by simp [xs]
      rw [h2, ← h1, addr_plain, addr_plain]
theorem Rd.of_C {α : Type} {enc : α → Value} {lo hi : Nat} {w : World} {v : Value} {xs : List α} (h : RdC 1 (fun x => [enc x]) lo hi w v xs) : Rd enc lo hi w v xs := by
  obtain ⟨A, c, e, h1, h2, h3⟩ := h
  refine ⟨A, c, e, h1, h2, ?_⟩
  rcases h3 with h3 | ⟨b, off, hA, hl, hh, hs, hc⟩
  · exact .inl h3
  · exact .inr ⟨b, off, hA, hl, hh, hs, fun i hi => by have := hc i hi 0 (by omega); simpa using this⟩
/-- RdC under another reading of the elements -/
theorem RdC.map {α β : Type} {K : Nat} {enc : α → List Value} {enc' : β → List Value} (f : α → β) (hf : ∀ x, enc' (f x) = enc x) {lo hi : Nat} {w : World} {v : Value} {xs : List α} (h : RdC K enc lo hi w v xs) : RdC K enc' lo hi w v (xs.map f) := by
  obtain ⟨A, c, e, h1, h2, h3⟩ := h
  refine ⟨A, c, by rw [List.length_map]; exact e, by rw [List.length_map]; exact h1, h2, ?_⟩
  rcases h3 with h3 | ⟨b, off, hA, hl, hh, hs, hc⟩
  · exact .inl (by rw [h3]; rfl)
  · exact .inr ⟨b, off, hA, hl, hh, hs, fun i hi j hj => by rw [List.getElem_map, hf]; exact hc i (by simpa using hi) j hj⟩
theorem trod_u8 {W : World} {t : TypeId} (ht : P.underlying t = some (.int .u8)) {n : Nat} {cs : List Value} {y : DataW H × List MemPlace} (h : DataW.trod henc P W 0 (fun _ => true) true n t cs = some y) : ∃ x : U8, cs = [e8 x] := by
  obtain ⟨n0, h0, _, w0⟩ := DataW.trod_int ht h
  obtain ⟨x, f⟩ := wf_u8 n0 w0
  exact ⟨x, by rw [h0, f]⟩
theorem trod_i64 {W : World} {t : TypeId} (ht : P.underlying t = some (.int .i64)) {n : Nat} {cs : List Value} {y : DataW H × List MemPlace} (h : DataW.trod henc P W 0 (fun _ => true) true n t cs = some y) : ∃ x : I64, cs = [ei x] := by
  obtain ⟨n0, h0, _, w0⟩ := DataW.trod_int ht h
  obtain ⟨x, f⟩ := wf_int n0 w0
  exact ⟨x, by rw [h0, f]⟩
theorem trod_u64 {W : World} {t : TypeId} (ht : P.underlying t = some (.int .u64)) {n : Nat} {cs : List Value} {y : DataW H × List MemPlace} (h : DataW.trod henc P W 0 (fun _ => true) true n t cs = some y) : ∃ x : U64, cs = [e64 x] := by
  obtain ⟨n0, h0, _, w0⟩ := DataW.trod_int ht h
  obtain ⟨x, f⟩ := wf_u64 n0 w0
  exact ⟨x, by rw [h0, f]⟩
end
end Go.Proofs.Ythihffglkheleaa
