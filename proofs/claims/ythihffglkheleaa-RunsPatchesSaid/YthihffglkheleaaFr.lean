/- The frame of a law's row: what came in is read, and reads as it did. -/
import Derived.Test.YthihffglkheleaaBb
import Derived.ProofKit
import Derived.OpenShut
import Derived.Carry
set_option linter.unusedVariables false
set_option linter.unusedSimpArgs false
namespace Go.Proofs.Ythihffglkheleaa
open Go.ChangeShapes Go.WideShapes Go.ChangeAt Go.RowKit

section
variable {H : Type} {henc : TypeId × Value → H} {P : Program}

theorem trodAll_stays (hl : laidOutB P = true) {W W' : World} {sp' : Nat → Bool} : ∀ {ts : List TypeId} {vs : List Value} {ds : List (DataW H)} {ps : List MemPlace}, (∀ t ∈ ts, P.readableRec t = true ∧ t < P.types.size) →
    DataW.TrodAll henc P W 0 (fun _ => true) true ts vs ds ps → (∀ p ∈ ps, W.sameAt W' p) → (∀ p ∈ ps, sp' p.block = true) → DataW.TrodAll henc P W' 0 sp' true ts vs ds ps
  | [], [], [], _, _, h, _, _ => h
  | t :: _, _ :: _, _ :: _, _, hT, ⟨p, q, h1, h2, e⟩, hs, hp =>
    ⟨p, q, WideElems.Trod_stays hl (hT t (List.mem_cons.2 (.inl rfl))).1 (hT t (List.mem_cons.2 (.inl rfl))).2 h1 (fun x hx => hs x (by rw [e]; exact List.mem_append_left _ hx)) (fun x hx => hp x (by rw [e]; exact List.mem_append_left _ hx)),
      trodAll_stays hl (fun t ht => hT t (List.mem_cons.2 (.inr ht))) h2 (fun x hx => hs x (by rw [e]; exact List.mem_append_right _ hx)) (fun x hx => hp x (by rw [e]; exact List.mem_append_right _ hx)), e⟩

/-- The law returned true, and nothing that was there has changed. -/
theorem post_law {f : Func} {s : ChangeSpec} {apart fresh handsOn again : Bool} {W W' : World} {args : Array Value} {ds gs : List (DataW H)} {before : List MemPlace} {tb : TypeId}
    (hW : DataW.Whole henc P f.params.toList s.vars apart W args.toList ds gs before) (hl : laidOutB P = true) (hr : ∀ t ∈ f.params.toList, P.readableRec t = true ∧ t < P.types.size) (hb : New W W')
    (hv : s.vars = []) (h1 : (s.fn H (ds ++ gs)).results = [.lit (.bool true)]) (h2 : (s.fn H (ds ++ gs)).args = ds) (h3 : (s.fn H (ds ++ gs)).vars = []) (hrt : f.resultTypes = #[tb]) (htb : P.underlying tb = some .bool) :
    s.post henc P f apart fresh handsOn again W args (.bool true) W' := by
  have hlt := hW.lt
  obtain ⟨p, q, hA, hV, hps, hz, hn⟩ := id hW
  rw [hv] at hV
  obtain ⟨rfl, rfl⟩ := trodVars_none hV
  rw [List.append_nil] at hps
  subst hps
  have hold : ∀ x ∈ before, (fun b => decide (b < W.heap.size)) x.block = true := fun x hx => by simpa using hlt x hx
  have hargs : ∀ sp : Nat → Bool, (∀ x ∈ before, sp x.block = true) → DataW.TrodAll henc P W' 0 sp true f.params.toList args.toList (s.fn H (ds ++ [])).args before := fun sp hsp => by
    rw [h2]
    exact trodAll_stays hl hr hA (fun x hx => Below.same hb (hlt x hx)) hsp
  have hvars : ∀ sp : Nat → Bool, DataW.TrodVars henc P W' sp s.vars (s.fn H (ds ++ [])).vars [] := fun sp => by rw [hv, h3]; rfl
  have hres : ∀ (b : Nat) (sp : Nat → Bool) (hd : Bool), DataW.TrodAll henc P W' b sp hd f.resultTypes.toList ((Value.bool true).resultList f.resultTypes.size) (s.fn H (ds ++ [])).results [] := fun b sp hd => by
    rw [h1, hrt]
    exact trodAll_cons_mk (shut_bool htb _) trodAll_mk0
  refine ⟨ds, [], before, [], before, [], hW, hres _ _ _, hargs _ hold, hvars _, Below.frame hb _, fun _ => ?_⟩
  refine ⟨?_, _, _, ([] ++ before) ++ [], ⟨[] ++ before, [], trodAll_append (hargs _ (fun _ _ => rfl)) (hres _ _ _), hvars _, rfl, ?_, ?_⟩, ?_⟩
  · intro j t r h5 h6
    rw [hrt] at h5 h6
    rcases j with _ | j
    · simp [Value.resultList] at h5 h6
      subst h5 h6
      exact okWide_bool_mk htb _
    · simp at h5
  · intro b off hp
    rw [Below.frozen hb (p := ⟨b, off, none⟩) (by have := hlt (.cell b off) (by simpa using hp); exact this)]
    exact hz b off (by simpa using hp)
  · intro ha
    simpa using hn ha
  · intro p hp _
    simpa using hp

theorem spot_none {W : World} {a : Addr} {v : Value} (h : W.cell? a = some v) : ∃ b off, a = ⟨b, off, none⟩ ∧ b < W.heap.size := by
  obtain ⟨b, off, s⟩ := a
  unfold World.cell? at h
  split at h
  · rename_i c t z hb
    split at h
    · cases h
    · rename_i hs
      cases s with
      | none => exact ⟨b, off, rfl, (Array.getElem?_eq_some_iff.1 hb).1⟩
      | some x => simp at hs
  · cases h

theorem rd_of_ints {α : Type} {enc : α → Value} {k : IntKind} (hk : ∀ n, (Lit.int k n).wf = true → ∃ x : α, enc x = .int k n) {W : World} {a : Addr} {len cap : Nat} {zs : List Int} (hl : len ≤ cap) (hm : cap ≤ 9223372036854775807) (hz : zs.length = cap)
    (hcell : ∀ i, i < zs.length → W.cell? (a.add i) = some (.int k (zs.getD i 0))) (hwf : ∀ n ∈ zs, (Lit.int k n).wf = true) : ∃ xs : List α, Rd enc 0 W.heap.size W (.slice (some a) len cap) xs := by
  have hx : ∀ i : Fin len, ∃ x : α, enc x = .int k (zs.getD i.1 0) := fun i => hk _ (hwf _ (by
    rw [List.getD, List.getElem?_eq_getElem (show i.1 < zs.length by omega)]
    exact List.getElem_mem _))
  let xs : List α := List.ofFn fun i => Classical.choose (hx i)
  have hxl : xs.length = len := List.length_ofFn
  refine ⟨xs, some a, cap, by rw [hxl], by rw [hxl]; exact hl, hm, ?_⟩
  rcases Nat.eq_zero_or_pos len with h0 | hpos
  · exact .inl (List.eq_nil_of_length_eq_zero (by omega))
  · have hc0 := hcell 0 (by omega)
    obtain ⟨b, off, rfl, hb⟩ := spot_none (show W.cell? a = some _ by simpa [Addr.add] using hc0)
    refine .inr ⟨b, off, rfl, Nat.zero_le _, hb, hb, fun i hi => ?_⟩
    have hi' : i < len := by omega
    have h1 : enc xs[i] = .int k (zs.getD i 0) := by
      have := Classical.choose_spec (hx ⟨i, hi'⟩)
      simpa [xs] using this
    rw [h1, ← hcell i (by omega)]
    congr 1
    unfold Addr.add
    split <;> simp_all
/-- A slice of integers that came in reads as a row. -/
theorem rd_of_trod {α : Type} {enc : α → Value} {k : IntKind} {t e : TypeId} (ht : P.underlying t = some (.slice e)) (he : P.underlying e = some (.int k)) (hc : P.cellsOf e = 1) (hk : ∀ n, (Lit.int k n).wf = true → ∃ x : α, enc x = .int k n)
    {W : World} {base : Nat} {v : Value} {d : DataW H} {p : List MemPlace} (hv : Value.okWide P W .any base t v) (h : DataW.Trod henc P W 0 (fun _ => true) true t v d p) : ∃ xs : List α, Rd enc 0 W.heap.size W v xs := by
  obtain ⟨a0, len, cap, rfl⟩ := okWide_slice ht hv
  obtain ⟨fuel, hf⟩ := h
  rcases open_ints ht he hc hf with ⟨hcs, _⟩ | ⟨a, len', cap', zs, hcs, _, hl, hm, hz, _, hcell, hwf⟩
  · simp [Value.cells] at hcs
    obtain ⟨rfl, rfl, rfl⟩ := hcs
    exact ⟨[], Rd.nil _ _ _ _⟩
  · simp [Value.cells] at hcs
    obtain ⟨rfl, rfl, rfl⟩ := hcs
    simp only [if_true] at hz
    exact rd_of_ints hk hl (by simpa [maxLen] using hm) hz hcell hwf
end
theorem wf_u8 (n : Int) (h : (Lit.int .u8 n).wf = true) : ∃ x : U8, e8 x = .int .u8 n := by
  simp only [Lit.wf, Bool.and_eq_true, decide_eq_true_eq] at h
  exact ⟨⟨n, h⟩, rfl⟩
theorem wf_u64 (n : Int) (h : (Lit.int .u64 n).wf = true) : ∃ x : U64, e64 x = .int .u64 n := by
  simp only [Lit.wf, Bool.and_eq_true, decide_eq_true_eq] at h
  exact ⟨⟨n, h⟩, rfl⟩
theorem wf_int (n : Int) (h : (Lit.int .i64 n).wf = true) : ∃ x : I64, ei x = .int .i64 n := by
  simp only [Lit.wf, Bool.and_eq_true, decide_eq_true_eq] at h
  exact ⟨⟨n, h⟩, rfl⟩
theorem own : ownKnob Try.prog.godebug = none := by kernel_rfl
theorem laidOut : laidOutB Try.prog = true := by kernel_rfl
end Go.Proofs.Ythihffglkheleaa
