/- Parts, one behind the other: the plain laws behind OctetParts; slices of slices. -/
import Derived.Test.YtcbijmlkkdpheaaPf
import Derived.Deep.Slices
set_option linter.unusedVariables false
set_option linter.unusedSimpArgs false
namespace Go.Proofs.Ytcbijmlkkdpheaa
open Go.RowKit Go.ChangeShapes Go.WideShapes

/-- A slice of slices of bytes. -/
def RdS (lo hi : Nat) (w : World) (v : Value) (ps : List (List U8)) : Prop :=
  ∃ vs : List Value, vs.length = ps.length ∧ Rd (fun x => x) lo hi w v vs ∧ ∀ i (h : i < ps.length) (h' : i < vs.length), Rd e8 lo hi w vs[i] ps[i]
theorem RdS.new {lo hi : Nat} {w w' : World} {v : Value} {ps : List (List U8)} (h : RdS lo hi w v ps) (hn : New w w') : RdS lo hi w' v ps := by
  obtain ⟨vs, h1, h2, h3⟩ := h
  exact ⟨vs, h1, h2.new hn, fun i h h' => (h3 i h h').new hn⟩
theorem RdS.form {lo hi : Nat} {w : World} {v : Value} {ps : List (List U8)} (h : RdS lo hi w v ps) : ∃ A c, v = .slice A ps.length c ∧ ps.length ≤ c ∧ c ≤ 9223372036854775807 := by
  obtain ⟨vs, h1, h2, h3⟩ := h
  rw [← h1]
  exact h2.form
theorem RdS.cut {lo hi : Nat} {w : World} {A : Option Addr} {c : Nat} {ps : List (List U8)} (h : RdS lo hi w (.slice A ps.length c) ps) (K : Nat) : ∃ qs : List (List U8), qs = ps.take K ∧ qs.length = min ps.length K ∧ RdS lo hi w (.slice A qs.length c) qs := by
  obtain ⟨vs, h1, h2, h3⟩ := h
  rw [← h1] at h2
  obtain ⟨us, e, hl, hr⟩ := h2.cut K
  have hl2 : (ps.take K).length = min ps.length K := by rw [List.length_take, Nat.min_comm]
  refine ⟨ps.take K, rfl, hl2, us, by rw [hl, hl2, h1], by rw [hl2, ← h1, ← hl]; exact hr, fun i h h' => ?_⟩
  subst e
  rw [List.getElem_take, List.getElem_take]
  exact h3 i (by omega) (by omega)
/-- the k-th of them -/
theorem RdS.at_ {lo hi : Nat} {w : World} {A : Option Addr} {c : Nat} {ps : List (List U8)} (h : RdS lo hi w (.slice A ps.length c) ps) (k : Nat) (hk : k < ps.length) :
    ∃ b off B d, A = some ⟨b, off, none⟩ ∧ w.cell? ⟨b, off + k, none⟩ = some (.slice B ps[k].length d) ∧ Rd e8 lo hi w (.slice B ps[k].length d) ps[k] ∧ ps[k].length ≤ d ∧ d ≤ 9223372036854775807 := by
  obtain ⟨vs, h1, h2, h3⟩ := h
  obtain ⟨b, off, c', e, _, _, _, _, _, hc⟩ := h2.at_ k (by omega)
  injection e with e1 e2 e3
  have h4 := h3 k hk (by omega)
  obtain ⟨B, d, hv, h5, h6⟩ := h4.form
  have hck := hc k (by omega)
  rw [hv] at h4 hck
  exact ⟨b, off, B, d, e1, hck, h4, h5, h6⟩

theorem addr_plain (b off i : Nat) : (⟨b, off, none⟩ : Addr).add i = ⟨b, off + i, none⟩ := by
  unfold Addr.add
  split
  · rename_i h; subst h; rfl
  · rfl
section
variable {H : Type} {henc : TypeId × Value → H} {P : Program}
theorem rds_of_trod {t s e : TypeId} (ht : P.underlying t = some (.slice s)) (hs : P.underlying s = some (.slice e)) (he : P.underlying e = some (.int .u8)) (hc1 : P.cellsOf s = 1) (hc : P.cellsOf e = 1)
    {W : World} {base : Nat} {v : Value} {d : DataW H} {p : List MemPlace} (hv : Value.okWide P W .any base t v) (h : DataW.Trod henc P W 0 (fun _ => true) true t v d p) : ∃ ps : List (List U8), RdS 0 W.heap.size W v ps := by
  obtain ⟨a0, len, cap, rfl⟩ := okWide_slice ht hv
  obtain ⟨fuel, hf⟩ := h
  rcases Deep.open_slice ht hf with ⟨hcs, _⟩ | ⟨a, len', cap', m, n, D, Pl, hcs, _, hl, hm, hmm, _, hcell⟩
  · simp [Value.cells] at hcs
    obtain ⟨rfl, rfl, rfl⟩ := hcs
    exact ⟨[], [], rfl, Rd.nil _ _ _ _, fun i h => by simp at h⟩
  · simp [Value.cells] at hcs
    obtain ⟨rfl, rfl, rfl⟩ := hcs
    simp only [if_true] at hmm
    subst hmm
    have hx : ∀ i : Fin len, ∃ x : Value × List U8, W.cell? (a.add i.1) = some x.1 ∧ Rd e8 0 W.heap.size W x.1 x.2 := fun i => by
      obtain ⟨cs', h1, h2⟩ := hcell i.1 (by omega)
      rw [hc1, Nat.mul_one] at h1
      have hce : ∃ u, cs' = [u] ∧ W.cell? (a.add i.1) = some u := by
        have e0 : (a.add i.1).add 0 = a.add i.1 := by simp [Addr.add]
        simp [World.cells?, List.range_succ, e0] at h1
        cases hcc : W.cell? (a.add i.1) with
        | none => simp [hcc] at h1
        | some u =>
          simp [hcc] at h1
          exact ⟨u, h1.symm, rfl⟩
      obtain ⟨u, rfl, hu⟩ := hce
      have hrd : ∃ xs : List U8, Rd e8 0 W.heap.size W u xs := by
        rcases open_ints hs he hc h2 with ⟨hcs, _⟩ | ⟨a2, len2, cap2, zs, hcs, _, hl2, hm2, hz, _, hcell2, hwf⟩
        · obtain rfl : u = _ := (List.cons.inj hcs).1
          exact ⟨[], Rd.nil _ _ _ _⟩
        · obtain rfl : u = _ := (List.cons.inj hcs).1
          simp only [if_true] at hz
          exact rd_of_ints wf_u8 hl2 (by simpa [maxLen] using hm2) hz hcell2 hwf
      obtain ⟨xs, hxs⟩ := hrd
      exact ⟨(u, xs), hu, hxs⟩
    let vs : List Value := List.ofFn fun i => (Classical.choose (hx i)).1
    let ps : List (List U8) := List.ofFn fun i => (Classical.choose (hx i)).2
    have hvl : vs.length = len := List.length_ofFn
    have hpl : ps.length = len := List.length_ofFn
    refine ⟨ps, vs, by omega, ?_, fun i h h' => ?_⟩
    · refine ⟨some a, _, by rw [hvl], by rw [hvl]; exact hl, by simpa [maxLen] using hm, ?_⟩
      rcases Nat.eq_zero_or_pos len with h0 | hpos
      · exact .inl (List.eq_nil_of_length_eq_zero (by omega))
      · have hc0 := (Classical.choose_spec (hx ⟨0, hpos⟩)).1
        obtain ⟨b, off, rfl, hb⟩ := spot_none (show W.cell? a = some _ by simpa [Addr.add] using hc0)
        refine .inr ⟨b, off, rfl, Nat.zero_le _, hb, hb, fun i hi => ?_⟩
        have h1 := (Classical.choose_spec (hx ⟨i, by omega⟩)).1
        have h2 : vs[i] = (Classical.choose (hx ⟨i, by omega⟩)).1 := by simp [vs]
        rw [h2, ← h1, addr_plain]
    · have h2 : vs[i] = (Classical.choose (hx ⟨i, by omega⟩)).1 := by simp [vs]
      have h3 : ps[i] = (Classical.choose (hx ⟨i, by omega⟩)).2 := by simp [ps]
      rw [h2, h3]
      exact (Classical.choose_spec (hx ⟨i, by omega⟩)).2
end

/-- the parts, one behind the other -/
def catP : List (List U8) → List U8
  | [] => []
  | p :: ps => beI 2 p.length ++ p ++ catP ps
theorem catP_snoc : ∀ (ps : List (List U8)) (p : List U8), catP (ps ++ [p]) = catP ps ++ beI 2 p.length ++ p
  | [], p => by simp [catP]
  | q :: ps, p => by simp [catP, catP_snoc ps p]
theorem numI_two (n : Nat) (h : n ≤ 65535) : numI (beI 2 (n : Int)) = n := numI_be 2 n (by omega) (by omega) (by
  have : (256 : Int) ^ 2 = 65536 := by decide
  omega)
theorem take_two (n : Int) (r : List U8) : (beI 2 n ++ r).take 2 = beI 2 n := by
  rw [List.take_append_of_le_length (by rw [beI_length]; omega), List.take_of_length_le (by rw [beI_length]; omega)]
theorem partR_part (p r : List U8) (h : p.length ≤ 65535) : partR (beI 2 p.length ++ p ++ r) = .ok (p, r) := by
  have hn := numI_two p.length h
  rw [List.append_assoc, partR, take_two, hn]
  have hl : (beI 2 (p.length : Int)).length = 2 := beI_length _ _
  rw [if_pos (by simp [hl]), if_pos (by simp [hl]; omega)]
  have e : (2 + (p.length : Int)).toNat = 2 + p.length := by omega
  rw [e]
  congr 2
  · rw [← List.append_assoc, List.take_append_of_le_length (by simp [hl]), List.take_of_length_le (by simp [hl]), List.drop_append_of_le_length (by omega), List.drop_of_length_le (by omega), List.nil_append]
  · rw [← List.append_assoc, List.drop_append_of_le_length (by simp [hl]), List.drop_of_length_le (by simp [hl]), List.nil_append]
theorem partR_cut (p r : List U8) (j : Nat) (h : p.length ≤ 65535) (hj : j < 2 + p.length) : partR ((beI 2 p.length ++ p ++ r).take j) = .no 110 := by
  have hn := numI_two p.length h
  have hl : (beI 2 (p.length : Int)).length = 2 := beI_length _ _
  rw [List.append_assoc, partR]
  by_cases h2 : 2 ≤ j
  · rw [if_pos (by simp [hl]; omega), List.take_take, Nat.min_eq_left h2, take_two, hn, if_neg (by simp [hl]; omega)]
  · rw [if_neg (by simp [hl]; omega)]
theorem part_split (p r : List U8) (j : Nat) (hj : 2 + p.length ≤ j) : (beI 2 p.length ++ p ++ r).take j = beI 2 p.length ++ p ++ r.take (j - (2 + p.length)) := by
  have hl : (beI 2 (p.length : Int)).length = 2 := beI_length _ _
  rw [List.take_append]
  congr 1
  · rw [List.take_of_length_le (by simp [hl]; omega)]
  · simp [hl]
theorem catP_at (ps : List (List U8)) (k : Nat) (h : k < ps.length) : catP (ps.drop k) = beI 2 ps[k].length ++ ps[k] ++ catP (ps.drop (k + 1)) := by
  rw [List.drop_eq_getElem_cons h, catP]
theorem catP_length : ∀ (ps : List (List U8)) (m : Nat), (∀ p ∈ ps, p.length ≤ m) → (catP ps).length ≤ ps.length * (m + 2)
  | [], _, _ => by simp [catP]
  | p :: ps, m, h => by
    have ih := catP_length ps m (fun q hq => h q (List.mem_cons_of_mem _ hq))
    have h1 := h p (List.mem_cons_self ..)
    have hl : (beI 2 (p.length : Int)).length = 2 := beI_length _ _
    have : (ps.length + 1) * (m + 2) = ps.length * (m + 2) + (m + 2) := Nat.succ_mul _ _
    simp only [catP, List.length_append, hl, List.length_cons]
    omega
end Go.Proofs.Ytcbijmlkkdpheaa
