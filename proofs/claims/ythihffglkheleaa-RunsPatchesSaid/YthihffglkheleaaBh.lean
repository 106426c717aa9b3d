/- A law of regions that draw their order (for every seat): what holds of the world is asked only till a late operation has come up; what is forced then is walked as a list, and may panic. -/
import Derived.Test.YthihffglkheleaaBg
import Derived.OrdersHeld
import Derived.Deep.RegionHeld
set_option linter.unusedVariables false
set_option linter.unusedSimpArgs false
namespace Go.Proofs.Ythihffglkheleaa
open Go.RowKit

/-- One of the late operations has come up. -/
def isLate (late : List Nat) (listed : Array Bool) : Bool := late.any fun j => listed.getD j false
section
variable {P : Program} {ops : Array Oper} {Q : Exit → Act → World → Prop} {md : Region.Mode} {S : World → Prop} {late : List Nat}
/-- Whatever order is picked from here on; S holds behind each operation, till a late one has come up. -/
def wpAnyL (P : Program) (md : Region.Mode) (ops : Array Oper) (Q : Exit → Act → World → Prop) (S : World → Prop) (late : List Nat) : Nat → Array Bool → Act → World → Prop
  | 0, listed, a, w => Region.ready md ops listed = [] ∧ Q .normal a w
  | fuel + 1, listed, a, w =>
    (Region.ready md ops listed = [] → Q .normal a w) ∧
    ∀ i ∈ Region.ready md ops listed, wpOp P ops Q i (fun a' w' => (isLate late (listed.setIfInBounds i true) = true ∨ S w') ∧ wpAnyL P md ops Q S late fuel (listed.setIfInBounds i true) a' w') a w
theorem wpAny_of_L : ∀ (fuel : Nat) (listed : Array Bool) (a : Act) (w : World), wpAnyL P md ops Q S late fuel listed a w → wpAny P md ops Q fuel listed a w
  | 0, _, _, _, h => h
  | fuel + 1, _, _, _, h => ⟨h.1, fun i hi => wpOp_mono (fun a' w' h' => wpAny_of_L fuel _ a' w' h'.2) (h.2 i hi)⟩
/-- each late operation waits for number i -/
def waitsFor (md : Region.Mode) (ops : Array Oper) (late : List Nat) (i : Nat) : Bool :=
  late.all fun j => j != i && ((ops[j]?).map fun o => o.after.any fun e => Region.binds md e && e.on == i).getD false
theorem waitsFor_spec {i j : Nat} {listed : Array Bool} (h : waitsFor md ops late i = true) (hj : j ∈ late) (hr : j ∈ Region.ready md ops listed) : listed.getD i false = true := by
  have h1 := List.all_eq_true.1 h j hj
  obtain ⟨_, oj, hoj, hall⟩ := mem_ready.1 hr
  simp only [hoj, Option.map_some, Option.getD_some, Bool.and_eq_true, Array.any_eq_true'] at h1
  obtain ⟨_, e, he, hb, hon⟩ := h1
  have := hall e he hb
  rw [← (beq_iff_eq.1 hon)]
  exact this
theorem isLate_set {i : Nat} {listed : Array Bool} (h : isLate late (listed.setIfInBounds i true) = true) (h0 : isLate late listed = false) : i ∈ late := by
  obtain ⟨j, hj, hv⟩ := List.any_eq_true.1 h
  by_cases hij : i = j
  · subst hij; exact hj
  · rw [getD_set_ne false hij] at hv
    have : isLate late listed = true := List.any_eq_true.2 ⟨j, hj, hv⟩
    rw [this] at h0; cases h0
theorem wpAnyL_first {i : Nat} {oi : Oper} {v : Value} (hi : ops[i]? = some oi) (hsel : ∀ (j : Nat) (o : Oper) cs b, ops[j]? = some o → o.op ≠ .select cs b) (hw : waitsFor md ops late i = true)
    (hQ : ∀ c a w, Q (.panic c) (a.put oi.dst v) w → Q (.panic c) a w) : ∀ (fuel : Nat) (listed : Array Bool) (a : Act) (w : World), isLate late listed = false →
      (∀ j oj, ops[j]? = some oj → j ≠ i → listed.getD j true = false → (∀ e ∈ oj.after, Region.binds md e = true → e.on ≠ i) → oi.apart ops oj = true) →
      i ∈ Region.ready md ops listed → YieldsIf P ops S oi v a → S w →
      wpAnyL P md ops Q S late fuel (listed.setIfInBounds i true) (a.put oi.dst v) w → wpAnyL P md ops Q S late (fuel + 1) listed a w := by
  intro fuel
  induction fuel with
  | zero =>
    intro listed a w _ _ hr hy hS H
    refine ⟨fun h => (by rw [h] at hr; cases hr), fun j hj => ?_⟩
    by_cases hji : j = i
    · subst hji; exact hy.wpOp hi hS ⟨.inr hS, H⟩
    · have := ready_mono hj hji
      rw [H.1] at this
      cases this
  | succ fuel ih =>
    intro listed a w hl hfree hr hy hS H
    refine ⟨fun h => (by rw [h] at hr; cases hr), fun j hj => ?_⟩
    by_cases hji : j = i
    · subst hji; exact hy.wpOp hi hS ⟨.inr hS, H⟩
    · have h1 := H.2 j (ready_mono hj hji)
      obtain ⟨hjun, oj, hoj, hall⟩ := mem_ready.1 hj
      have hun : listed.getD i false = false := by
        have h0 := (mem_ready.1 hr).1
        rcases Nat.lt_or_ge i listed.size with h' | h'
        · simpa [h'] using h0
        · simp [Array.getElem?_eq_none h']
      have hnot : ∀ e ∈ oj.after, Region.binds md e = true → e.on ≠ i := fun e he hb heq => by
        have h3 := hall e he hb
        rw [heq, hun] at h3
        cases h3
      have hjl : j ∉ late := fun hm => by
        have := waitsFor_spec hw hm hj
        rw [hun] at this
        cases this
      have hil : i ∉ late := fun hm => by
        have h3 := List.all_eq_true.1 hw i hm
        simp at h3
      have hl1 : isLate late (listed.setIfInBounds i true) = false := Bool.eq_false_iff.2 fun h => hil (isLate_set h hl)
      have hl2 : isLate late ((listed.setIfInBounds i true).setIfInBounds j true) = false := Bool.eq_false_iff.2 fun h => hjl (isLate_set h hl1)
      have hl3 : isLate late (listed.setIfInBounds j true) = false := Bool.eq_false_iff.2 fun h => hjl (isLate_set h hl)
      have h2 := wpOp_putIf hoj (hfree j oj hoj hji hjun hnot) (fun cs b => hsel i oi cs b hi) (fun cs b => hsel j oj cs b hoj) hQ hy h1
      have hfree' : ∀ k ok, ops[k]? = some ok → k ≠ i → (listed.setIfInBounds j true).getD k true = false →
          (∀ e ∈ ok.after, Region.binds md e = true → e.on ≠ i) → oi.apart ops ok = true := fun k ok hk hki hun2 hno => by
        refine hfree k ok hk hki ?_ hno
        by_cases hjk : j = k
        · subst hjk; exact hjun
        · rw [getD_set_ne true hjk] at hun2; exact hun2
      refine wpOp_mono (fun a' w' h3 => ?_) h2
      obtain ⟨hy3, hS3, h4⟩ := h3
      have hS4 : S w' := by
        rcases hS3 with h | h
        · rw [hl2] at h; cases h
        · exact h
      refine ⟨.inr hS4, ih (listed.setIfInBounds j true) a' w' hl3 hfree' (ready_mono hr (Ne.symm hji)) hy3 hS4 ?_⟩
      rw [Array.setIfInBounds_comm _ _ hji]
      exact h4
theorem isLate_comm {i j : Nat} {listed : Array Bool} (hil : i ∉ late) (h : isLate late ((listed.setIfInBounds i true).setIfInBounds j true) = true) : isLate late (listed.setIfInBounds j true) = true := by
  obtain ⟨k, hk, hv⟩ := List.any_eq_true.1 h
  refine List.any_eq_true.2 ⟨k, hk, ?_⟩
  have hik : i ≠ k := fun e => hil (e ▸ hk)
  by_cases hjk : j = k
  · subst hjk
    rcases Nat.lt_or_ge j listed.size with h' | h'
    · simp [h']
    · simp [Array.getElem?_eq_none h'] at hv; omega
  · rw [getD_set_ne false hjk] at hv ⊢
    rwa [getD_set_ne false hik] at hv
theorem wpAnyL_firstM {i : Nat} {oi : Oper} {v : Value} (hi : ops[i]? = some oi) (hsel : ∀ (j : Nat) (o : Oper) cs b, ops[j]? = some o → o.op ≠ .select cs b) (hil : i ∉ late)
    (hQ : ∀ c a w, Q (.panic c) (a.put oi.dst v) w → Q (.panic c) a w) : ∀ (fuel : Nat) (listed : Array Bool) (a : Act) (w : World),
      (∀ j oj, ops[j]? = some oj → j ≠ i → listed.getD j true = false → (∀ e ∈ oj.after, Region.binds md e = true → e.on ≠ i) → oi.apart ops oj = true) →
      i ∈ Region.ready md ops listed → YieldsIf P ops (fun _ => True) oi v a → (isLate late listed = true ∨ S w) →
      wpAnyL P md ops Q S late fuel (listed.setIfInBounds i true) (a.put oi.dst v) w → wpAnyL P md ops Q S late (fuel + 1) listed a w := by
  intro fuel
  induction fuel with
  | zero =>
    intro listed a w _ hr hy hS H
    refine ⟨fun h => (by rw [h] at hr; cases hr), fun j hj => ?_⟩
    by_cases hji : j = i
    · subst hji; exact hy.wpOp hi trivial ⟨hS.imp (fun h => by
        obtain ⟨k, hk, hv⟩ := List.any_eq_true.1 h
        exact List.any_eq_true.2 ⟨k, hk, getD_set_true hv⟩) id, H⟩
    · have := ready_mono hj hji
      rw [H.1] at this
      cases this
  | succ fuel ih =>
    intro listed a w hfree hr hy hS H
    refine ⟨fun h => (by rw [h] at hr; cases hr), fun j hj => ?_⟩
    by_cases hji : j = i
    · subst hji; exact hy.wpOp hi trivial ⟨hS.imp (fun h => by
        obtain ⟨k, hk, hv⟩ := List.any_eq_true.1 h
        exact List.any_eq_true.2 ⟨k, hk, getD_set_true hv⟩) id, H⟩
    · have h1 := H.2 j (ready_mono hj hji)
      obtain ⟨hjun, oj, hoj, hall⟩ := mem_ready.1 hj
      have hun : listed.getD i false = false := by
        have h0 := (mem_ready.1 hr).1
        rcases Nat.lt_or_ge i listed.size with h' | h'
        · simpa [h'] using h0
        · simp [Array.getElem?_eq_none h']
      have hnot : ∀ e ∈ oj.after, Region.binds md e = true → e.on ≠ i := fun e he hb heq => by
        have h3 := hall e he hb
        rw [heq, hun] at h3
        cases h3
      have h2 := wpOp_putIf hoj (hfree j oj hoj hji hjun hnot) (fun cs b => hsel i oi cs b hi) (fun cs b => hsel j oj cs b hoj) hQ hy h1
      have hfree' : ∀ k ok, ops[k]? = some ok → k ≠ i → (listed.setIfInBounds j true).getD k true = false →
          (∀ e ∈ ok.after, Region.binds md e = true → e.on ≠ i) → oi.apart ops ok = true := fun k ok hk hki hun2 hno => by
        refine hfree k ok hk hki ?_ hno
        by_cases hjk : j = k
        · subst hjk; exact hjun
        · rw [getD_set_ne true hjk] at hun2; exact hun2
      refine wpOp_mono (fun a' w' h3 => ?_) h2
      obtain ⟨hy3, hS3, h4⟩ := h3
      have hS4 := hS3.imp (isLate_comm hil) id
      refine ⟨hS4, ih (listed.setIfInBounds j true) a' w' hfree' (ready_mono hr (Ne.symm hji)) hy3 hS4 ?_⟩
      rw [Array.setIfInBounds_comm _ _ hji]
      exact h4
/-- take number i, which asks nothing of the world, first -/
theorem wpAnyL_move {i : Nat} {l : List Oper} {oi : Oper} {v : Value} {fuel : Nat} {listed : Array Bool} {a : Act} {w : World} (hops : ops = l.toArray) (hi0 : l[i]? = some oi)
    (hc : (Region.noSelect ops && Region.free md ops listed i && (Region.ready md ops listed).contains i && !late.contains i) = true)
    (hQ : ∀ c a w, Q (.panic c) (a.put oi.dst v) w → Q (.panic c) a w) (hy : Region.wanted oi (yielded ops a.tmps) = true) (hv : ∀ w, (execOp a.eval oi).run P w = .ok (.value v) w) (hS : S w)
    (h : wpAnyL P md ops Q S late fuel (listed.setIfInBounds i true) (a.put oi.dst v) w) : wpAnyL P md ops Q S late (fuel + 1) listed a w := by
  have hi : ops[i]? = some oi := by rw [hops]; simpa using hi0
  simp only [Bool.and_eq_true, Bool.not_eq_true'] at hc
  obtain ⟨⟨⟨h1, h2⟩, h3⟩, h4⟩ := hc
  exact wpAnyL_firstM hi (Region.noSelect_spec h1) (by simpa using h4) hQ fuel listed a w (Region.free_spec hi h2) (by simpa using h3) (.inl ⟨hy, fun w _ => hv w⟩) (.inr hS) h
/-- number i, whose guard fails, is passed over -/
theorem wpAnyL_pass {i : Nat} {l : List Oper} {oi : Oper} {fuel : Nat} {listed : Array Bool} {a : Act} {w : World} (hops : ops = l.toArray) (hi0 : l[i]? = some oi)
    (hc : (Region.noSelect ops && Region.free md ops listed i && (Region.ready md ops listed).contains i && !late.contains i) = true)
    (hQ : ∀ c a w, Q (.panic c) (a.put oi.dst undef) w → Q (.panic c) a w) (hy : Region.wanted oi (yielded ops a.tmps) = false) (hS : S w)
    (h : wpAnyL P md ops Q S late fuel (listed.setIfInBounds i true) (a.put oi.dst undef) w) : wpAnyL P md ops Q S late (fuel + 1) listed a w := by
  have hi : ops[i]? = some oi := by rw [hops]; simpa using hi0
  simp only [Bool.and_eq_true, Bool.not_eq_true'] at hc
  obtain ⟨⟨⟨h1, h2⟩, h3⟩, h4⟩ := hc
  exact wpAnyL_firstM hi (Region.noSelect_spec h1) (by simpa using h4) hQ fuel listed a w (Region.free_spec hi h2) (by simpa using h3) (.inr ⟨hy, rfl⟩) (.inr hS) h
/-- take number i first -/
theorem wpAnyL_take {i : Nat} {l : List Oper} {oi : Oper} {v : Value} {fuel : Nat} {listed : Array Bool} {a : Act} {w : World} (hops : ops = l.toArray) (hi0 : l[i]? = some oi)
    (hc : (Region.noSelect ops && Region.free md ops listed i && (Region.ready md ops listed).contains i && waitsFor md ops late i && !isLate late listed) = true)
    (hQ : ∀ c a w, Q (.panic c) (a.put oi.dst v) w → Q (.panic c) a w) (hy : Region.wanted oi (yielded ops a.tmps) = true) (hv : ∀ w, S w → (execOp a.eval oi).run P w = .ok (.value v) w) (hS : S w)
    (h : wpAnyL P md ops Q S late fuel (listed.setIfInBounds i true) (a.put oi.dst v) w) : wpAnyL P md ops Q S late (fuel + 1) listed a w := by
  have hi : ops[i]? = some oi := by rw [hops]; simpa using hi0
  simp only [Bool.and_eq_true, Bool.not_eq_true'] at hc
  obtain ⟨⟨⟨⟨h1, h2⟩, h3⟩, h4⟩, h5⟩ := hc
  exact wpAnyL_first hi (Region.noSelect_spec h1) h4 hQ fuel listed a w h5 (Region.free_spec hi h2) (by simpa using h3) (.inl ⟨hy, hv⟩) hS h
/-- one alone may come up, and it is not late -/
theorem wpAnyL_one {i : Nat} {l : List Oper} {o : Oper} {fuel : Nat} {listed : Array Bool} {a : Act} {w : World} (hops : ops = l.toArray) (ho0 : l[i]? = some o) (hr : Region.ready md ops listed = [i])
    (hw : Region.wanted o (yielded ops a.tmps) = true)
    (h : ∀ K : Act → World → Prop, Hid (∀ a' w', S w' → wpAnyL P md ops Q S late fuel (listed.setIfInBounds i true) a' w' → K a' w') → o.wp P a w K Q) : wpAnyL P md ops Q S late (fuel + 1) listed a w := by
  have ho : ops[i]? = some o := by rw [hops]; simpa using ho0
  refine ⟨fun h0 => (by rw [hr] at h0; cases h0), fun j hj => ?_⟩
  rw [hr, List.mem_singleton] at hj
  subst hj
  unfold wpOp
  simp only [ho, hw, if_true]
  exact .inl (h _ (Lib.hid fun a' w' hS' hW => ⟨.inr hS', hW⟩))
def seqOK (md : Region.Mode) (ops : Array Oper) (late : List Nat) : Array Bool → List Nat → Bool
  | listed, [] => (Region.ready md ops listed).isEmpty
  | listed, j :: js => (Region.ready md ops listed == [j]) && isLate late (listed.setIfInBounds j true) && seqOK md ops late (listed.setIfInBounds j true) js
/-- what is left is forced, and late: a list -/
theorem wpAnyL_seq0 : ∀ (js : List Nat) (l : List Oper) (fuel : Nat) (listed : Array Bool) (a : Act) (w : World), js.length ≤ fuel → js.mapM (ops[·]?) = some l → seqOK md ops late listed js = true →
    wpList P ops Q l a w → wpAnyL P md ops Q S late fuel listed a w
  | [], l, fuel, listed, a, w, _, hl, hc, h => by
    simp at hl
    subst hl
    have hr : Region.ready md ops listed = [] := List.isEmpty_iff.1 hc
    cases fuel with
    | zero => exact ⟨hr, h⟩
    | succ fuel => exact ⟨fun _ => h, fun i hi => by rw [hr] at hi; cases hi⟩
  | j :: js, l, fuel, listed, a, w, hf, hl, hc, h => by
    obtain ⟨fuel, rfl⟩ : ∃ n, fuel = n + 1 := ⟨fuel - 1, by simp at hf; omega⟩
    simp only [seqOK, Bool.and_eq_true, beq_iff_eq] at hc
    obtain ⟨⟨hr, hlate⟩, hc'⟩ := hc
    simp only [List.mapM_cons, Option.bind_eq_bind, Option.bind_eq_some_iff, Option.pure_def, Option.some.injEq] at hl
    obtain ⟨o, ho, l', hl', rfl⟩ := hl
    have ih := fun a' w' => wpAnyL_seq0 js l' fuel (listed.setIfInBounds j true) a' w' (by simpa using hf) hl' hc'
    refine ⟨fun h0 => (by rw [hr] at h0; cases h0), fun i hi => ?_⟩
    rw [hr, List.mem_singleton] at hi
    subst hi
    unfold wpOp
    simp only [ho]
    unfold wpList at h
    split
    · rename_i hw
      rw [if_pos hw] at h
      exact h.imp (Oper.wp_mono fun a' w' h' => ⟨.inl hlate, ih a' w' h'⟩) id
    · rename_i hw
      rw [if_neg hw] at h
      exact ⟨.inl hlate, ih _ _ h⟩
theorem wpAnyL_seq (js : List Nat) {l0 l : List Oper} {fuel : Nat} {listed : Array Bool} {a : Act} {w : World} (hops : ops = l0.toArray) (hl : js.mapM (l0[·]?) = some l) (hf : js.length ≤ fuel) (hc : seqOK md ops late listed js = true) (h : wpList P ops Q l a w) : wpAnyL P md ops Q S late fuel listed a w :=
  wpAnyL_seq0 js l fuel listed a w hf (by rw [hops]; simpa using hl) hc h
theorem mapM_drop (l0 : List Oper) : ∀ (l : List Oper) (n : Nat), l0.drop n = l → (List.range' n l.length).mapM (fun i => l0[i]?) = some l
  | [], n, _ => rfl
  | o :: l, n, h => by
    have h0 : l0[n]? = some o := by
      have := List.getElem?_drop (xs := l0) (i := n) (j := 0)
      rw [h] at this
      simpa using this.symm
    have h1 : l0.drop (n + 1) = l := by rw [← List.drop_drop, h]; rfl
    simp only [List.length_cons, List.range'_succ, List.mapM_cons, h0, Option.bind_eq_bind, Option.bind_some, mapM_drop l0 l (n + 1) h1, Option.pure_def]
/-- all from number n on is left, is forced, and late: a list -/
theorem wpAnyL_tail (n : Nat) {l0 l : List Oper} {fuel : Nat} {listed : Array Bool} {a : Act} {w : World} (hops : ops = l0.toArray) (hl : l0.drop n = l) (hf : l.length ≤ fuel) (hc : seqOK md ops late listed (List.range' n l.length) = true) (h : wpList P ops Q l a w) : wpAnyL P md ops Q S late fuel listed a w :=
  wpAnyL_seq _ hops (mapM_drop l0 l n hl) (by simpa using hf) hc h
/-- all have come up -/
theorem wpAnyL_end {fuel : Nat} {listed : Array Bool} {a : Act} {w : World} (hr : Region.ready md ops listed = []) (h : Q .normal a w) : wpAnyL P md ops Q S late fuel listed a w :=
  wpAnyL_seq0 [] [] fuel listed a w (Nat.zero_le _) rfl (List.isEmpty_iff.2 hr) h
theorem wp_buildSlice1 {o : Oper} {a : Act} {w w' : World} {K : Act → World → Prop} {t : TypeId} {v u : Value} (x : Operand) (ho : o.op = .buildSlice t 1 #[(0, x)]) (hx : a.eval x = v) (hr : (Instr.buildSlice t 1 #[(0, v)]).run P w = .ok u w') (h : K (a.put o.dst u) w') : o.wp P a w K Q := by
  unfold Oper.wp execOp
  simp only [ho, List.map_toArray, List.map_cons, List.map_nil, hx, Sem.run_bind, hr, Result.andThen_ok, Sem.run_pure]
  exact h
theorem exec_load_mid {o : Oper} {a : Act} {W : World} {ty : TypeId} (x : Operand) (ho : o.op = .load ty x) (b off : Nat) (hx : a.eval x = .pointer (some ⟨b, off, none⟩)) (cs : List Value) (d : TypeDesc) (hc : W.rangeAt b off cs)
    (hu : P.underlying ty = some d) (hd : d.isRow = true) (hi : (P.info? ty).map (·.size) = some cs.length) : (execOp a.eval o).run P W = .ok (.value (.agg cs.toArray)) W := by
  unfold execOp
  simp only [ho, hx, Sem.run_bind, run_loadAt_mid W b off ty cs d hc hu hd hi, Result.andThen_ok, Sem.run_pure]
/-- the beginning -/
theorem wp_region_L (S : World → Prop) (late : List Nat) {id : Nat} {a : Act} {w : World} (hm : P.follows .mixedOrders = true)
    (h : wpAnyL P .any ops Q S late ops.size (Array.replicate ops.size false) a w.drew) : (Code.region id ops true).wp P Q a w :=
  wp_region_any hm (wpAny_of_L _ _ _ _ h)
end
end Go.Proofs.Ythihffglkheleaa
