/- A law of the statement that ranges over a function, whose round's variables live in memory. -/
import Derived.Test.YthihffglkheleaaBc
set_option linter.unusedVariables false
set_option linter.unusedSimpArgs false
namespace Go.Proofs.Ythihffglkheleaa
open Go.RowKit
variable {P : Program}

/-- The statement 'for .. := range g { .. }'. D: the block of the deferred calls, L = D + 1: the loop's record; the body leaves both alone (Mc: what the body may change). -/
theorem wpIn_range2 {α : Type} {g : Operand} {ps : Array Tmp} {assign body : Code} {Q : Exit → Act → World → Prop} {a : Act} {w : World}
    {gf : Nat} {lb : Array Value} (hg : a.eval g = .func (.func gf) #[] lb) (eg : ∀ args w, (callFunc gf args).run P w = .ok (.enter gf args) w)
    {encs : α → Array Value} {Mi Mb Mc : Nat → Prop} {ok : List α → α → Prop} {S Sp : List α → Prop} {w0 : World} (hseq : Iter P gf lb encs Mi Mb ok S Sp w0)
    (hb0 : New w0 w) (hps : ∀ x, (encs x).size = ps.size) (hMi : ¬ Mi w.heap.size ∧ ¬ Mi (w.heap.size + 1)) (hMc : ¬ Mc w.heap.size ∧ ¬ Mc (w.heap.size + 1)) (hMb : ∀ k, Mc k ∨ w.heap.size ≤ k → Mb k)
    (I : List α → World → Prop) (Ix : Code → List α → World → Prop)
    (hI : ∀ s A B, I s A → Chg (fun k => Mi k ∨ k = w.heap.size ∨ k = w.heap.size + 1) A B → I s B) (hIx : ∀ c s A B, Ix c s A → Chg (fun k => Mi k ∨ k = w.heap.size ∨ k = w.heap.size + 1) A B → Ix c s B)
    (h0 : I [] w) (Asg : α → World → World → Act → Prop) (hAsg : ∀ x A B C a', Asg x A B a' → w.heap.size + 1 < A.heap.size → Chg (fun k => k = w.heap.size + 1) B C → Asg x A C a')
    (hassign : ∀ (l : Nat) (x : α) (W : World) (K : Act → World → Prop), (∀ a' W', New W W' → Asg x W W' a' → K a' W') →
      assign.wpIn (Fence.wide.inRound l) 0 P (Exit.then K (fun _ _ _ => False)) { tmps := (ps.zip (encs x)).foldl (fun t (p, v) => t.setIfInBounds p v) a.tmps, defers := [] } W)
    (hbody : ∀ (l : Nat) (pre : List α) (x : α) (W0 W : World) (a' : Act), w.heap.size + 2 ≤ W0.heap.size → W0.heap.size ≤ W.heap.size → Asg x W0 W a' → I pre W → ok pre x → body.wpIn (Fence.wide.inRound l) 0 P (roundOut Mc I Ix (pre ++ [x]) W) a' W)
    (hdone : ∀ (xs : List α) (W : World), S xs → I xs W → W.heap[w.heap.size]? = some (.deferred (some [])) → Q .normal { a with defers := { target := .collected w.heap.size, args := #[] } :: a.defers } W)
    (hstop : ∀ (c : Code) (pre : List α) (W : World), Sp pre → Ix c pre W → W.heap[w.heap.size]? = some (.deferred (some [])) → c.wpIn Fence.wide 0 P Q { a with defers := { target := .collected w.heap.size, args := #[] } :: a.defers } W) :
    (Code.rangeFunc g ps assign body).wpIn Fence.wide 0 P Q a w := by
  refine wpIn_rangeFunc ?_
  intro fn hfn
  rw [show Fence.wide.round = none from rfl]
  obtain ⟨rec, hrec⟩ : ∃ rec : LoopState → Option Code → Loop, rec = fun st pe => { state := st, pending := pe, fn, tmps := a.tmps, params := ps, assign, body, defers := w.heap.size } := ⟨_, rfl⟩
  obtain ⟨W1, hW1⟩ : ∃ W1, (w.alloc (.deferred (some []))).alloc (.loop (rec .ready none)) = W1 := ⟨_, rfl⟩
  have hL1 : W1.heap[w.heap.size + 1]? = some (.loop (rec .ready none)) := by
    rw [← hW1]; have := World.alloc_heap_new (w.alloc (.deferred (some []))) (.loop (rec .ready none)); rwa [World.size_alloc] at this
  have hK1 : W1.heap[w.heap.size]? = some (.deferred (some [])) := by
    rw [← hW1]; exact (Below.heap_alloc _ _ _ (by simp)).trans (World.alloc_heap_new w _)
  have hN1 : New w W1 := by rw [← hW1]; exact (new_alloc w _).alloc _
  have hI1 : I [] W1 := hI _ _ _ h0 (hN1.chg _)
  refine ⟨w.heap.size + 1, [{ target := .collected w.heap.size, args := #[] }], W1, { target := .fn (.func gf) lb, args := #[.func (.yield (w.heap.size + 1)) #[] #[]] }, W1, gf,
    #[.func (.yield (w.heap.size + 1)) #[] #[]] ++ lb, W1, ?_, ?_, ?_, ?_, fun h => by simp [Fence.wide] at h, ?_⟩
  · rw [← hW1, hrec]; exact run_enterLoop_outer _ _ _ _ _
  · simp only [resolve, hg]
    simp [go_sem]
  · intro f' hf'; trivial
  · simp [invoke, go_sem, eg]
  · have hs1 : ∀ {A B : World}, Chg Mi A B → ∀ {o : Obj}, A.heap[w.heap.size + 1]? = some o → B.heap[w.heap.size + 1]? = some o := fun hc o h => (hc.block _ (Array.getElem?_eq_some_iff.1 h).1 hMi.2).trans h
    have hs2 : ∀ {A B : World}, Chg Mi A B → ∀ {o : Obj}, A.heap[w.heap.size]? = some o → B.heap[w.heap.size]? = some o := fun hc o h => (hc.block _ (Array.getElem?_eq_some_iff.1 h).1 hMi.1).trans h
    have hmi : ∀ {A B : World}, Chg Mi A B → Chg (fun k => Mi k ∨ k = w.heap.size ∨ k = w.heap.size + 1) A B := fun hc => hc.mono (fun k _ h => .inl h)
    refine (hseq (w.heap.size + 1)
      (fun pre W => I pre W ∧ W.heap[w.heap.size + 1]? = some (.loop (rec .ready none)) ∧ W.heap[w.heap.size]? = some (.deferred (some [])))
      (fun pre W => ∃ c, Ix c pre W ∧ W.heap[w.heap.size + 1]? = some (.loop (rec .done (some c))) ∧ W.heap[w.heap.size]? = some (.deferred (some [])))
      W1 (hb0.trans hN1)
      (fun s A B hs hc => ⟨hI s A B hs.1 (hmi hc), hs1 hc hs.2.1, hs2 hc hs.2.2⟩)
      (fun s A B hs hc => by
        obtain ⟨c, h1, hl, hk⟩ := hs
        exact ⟨c, hIx c s A B h1 (hmi hc), hs1 hc hl, hs2 hc hk⟩)
      ?_ ⟨hI1, hL1, hK1⟩).mono ?_
    · rintro pre x W0 ⟨hi0, hl0, hk0⟩ hok
      have hlt0 : w.heap.size + 1 < W0.heap.size := (Array.getElem?_eq_some_iff.1 hl0).1
      have hy := run_yield (P := P) (args := encs x) hl0 (by rw [hrec]; exact hps x)
      rw [hrec] at hy
      refine ⟨fn, _, assign, body, hy, roundIn_of_wpIn hfn (hassign _ x W0 _ (fun a' W hNW hA => ?_))⟩
      have hi : I pre W := hI _ _ _ hi0 (hNW.chg _)
      have hl := (hNW.block _ (Array.getElem?_eq_some_iff.1 hl0).1).trans hl0
      have hk := (hNW.block _ (Array.getElem?_eq_some_iff.1 hk0).1).trans hk0
      have hlt : w.heap.size + 1 < W.heap.size := (Array.getElem?_eq_some_iff.1 hl).1
      refine ⟨_, run_beginRound hl (by rw [hrec]), ?_⟩
      have hl2 : (W.putObj (w.heap.size + 1) (.loop { rec .ready none with state := .busy })).heap[w.heap.size + 1]? = some (.loop { rec .ready none with state := .busy }) := World.putObj_heap_same hlt
      have hk2 : (W.putObj (w.heap.size + 1) (.loop { rec .ready none with state := .busy })).heap[w.heap.size]? = some (.deferred (some [])) := (World.putObj_heap_other (by omega)).trans hk
      have hc2 : Chg Mb W0 (W.putObj (w.heap.size + 1) (.loop { rec .ready none with state := .busy })) := (hNW.chg Mb).trans (chg_putObj (Chg.refl _ W) _ (.inl (hMb _ (.inr (by omega)))))
      have hi2 : I pre (W.putObj (w.heap.size + 1) (.loop { rec .ready none with state := .busy })) := hI _ _ _ hi (chg_putObj (Chg.refl _ W) _ (.inl (.inr (.inr rfl))))
      have hA2 : Asg x W0 (W.putObj (w.heap.size + 1) (.loop { rec .ready none with state := .busy })) a' := hAsg _ _ _ _ _ hA hlt0 (chg_putObj (Chg.refl _ W) _ (.inl rfl))
      refine wpIn_mono (hbody _ pre x W0 _ a' (by omega) (by have := hNW.size; simpa using this) hA2 hi2 hok) ?_
      have fin : ∀ (jump : Option Code) (W3 : World), Chg Mc (W.putObj (w.heap.size + 1) (.loop { rec .ready none with state := .busy })) W3 →
          (Instr.endRound (w.heap.size + 1) jump).run P W3 = .ok (.bool jump.isNone) (W3.putObj (w.heap.size + 1) (.loop (rec (if jump.isNone then .ready else .done) jump))) ∧
          Chg Mb W0 (W3.putObj (w.heap.size + 1) (.loop (rec (if jump.isNone then .ready else .done) jump))) ∧
          Chg (fun k => Mi k ∨ k = w.heap.size ∨ k = w.heap.size + 1) W3 (W3.putObj (w.heap.size + 1) (.loop (rec (if jump.isNone then .ready else .done) jump))) ∧
          (W3.putObj (w.heap.size + 1) (.loop (rec (if jump.isNone then .ready else .done) jump))).heap[w.heap.size + 1]? = some (.loop (rec (if jump.isNone then .ready else .done) jump)) ∧
          (W3.putObj (w.heap.size + 1) (.loop (rec (if jump.isNone then .ready else .done) jump))).heap[w.heap.size]? = some (.deferred (some [])) := fun jump W3 hk3 => by
        have hl3 := (hk3.block _ (Array.getElem?_eq_some_iff.1 hl2).1 hMc.2).trans hl2
        have hd3 := (hk3.block _ (Array.getElem?_eq_some_iff.1 hk2).1 hMc.1).trans hk2
        have := run_endRound (P := P) jump hl3
        rw [hrec] at this ⊢
        refine ⟨this, chg_putObj ((hc2.trans (hk3.mono (fun k _ h => hMb k (.inl h))))) _ (.inl (hMb _ (.inr (by omega)))), chg_putObj (Chg.refl _ W3) _ (.inl (.inr (.inr rfl))), World.putObj_heap_same (Array.getElem?_eq_some_iff.1 hl3).1, (World.putObj_heap_other (by omega)).trans hd3⟩
      rintro e a3 W3 hp
      cases e with
      | normal =>
        obtain ⟨hk3, hi3⟩ := hp
        obtain ⟨hr, hcb, hci, hl4, hk4⟩ := fin none W3 hk3
        exact ⟨_, _, hr, hcb, .inl ⟨rfl, hI _ _ _ hi3 hci, hl4, hk4⟩⟩
      | ret =>
        obtain ⟨hk3, hi3⟩ := hp
        obtain ⟨hr, hcb, hci, hl4, hk4⟩ := fin (some .ret) W3 hk3
        exact ⟨_, _, hr, hcb, .inr ⟨rfl, .ret, hIx _ _ _ _ hi3 hci, hl4, hk4⟩⟩
      | exit id =>
        obtain ⟨hk3, hi3⟩ := hp
        obtain ⟨hr, hcb, hci, hl4, hk4⟩ := fin (some (.exit id)) W3 hk3
        exact ⟨_, _, hr, hcb, .inr ⟨rfl, .exit id, hIx _ _ _ _ hi3 hci, hl4, hk4⟩⟩
      | goto t =>
        obtain ⟨hk3, hi3⟩ := hp
        obtain ⟨hr, hcb, hci, hl4, hk4⟩ := fin (some (.goto t)) W3 hk3
        exact ⟨_, _, hr, hcb, .inr ⟨rfl, .goto t, hIx _ _ _ _ hi3 hci, hl4, hk4⟩⟩
      | panic ch => exact hp.elim
      | outgrown => exact hp.elim
    · rintro e W2 ⟨⟨v, rfl⟩, (⟨xs, hS, hi, hl, hk⟩ | ⟨pre, hSp, c, hi, hl, hk⟩)⟩
      · exact ⟨none, _, by have := run_endLoop (P := P) hl (by rw [hrec]; simp); rw [hrec] at this; exact this, hdone xs _ hS (hI _ _ _ hi (chg_putObj (Chg.refl _ _) _ (.inl (.inr (.inr rfl))))) ((World.putObj_heap_other (by omega)).trans hk)⟩
      · exact ⟨some c, _, by have := run_endLoop (P := P) hl (by rw [hrec]; simp); rw [hrec] at this; exact this, hstop c pre _ hSp (hIx c _ _ _ hi (chg_putObj (Chg.refl _ _) _ (.inl (.inr (.inr rfl))))) ((World.putObj_heap_other (by omega)).trans hk)⟩
section
variable {ops : Array Oper} {rest : List Oper} {o : Oper} {a : Act} {Q : Exit → Act → World → Prop} {F : Fence} {n : Nat} {α : Type} {enc : α → Value}
/-- append(v, u...): in a walk with a fence -/
theorem wplIn_append {t e : TypeId} {z : Value} {bytes : Nat} (hgd : o.guard = none) (s x : Operand)
    (ho : o.op = .call { callee := .builtin .append, args := #[s, x], argTypes := #[t, t] }) (ht : P.underlying t = some (.slice e)) (hinfo : (P.info? e).map (fun i => (i.zero, i.size, i.bytes)) = some (some z, 1, bytes)) (hzs : z.cells.size = 1)
    (h1 : ∀ x : α, (enc x).oneCell' = true) {lo lo' hi' : Nat} {w : World} {v u : Value} {xs ys : List α} (hs : a.eval s = v) (hx : a.eval x = u) (hv : Own enc e lo w v xs) (hu : Rd enc lo' hi' w u ys)
    (hl : (xs.length + ys.length) * bytes ≤ 140737488355328) (hm : xs.length + ys.length ≤ 9223372036854775807) (hlo : lo ≤ w.heap.size)
    (h : ∀ A' c' w', Own enc e lo w' (.slice A' (xs.length + ys.length) c') (xs ++ ys) → w.grownBy w' v.ownBlock → wpListIn F n P ops Q rest (a.put o.dst (.slice A' (xs.length + ys.length) c')) w') :
    wpListIn F n P ops Q (o :: rest) a w := by
  refine wpListIn_plain hgd fun K hK => ?_
  obtain ⟨i0, hi, hzz⟩ := Option.map_eq_some_iff.1 hinfo
  simp only [Prod.mk.injEq] at hzz
  obtain ⟨hz0, hz1, hz2⟩ := hzz
  obtain ⟨v', w', hr, h2, h3, h5⟩ := append_rd (P := P) (ty := o.type) ht hi hz0 hz1 hz2 hzs h1 hv hu hl hm hlo
  obtain ⟨A', c', hA, _, _⟩ := (h2.rd (Nat.le_refl _)).form
  subst hA
  rw [List.length_append] at hr h2 h5
  unfold Oper.wpIn
  refine ⟨?_, ?_⟩
  · simp [Oper.about, ho, resolve, Target.leads, Sem.run_pure]
  · rw [Oper.semAt_plain F _ _ (by rw [ho]; intro c hc'; cases hc')]
    simp [execOp, ho, resolve, invoke, builtin, hs, hx, hr, Result.andThen]
    exact hK _ _ (h A' c' w' h2 h3)
end
end Go.Proofs.Ythihffglkheleaa
