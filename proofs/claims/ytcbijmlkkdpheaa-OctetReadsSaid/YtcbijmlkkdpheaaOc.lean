/- Contracts of octet.tries at its four types. -/
import Derived.Test.YtcbijmlkkdpheaaOb
import Derived.Recover
import Derived.Defers
set_option linter.unusedVariables false
set_option linter.unusedSimpArgs false
namespace Go.Proofs.Ytcbijmlkkdpheaa
open Go.RowKit

/-- What a computation that may leave with an error comes to. -/
inductive Res (α : Type) where
  | ok (a : α)
  | no (x : Int)

/-- it returns the value, or leaves with the error; nothing old has changed -/
def OutP {α : Type} (V : World → World → Value → α → Prop) (r : Res α) (w : World) (e : Ending) (w' : World) : Prop :=
  New w w' ∧ match r with
    | .ok a => ∃ v, e = .returned v ∧ V w w' v a
    | .no x => e = boom x
/-- it returns the value and OK, or z and the error; nothing old has changed -/
def OutT {α : Type} (z : Value) (V : World → World → Value → α → Prop) (r : Res α) (w : World) (e : Ending) (w' : World) : Prop :=
  New w w' ∧ match r with
    | .ok a => ∃ v, e = .returned (.tuple #[v, .int .i64 0]) ∧ V w w' v a
    | .no x => e = .returned (.tuple #[z, .int .i64 x])
theorem OutP.split {α : Type} {V : World → World → Value → α → Prop} {r : Res α} {w w' : World} {e : Ending} (h : OutP V r w e w') :
    New w w' ∧ ((∃ a v, Hid (r = .ok a) ∧ e = .returned v ∧ V w w' v a) ∨ ∃ x, Hid (r = .no x) ∧ e = boom x) := by
  obtain ⟨hn, h⟩ := h
  refine ⟨hn, ?_⟩
  cases r with
  | ok a => obtain ⟨v, he, hv⟩ := h; exact .inl ⟨a, v, Lib.hid rfl, he, hv⟩
  | no x => exact .inr ⟨x, Lib.hid rfl, h⟩
theorem OutT.split {α : Type} {z : Value} {V : World → World → Value → α → Prop} {r : Res α} {w w' : World} {e : Ending} (h : OutT z V r w e w') :
    New w w' ∧ ((∃ a v, Hid (r = .ok a) ∧ e = .returned (.tuple #[v, .int .i64 0]) ∧ V w w' v a) ∨ ∃ x, Hid (r = .no x) ∧ e = .returned (.tuple #[z, .int .i64 x])) := by
  obtain ⟨hn, h⟩ := h
  refine ⟨hn, ?_⟩
  cases r with
  | ok a => obtain ⟨v, he, hv⟩ := h; exact .inl ⟨a, v, Lib.hid rfl, he, hv⟩
  | no x => exact .inr ⟨x, Lib.hid rfl, h⟩
theorem OutP.yes {α : Type} {V : World → World → Value → α → Prop} {r : Res α} {w w' : World} {v : Value} {a : α} (hr : r = .ok a) (hn : New w w') (hv : V w w' v a) : OutP V r w (.returned v) w' := by subst hr; exact ⟨hn, v, rfl, hv⟩
theorem OutP.no {α : Type} {V : World → World → Value → α → Prop} {r : Res α} {w w' : World} {x : Int} (hr : r = .no x) (hn : New w w') : OutP V r w (boom x) w' := by subst hr; exact ⟨hn, rfl⟩
theorem OutT.yes {α : Type} {z : Value} {V : World → World → Value → α → Prop} {r : Res α} {w w' : World} {v : Value} {a : α} (hr : r = .ok a) (hn : New w w') (hv : V w w' v a) : OutT z V r w (.returned (.tuple #[v, .int .i64 0])) w' := by subst hr; exact ⟨hn, v, rfl, hv⟩
theorem OutT.no {α : Type} {z : Value} {V : World → World → Value → α → Prop} {r : Res α} {w w' : World} {x : Int} (hr : r = .no x) (hn : New w w') : OutT z V r w (.returned (.tuple #[z, .int .i64 x])) w' := by subst hr; exact ⟨hn, rfl⟩
/-- a row of the call's own; a number -/
def VO {α : Type} (enc : α → Value) (e : TypeId) (w w' : World) (v : Value) (xs : List α) : Prop := ∃ A c, v = .slice A xs.length c ∧ Own enc e w.heap.size w' v xs
def VN (k : IntKind) (w w' : World) (v : Value) (n : Int) : Prop := v = .int k n
theorem VO.later {α : Type} {enc : α → Value} {e : TypeId} {w W w' w'' : World} {v : Value} {xs : List α} (h : VO enc e W w' v xs) (hs : w.heap.size + 2 ≤ W.heap.size) (hc : Chg (fun k => k = w.heap.size ∨ k = w.heap.size + 1) w' w'') : VO enc e w w'' v xs := by
  obtain ⟨A, c, rfl, ho⟩ := h
  exact ⟨A, c, rfl, (ho.chg hc (fun k hk => by have := (ho.lt k hk).1; omega)).mono (by omega)⟩
theorem VN.later {k : IntKind} {w W w' w'' : World} {v : Value} {n : Int} (h : VN k W w' v n) (hs : w.heap.size + 2 ≤ W.heap.size) (hc : Chg (fun k => k = w.heap.size ∨ k = w.heap.size + 1) w' w'') : VN k w w'' v n := h
theorem VO.before {α : Type} {enc : α → Value} {e : TypeId} {w W w' : World} {v : Value} {xs : List α} (h : VO enc e W w' v xs) (hn : New w W) : VO enc e w w' v xs := by
  obtain ⟨A, c, rfl, ho⟩ := h
  exact ⟨A, c, rfl, ho.mono hn.size⟩
theorem VO.rd {α : Type} {enc : α → Value} {e : TypeId} {w w' : World} {v : Value} {xs : List α} (h : VO enc e w w' v xs) : Rd enc w.heap.size w'.heap.size w' v xs := by
  obtain ⟨A, c, rfl, ho⟩ := h
  exact ho.rd (Nat.le_refl _)

/-- What 'tries' makes of an ending. -/
def tried (z : Value) (e0 e : Ending) : Prop :=
  (∃ v, e0 = .returned v ∧ e = .returned (.tuple #[v, .int .i64 0])) ∨ ∃ x, e0 = boom x ∧ e = .returned (.tuple #[z, .int .i64 x])

theorem run_isErrno (x : Int) (W : World) : (Instr.typeAssert (.iface 29 (.int .i64 x)) 20 29 true).run Try.prog W = .ok (.tuple #[.int .i64 x, .bool true]) W := by kernel_rfl

theorem tr_bytes_idle (p q : Addr) (w : World) :
    CallsD Try.prog 67 #[.pointer (some p), .pointer (some q)] .returning w fun e u' w' => e = .returned (.tuple #[]) ∧ u' = .returning ∧ w' = w := by
  refine callsD_of_wpS Try.func67 rfl fun c₀ cs hu => ?_
  apply wpS_seq
  apply wpS_region
  simp [wpOpsS, go_sem, recoverD, hu, Try.ntmps67, Exit.thenS]
  refine wpS_of_wp ?_
  simp only [List.size_toArray, List.length_cons, List.length_nil, Nat.reduceAdd, Nat.reduceSub, Array.replicate_succ, Array.replicate_zero, List.push_toArray, List.append_toArray, List.nil_append, List.cons_append, List.setIfInBounds_toArray, List.set_cons_succ, List.set_cons_zero]
  go_wp2
  cases c₀
  simp_all [bodyPostS, results, Try.results67]

theorem tr_bytes_caught (p q : Addr) (x : Int) (older : List PanicEntry) (w : World) (u1 u2 : Value) (hp : w.cell? p = some u1) (hq : (w.setCell p (.slice none 0 0)).cell? q = some u2) (fp : w.frozen? p = false) (fq : w.frozen? q = false) :
    CallsD Try.prog 67 #[.pointer (some p), .pointer (some q)] (.panicking ({ v := .iface 29 (.int .i64 x), recovered := false } :: older)) w fun e u' w' =>
      e = .returned (.tuple #[]) ∧ u' = .panicking ({ v := .iface 29 (.int .i64 x), recovered := true } :: older) ∧ w' = (w.setCell p (.slice none 0 0)).setCell q (.int .i64 x) := by
  have hta := run_isErrno
  refine callsD_of_wpS Try.func67 rfl fun c₀ cs hu => ?_
  apply wpS_seq
  apply wpS_region
  simp [wpOpsS, go_sem, recoverD, hu, Try.ntmps67, Exit.thenS]
  refine wpS_of_wp ?_
  simp only [List.size_toArray, List.length_cons, List.length_nil, Nat.reduceAdd, Nat.reduceSub, Array.replicate_succ, Array.replicate_zero, List.push_toArray, List.append_toArray, List.nil_append, List.cons_append, List.setIfInBounds_toArray, List.set_cons_succ, List.set_cons_zero]
  go_wp2
  simp [bodyPostS, results, Try.results67]

theorem tr_bytes (f : Nat) (cap : Array Value) (hcf : ∀ W, (callFunc f cap).run Try.prog W = .ok (.enter f cap) W) (w : World) (M : Nat → Prop) (hM : ∀ k, M k → k < w.heap.size) (T : Ending → World → World → Prop)
    (h : ∀ W, New w W → w.heap.size + 2 ≤ W.heap.size → Calls Try.prog f cap W fun e w' => T e W w' ∧ Chg M W w' ∧ ((∃ A n c, e = .returned (.slice A n c)) ∨ ∃ x, e = boom x)) :
    Calls Try.prog 44 #[.func (.func f) #[] cap] w fun e w'' => ∃ e0 W w', T e0 W w' ∧ New w W ∧ w.heap.size + 2 ≤ W.heap.size ∧ Chg M W w' ∧ tried (.slice none 0 0) e0 e ∧ Chg (fun k => k = w.heap.size ∨ k = w.heap.size + 1) w' w'' ∧ w''.heap.size = w'.heap.size := by
  have hmf : ∀ (fn : Fn) (first cap : Array Value) (w : World), (Instr.makeFunc fn first cap).run Try.prog w = .ok (.func fn first cap) w := fun _ _ _ _ => rfl
  have HH := Lib.hid h
  have HMM := Lib.hid hM
  clear h hM
  go_enter_defers Try.func44, Try.ntmps44
  have hN : New w ((w.alloc (.cells #[.slice none 0 0] 22)).alloc (.cells #[.int .i64 0] 29)) := ((Below.refl _ _).alloc (Nat.le_refl _) _).alloc (by simp) _
  have HN := Lib.hid hN
  have hb1 : ((w.alloc (.cells #[.slice none 0 0] 22)).alloc (.cells #[.int .i64 0] 29)).heap[w.heap.size]? = some (.cells #[.slice none 0 0] 22 (0, 0)) := by
    rw [Below.heap_alloc _ _ _ (by simp)]
    exact heap_alloc_new w _
  have hb2 : ((w.alloc (.cells #[.slice none 0 0] 22)).alloc (.cells #[.int .i64 0] 29)).heap[w.heap.size + 1]? = some (.cells #[.int .i64 0] 29 (0, 0)) := by
    have := heap_alloc_new (w.alloc (.cells #[.slice none 0 0] 22)) (.cells #[.int .i64 0] 29)
    simpa using this
  have HB1 := Lib.hid hb1
  have HB2 := Lib.hid hb2
  clear hN hb1 hb2
  go_wp2_with fail
  refine (HH.out _ HN.out (by simp)).mono ?_
  rintro e w' ⟨hT, hc, he⟩
  have hs1 : w'.heap[w.heap.size]? = some (.cells #[.slice none 0 0] 22 (0, 0)) := (hc.block _ (by simp; omega) (fun hm => absurd (HMM.out _ hm) (by omega))).trans HB1.out
  have hs2 : w'.heap[w.heap.size + 1]? = some (.cells #[.int .i64 0] 29 (0, 0)) := (hc.block _ (by simp) (fun hm => absurd (HMM.out _ hm) (by omega))).trans HB2.out
  have c1 : w'.cell? ⟨w.heap.size, 0, none⟩ = some (.slice none 0 0) := by simp [World.cell?, hs1]
  have c2 : w'.cell? ⟨w.heap.size + 1, 0, none⟩ = some (.int .i64 0) := by simp [World.cell?, hs2]
  have z1 : w'.frozen? ⟨w.heap.size, 0, none⟩ = false := by simp [World.frozen?, hs1]
  have z2 : w'.frozen? ⟨w.heap.size + 1, 0, none⟩ = false := by simp [World.frozen?, hs2]
  have hch : ∀ (u1 u2 : Value), Chg (fun k => k = w.heap.size ∨ k = w.heap.size + 1) w' ((w'.setCell ⟨w.heap.size, 0, none⟩ u1).setCell ⟨w.heap.size + 1, 0, none⟩ u2) ∧ ((w'.setCell ⟨w.heap.size, 0, none⟩ u1).setCell ⟨w.heap.size + 1, 0, none⟩ u2).heap.size = w'.heap.size := fun u1 u2 => ⟨((Chg.refl _ w').setCell (.inl (.inl rfl)) u1).setCell (.inl (.inr rfl)) u2, by simp [World.setCell]⟩
  have HT := Lib.hid hT
  have HC := Lib.hid hc
  have HCH := Lib.hid hch
  clear hT hc hs1 hs2 hch
  rcases he with ⟨A, n, c, rfl⟩ | ⟨x, rfl⟩
  · go_wp2
    refine leaves_cons (f := 67) (args := #[.pointer (some ⟨w.heap.size, 0, none⟩), .pointer (some ⟨w.heap.size + 1, 0, none⟩)]) (by simp) (by simp [go_sem]) ?_
    refine (tr_bytes_idle _ _ _).mono ?_
    rintro e u' w'' ⟨rfl, rfl, rfl⟩
    simp [Leaves, settle, results, Try.results44, go_sem, c1, c2]
    refine ⟨_, _, _, HT.out, HN.out, by simp, HC.out, .inl ⟨_, rfl, rfl⟩, (HCH.out _ _).1, by first | rfl | exact (HCH.out _ _).2⟩
  · have c3 : (w'.setCell ⟨w.heap.size, 0, none⟩ (.slice none 0 0)).cell? ⟨w.heap.size + 1, 0, none⟩ = some (.int .i64 0) := by
      rw [World.cell?_of_block (Below.heap_setCell _ _ _ _ (by simp))]
      exact c2
    refine leaves_cons (f := 67) (args := #[.pointer (some ⟨w.heap.size, 0, none⟩), .pointer (some ⟨w.heap.size + 1, 0, none⟩)]) (by simp) (by simp [go_sem]) ?_
    refine (tr_bytes_caught _ _ x [] w' _ _ c1 c3 z1 z2).mono ?_
    rintro e u' w'' ⟨rfl, rfl, rfl⟩
    simp [Leaves, settle, results, Try.results44, go_sem, c1, c2]
    refine ⟨_, _, _, HT.out, HN.out, by simp, HC.out, .inr ⟨_, rfl, rfl⟩, (HCH.out _ _).1, by first | rfl | exact (HCH.out _ _).2⟩

theorem tr_bytes_out {r : Res (List U8)} (f : Nat) (cap : Array Value) (hcf : ∀ W, (callFunc f cap).run Try.prog W = .ok (.enter f cap) W) (w : World)
    (h : ∀ W, New w W → Calls Try.prog f cap W (OutP (VO e8 5) r W)) : Calls Try.prog 44 #[.func (.func f) #[] cap] w (OutT (.slice none 0 0) (VO e8 5) r w) := by
  refine (tr_bytes f cap hcf w (fun _ => False) (fun _ h => h.elim) (fun e W w' => OutP (VO e8 5) r W e w') (fun W hW _ => (h W hW).mono fun e w' ho => ?_)).mono ?_
  · refine ⟨ho, ho.1.chg _, ?_⟩
    obtain ⟨_, ⟨a, v, _, rfl, hv⟩ | ⟨x, _, rfl⟩⟩ := ho.split
    · obtain ⟨A, c, rfl, _⟩ := hv; exact .inl ⟨A, _, c, rfl⟩
    · exact .inr ⟨x, rfl⟩
  · rintro e w'' ⟨e0, W, w', ho, hW, hs, hc, ht, hc2, hsz⟩
    have hn : New w w'' := by
      refine Below.trans (hW.trans ho.1) (hc2.below (hW.trans ho.1).size (fun k hk => by omega))
    rcases ht with ⟨v, rfl, rfl⟩ | ⟨x, rfl, rfl⟩
    · obtain ⟨_, ⟨a, v', hr, he, hv⟩ | ⟨x, _, he⟩⟩ := ho.split
      · injection he with he
        subst he
        exact .yes hr.out hn (hv.later hs hc2)
      · cases he
    · obtain ⟨_, ⟨a, v', hr, he, hv⟩ | ⟨x', hr, he⟩⟩ := ho.split
      · cases he
      · injection he with he
        injection he with he
        injection he with he
        injection he with _ he
        injection he with _ he
        subst he
        exact .no hr.out hn
theorem tr_u64_idle (p q : Addr) (w : World) :
    CallsD Try.prog 68 #[.pointer (some p), .pointer (some q)] .returning w fun e u' w' => e = .returned (.tuple #[]) ∧ u' = .returning ∧ w' = w := by
  refine callsD_of_wpS Try.func68 rfl fun c₀ cs hu => ?_
  apply wpS_seq
  apply wpS_region
  simp [wpOpsS, go_sem, recoverD, hu, Try.ntmps68, Exit.thenS]
  refine wpS_of_wp ?_
  simp only [List.size_toArray, List.length_cons, List.length_nil, Nat.reduceAdd, Nat.reduceSub, Array.replicate_succ, Array.replicate_zero, List.push_toArray, List.append_toArray, List.nil_append, List.cons_append, List.setIfInBounds_toArray, List.set_cons_succ, List.set_cons_zero]
  go_wp2
  cases c₀
  simp_all [bodyPostS, results, Try.results68]

theorem tr_u64_caught (p q : Addr) (x : Int) (older : List PanicEntry) (w : World) (u1 u2 : Value) (hp : w.cell? p = some u1) (hq : (w.setCell p (.int .u64 0)).cell? q = some u2) (fp : w.frozen? p = false) (fq : w.frozen? q = false) :
    CallsD Try.prog 68 #[.pointer (some p), .pointer (some q)] (.panicking ({ v := .iface 29 (.int .i64 x), recovered := false } :: older)) w fun e u' w' =>
      e = .returned (.tuple #[]) ∧ u' = .panicking ({ v := .iface 29 (.int .i64 x), recovered := true } :: older) ∧ w' = (w.setCell p (.int .u64 0)).setCell q (.int .i64 x) := by
  have hta := run_isErrno
  refine callsD_of_wpS Try.func68 rfl fun c₀ cs hu => ?_
  apply wpS_seq
  apply wpS_region
  simp [wpOpsS, go_sem, recoverD, hu, Try.ntmps68, Exit.thenS]
  refine wpS_of_wp ?_
  simp only [List.size_toArray, List.length_cons, List.length_nil, Nat.reduceAdd, Nat.reduceSub, Array.replicate_succ, Array.replicate_zero, List.push_toArray, List.append_toArray, List.nil_append, List.cons_append, List.setIfInBounds_toArray, List.set_cons_succ, List.set_cons_zero]
  go_wp2
  simp [bodyPostS, results, Try.results68]

theorem tr_u64 (f : Nat) (cap : Array Value) (hcf : ∀ W, (callFunc f cap).run Try.prog W = .ok (.enter f cap) W) (w : World) (M : Nat → Prop) (hM : ∀ k, M k → k < w.heap.size) (T : Ending → World → World → Prop)
    (h : ∀ W, New w W → w.heap.size + 2 ≤ W.heap.size → Calls Try.prog f cap W fun e w' => T e W w' ∧ Chg M W w' ∧ ((∃ n, e = .returned (.int .u64 n)) ∨ ∃ x, e = boom x)) :
    Calls Try.prog 48 #[.func (.func f) #[] cap] w fun e w'' => ∃ e0 W w', T e0 W w' ∧ New w W ∧ w.heap.size + 2 ≤ W.heap.size ∧ Chg M W w' ∧ tried (.int .u64 0) e0 e ∧ Chg (fun k => k = w.heap.size ∨ k = w.heap.size + 1) w' w'' ∧ w''.heap.size = w'.heap.size := by
  have hmf : ∀ (fn : Fn) (first cap : Array Value) (w : World), (Instr.makeFunc fn first cap).run Try.prog w = .ok (.func fn first cap) w := fun _ _ _ _ => rfl
  have HH := Lib.hid h
  have HMM := Lib.hid hM
  clear h hM
  go_enter_defers Try.func48, Try.ntmps48
  have hN : New w ((w.alloc (.cells #[.int .u64 0] 26)).alloc (.cells #[.int .i64 0] 29)) := ((Below.refl _ _).alloc (Nat.le_refl _) _).alloc (by simp) _
  have HN := Lib.hid hN
  have hb1 : ((w.alloc (.cells #[.int .u64 0] 26)).alloc (.cells #[.int .i64 0] 29)).heap[w.heap.size]? = some (.cells #[.int .u64 0] 26 (0, 0)) := by
    rw [Below.heap_alloc _ _ _ (by simp)]
    exact heap_alloc_new w _
  have hb2 : ((w.alloc (.cells #[.int .u64 0] 26)).alloc (.cells #[.int .i64 0] 29)).heap[w.heap.size + 1]? = some (.cells #[.int .i64 0] 29 (0, 0)) := by
    have := heap_alloc_new (w.alloc (.cells #[.int .u64 0] 26)) (.cells #[.int .i64 0] 29)
    simpa using this
  have HB1 := Lib.hid hb1
  have HB2 := Lib.hid hb2
  clear hN hb1 hb2
  go_wp2_with fail
  refine (HH.out _ HN.out (by simp)).mono ?_
  rintro e w' ⟨hT, hc, he⟩
  have hs1 : w'.heap[w.heap.size]? = some (.cells #[.int .u64 0] 26 (0, 0)) := (hc.block _ (by simp; omega) (fun hm => absurd (HMM.out _ hm) (by omega))).trans HB1.out
  have hs2 : w'.heap[w.heap.size + 1]? = some (.cells #[.int .i64 0] 29 (0, 0)) := (hc.block _ (by simp) (fun hm => absurd (HMM.out _ hm) (by omega))).trans HB2.out
  have c1 : w'.cell? ⟨w.heap.size, 0, none⟩ = some (.int .u64 0) := by simp [World.cell?, hs1]
  have c2 : w'.cell? ⟨w.heap.size + 1, 0, none⟩ = some (.int .i64 0) := by simp [World.cell?, hs2]
  have z1 : w'.frozen? ⟨w.heap.size, 0, none⟩ = false := by simp [World.frozen?, hs1]
  have z2 : w'.frozen? ⟨w.heap.size + 1, 0, none⟩ = false := by simp [World.frozen?, hs2]
  have hch : ∀ (u1 u2 : Value), Chg (fun k => k = w.heap.size ∨ k = w.heap.size + 1) w' ((w'.setCell ⟨w.heap.size, 0, none⟩ u1).setCell ⟨w.heap.size + 1, 0, none⟩ u2) ∧ ((w'.setCell ⟨w.heap.size, 0, none⟩ u1).setCell ⟨w.heap.size + 1, 0, none⟩ u2).heap.size = w'.heap.size := fun u1 u2 => ⟨((Chg.refl _ w').setCell (.inl (.inl rfl)) u1).setCell (.inl (.inr rfl)) u2, by simp [World.setCell]⟩
  have HT := Lib.hid hT
  have HC := Lib.hid hc
  have HCH := Lib.hid hch
  clear hT hc hs1 hs2 hch
  rcases he with ⟨n, rfl⟩ | ⟨x, rfl⟩
  · go_wp2
    refine leaves_cons (f := 68) (args := #[.pointer (some ⟨w.heap.size, 0, none⟩), .pointer (some ⟨w.heap.size + 1, 0, none⟩)]) (by simp) (by simp [go_sem]) ?_
    refine (tr_u64_idle _ _ _).mono ?_
    rintro e u' w'' ⟨rfl, rfl, rfl⟩
    simp [Leaves, settle, results, Try.results48, go_sem, c1, c2]
    refine ⟨_, _, _, HT.out, HN.out, by simp, HC.out, .inl ⟨_, rfl, rfl⟩, (HCH.out _ _).1, by first | rfl | exact (HCH.out _ _).2⟩
  · have c3 : (w'.setCell ⟨w.heap.size, 0, none⟩ (.int .u64 0)).cell? ⟨w.heap.size + 1, 0, none⟩ = some (.int .i64 0) := by
      rw [World.cell?_of_block (Below.heap_setCell _ _ _ _ (by simp))]
      exact c2
    refine leaves_cons (f := 68) (args := #[.pointer (some ⟨w.heap.size, 0, none⟩), .pointer (some ⟨w.heap.size + 1, 0, none⟩)]) (by simp) (by simp [go_sem]) ?_
    refine (tr_u64_caught _ _ x [] w' _ _ c1 c3 z1 z2).mono ?_
    rintro e u' w'' ⟨rfl, rfl, rfl⟩
    simp [Leaves, settle, results, Try.results48, go_sem, c1, c2]
    refine ⟨_, _, _, HT.out, HN.out, by simp, HC.out, .inr ⟨_, rfl, rfl⟩, (HCH.out _ _).1, by first | rfl | exact (HCH.out _ _).2⟩

theorem tr_u64_out {r : Res (Int)} (f : Nat) (cap : Array Value) (hcf : ∀ W, (callFunc f cap).run Try.prog W = .ok (.enter f cap) W) (w : World)
    (h : ∀ W, New w W → Calls Try.prog f cap W (OutP (VN .u64) r W)) : Calls Try.prog 48 #[.func (.func f) #[] cap] w (OutT (.int .u64 0) (VN .u64) r w) := by
  refine (tr_u64 f cap hcf w (fun _ => False) (fun _ h => h.elim) (fun e W w' => OutP (VN .u64) r W e w') (fun W hW _ => (h W hW).mono fun e w' ho => ?_)).mono ?_
  · refine ⟨ho, ho.1.chg _, ?_⟩
    obtain ⟨_, ⟨a, v, _, rfl, hv⟩ | ⟨x, _, rfl⟩⟩ := ho.split
    · obtain rfl : v = _ := hv; exact .inl ⟨_, rfl⟩
    · exact .inr ⟨x, rfl⟩
  · rintro e w'' ⟨e0, W, w', ho, hW, hs, hc, ht, hc2, hsz⟩
    have hn : New w w'' := by
      refine Below.trans (hW.trans ho.1) (hc2.below (hW.trans ho.1).size (fun k hk => by omega))
    rcases ht with ⟨v, rfl, rfl⟩ | ⟨x, rfl, rfl⟩
    · obtain ⟨_, ⟨a, v', hr, he, hv⟩ | ⟨x, _, he⟩⟩ := ho.split
      · injection he with he
        subst he
        exact .yes hr.out hn (hv.later hs hc2)
      · cases he
    · obtain ⟨_, ⟨a, v', hr, he, hv⟩ | ⟨x', hr, he⟩⟩ := ho.split
      · cases he
      · injection he with he
        injection he with he
        injection he with he
        injection he with _ he
        injection he with _ he
        subst he
        exact .no hr.out hn
theorem tr_int_idle (p q : Addr) (w : World) :
    CallsD Try.prog 69 #[.pointer (some p), .pointer (some q)] .returning w fun e u' w' => e = .returned (.tuple #[]) ∧ u' = .returning ∧ w' = w := by
  refine callsD_of_wpS Try.func69 rfl fun c₀ cs hu => ?_
  apply wpS_seq
  apply wpS_region
  simp [wpOpsS, go_sem, recoverD, hu, Try.ntmps69, Exit.thenS]
  refine wpS_of_wp ?_
  simp only [List.size_toArray, List.length_cons, List.length_nil, Nat.reduceAdd, Nat.reduceSub, Array.replicate_succ, Array.replicate_zero, List.push_toArray, List.append_toArray, List.nil_append, List.cons_append, List.setIfInBounds_toArray, List.set_cons_succ, List.set_cons_zero]
  go_wp2
  cases c₀
  simp_all [bodyPostS, results, Try.results69]

theorem tr_int_caught (p q : Addr) (x : Int) (older : List PanicEntry) (w : World) (u1 u2 : Value) (hp : w.cell? p = some u1) (hq : (w.setCell p (.int .i64 0)).cell? q = some u2) (fp : w.frozen? p = false) (fq : w.frozen? q = false) :
    CallsD Try.prog 69 #[.pointer (some p), .pointer (some q)] (.panicking ({ v := .iface 29 (.int .i64 x), recovered := false } :: older)) w fun e u' w' =>
      e = .returned (.tuple #[]) ∧ u' = .panicking ({ v := .iface 29 (.int .i64 x), recovered := true } :: older) ∧ w' = (w.setCell p (.int .i64 0)).setCell q (.int .i64 x) := by
  have hta := run_isErrno
  refine callsD_of_wpS Try.func69 rfl fun c₀ cs hu => ?_
  apply wpS_seq
  apply wpS_region
  simp [wpOpsS, go_sem, recoverD, hu, Try.ntmps69, Exit.thenS]
  refine wpS_of_wp ?_
  simp only [List.size_toArray, List.length_cons, List.length_nil, Nat.reduceAdd, Nat.reduceSub, Array.replicate_succ, Array.replicate_zero, List.push_toArray, List.append_toArray, List.nil_append, List.cons_append, List.setIfInBounds_toArray, List.set_cons_succ, List.set_cons_zero]
  go_wp2
  simp [bodyPostS, results, Try.results69]

theorem tr_int (f : Nat) (cap : Array Value) (hcf : ∀ W, (callFunc f cap).run Try.prog W = .ok (.enter f cap) W) (w : World) (M : Nat → Prop) (hM : ∀ k, M k → k < w.heap.size) (T : Ending → World → World → Prop)
    (h : ∀ W, New w W → w.heap.size + 2 ≤ W.heap.size → Calls Try.prog f cap W fun e w' => T e W w' ∧ Chg M W w' ∧ ((∃ n, e = .returned (.int .i64 n)) ∨ ∃ x, e = boom x)) :
    Calls Try.prog 56 #[.func (.func f) #[] cap] w fun e w'' => ∃ e0 W w', T e0 W w' ∧ New w W ∧ w.heap.size + 2 ≤ W.heap.size ∧ Chg M W w' ∧ tried (.int .i64 0) e0 e ∧ Chg (fun k => k = w.heap.size ∨ k = w.heap.size + 1) w' w'' ∧ w''.heap.size = w'.heap.size := by
  have hmf : ∀ (fn : Fn) (first cap : Array Value) (w : World), (Instr.makeFunc fn first cap).run Try.prog w = .ok (.func fn first cap) w := fun _ _ _ _ => rfl
  have HH := Lib.hid h
  have HMM := Lib.hid hM
  clear h hM
  go_enter_defers Try.func56, Try.ntmps56
  have hN : New w ((w.alloc (.cells #[.int .i64 0] 3)).alloc (.cells #[.int .i64 0] 29)) := ((Below.refl _ _).alloc (Nat.le_refl _) _).alloc (by simp) _
  have HN := Lib.hid hN
  have hb1 : ((w.alloc (.cells #[.int .i64 0] 3)).alloc (.cells #[.int .i64 0] 29)).heap[w.heap.size]? = some (.cells #[.int .i64 0] 3 (0, 0)) := by
    rw [Below.heap_alloc _ _ _ (by simp)]
    exact heap_alloc_new w _
  have hb2 : ((w.alloc (.cells #[.int .i64 0] 3)).alloc (.cells #[.int .i64 0] 29)).heap[w.heap.size + 1]? = some (.cells #[.int .i64 0] 29 (0, 0)) := by
    have := heap_alloc_new (w.alloc (.cells #[.int .i64 0] 3)) (.cells #[.int .i64 0] 29)
    simpa using this
  have HB1 := Lib.hid hb1
  have HB2 := Lib.hid hb2
  clear hN hb1 hb2
  go_wp2_with fail
  refine (HH.out _ HN.out (by simp)).mono ?_
  rintro e w' ⟨hT, hc, he⟩
  have hs1 : w'.heap[w.heap.size]? = some (.cells #[.int .i64 0] 3 (0, 0)) := (hc.block _ (by simp; omega) (fun hm => absurd (HMM.out _ hm) (by omega))).trans HB1.out
  have hs2 : w'.heap[w.heap.size + 1]? = some (.cells #[.int .i64 0] 29 (0, 0)) := (hc.block _ (by simp) (fun hm => absurd (HMM.out _ hm) (by omega))).trans HB2.out
  have c1 : w'.cell? ⟨w.heap.size, 0, none⟩ = some (.int .i64 0) := by simp [World.cell?, hs1]
  have c2 : w'.cell? ⟨w.heap.size + 1, 0, none⟩ = some (.int .i64 0) := by simp [World.cell?, hs2]
  have z1 : w'.frozen? ⟨w.heap.size, 0, none⟩ = false := by simp [World.frozen?, hs1]
  have z2 : w'.frozen? ⟨w.heap.size + 1, 0, none⟩ = false := by simp [World.frozen?, hs2]
  have hch : ∀ (u1 u2 : Value), Chg (fun k => k = w.heap.size ∨ k = w.heap.size + 1) w' ((w'.setCell ⟨w.heap.size, 0, none⟩ u1).setCell ⟨w.heap.size + 1, 0, none⟩ u2) ∧ ((w'.setCell ⟨w.heap.size, 0, none⟩ u1).setCell ⟨w.heap.size + 1, 0, none⟩ u2).heap.size = w'.heap.size := fun u1 u2 => ⟨((Chg.refl _ w').setCell (.inl (.inl rfl)) u1).setCell (.inl (.inr rfl)) u2, by simp [World.setCell]⟩
  have HT := Lib.hid hT
  have HC := Lib.hid hc
  have HCH := Lib.hid hch
  clear hT hc hs1 hs2 hch
  rcases he with ⟨n, rfl⟩ | ⟨x, rfl⟩
  · go_wp2
    refine leaves_cons (f := 69) (args := #[.pointer (some ⟨w.heap.size, 0, none⟩), .pointer (some ⟨w.heap.size + 1, 0, none⟩)]) (by simp) (by simp [go_sem]) ?_
    refine (tr_int_idle _ _ _).mono ?_
    rintro e u' w'' ⟨rfl, rfl, rfl⟩
    simp [Leaves, settle, results, Try.results56, go_sem, c1, c2]
    refine ⟨_, _, _, HT.out, HN.out, by simp, HC.out, .inl ⟨_, rfl, rfl⟩, (HCH.out _ _).1, by first | rfl | exact (HCH.out _ _).2⟩
  · have c3 : (w'.setCell ⟨w.heap.size, 0, none⟩ (.int .i64 0)).cell? ⟨w.heap.size + 1, 0, none⟩ = some (.int .i64 0) := by
      rw [World.cell?_of_block (Below.heap_setCell _ _ _ _ (by simp))]
      exact c2
    refine leaves_cons (f := 69) (args := #[.pointer (some ⟨w.heap.size, 0, none⟩), .pointer (some ⟨w.heap.size + 1, 0, none⟩)]) (by simp) (by simp [go_sem]) ?_
    refine (tr_int_caught _ _ x [] w' _ _ c1 c3 z1 z2).mono ?_
    rintro e u' w'' ⟨rfl, rfl, rfl⟩
    simp [Leaves, settle, results, Try.results56, go_sem, c1, c2]
    refine ⟨_, _, _, HT.out, HN.out, by simp, HC.out, .inr ⟨_, rfl, rfl⟩, (HCH.out _ _).1, by first | rfl | exact (HCH.out _ _).2⟩

theorem tr_int_out {r : Res (Int)} (f : Nat) (cap : Array Value) (hcf : ∀ W, (callFunc f cap).run Try.prog W = .ok (.enter f cap) W) (w : World)
    (h : ∀ W, New w W → Calls Try.prog f cap W (OutP (VN .i64) r W)) : Calls Try.prog 56 #[.func (.func f) #[] cap] w (OutT (.int .i64 0) (VN .i64) r w) := by
  refine (tr_int f cap hcf w (fun _ => False) (fun _ h => h.elim) (fun e W w' => OutP (VN .i64) r W e w') (fun W hW _ => (h W hW).mono fun e w' ho => ?_)).mono ?_
  · refine ⟨ho, ho.1.chg _, ?_⟩
    obtain ⟨_, ⟨a, v, _, rfl, hv⟩ | ⟨x, _, rfl⟩⟩ := ho.split
    · obtain rfl : v = _ := hv; exact .inl ⟨_, rfl⟩
    · exact .inr ⟨x, rfl⟩
  · rintro e w'' ⟨e0, W, w', ho, hW, hs, hc, ht, hc2, hsz⟩
    have hn : New w w'' := by
      refine Below.trans (hW.trans ho.1) (hc2.below (hW.trans ho.1).size (fun k hk => by omega))
    rcases ht with ⟨v, rfl, rfl⟩ | ⟨x, rfl, rfl⟩
    · obtain ⟨_, ⟨a, v', hr, he, hv⟩ | ⟨x, _, he⟩⟩ := ho.split
      · injection he with he
        subst he
        exact .yes hr.out hn (hv.later hs hc2)
      · cases he
    · obtain ⟨_, ⟨a, v', hr, he, hv⟩ | ⟨x', hr, he⟩⟩ := ho.split
      · cases he
      · injection he with he
        injection he with he
        injection he with he
        injection he with _ he
        injection he with _ he
        subst he
        exact .no hr.out hn
theorem tr_u64s_idle (p q : Addr) (w : World) :
    CallsD Try.prog 70 #[.pointer (some p), .pointer (some q)] .returning w fun e u' w' => e = .returned (.tuple #[]) ∧ u' = .returning ∧ w' = w := by
  refine callsD_of_wpS Try.func70 rfl fun c₀ cs hu => ?_
  apply wpS_seq
  apply wpS_region
  simp [wpOpsS, go_sem, recoverD, hu, Try.ntmps70, Exit.thenS]
  refine wpS_of_wp ?_
  simp only [List.size_toArray, List.length_cons, List.length_nil, Nat.reduceAdd, Nat.reduceSub, Array.replicate_succ, Array.replicate_zero, List.push_toArray, List.append_toArray, List.nil_append, List.cons_append, List.setIfInBounds_toArray, List.set_cons_succ, List.set_cons_zero]
  go_wp2
  cases c₀
  simp_all [bodyPostS, results, Try.results70]

theorem tr_u64s_caught (p q : Addr) (x : Int) (older : List PanicEntry) (w : World) (u1 u2 : Value) (hp : w.cell? p = some u1) (hq : (w.setCell p (.slice none 0 0)).cell? q = some u2) (fp : w.frozen? p = false) (fq : w.frozen? q = false) :
    CallsD Try.prog 70 #[.pointer (some p), .pointer (some q)] (.panicking ({ v := .iface 29 (.int .i64 x), recovered := false } :: older)) w fun e u' w' =>
      e = .returned (.tuple #[]) ∧ u' = .panicking ({ v := .iface 29 (.int .i64 x), recovered := true } :: older) ∧ w' = (w.setCell p (.slice none 0 0)).setCell q (.int .i64 x) := by
  have hta := run_isErrno
  refine callsD_of_wpS Try.func70 rfl fun c₀ cs hu => ?_
  apply wpS_seq
  apply wpS_region
  simp [wpOpsS, go_sem, recoverD, hu, Try.ntmps70, Exit.thenS]
  refine wpS_of_wp ?_
  simp only [List.size_toArray, List.length_cons, List.length_nil, Nat.reduceAdd, Nat.reduceSub, Array.replicate_succ, Array.replicate_zero, List.push_toArray, List.append_toArray, List.nil_append, List.cons_append, List.setIfInBounds_toArray, List.set_cons_succ, List.set_cons_zero]
  go_wp2
  simp [bodyPostS, results, Try.results70]

theorem tr_u64s (f : Nat) (cap : Array Value) (hcf : ∀ W, (callFunc f cap).run Try.prog W = .ok (.enter f cap) W) (w : World) (M : Nat → Prop) (hM : ∀ k, M k → k < w.heap.size) (T : Ending → World → World → Prop)
    (h : ∀ W, New w W → w.heap.size + 2 ≤ W.heap.size → Calls Try.prog f cap W fun e w' => T e W w' ∧ Chg M W w' ∧ ((∃ A n c, e = .returned (.slice A n c)) ∨ ∃ x, e = boom x)) :
    Calls Try.prog 60 #[.func (.func f) #[] cap] w fun e w'' => ∃ e0 W w', T e0 W w' ∧ New w W ∧ w.heap.size + 2 ≤ W.heap.size ∧ Chg M W w' ∧ tried (.slice none 0 0) e0 e ∧ Chg (fun k => k = w.heap.size ∨ k = w.heap.size + 1) w' w'' ∧ w''.heap.size = w'.heap.size := by
  have hmf : ∀ (fn : Fn) (first cap : Array Value) (w : World), (Instr.makeFunc fn first cap).run Try.prog w = .ok (.func fn first cap) w := fun _ _ _ _ => rfl
  have HH := Lib.hid h
  have HMM := Lib.hid hM
  clear h hM
  go_enter_defers Try.func60, Try.ntmps60
  have hN : New w ((w.alloc (.cells #[.slice none 0 0] 51)).alloc (.cells #[.int .i64 0] 29)) := ((Below.refl _ _).alloc (Nat.le_refl _) _).alloc (by simp) _
  have HN := Lib.hid hN
  have hb1 : ((w.alloc (.cells #[.slice none 0 0] 51)).alloc (.cells #[.int .i64 0] 29)).heap[w.heap.size]? = some (.cells #[.slice none 0 0] 51 (0, 0)) := by
    rw [Below.heap_alloc _ _ _ (by simp)]
    exact heap_alloc_new w _
  have hb2 : ((w.alloc (.cells #[.slice none 0 0] 51)).alloc (.cells #[.int .i64 0] 29)).heap[w.heap.size + 1]? = some (.cells #[.int .i64 0] 29 (0, 0)) := by
    have := heap_alloc_new (w.alloc (.cells #[.slice none 0 0] 51)) (.cells #[.int .i64 0] 29)
    simpa using this
  have HB1 := Lib.hid hb1
  have HB2 := Lib.hid hb2
  clear hN hb1 hb2
  go_wp2_with fail
  refine (HH.out _ HN.out (by simp)).mono ?_
  rintro e w' ⟨hT, hc, he⟩
  have hs1 : w'.heap[w.heap.size]? = some (.cells #[.slice none 0 0] 51 (0, 0)) := (hc.block _ (by simp; omega) (fun hm => absurd (HMM.out _ hm) (by omega))).trans HB1.out
  have hs2 : w'.heap[w.heap.size + 1]? = some (.cells #[.int .i64 0] 29 (0, 0)) := (hc.block _ (by simp) (fun hm => absurd (HMM.out _ hm) (by omega))).trans HB2.out
  have c1 : w'.cell? ⟨w.heap.size, 0, none⟩ = some (.slice none 0 0) := by simp [World.cell?, hs1]
  have c2 : w'.cell? ⟨w.heap.size + 1, 0, none⟩ = some (.int .i64 0) := by simp [World.cell?, hs2]
  have z1 : w'.frozen? ⟨w.heap.size, 0, none⟩ = false := by simp [World.frozen?, hs1]
  have z2 : w'.frozen? ⟨w.heap.size + 1, 0, none⟩ = false := by simp [World.frozen?, hs2]
  have hch : ∀ (u1 u2 : Value), Chg (fun k => k = w.heap.size ∨ k = w.heap.size + 1) w' ((w'.setCell ⟨w.heap.size, 0, none⟩ u1).setCell ⟨w.heap.size + 1, 0, none⟩ u2) ∧ ((w'.setCell ⟨w.heap.size, 0, none⟩ u1).setCell ⟨w.heap.size + 1, 0, none⟩ u2).heap.size = w'.heap.size := fun u1 u2 => ⟨((Chg.refl _ w').setCell (.inl (.inl rfl)) u1).setCell (.inl (.inr rfl)) u2, by simp [World.setCell]⟩
  have HT := Lib.hid hT
  have HC := Lib.hid hc
  have HCH := Lib.hid hch
  clear hT hc hs1 hs2 hch
  rcases he with ⟨A, n, c, rfl⟩ | ⟨x, rfl⟩
  · go_wp2
    refine leaves_cons (f := 70) (args := #[.pointer (some ⟨w.heap.size, 0, none⟩), .pointer (some ⟨w.heap.size + 1, 0, none⟩)]) (by simp) (by simp [go_sem]) ?_
    refine (tr_u64s_idle _ _ _).mono ?_
    rintro e u' w'' ⟨rfl, rfl, rfl⟩
    simp [Leaves, settle, results, Try.results60, go_sem, c1, c2]
    refine ⟨_, _, _, HT.out, HN.out, by simp, HC.out, .inl ⟨_, rfl, rfl⟩, (HCH.out _ _).1, by first | rfl | exact (HCH.out _ _).2⟩
  · have c3 : (w'.setCell ⟨w.heap.size, 0, none⟩ (.slice none 0 0)).cell? ⟨w.heap.size + 1, 0, none⟩ = some (.int .i64 0) := by
      rw [World.cell?_of_block (Below.heap_setCell _ _ _ _ (by simp))]
      exact c2
    refine leaves_cons (f := 70) (args := #[.pointer (some ⟨w.heap.size, 0, none⟩), .pointer (some ⟨w.heap.size + 1, 0, none⟩)]) (by simp) (by simp [go_sem]) ?_
    refine (tr_u64s_caught _ _ x [] w' _ _ c1 c3 z1 z2).mono ?_
    rintro e u' w'' ⟨rfl, rfl, rfl⟩
    simp [Leaves, settle, results, Try.results60, go_sem, c1, c2]
    refine ⟨_, _, _, HT.out, HN.out, by simp, HC.out, .inr ⟨_, rfl, rfl⟩, (HCH.out _ _).1, by first | rfl | exact (HCH.out _ _).2⟩

theorem tr_u64s_out {r : Res (List U64)} (f : Nat) (cap : Array Value) (hcf : ∀ W, (callFunc f cap).run Try.prog W = .ok (.enter f cap) W) (w : World)
    (h : ∀ W, New w W → Calls Try.prog f cap W (OutP (VO e64 26) r W)) : Calls Try.prog 60 #[.func (.func f) #[] cap] w (OutT (.slice none 0 0) (VO e64 26) r w) := by
  refine (tr_u64s f cap hcf w (fun _ => False) (fun _ h => h.elim) (fun e W w' => OutP (VO e64 26) r W e w') (fun W hW _ => (h W hW).mono fun e w' ho => ?_)).mono ?_
  · refine ⟨ho, ho.1.chg _, ?_⟩
    obtain ⟨_, ⟨a, v, _, rfl, hv⟩ | ⟨x, _, rfl⟩⟩ := ho.split
    · obtain ⟨A, c, rfl, _⟩ := hv; exact .inl ⟨A, _, c, rfl⟩
    · exact .inr ⟨x, rfl⟩
  · rintro e w'' ⟨e0, W, w', ho, hW, hs, hc, ht, hc2, hsz⟩
    have hn : New w w'' := by
      refine Below.trans (hW.trans ho.1) (hc2.below (hW.trans ho.1).size (fun k hk => by omega))
    rcases ht with ⟨v, rfl, rfl⟩ | ⟨x, rfl, rfl⟩
    · obtain ⟨_, ⟨a, v', hr, he, hv⟩ | ⟨x, _, he⟩⟩ := ho.split
      · injection he with he
        subst he
        exact .yes hr.out hn (hv.later hs hc2)
      · cases he
    · obtain ⟨_, ⟨a, v', hr, he, hv⟩ | ⟨x', hr, he⟩⟩ := ho.split
      · cases he
      · injection he with he
        injection he with he
        injection he with he
        injection he with _ he
        injection he with _ he
        subst he
        exact .no hr.out hn
end Go.Proofs.Ytcbijmlkkdpheaa
