/- Contract of the reader of runs: reads. -/
import Derived.Test.YthihffglkheleaaTn
set_option linter.unusedVariables false
set_option linter.unusedSimpArgs false
namespace Go.Proofs.Ythihffglkheleaa
open Go.RowKit

theorem run_isWrong (W : World) : (Instr.typeAssert (.iface 90 (.agg #[])) 20 90 true).run Try.prog W = .ok (.tuple #[.agg #[], .bool true]) W := by kernel_rfl

theorem rd_idle (q : Addr) (w : World) :
    CallsD Try.prog 56 #[.pointer (some q)] .returning w fun e u' w' => e = .returned (.tuple #[]) ∧ u' = .returning ∧ w' = w := by
  refine callsD_of_wpS Try.func56 rfl fun c₀ cs hu => ?_
  apply wpS_seq
  apply wpS_region
  simp [wpOpsS, go_sem, recoverD, hu, Try.ntmps56, Exit.thenS]
  refine wpS_of_wp ?_
  simp only [List.size_toArray, List.length_cons, List.length_nil, Nat.reduceAdd, Nat.reduceSub, Array.replicate_succ, Array.replicate_zero, List.push_toArray, List.append_toArray, List.nil_append, List.cons_append, List.setIfInBounds_toArray, List.set_cons_succ, List.set_cons_zero]
  go_wp2
  cases c₀
  simp_all [bodyPostS, results, Try.results56]

theorem rd_caught (q : Nat) (older : List PanicEntry) (w : World) (u : Value) (hq : (w.alloc (.cells #[] 90)).cell? ⟨q, 0, none⟩ = some u) (fq : (w.alloc (.cells #[] 90)).frozen? ⟨q, 0, none⟩ = false) :
    CallsD Try.prog 56 #[.pointer (some ⟨q, 0, none⟩)] (.panicking ({ v := .iface 90 (.agg #[]), recovered := false } :: older)) w fun e u' w' =>
      e = .returned (.tuple #[]) ∧ u' = .panicking ({ v := .iface 90 (.agg #[]), recovered := true } :: older) ∧ w' = (w.alloc (.cells #[] 90)).setCell ⟨q, 0, none⟩ (.bool false) := by
  have hta := run_isWrong
  refine callsD_of_wpS Try.func56 rfl fun c₀ cs hu => ?_
  apply wpS_seq
  apply wpS_region
  simp [wpOpsS, go_sem, recoverD, hu, Try.ntmps56, Exit.thenS]
  refine wpS_of_wp ?_
  simp only [List.size_toArray, List.length_cons, List.length_nil, Nat.reduceAdd, Nat.reduceSub, Array.replicate_succ, Array.replicate_zero, List.push_toArray, List.append_toArray, List.nil_append, List.cons_append, List.setIfInBounds_toArray, List.set_cons_succ, List.set_cons_zero]
  go_wp2
  simp [bodyPostS, results, Try.results56]

theorem rn_reads (f : Nat) (cap : Array Value) (hcf : ∀ W, (callFunc f cap).run Try.prog W = .ok (.enter f cap) W) (v0 : Value) (w : World) (M : Nat → Prop) (hM : ∀ k, M k → k < w.heap.size) (T : Ending → World → World → Prop)
    (h : ∀ W, New w W → w.heap.size + 1 ≤ W.heap.size → Calls Try.prog f cap W fun e w' => T e W w' ∧ Chg M W w' ∧ (e = .returned (.tuple #[]) ∨ e = boomW)) :
    Calls Try.prog 32 #[v0, .func (.func f) #[] cap] w fun e w'' => ∃ e0 W w', T e0 W w' ∧ New w W ∧ Chg M W w' ∧ ((e0 = .returned (.tuple #[]) ∧ e = .returned (.bool true)) ∨ (e0 = boomW ∧ e = .returned (.bool false))) ∧ Chg (fun k => k = w.heap.size) w' w'' := by
  have hmf := hmf
  have HH := Lib.hid h
  have HMM := Lib.hid hM
  clear h hM
  go_enter_defers Try.func32, Try.ntmps32
  have hN := new_alloc w (.cells #[.bool false] 4)
  have HN := Lib.hid hN
  have HB1 := Lib.hid (Box.new w 4 (.bool false))
  clear hN
  go_wp2_with fail
  refine (HH.out _ HN.out (by simp)).mono ?_
  rintro e w' ⟨hT, hc, he⟩
  have hb := HB1.out.chg hc (fun hm => absurd (HMM.out _ hm) (by omega))
  have c1 := hb.cell
  have z1 := hb.free
  have hch : ∀ u : Value, Chg (fun k => k = w.heap.size) w' (w'.setCell ⟨w.heap.size, 0, none⟩ u) := fun u => (Chg.refl (fun k => k = w.heap.size) w').setCell (p := ⟨w.heap.size, 0, none⟩) (.inl rfl) u
  have hb2 := hb.alloc (.cells #[] 90)
  have hch2 : ∀ u : Value, Chg (fun k => k = w.heap.size) w' ((w'.alloc (.cells #[] 90)).setCell ⟨w.heap.size, 0, none⟩ u) := fun u => ((Chg.refl (fun k => k = w.heap.size) w').alloc _).setCell (p := ⟨w.heap.size, 0, none⟩) (.inl rfl) u
  have HT := Lib.hid hT
  have HC := Lib.hid hc
  have HCH := Lib.hid hch
  have HCH2 := Lib.hid hch2
  have HB := Lib.hid hb
  have HB2 := Lib.hid hb2
  clear hT hc hch hch2 hb hb2
  rcases he with rfl | rfl
  · go_wp2
    refine leaves_cons (f := 56) (args := #[.pointer (some ⟨w.heap.size, 0, none⟩)]) (by simp) (by simp [go_sem]) ?_
    refine (rd_idle _ _).mono ?_
    rintro e u' w'' ⟨rfl, rfl, rfl⟩
    have c2 := (HB.out.set (.bool true)).cell
    simp [Leaves, settle, results, Try.results32, go_sem, c1, c2]
    exact ⟨_, _, _, HT.out, HN.out, HC.out, rfl, HCH.out _⟩
  · refine leaves_cons (f := 56) (args := #[.pointer (some ⟨w.heap.size, 0, none⟩)]) (by simp) (by simp [go_sem]) ?_
    refine (rd_caught _ [] w' (.bool false) HB2.out.cell HB2.out.free).mono ?_
    rintro e u' w'' ⟨rfl, rfl, rfl⟩
    have c2 := (HB2.out.set (.bool false)).cell
    simp [Leaves, settle, results, Try.results32, go_sem, c1, c2]
    exact ⟨_, _, _, HT.out, HN.out, HC.out, rfl, HCH2.out _⟩
end Go.Proofs.Ythihffglkheleaa
