/- slices.Clone and slices.Equal at tiles. -/
import Derived.Test.YthihffglkheleaaTw
import Derived.Test.YthihffglkheleaaBi
set_option linter.unusedVariables false
set_option linter.unusedSimpArgs false
namespace Go.Proofs.Ythihffglkheleaa
open Go.RowKit

theorem RdT.range {lo hi : Nat} {w : World} {A : Option Addr} {c : Nat} {ts : List (List Col)} (h : RdT lo hi w (.slice A ts.length c) ts) (k : Nat) (hk : k < ts.length) :
    ∃ b off, A = some ⟨b, off, none⟩ ∧ lo ≤ b ∧ b < hi ∧ w.rangeAt b (off + k * 256) (tcl ts[k]) := by
  obtain ⟨b, off, hA, h1, h2, hc, ht⟩ := h.at_ k hk
  refine ⟨b, off, hA, h1, h2, fun j v hv => ?_⟩
  have hj : j < 256 := by
    rcases Nat.lt_or_ge j 256 with h | h
    · exact h
    · rw [List.getElem?_eq_none (by rw [tcl_length, ht]; exact h)] at hv; cases hv
  rw [hc j hj, hv]
theorem RdT.cut {lo hi : Nat} {w : World} {A : Option Addr} {c : Nat} {ts : List (List Col)} (h : RdT lo hi w (.slice A ts.length c) ts) (m : Nat) : ∃ ys : List (List Col), ys = ts.take m ∧ ys.length = min ts.length m ∧ RdT lo hi w (.slice A ys.length c) ys := by
  obtain ⟨ys, h1, h2, h3⟩ := h.1.cut m
  exact ⟨ys, h1, h2, h3, fun t ht => h.2 t (by rw [h1] at ht; exact List.mem_of_mem_take ht)⟩
theorem RdT.mono' {lo hi hi' : Nat} {w : World} {v : Value} {ts : List (List Col)} (h : RdT lo hi w v ts) (hh : hi ≤ hi') : RdT lo hi' w v ts := ⟨h.1.mono (Nat.le_refl _) hh, h.2⟩
theorem RdT.len {lo hi : Nat} {w : World} {v : Value} {ts : List (List Col)} (h : RdT lo hi w v ts) : ts.length ≤ 9223372036854775807 := by
  obtain ⟨A, c, _, h1, h2⟩ := h.form; omega

set_option maxRecDepth 100000 in
set_option maxHeartbeats 2000000 in
theorem oc_cloneT (lo hi : Nat) (v : Value) (ts : List (List Col)) (w : World) (hv : RdT lo hi w v ts) (hl : ts.length ≤ 1099511627) :
    Calls Try.prog 9 #[v] w fun e w' => ∃ A c, e = .returned (.slice A ts.length c) ∧ New w w' ∧ OwnT w.heap.size w' (.slice A ts.length c) ts := by
  obtain ⟨A, c, rfl, h1, h2⟩ := hv.form
  have HV := Lib.hid hv
  clear hv
  have hq := fun (W : World) => Lib.run_eql_slice_nil W 22 29 A ts.length c 0 0 Try.underlying22
  rcases A with _ | ad
  · have hx : ts = [] := by
      obtain ⟨A', c', e, _, _, h⟩ := HV.out.1
      rcases h with h | ⟨b, off, h, _⟩
      · exact h
      · subst h
        injection e with e1
        cases e1
    subst hx
    clear hl hq h1 h2 HV
    have hq := fun (W : World) => Lib.run_eql_slice_nil W 22 29 none 0 c 0 0 Try.underlying22
    go_enter Try.func9, Try.ntmps9
    go_wp2
    go_ret
    exact ⟨none, 0, rfl, Below.refl _ _, OwnC.nil _ _ _ _ _⟩
  · go_enter Try.func9, Try.ntmps9
    have he : OwnT w.heap.size (w.alloc (.cells #[] 29)) (.slice (some ⟨w.heap.size, 0, none⟩) 0 0) [] := ownC_empty _ _ _ w _ (Nat.le_refl _)
    have hn : New w (w.alloc (.cells #[] 29)) := new_alloc _ _
    have HE := Lib.hid he
    have HN := Lib.hid hn
    clear he hn
    go_wp2_with (at_builtin; refine wplG_appendC (enc := tcl) (by rfl) (.tmp 5) (.tmp 6) rfl Try.underlying22 info_tile rfl (by omega) rfl rfl HE.out (HV.out.new HN.out).1 (fun t ht => by rw [tcl_length, HV.out.2 t ht]) (fun t _ => tcl_one t) (by simp; omega) (by simp; omega) HN.out.size ?_)
    intro A' c' w' HO hg _
    have HO' := Lib.hid HO
    have HG := Lib.hid hg
    clear HO hg
    go_wp2
    go_ret
    exact ⟨A', c', by simp, Below.grown HN.out HG.out HN.out.size (by intro k hk; simp [Value.ownBlock] at hk; omega), by simpa using HO'.out⟩

set_option maxRecDepth 100000 in
set_option maxHeartbeats 4000000 in
theorem oc_eqT (lo hi lo' hi' : Nat) (v u : Value) (xs ys : List (List Col)) (w : World) (hv : RdT lo hi w v xs) (hu : RdT lo' hi' w u ys) :
    Calls Try.prog 48 #[v, u] w fun e w' => e = .returned (.bool (decide (xs = ys))) ∧ New w w' := by
  obtain ⟨A, c, rfl, h1, h2⟩ := hv.form
  obtain ⟨B, d, rfl, h3, h4⟩ := hu.form
  have hl := hv.len
  have HV := Lib.hid hv
  have HU := Lib.hid hu
  clear hv hu
  by_cases hne : xs.length = ys.length
  · have hne' : ((xs.length : Int) != (ys.length : Int)) = false := by simp [hne]
    have HL := Lib.hid hne
    clear hne
    go_enter Try.func48, Try.ntmps48
    go_wp2
    go_loopw [13] (fun i wr => ∃ k : Nat, k ≤ xs.length ∧ i = .int .i64 k ∧ Hid (New w wr) ∧ Hid (xs.take k = ys.take k)) (fun i _ => xs.length - (intOf i).toNat)
    case atStart => exact ⟨0, Nat.zero_le _, rfl, Lib.hid (new_refl _), Lib.hid rfl⟩
    case round =>
      obtain ⟨k, hk, rfl, HN, HT⟩ := hrel
      by_cases hlt : k < xs.length
      · have hlt2 : k < ys.length := by have := HL.out; omega
        have hdr : New wr wr.drew := Below.drew (new_refl _)
        obtain ⟨b, off, e1, _, _, r1⟩ := ((HV.out.new HN.out).new hdr).range k hlt
        obtain ⟨b2, off2, e2, _, _, r2⟩ := ((HU.out.new HN.out).new hdr).range k hlt2
        subst e1 e2
        have ht1 := HV.out.2 _ (List.getElem_mem hlt)
        have ht2 := HU.out.2 _ (List.getElem_mem hlt2)
        have hs1 : (Try.prog.info? 29).map (·.size) = some (tcl xs[k]).length := by rw [tcl_length, ht1]; exact size_tile
        have hs2 : (Try.prog.info? 29).map (·.size) = some (tcl ys[k]).length := by rw [tcl_length, ht2]; exact size_tile
        have hnt := run_neT xs[k] ys[k] ht1 ht2
        have hx0 : (0 : Int) ≤ (k : Int) := by omega
        have hx1 : (k : Int) < (xs.length : Int) := by omega
        have hx2 : (k : Int) < (ys.length : Int) := by omega
        have HXE : Hid (xs.take k = ys.take k → xs[k] = ys[k] → xs.take (k + 1) = ys.take (k + 1)) := Lib.hid (fun h e => by rw [take_snoc xs k hlt, take_snoc ys k hlt2, h, e])
        have HXN : Hid (¬ xs[k] = ys[k] → ¬ xs = ys) := Lib.hid (fun h e => h (by subst e; rfl))
        have e1 : tcA xs[k] = (tcl xs[k]).toArray := rfl
        have e2 : tcA ys[k] = (tcl ys[k]).toArray := rfl
        rw [e1, e2] at hnt
        have HND := Lib.hid (HN.out.trans hdr)
        clear ht1 ht2 e1 e2 hdr
        generalize xs[k] = t at *
        generalize ys[k] = u at *
        go_wp2_with fail
        refine wp_region_L (fun w' => w'.rangeAt b (off + k * 256) (tcl t) ∧ w'.rangeAt b2 (off2 + k * 256) (tcl u)) [8] (by kernel_rfl) ?_
        have HS := And.intro r1 r2
        refine wpAnyL_move (i := 0) (v := ?_) rfl rfl (by kernel_rfl) (fun _ _ _ h => h) (by rfl) (fun W => ?_) (by assumption) ?_
        rotate_left
        · go_simp
          (try with_reducible rfl)
        rotate_right
        simp only [Act.put, List.setIfInBounds_toArray, List.set_cons_zero, List.set_cons_succ]
        refine wpAnyL_move (i := 1) (v := ?_) rfl rfl (by kernel_rfl) (fun _ _ _ h => h) (by rfl) (fun W => ?_) (by assumption) ?_
        rotate_left
        · go_simp
          (try with_reducible rfl)
        rotate_right
        simp only [Act.put, List.setIfInBounds_toArray, List.set_cons_zero, List.set_cons_succ]
        refine wpAnyL_move (i := 2) (v := ?_) rfl rfl (by kernel_rfl) (fun _ _ _ h => h) (by rfl) (fun W => ?_) (by assumption) ?_
        rotate_left
        · go_simp
          (try with_reducible rfl)
        rotate_right
        simp only [Act.put, List.setIfInBounds_toArray, List.set_cons_zero, List.set_cons_succ]
        refine wpAnyL_take (i := 3) rfl rfl (by kernel_rfl) (fun _ _ _ h => h) (by rfl) (fun W hW => exec_load_mid (.tmp 18) rfl _ _ rfl (tcl t) _ hW.1 Try.underlying29 rfl hs1) (by assumption) ?_
        simp only [Act.put, List.setIfInBounds_toArray, List.set_cons_zero, List.set_cons_succ]
        refine wpAnyL_move (i := 4) (v := ?_) rfl rfl (by kernel_rfl) (fun _ _ _ h => h) (by rfl) (fun W => ?_) (by assumption) ?_
        rotate_left
        · go_simp
          (try with_reducible rfl)
        rotate_right
        simp only [Act.put, List.setIfInBounds_toArray, List.set_cons_zero, List.set_cons_succ]
        refine wpAnyL_move (i := 5) (v := ?_) rfl rfl (by kernel_rfl) (fun _ _ _ h => h) (by rfl) (fun W => ?_) (by assumption) ?_
        rotate_left
        · go_simp
          (try with_reducible rfl)
        rotate_right
        simp only [Act.put, List.setIfInBounds_toArray, List.set_cons_zero, List.set_cons_succ]
        refine wpAnyL_move (i := 6) (v := ?_) rfl rfl (by kernel_rfl) (fun _ _ _ h => h) (by rfl) (fun W => ?_) (by assumption) ?_
        rotate_left
        · go_simp
          (try with_reducible rfl)
        rotate_right
        simp only [Act.put, List.setIfInBounds_toArray, List.set_cons_zero, List.set_cons_succ]
        refine wpAnyL_take (i := 7) rfl rfl (by kernel_rfl) (fun _ _ _ h => h) (by rfl) (fun W hW => exec_load_mid (.tmp 22) rfl _ _ rfl (tcl u) _ hW.2 Try.underlying29 rfl hs2) (by assumption) ?_
        simp only [Act.put, List.setIfInBounds_toArray, List.set_cons_zero, List.set_cons_succ]
        refine wpAnyL_tail 8 rfl rfl (by decide) (by kernel_rfl) ?_
        clear HS r1 r2 hs1 hs2
        by_cases htu : t = u
        · rw [show decide (t ≠ u) = false by simp [htu]] at hnt
          have HTU := Lib.hid (HXE.out HT.out htu)
          clear htu
          go_wp2
          go_roundw
          case rel => exact ⟨k + 1, by omega, by go_num, HND, HTU⟩
          case measure => simp [intOf]; omega
        · rw [show decide (t ≠ u) = true by simp [htu]] at hnt
          have HTU := Lib.hid (HXN.out htu)
          clear htu
          go_wp2
          go_ret
          exact ⟨by rw [decide_eq_false HTU.out]; rfl, HND.out⟩
      · have he : xs = ys := by
          have h := HT.out
          have h2 := HL.out
          rwa [List.take_of_length_le (by omega), List.take_of_length_le (by omega)] at h
        have HE := Lib.hid he
        clear he
        go_wp2
        go_ret
        exact ⟨by rw [decide_eq_true HE.out]; rfl, HN.out⟩
  · have hne' : ((xs.length : Int) != (ys.length : Int)) = true := by simp; omega
    have HE : Hid (¬ xs = ys) := Lib.hid (fun e => hne (by rw [e]))
    clear hne
    go_enter Try.func48, Try.ntmps48
    go_wp2
    go_ret
    exact ⟨by rw [decide_eq_false HE.out]; rfl, new_refl _⟩
end Go.Proofs.Ythihffglkheleaa
