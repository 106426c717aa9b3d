/- The canvas that can be gone through (own), and canvas.Alike. -/
import Derived.Test.YthihffglkheleaaUc
set_option linter.unusedVariables false
set_option linter.unusedSimpArgs false
namespace Go.Proofs.Ythihffglkheleaa
open Go.RowKit

set_option maxRecDepth 100000 in
set_option maxHeartbeats 4000000 in
theorem law_own (lo hi : Nat) (wd hg : Int) (A : Option Addr) (c : Nat) (ls ts : List (List Col)) (w : World) (hv : RdT lo hi w (.slice A ls.length c) ls) (hts : ts = ls.take 17) :
    Calls Try.prog 18 #[vCv wd hg A ls.length c] w fun e w' => ∃ A' c', e = .returned (vCv wd hg A' ts.length c') ∧ New w w' ∧ OwnT w.heap.size w' (.slice A' ts.length c') ts := by
  obtain ⟨ts', h1, htl, hT⟩ := hv.cut 17
  obtain rfl : ts = ts' := by rw [h1, hts]
  have hlc : ls.length ≤ c := by
    obtain ⟨A', c', e, h, _⟩ := hv.form
    injection e with _ _ e
    omega
  have hs1 := sliceG_h Try.underlying22 size_tile A ls.length c ts.length (by omega) hlc
  obtain ⟨W2, hW2⟩ : ∃ W2, W2 = (w.alloc (.cells #[.int .i64 wd, .int .i64 hg, .slice A ls.length c] 43)).alloc (.cells #[.int .i64 0, .int .i64 0, .slice none 0 0] 43) := ⟨_, rfl⟩
  have hn2 : New w W2 := by rw [hW2]; exact (new_alloc w _).alloc _
  have ba : BoxA W2 w.heap.size 43 #[.int .i64 wd, .int .i64 hg, .slice A ls.length c] := by rw [hW2]; exact (BoxA.new w _ _).later (new_alloc _ _)
  have bo : BoxA W2 (w.heap.size + 1) 43 #[.int .i64 0, .int .i64 0, .slice none 0 0] := by
    have := BoxA.new (w.alloc (.cells #[.int .i64 wd, .int .i64 hg, .slice A ls.length c] 43)) 43 #[.int .i64 0, .int .i64 0, .slice none 0 0]
    rw [World.size_alloc] at this
    rw [hW2]; exact this
  have hdr : New W2 W2.drew := Below.drew (new_refl _)
  obtain ⟨c0, c1, c2, -⟩ := (ba.later hdr).of3
  have HT := Lib.hid hT
  have HTL := Lib.hid htl
  have HT17 := Lib.hid (show ts.length ≤ 17 by omega)
  have HN2 := Lib.hid (hn2.trans hdr)
  have HBA := Lib.hid (ba.later hdr)
  have HBO := Lib.hid (bo.later hdr)
  clear hv h1 htl hT ba bo hn2 hdr hts hlc
  go_enter Try.func18, Try.ntmps18
  go_wp2_with fail
  rw [← hW2]
  clear hW2
  refine wp_region_L (fun w' => w'.cell? ⟨w.heap.size, 0, none⟩ = some (.int .i64 wd) ∧ w'.cell? ⟨w.heap.size, 1, none⟩ = some (.int .i64 hg) ∧ w'.cell? ⟨w.heap.size, 2, none⟩ = some (.slice A ls.length c)) [13] (by kernel_rfl) ?_
  have HS := And.intro c0 (And.intro c1 c2)
  refine wpAnyL_move (i := 0) (v := ?_) rfl rfl (by kernel_rfl) (fun _ _ _ h => h) (by rfl) (fun W => ?_) (by assumption) ?_
  rotate_left
  · go_simp
    (try with_reducible rfl)
  rotate_right
  simp only [Act.put, List.setIfInBounds_toArray, List.set_cons_zero, List.set_cons_succ]
  refine wpAnyL_take (i := 1) (v := ?_) rfl rfl (by kernel_rfl) (fun _ _ _ h => h) (by rfl) (fun W hW => ?_) (by assumption) ?_
  rotate_left
  · (try dsimp only at hW)
    go_simp
    (try with_reducible rfl)
  rotate_right
  simp only [Act.put, List.setIfInBounds_toArray, List.set_cons_zero, List.set_cons_succ]
  refine wpAnyL_move (i := 2) (v := ?_) rfl rfl (by kernel_rfl) (fun _ _ _ h => h) (by rfl) (fun W => ?_) (by assumption) ?_
  rotate_left
  · go_simp
    (try with_reducible rfl)
  rotate_right
  simp only [Act.put, List.setIfInBounds_toArray, List.set_cons_zero, List.set_cons_succ]
  refine wpAnyL_take (i := 3) (v := ?_) rfl rfl (by kernel_rfl) (fun _ _ _ h => h) (by rfl) (fun W hW => ?_) (by assumption) ?_
  rotate_left
  · (try dsimp only at hW)
    go_simp
    (try with_reducible rfl)
  rotate_right
  simp only [Act.put, List.setIfInBounds_toArray, List.set_cons_zero, List.set_cons_succ]
  refine wpAnyL_move (i := 4) (v := ?_) rfl rfl (by kernel_rfl) (fun _ _ _ h => h) (by rfl) (fun W => ?_) (by assumption) ?_
  rotate_left
  · go_simp
    (try with_reducible rfl)
  rotate_right
  simp only [Act.put, List.setIfInBounds_toArray, List.set_cons_zero, List.set_cons_succ]
  refine wpAnyL_take (i := 5) (v := ?_) rfl rfl (by kernel_rfl) (fun _ _ _ h => h) (by rfl) (fun W hW => ?_) (by assumption) ?_
  rotate_left
  · (try dsimp only at hW)
    go_simp
    (try with_reducible rfl)
  rotate_right
  simp only [Act.put, List.setIfInBounds_toArray, List.set_cons_zero, List.set_cons_succ]
  refine wpAnyL_move (i := 6) (v := ?_) rfl rfl (by kernel_rfl) (fun _ _ _ h => h) (by rfl) (fun W => ?_) (by assumption) ?_
  rotate_left
  · go_simp
    (try with_reducible rfl)
  rotate_right
  simp only [Act.put, List.setIfInBounds_toArray, List.set_cons_zero, List.set_cons_succ]
  refine wpAnyL_take (i := 7) (v := ?_) rfl rfl (by kernel_rfl) (fun _ _ _ h => h) (by rfl) (fun W hW => ?_) (by assumption) ?_
  rotate_left
  · (try dsimp only at hW)
    go_simp
    (try with_reducible rfl)
  rotate_right
  simp only [Act.put, List.setIfInBounds_toArray, List.set_cons_zero, List.set_cons_succ]
  refine wpAnyL_move (i := 8) (v := ?_) rfl rfl (by kernel_rfl) (fun _ _ _ h => h) (by rfl) (fun W => ?_) (by assumption) ?_
  rotate_left
  · go_simp
    (try with_reducible rfl)
  rotate_right
  simp only [Act.put, List.setIfInBounds_toArray, List.set_cons_zero, List.set_cons_succ]
  refine wpAnyL_move (i := 9) rfl rfl (by kernel_rfl) (fun _ _ _ h => h) (by rfl) (fun W => exec_min (.tmp 11) 17 rfl rfl HTL.out) (by assumption) ?_
  simp only [Act.put, List.setIfInBounds_toArray, List.set_cons_zero, List.set_cons_succ]
  refine wpAnyL_move (i := 10) (v := ?_) rfl rfl (by kernel_rfl) (fun _ _ _ h => h) (by rfl) (fun W => ?_) (by assumption) ?_
  rotate_left
  · go_simp
    (try with_reducible rfl)
  rotate_right
  simp only [Act.put, List.setIfInBounds_toArray, List.set_cons_zero, List.set_cons_succ]
  refine wpAnyL_one (i := 11) rfl rfl (by kernel_rfl) (by rfl) (fun K hK => ?_)
  go_simp
  refine (oc_cloneT _ _ _ ts _ (HT.out.new HN2.out) (by have := HT17.out; omega)).mono ?_
  rintro e w3 ⟨A', c', rfl, hN, hO⟩
  obtain ⟨k0, k1, k2, -⟩ := (HBA.out.later hN).of3
  have HN3 := Lib.hid (HN2.out.trans hN)
  have HO := Lib.hid (hO.mono (lo' := w.heap.size) HN2.out.size)
  have HOL := Lib.hid hO.lt
  have HSZ := Lib.hid (HBO.out.lt)
  have HBO3 := Lib.hid (HBO.out.later hN)
  refine hK.out _ _ ⟨k0, k1, k2⟩ ?_
  have HS2 := And.intro k0 (And.intro k1 k2)
  clear hK K hN hO HS c0 c1 c2
  refine wpAnyL_move (i := 12) (v := ?_) rfl rfl (by kernel_rfl) (fun _ _ _ h => h) (by rfl) (fun W => ?_) (by assumption) ?_
  rotate_left
  · go_simp
    (try with_reducible rfl)
  rotate_right
  simp only [Act.put, List.setIfInBounds_toArray, List.set_cons_zero, List.set_cons_succ]
  refine wpAnyL_tail 13 rfl rfl (by decide) (by kernel_rfl) ?_
  clear HS2 k0 k1 k2
  obtain ⟨o0, o1, o2, of⟩ := HBO3.out.of3
  have f0 := of 0
  have f1 := of 1
  have f2 := of 2
  clear of
  go_wp2
  have hb := HBO3.out.set3 (.int .i64 wd) (.int .i64 hg) (.slice A' ts.length c')
  have hc := chg_set3 (fun k => k = w.heap.size + 1) w3 (w.heap.size + 1) (.int .i64 wd) (.int .i64 hg) (.slice A' ts.length c') (.inl rfl)
  have hld := hb.loadC
  refine bodyPost_ret (v := vCv wd hg A' ts.length c') (by simp [results, Try.results18, asAddr, hld]) rfl ⟨A', c', rfl, HN3.out.trans' hc (fun k hk => by omega), HO.out.chg hc (fun k hk => by have := (HOL.out k hk).1; have := HSZ.out; omega)⟩

/-- Do two canvases show the same? -/
def alike (wa ha : Int) (ta : List (List Col)) (wb hb : Int) (tb : List (List Col)) : Bool := decide (wa = wb ∧ ha = hb ∧ ta = tb)
set_option maxRecDepth 100000 in
set_option maxHeartbeats 4000000 in
theorem cv_Alike (lo hi lo' hi' : Nat) (wa ha : Int) (A : Option Addr) (c : Nat) (ta : List (List Col)) (wb hb : Int) (B : Option Addr) (d : Nat) (tb : List (List Col)) (w : World) (hv : RdT lo hi w (.slice A ta.length c) ta) (hu : RdT lo' hi' w (.slice B tb.length d) tb) :
    Calls Try.prog 21 #[vCv wa ha A ta.length c, vCv wb hb B tb.length d] w fun e w' => e = .returned (.bool (alike wa ha ta wb hb tb)) ∧ New w w' := by
  have hn := (new_alloc w (.cells #[.int .i64 wa, .int .i64 ha, .slice A ta.length c] 43)).alloc (.cells #[.int .i64 wb, .int .i64 hb, .slice B tb.length d] 43)
  have HN := Lib.hid hn
  have HEQ := Lib.hid (oc_eqT _ _ _ _ _ _ ta tb _ (hv.new hn) (hu.new hn))
  clear hv hu hn
  by_cases hw : wa = wb
  · have q1 : (wa == wb) = true := by simp [hw]
    by_cases hh : ha = hb
    · have q2 : (ha == hb) = true := by simp [hh]
      have hal : alike wa ha ta wb hb tb = decide (ta = tb) := by simp [alike, hw, hh]
      obtain ⟨bb, hbb⟩ : ∃ bb, decide (ta = tb) = bb := ⟨_, rfl⟩
      rw [hal, hbb]
      rw [hbb] at HEQ
      clear hal hw hh hbb
      go_enter Try.func21, Try.ntmps21
      go_wp2_with fail
      refine HEQ.out.mono ?_
      rintro e w1 ⟨rfl, hN⟩
      have HN1 := Lib.hid (HN.out.trans hN)
      clear hN HEQ
      go_wp2
      go_ret
      exact ⟨rfl, HN1.out⟩
    · have q2 : (ha == hb) = false := by simp [hh]
      rw [show alike wa ha ta wb hb tb = false by simp [alike, hh]]
      clear hw hh HEQ
      go_enter Try.func21, Try.ntmps21
      go_wp2_with fail
      go_ret
      exact ⟨rfl, HN.out⟩
  · have q1 : (wa == wb) = false := by simp [hw]
    rw [show alike wa ha ta wb hb tb = false by simp [alike, hw]]
    clear hw HEQ
    go_enter Try.func21, Try.ntmps21
    go_wp2_with fail
    go_ret
    exact ⟨rfl, HN.out⟩
end Go.Proofs.Ythihffglkheleaa
