/- Contract of runs.ReadCanvas. -/
import Derived.Test.YthihffglkheleaaTs
set_option linter.unusedVariables false
set_option linter.unusedSimpArgs false
namespace Go.Proofs.Ythihffglkheleaa
open Go.RowKit

/-- A canvas, how many bytes, an error. -/
def OutCv (r : Option (Int × Int × List (List Col) × Nat)) (w : World) (e : Ending) (w' : World) : Prop :=
  New w w' ∧ ((∃ (wd hg : Int) (l : List (List Col)) (n : Nat) (A : Option Addr) (c : Nat), r = some (wd, hg, l, n) ∧ e = .returned (.tuple #[vCv wd hg A l.length c, .int .i64 n, .int .i64 0]) ∧ OwnT w.heap.size w' (.slice A l.length c) l) ∨
    (r = none ∧ e = .returned (.tuple #[vCv 0 0 none 0 0, .int .i64 0, .int .i64 200])))
theorem BoxA.of3 {w : World} {b : Nat} {ty : TypeId} {u0 u1 u2 : Value} (h : BoxA w b ty #[u0, u1, u2]) :
    w.cell? ⟨b, 0, none⟩ = some u0 ∧ w.cell? ⟨b, 1, none⟩ = some u1 ∧ w.cell? ⟨b, 2, none⟩ = some u2 ∧ ∀ i, w.frozen? ⟨b, i, none⟩ = false := by
  refine ⟨?_, ?_, ?_, fun i => h.free i⟩ <;> rw [h.cell] <;> rfl
theorem BoxA.set3 {w : World} {b : Nat} {ty : TypeId} {u0 u1 u2 : Value} (h : BoxA w b ty #[u0, u1, u2]) (v0 v1 v2 : Value) :
    BoxA (((w.setCell ⟨b, 0, none⟩ v0).setCell ⟨b, 1, none⟩ v1).setCell ⟨b, 2, none⟩ v2) b ty #[v0, v1, v2] := by
  have := ((h.set 0 v0).set 1 v1).set 2 v2
  simpa using this
theorem Chg.or {M M' : Nat → Prop} {a b c : World} (h : Chg M a b) (k : Chg M' b c) : Chg (fun k => M k ∨ M' k) a c := (h.mono (fun _ _ h => .inl h)).trans (k.mono (fun _ _ h => .inr h))
theorem size_canvas : (Try.prog.info? 43).map (·.size) = some 3 := by kernel_rfl
theorem BoxA.loadC {w : World} {b : Nat} {u0 u1 u2 : Value} (h : BoxA w b 43 #[u0, u1, u2]) : (loadVar 43 ⟨b, 0, none⟩).run Try.prog w = .ok (.agg #[u0, u1, u2]) w :=
  run_loadVar_row w b 43 43 #[u0, u1, u2] (0, 0) _ h Try.underlying43 rfl size_canvas
theorem chg_set3 (M : Nat → Prop) (w : World) (b : Nat) (v0 v1 v2 : Value) (hb : M b ∨ w.heap.size ≤ b) : Chg M w (((w.setCell ⟨b, 0, none⟩ v0).setCell ⟨b, 1, none⟩ v1).setCell ⟨b, 2, none⟩ v2) :=
  (((Chg.refl M w).setCell (p := ⟨b, 0, none⟩) hb _).setCell (p := ⟨b, 1, none⟩) hb _).setCell (p := ⟨b, 2, none⟩) hb _

set_option maxRecDepth 100000 in
set_option maxHeartbeats 4000000 in
theorem rn_ReadCanvas (lo hi : Nat) (A : Option Addr) (c : Nat) (bs : List U8) (w : World) (hv : Rd e8 lo hi w (.slice A bs.length c) bs) (hh : hi ≤ w.heap.size) (hl : bs.length ≤ 1099511627776) :
    Calls Try.prog 20 #[.slice A bs.length c] w (OutCv (readCv bs) w) := by
  obtain ⟨W3, hW3⟩ : ∃ W3, W3 = ((w.alloc (.cells #[.int .i64 0, .int .i64 0, .slice none 0 0] 43)).alloc (.cells #[.int .i64 0, .int .i64 0, .slice none 0 0, .slice A bs.length c, .int .i64 0] 68)).alloc (.cells #[.pointer (some ⟨w.heap.size + 1, 0, none⟩)] 66) := ⟨_, rfl⟩
  have hs3 : W3.heap.size = w.heap.size + 3 := by rw [hW3]; simp
  have hn3 : New w W3 := by rw [hW3]; exact ((new_alloc w _).alloc _).alloc _
  have b0 : BoxA W3 w.heap.size 43 #[.int .i64 0, .int .i64 0, .slice none 0 0] := by
    rw [hW3]; exact ((BoxA.new w _ _).later (new_alloc _ _)).later (new_alloc _ _)
  have b1 : BoxA W3 (w.heap.size + 1) 68 #[.int .i64 0, .int .i64 0, .slice none 0 0, .slice A bs.length c, .int .i64 ((0 : Nat) : Int)] := by
    have := BoxA.new (w.alloc (.cells #[.int .i64 0, .int .i64 0, .slice none 0 0] 43)) 68 #[.int .i64 0, .int .i64 0, .slice none 0 0, .slice A bs.length c, .int .i64 0]
    rw [World.size_alloc] at this
    rw [hW3]; exact this.later (new_alloc _ _)
  have b2 : Box W3 (w.heap.size + 1 + 1) 66 (.pointer (some ⟨w.heap.size + 1, 0, none⟩)) := by
    have := Box.new ((w.alloc (.cells #[.int .i64 0, .int .i64 0, .slice none 0 0] 43)).alloc (.cells #[.int .i64 0, .int .i64 0, .slice none 0 0, .slice A bs.length c, .int .i64 0] 68)) 66 (.pointer (some ⟨w.heap.size + 1, 0, none⟩))
    simp only [World.size_alloc] at this
    rw [hW3]; exact this
  have hI : IsRd (lo, hi) W3 (w.heap.size + 1) 0 0 (.slice none 0 0) bs 0 := ⟨by simp; omega, by omega, A, c, b1, hv.new hn3⟩
  have hrd := rn_reads 43 #[.pointer (some ⟨w.heap.size + 1 + 1, 0, none⟩)] (fun _ => by rfl) (.pointer (some ⟨w.heap.size + 1, 0, none⟩)) W3 (fun k => k = w.heap.size + 1) (fun k hk => by omega)
    (fun e W w' => W3.heap.size + 1 ≤ W.heap.size ∧ RunsR (lo, hi) (w.heap.size + 1) bs (readCv bs) W e w')
    (fun W hW hWs => (rn_RC1 (lo, hi) (w.heap.size + 1) (w.heap.size + 1 + 1) 0 0 bs W (b2.later hW) (by omega) (hI.new hW) hl).mono (fun e w' h => by
      obtain ⟨h1, h2⟩ := id h
      refine ⟨⟨hWs, h⟩, h1, ?_⟩
      rcases h2 with ⟨_, _, _, _, _, _, _, _, _, h4⟩ | ⟨_, h4⟩
      · exact .inl h4
      · exact .inr h4))
  have HRD := Lib.hid hrd
  have HN3 := Lib.hid hn3
  have HS3 := Lib.hid hs3
  have HB0 := Lib.hid b0
  have HB2 := Lib.hid b2
  have hmf := hmf
  have HH := Lib.hid hh
  clear hv hh b0 b1 b2 hI hrd hn3 hs3
  generalize hR : readCv bs = R at *
  clear hR
  go_enter Try.func20, Try.ntmps20
  go_wp2_with fail
  rw [← hW3]
  clear hW3
  refine HRD.out.mono ?_
  rintro e w5 ⟨e0, W, w6, ⟨hWs, _, hres⟩, hNW, hC6, hok, hC5⟩
  have hc45 : Chg (fun k => k = w.heap.size + 1 ∨ k = w.heap.size + 3) W3 w5 := ((hNW.chg _).trans (hC6.mono (fun _ _ h => .inl h))).trans (hC5.mono (fun _ _ h => .inr (by have := HS3.out; omega)))
  have HC45 := Lib.hid hc45
  have HB5 := Lib.hid (HB0.out.chg hc45 (by omega))
  obtain ⟨e50, e51, e52, e5f⟩ := HB5.out.of3
  have q5 := (HB2.out.chg hc45 (by omega)).cell
  rcases hok with ⟨rfl, rfl⟩ | ⟨rfl, rfl⟩
  · rcases hres with ⟨wd, hg, l, p2, c2, A2, rfl, hI2, hO2, _⟩ | ⟨_, h4⟩
    · have hO5 := hO2.chg hC5 (fun k hk => by have := (hO2.lt k hk).1; omega)
      have hI5 := hI2.chg hC5 (fun k hk => by have := hI2.1; have := HS3.out; simp at hk this; omega)
      have HO5 := Lib.hid (hO5.mono (lo' := w.heap.size) (by have := HN3.out.size; omega))
      have HI5 := Lib.hid hI5
      have HAP : ∀ k, (Value.slice A2 l.length c2).ownBlock = some k → k ≠ w.heap.size := fun k hk => by have := (hO2.lt k hk).1; have := HS3.out; omega
      have HAP := Lib.hid HAP
      clear hNW hC6 hC5 hc45 HRD hI2 hO2 hO5 hI5 hWs
      have hdr : New w5 w5.drew := Below.drew (new_refl _)
      obtain ⟨k0, k1, k2, k4, -⟩ := (HI5.out.new hdr).cells
      have hb6 := (HB5.out.later hdr).set3 (.int .i64 wd) (.int .i64 hg) (.slice A2 l.length c2)
      have hc6 := chg_set3 (fun k => k = w.heap.size) w5.drew w.heap.size (.int .i64 wd) (.int .i64 hg) (.slice A2 l.length c2) (.inl rfl)
      have HI6 := HI5.out.chg ((hdr.chg _).trans hc6) (fun k hk => by have := HI5.out.1; have := HH.out; simp at this hk; omega)
      obtain ⟨m0, m1, m2, m4, -⟩ := HI6.cells
      have hc36 := HC45.out.or ((hdr.chg _).trans hc6)
      have q6 := (HB2.out.chg hc36 (by omega)).cell
      have hld : (loadVar 43 ⟨w.heap.size, 0, none⟩).run Try.prog (((w5.setCell ⟨w.heap.size, 0, none⟩ (.int .i64 wd)).setCell ⟨w.heap.size, 1, none⟩ (.int .i64 hg)).setCell ⟨w.heap.size, 2, none⟩ (.slice A2 l.length c2)).drew = .ok (.agg #[.int .i64 wd, .int .i64 hg, .slice A2 l.length c2]) (((w5.setCell ⟨w.heap.size, 0, none⟩ (.int .i64 wd)).setCell ⟨w.heap.size, 1, none⟩ (.int .i64 hg)).setCell ⟨w.heap.size, 2, none⟩ (.slice A2 l.length c2)).drew := hb6.loadC
      have HO6 := Lib.hid ((HO5.out.new hdr).chg hc6 (HAP.out))
      have HC36 := Lib.hid hc36
      have HI6' := Lib.hid HI6
      have f60 := (HB5.out.later hdr).free 0
      have f61 := (HB5.out.later hdr).free 1
      have f62 := (HB5.out.later hdr).free 2
      have q5' := (HB2.out.chg HC45.out (by omega)).later hdr |>.cell
      clear hb6 hc6 HI6 hc36 hdr
      go_wp2_with fail
      refine wp_region_L (fun w' => w'.cell? ⟨w.heap.size + 1 + 1, 0, none⟩ = some (.pointer (some ⟨w.heap.size + 1, 0, none⟩)) ∧ w'.cell? ⟨w.heap.size + 1, 0, none⟩ = some (.int .i64 wd) ∧ w'.cell? ⟨w.heap.size + 1, 1, none⟩ = some (.int .i64 hg) ∧ w'.cell? ⟨w.heap.size + 1, 2, none⟩ = some (.slice A2 l.length c2) ∧ w'.cell? ⟨w.heap.size + 1, 4, none⟩ = some (.int .i64 p2)) [9] (by kernel_rfl) ?_
      have HS9 := And.intro q5' (And.intro k0 (And.intro k1 (And.intro k2 k4)))
      refine wpAnyL_take (i := 0) (v := ?_) rfl rfl (by kernel_rfl) (fun _ _ _ h => h) (by rfl) (fun W hW => ?_) (by assumption) ?_
      rotate_left
      · (try dsimp only at hW)
        go_simp
        (try with_reducible rfl)
      rotate_right
      simp only [Act.put, List.setIfInBounds_toArray, List.set_cons_zero, List.set_cons_succ]
      refine wpAnyL_move (i := 1) (v := ?_) rfl rfl (by kernel_rfl) (fun _ _ _ h => h) (by rfl) (fun W => ?_) (by assumption) ?_
      rotate_left
      · go_simp
        (try with_reducible rfl)
      rotate_right
      simp only [Act.put, List.setIfInBounds_toArray, List.set_cons_zero, List.set_cons_succ]
      refine wpAnyL_move (i := 2) (v := ?_) rfl rfl (by kernel_rfl) (fun _ _ _ h => h) (by rfl) (fun W => ?_) (by assumption) ?_
      rotate_left
      · go_simp
        (try with_reducible rfl)
      rotate_right
      simp only [Act.put, List.setIfInBounds_toArray, List.set_cons_zero, List.set_cons_succ]
      refine wpAnyL_take (i := 3) (v := ?_) rfl rfl (by kernel_rfl) (fun _ _ _ h => h) (by rfl) (fun W hW => ?_) (by assumption) ?_
      rotate_left
      · (try dsimp only at hW)
        go_simp
        (try with_reducible rfl)
      rotate_right
      simp only [Act.put, List.setIfInBounds_toArray, List.set_cons_zero, List.set_cons_succ]
      refine wpAnyL_take (i := 4) (v := ?_) rfl rfl (by kernel_rfl) (fun _ _ _ h => h) (by rfl) (fun W hW => ?_) (by assumption) ?_
      rotate_left
      · (try dsimp only at hW)
        go_simp
        (try with_reducible rfl)
      rotate_right
      simp only [Act.put, List.setIfInBounds_toArray, List.set_cons_zero, List.set_cons_succ]
      refine wpAnyL_move (i := 5) (v := ?_) rfl rfl (by kernel_rfl) (fun _ _ _ h => h) (by rfl) (fun W => ?_) (by assumption) ?_
      rotate_left
      · go_simp
        (try with_reducible rfl)
      rotate_right
      simp only [Act.put, List.setIfInBounds_toArray, List.set_cons_zero, List.set_cons_succ]
      refine wpAnyL_move (i := 6) (v := ?_) rfl rfl (by kernel_rfl) (fun _ _ _ h => h) (by rfl) (fun W => ?_) (by assumption) ?_
      rotate_left
      · go_simp
        (try with_reducible rfl)
      rotate_right
      simp only [Act.put, List.setIfInBounds_toArray, List.set_cons_zero, List.set_cons_succ]
      refine wpAnyL_take (i := 7) (v := ?_) rfl rfl (by kernel_rfl) (fun _ _ _ h => h) (by rfl) (fun W hW => ?_) (by assumption) ?_
      rotate_left
      · (try dsimp only at hW)
        go_simp
        (try with_reducible rfl)
      rotate_right
      simp only [Act.put, List.setIfInBounds_toArray, List.set_cons_zero, List.set_cons_succ]
      refine wpAnyL_one (i := 8) rfl rfl (by kernel_rfl) (by rfl) (fun K hK => ?_)
      go_simp
      refine hK.out _ _ ⟨q6, m0, m1, m2, m4⟩ ?_
      clear hK K HS9 q5' k0 k1 k2 k4 q6 m0 m1 m2 m4
      refine wpAnyL_tail 9 rfl rfl (by decide) (by kernel_rfl) ?_
      go_wp2
      refine bodyPost_ret (v := .tuple #[vCv wd hg A2 l.length c2, .int .i64 p2, .int .i64 0]) (by simp [results, Try.results20, asAddr, hld]) rfl ⟨?_, .inl ⟨wd, hg, l, p2, A2, c2, rfl, rfl, HO6.out⟩⟩
      exact HN3.out.trans' HC36.out (fun k hk => by omega)
    · cases h4
  · rcases hres with ⟨_, _, _, _, _, _, _, _, _, h4⟩ | ⟨rfl, _⟩
    · cases h4
    · clear hNW hC6 hC5 hc45 HRD
      have f50 := e5f 0
      have f51 := e5f 1
      have f52 := e5f 2
      go_wp2
      have hld := (HB5.out.set3 (.int .i64 0) (.int .i64 0) (.slice none 0 0)).loadC
      refine bodyPost_ret (v := .tuple #[vCv 0 0 none 0 0, .int .i64 0, .int .i64 200]) (by simp [results, Try.results20, asAddr, hld]) rfl ⟨?_, .inr ⟨rfl, rfl⟩⟩
      exact HN3.out.trans' ((HC45.out.mono (fun _ _ h => .inl h)).trans ((chg_set3 (fun k => k = w.heap.size) w5 w.heap.size _ _ _ (.inl rfl)).mono (M' := fun k => (k = w.heap.size + 1 ∨ k = w.heap.size + 3) ∨ k = w.heap.size) (fun _ _ h => .inr h))) (fun k hk => by omega)
end Go.Proofs.Ythihffglkheleaa
