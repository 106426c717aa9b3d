/- Contract of runs.Apply. -/
import Derived.Test.YthihffglkheleaaTu
set_option linter.unusedVariables false
set_option linter.unusedSimpArgs false
namespace Go.Proofs.Ythihffglkheleaa
open Go.RowKit

/-- The canvas to which a patch goes, and the error that else there is. -/
def applyI (wa ha : Int) (ta : List (List Col)) (bs : List U8) : Option (Int × Int × List (List Col) × Nat) × Int :=
  if rightB wa ha ta.length = true then (readPa wa ha ta bs, 200) else (none, 150)
def OutAp (p : Option (Int × Int × List (List Col) × Nat) × Int) (w : World) (e : Ending) (w' : World) : Prop :=
  New w w' ∧ ((∃ (wd hg : Int) (l : List (List Col)) (n : Nat) (A : Option Addr) (c : Nat), p.1 = some (wd, hg, l, n) ∧ e = .returned (.tuple #[vCv wd hg A l.length c, .int .i64 n, .int .i64 0]) ∧ OwnT w.heap.size w' (.slice A l.length c) l) ∨
    (p.1 = none ∧ e = .returned (.tuple #[vCv 0 0 none 0 0, .int .i64 0, .int .i64 p.2])))

set_option maxRecDepth 100000 in
set_option maxHeartbeats 4000000 in
theorem rn_Apply (lo hi : Nat) (A : Option Addr) (c : Nat) (bs : List U8) (lo' hi' : Nat) (wa ha : Int) (B : Option Addr) (d : Nat) (ta : List (List Col)) (w : World) (hv : Rd e8 lo hi w (.slice A bs.length c) bs) (hh : hi ≤ w.heap.size) (hT : RdT lo' hi' w (.slice B ta.length d) ta) (hh' : hi' ≤ w.heap.size) (hl : bs.length ≤ 1099511627776) :
    Calls Try.prog 28 #[vCv wa ha B ta.length d, .slice A bs.length c] w (OutAp (applyI wa ha ta bs) w) := by
  have hck := fun W => cv_Check wa ha B ta.length d W
  obtain ⟨W2, hW2⟩ : ∃ W2, W2 = (w.alloc (.cells #[.int .i64 wa, .int .i64 ha, .slice B ta.length d] 43)).alloc (.cells #[.int .i64 0, .int .i64 0, .slice none 0 0] 43) := ⟨_, rfl⟩
  have hs2 : W2.heap.size = w.heap.size + 2 := by rw [hW2]; simp
  have hn2 : New w W2 := by rw [hW2]; exact (new_alloc w _).alloc _
  have ba : BoxA W2 w.heap.size 43 #[.int .i64 wa, .int .i64 ha, .slice B ta.length d] := by rw [hW2]; exact (BoxA.new w _ _).later (new_alloc _ _)
  have bo : BoxA W2 (w.heap.size + 1) 43 #[.int .i64 0, .int .i64 0, .slice none 0 0] := by
    have := BoxA.new (w.alloc (.cells #[.int .i64 wa, .int .i64 ha, .slice B ta.length d] 43)) 43 #[.int .i64 0, .int .i64 0, .slice none 0 0]
    rw [World.size_alloc] at this
    rw [hW2]; exact this
  have HN2 := Lib.hid hn2
  have HS2 := Lib.hid hs2
  have HBA := Lib.hid ba
  have HBO := Lib.hid bo
  have HV := Lib.hid hv
  have HT := Lib.hid hT
  have HH := Lib.hid hh
  have HH' := Lib.hid hh'
  have HL := Lib.hid hl
  have hmf := hmf
  clear hn2 hs2 ba bo hv hT hh hh' hl
  cases hr : rightB wa ha ta.length with
  | false =>
    rw [show applyI wa ha ta bs = (none, 150) by rw [applyI, hr]; rfl]
    rw [hr] at hck
    have HCK := Lib.hid hck
    clear hck hr
    go_enter Try.func28, Try.ntmps28
    go_wp2_with fail
    rw [← hW2]
    clear hW2
    refine (HCK.out _).mono ?_
    rintro e w1 ⟨rfl, hN1⟩
    obtain ⟨o0, o1, o2, of⟩ := (HBO.out.later hN1).of3
    have f0 := of 0
    have f1 := of 1
    have f2 := of 2
    have HB1 := Lib.hid (HBO.out.later hN1)
    have HN1 := Lib.hid (HN2.out.trans hN1)
    clear hN1 of
    go_wp2
    have hld := (HB1.out.set3 (.int .i64 0) (.int .i64 0) (.slice none 0 0)).loadC
    refine bodyPost_ret (v := .tuple #[vCv 0 0 none 0 0, .int .i64 0, .int .i64 150]) (by simp [results, Try.results28, asAddr, hld]) rfl ⟨?_, .inr ⟨rfl, rfl⟩⟩
    exact HN1.out.trans' (chg_set3 (fun k => k = w.heap.size + 1) w1 (w.heap.size + 1) _ _ _ (.inl rfl)) (fun k hk => by omega)
  | true =>
    rw [show applyI wa ha ta bs = (readPa wa ha ta bs, 200) by rw [applyI, hr]; rfl]
    have HRT := Lib.hid hr
    rw [hr] at hck
    have HCK := Lib.hid hck
    clear hck hr
    obtain ⟨R, hR⟩ : ∃ R, readPa wa ha ta bs = R := ⟨_, rfl⟩
    rw [hR]
    have HRE := Lib.hid hR
    clear hR
    go_enter Try.func28, Try.ntmps28
    go_wp2_with fail
    rw [← hW2]
    clear hW2
    refine (HCK.out _).mono ?_
    rintro e w1 ⟨rfl, hN1⟩
    have HB1 := Lib.hid (HBO.out.later hN1)
    have HA1 := Lib.hid (HBA.out.later hN1)
    have HN1 := Lib.hid (HN2.out.trans hN1)
    have HS1 := Lib.hid (show w.heap.size + 2 ≤ w1.heap.size by have := HS2.out; have := hN1.size; omega)
    clear hN1
    obtain ⟨W3, hW3⟩ : ∃ W3, W3 = (w1.alloc (.cells #[.int .i64 0, .int .i64 0, .slice none 0 0, .slice A bs.length c, .int .i64 0] 68)).alloc (.cells #[.pointer (some ⟨w1.heap.size, 0, none⟩)] 66) := ⟨_, rfl⟩
    have hs3 : W3.heap.size = w1.heap.size + 2 := by rw [hW3]; simp
    have hn3 : New w1 W3 := by rw [hW3]; exact (new_alloc w1 _).alloc _
    have b1 : BoxA W3 w1.heap.size 68 #[.int .i64 0, .int .i64 0, .slice none 0 0, .slice A bs.length c, .int .i64 ((0 : Nat) : Int)] := by
      rw [hW3]; exact (BoxA.new w1 _ _).later (new_alloc _ _)
    have b2 : Box W3 (w1.heap.size + 1) 66 (.pointer (some ⟨w1.heap.size, 0, none⟩)) := by
      have := Box.new (w1.alloc (.cells #[.int .i64 0, .int .i64 0, .slice none 0 0, .slice A bs.length c, .int .i64 0] 68)) 66 (.pointer (some ⟨w1.heap.size, 0, none⟩))
      simp only [World.size_alloc] at this
      rw [hW3]; exact this
    have hI : IsRd (lo, hi) W3 w1.heap.size 0 0 (.slice none 0 0) bs 0 := ⟨by have := HH.out; have := HS1.out; simp; omega, by omega, A, c, b1, (HV.out.new HN1.out).new hn3⟩
    have hrd := rn_reads 53 #[.pointer (some ⟨w1.heap.size + 1, 0, none⟩), .pointer (some ⟨w.heap.size, 0, none⟩)] (fun _ => by rfl) (.pointer (some ⟨w1.heap.size, 0, none⟩)) W3 (fun k => k = w1.heap.size) (fun k hk => by omega)
      (fun e W w' => W3.heap.size + 1 ≤ W.heap.size ∧ RunsR (lo, hi) w1.heap.size bs R W e w')
      (fun W hW hWs => by
        have hap := rn_AP1 (lo, hi) lo' hi' w1.heap.size (w1.heap.size + 1) w.heap.size 0 0 bs wa ha B d ta W (b2.later hW) (by omega) ((HA1.out.later hn3).later hW) (by have := HS1.out; omega) (((HT.out.new HN1.out).new hn3).new hW) (by have := HH'.out; have := HS1.out; omega) HRT.out (hI.new hW) HL.out
        rw [HRE.out] at hap
        refine hap.mono (fun e w' h => ?_)
        obtain ⟨h1, h2⟩ := id h
        refine ⟨⟨hWs, h⟩, h1, ?_⟩
        rcases h2 with ⟨_, _, _, _, _, _, _, _, _, h4⟩ | ⟨_, h4⟩
        · exact .inl h4
        · exact .inr h4)
    have HRD := Lib.hid hrd
    have HN3 := Lib.hid (HN1.out.trans hn3)
    have HS3 := Lib.hid hs3
    have HB0 := Lib.hid (HB1.out.later hn3)
    have HB2 := Lib.hid b2
    clear b1 b2 hI hrd hn3 hs3
    go_wp2_with fail
    rw [← hW3]
    clear hW3
    refine HRD.out.mono ?_
    rintro e w5 ⟨e0, W, w6, ⟨hWs, _, hres⟩, hNW, hC6, hok, hC5⟩
    have hc45 : Chg (fun k => k = w1.heap.size ∨ k = w1.heap.size + 2) W3 w5 := ((hNW.chg _).trans (hC6.mono (fun _ _ h => .inl h))).trans (hC5.mono (fun _ _ h => .inr (by have := HS3.out; omega)))
    have HC45 := Lib.hid hc45
    have HB5 := Lib.hid (HB0.out.chg hc45 (by have := HS1.out; omega))
    obtain ⟨e50, e51, e52, e5f⟩ := HB5.out.of3
    have q5 := (HB2.out.chg hc45 (by omega)).cell
    rcases hok with ⟨rfl, rfl⟩ | ⟨rfl, rfl⟩
    · rcases hres with ⟨wd, hg, l, p2, c2, A2, rfl, hI2, hO2, _⟩ | ⟨_, h4⟩
      · have hO5 := hO2.chg hC5 (fun k hk => by have := (hO2.lt k hk).1; omega)
        have hI5 := hI2.chg hC5 (fun k hk => by have := hI2.1; have := HS3.out; simp at hk this; omega)
        have HO5 := Lib.hid (hO5.mono (lo' := w.heap.size) (by have := HN3.out.size; omega))
        have HI5 := Lib.hid hI5
        have HAP : ∀ k, (Value.slice A2 l.length c2).ownBlock = some k → k ≠ w.heap.size + 1 := fun k hk => by have := (hO2.lt k hk).1; have := HS3.out; have := HS1.out; omega
        have HAP := Lib.hid HAP
        clear hNW hC6 hC5 hc45 HRD hI2 hO2 hO5 hI5 hWs
        have hdr : New w5 w5.drew := Below.drew (new_refl _)
        obtain ⟨k0, k1, k2, k4, -⟩ := (HI5.out.new hdr).cells
        have hb6 := (HB5.out.later hdr).set3 (.int .i64 wd) (.int .i64 hg) (.slice A2 l.length c2)
        have hc6 := chg_set3 (fun k => k = w.heap.size + 1) w5.drew (w.heap.size + 1) (.int .i64 wd) (.int .i64 hg) (.slice A2 l.length c2) (.inl rfl)
        have HI6 := HI5.out.chg ((hdr.chg _).trans hc6) (fun k hk => by have := HI5.out.1; have := HH.out; have := HS1.out; simp at this hk; omega)
        obtain ⟨m0, m1, m2, m4, -⟩ := HI6.cells
        have hc36 := HC45.out.or ((hdr.chg _).trans hc6)
        have q6 := (HB2.out.chg hc36 (by have := HS1.out; omega)).cell
        have hld : (loadVar 43 ⟨w.heap.size + 1, 0, none⟩).run Try.prog (((w5.setCell ⟨w.heap.size + 1, 0, none⟩ (.int .i64 wd)).setCell ⟨w.heap.size + 1, 1, none⟩ (.int .i64 hg)).setCell ⟨w.heap.size + 1, 2, none⟩ (.slice A2 l.length c2)).drew = .ok (.agg #[.int .i64 wd, .int .i64 hg, .slice A2 l.length c2]) (((w5.setCell ⟨w.heap.size + 1, 0, none⟩ (.int .i64 wd)).setCell ⟨w.heap.size + 1, 1, none⟩ (.int .i64 hg)).setCell ⟨w.heap.size + 1, 2, none⟩ (.slice A2 l.length c2)).drew := hb6.loadC
        have HO6 := Lib.hid ((HO5.out.new hdr).chg hc6 (HAP.out))
        have HC36 := Lib.hid hc36
        have f60 := (HB5.out.later hdr).free 0
        have f61 := (HB5.out.later hdr).free 1
        have f62 := (HB5.out.later hdr).free 2
        have q5' := (HB2.out.chg HC45.out (by omega)).later hdr |>.cell
        clear hb6 hc6 HI6 hc36 hdr
        go_wp2_with fail
        refine wp_region_L (fun w' => w'.cell? ⟨w1.heap.size + 1, 0, none⟩ = some (.pointer (some ⟨w1.heap.size, 0, none⟩)) ∧ w'.cell? ⟨w1.heap.size, 0, none⟩ = some (.int .i64 wd) ∧ w'.cell? ⟨w1.heap.size, 1, none⟩ = some (.int .i64 hg) ∧ w'.cell? ⟨w1.heap.size, 2, none⟩ = some (.slice A2 l.length c2) ∧ w'.cell? ⟨w1.heap.size, 4, none⟩ = some (.int .i64 p2)) [9] (by kernel_rfl) ?_
        have HS9 := And.intro q5' (And.intro k0 (And.intro k1 (And.intro k2 k4)))
        refine wpAnyL_take (i := 0) (v := ?_) rfl rfl (by kernel_rfl) (fun _ _ _ h => h) (by rfl) (fun W hW => ?_) (by assumption) ?_
        rotate_left
        · (try dsimp only at hW)
          go_simp
          (try with_reducible rfl)
        rotate_right
        simp only [Act.put, List.setIfInBounds_toArray, List.set_cons_zero, List.set_cons_succ]
        refine wpAnyL_move (i := 1) (v := ?_) rfl rfl (by kernel_rfl) (fun _ _ _ h => h) (by rfl) (fun W => ?_) (by assumption) ?_
        rotate_left
        · go_simp
          (try with_reducible rfl)
        rotate_right
        simp only [Act.put, List.setIfInBounds_toArray, List.set_cons_zero, List.set_cons_succ]
        refine wpAnyL_move (i := 2) (v := ?_) rfl rfl (by kernel_rfl) (fun _ _ _ h => h) (by rfl) (fun W => ?_) (by assumption) ?_
        rotate_left
        · go_simp
          (try with_reducible rfl)
        rotate_right
        simp only [Act.put, List.setIfInBounds_toArray, List.set_cons_zero, List.set_cons_succ]
        refine wpAnyL_take (i := 3) (v := ?_) rfl rfl (by kernel_rfl) (fun _ _ _ h => h) (by rfl) (fun W hW => ?_) (by assumption) ?_
        rotate_left
        · (try dsimp only at hW)
          go_simp
          (try with_reducible rfl)
        rotate_right
        simp only [Act.put, List.setIfInBounds_toArray, List.set_cons_zero, List.set_cons_succ]
        refine wpAnyL_take (i := 4) (v := ?_) rfl rfl (by kernel_rfl) (fun _ _ _ h => h) (by rfl) (fun W hW => ?_) (by assumption) ?_
        rotate_left
        · (try dsimp only at hW)
          go_simp
          (try with_reducible rfl)
        rotate_right
        simp only [Act.put, List.setIfInBounds_toArray, List.set_cons_zero, List.set_cons_succ]
        refine wpAnyL_move (i := 5) (v := ?_) rfl rfl (by kernel_rfl) (fun _ _ _ h => h) (by rfl) (fun W => ?_) (by assumption) ?_
        rotate_left
        · go_simp
          (try with_reducible rfl)
        rotate_right
        simp only [Act.put, List.setIfInBounds_toArray, List.set_cons_zero, List.set_cons_succ]
        refine wpAnyL_move (i := 6) (v := ?_) rfl rfl (by kernel_rfl) (fun _ _ _ h => h) (by rfl) (fun W => ?_) (by assumption) ?_
        rotate_left
        · go_simp
          (try with_reducible rfl)
        rotate_right
        simp only [Act.put, List.setIfInBounds_toArray, List.set_cons_zero, List.set_cons_succ]
        refine wpAnyL_take (i := 7) (v := ?_) rfl rfl (by kernel_rfl) (fun _ _ _ h => h) (by rfl) (fun W hW => ?_) (by assumption) ?_
        rotate_left
        · (try dsimp only at hW)
          go_simp
          (try with_reducible rfl)
        rotate_right
        simp only [Act.put, List.setIfInBounds_toArray, List.set_cons_zero, List.set_cons_succ]
        refine wpAnyL_one (i := 8) rfl rfl (by kernel_rfl) (by rfl) (fun K hK => ?_)
        go_simp
        refine hK.out _ _ ⟨q6, m0, m1, m2, m4⟩ ?_
        clear hK K HS9 q5' k0 k1 k2 k4 q6 m0 m1 m2 m4
        refine wpAnyL_tail 9 rfl rfl (by decide) (by kernel_rfl) ?_
        go_wp2
        refine bodyPost_ret (v := .tuple #[vCv wd hg A2 l.length c2, .int .i64 p2, .int .i64 0]) (by simp [results, Try.results28, asAddr, hld]) rfl ⟨?_, .inl ⟨wd, hg, l, p2, A2, c2, rfl, rfl, HO6.out⟩⟩
        exact HN3.out.trans' HC36.out (fun k hk => by have := HS1.out; omega)
      · cases h4
    · rcases hres with ⟨_, _, _, _, _, _, _, _, _, h4⟩ | ⟨rfl, _⟩
      · cases h4
      · clear hNW hC6 hC5 hc45 HRD
        have f50 := e5f 0
        have f51 := e5f 1
        have f52 := e5f 2
        go_wp2
        have hld := (HB5.out.set3 (.int .i64 0) (.int .i64 0) (.slice none 0 0)).loadC
        refine bodyPost_ret (v := .tuple #[vCv 0 0 none 0 0, .int .i64 0, .int .i64 200]) (by simp [results, Try.results28, asAddr, hld]) rfl ⟨?_, .inr ⟨rfl, rfl⟩⟩
        exact HN3.out.trans' (HC45.out.or (chg_set3 (fun k => k = w.heap.size + 1) w5 (w.heap.size + 1) _ _ _ (.inl rfl))) (fun k hk => by have := HS1.out; omega)
end Go.Proofs.Ythihffglkheleaa
