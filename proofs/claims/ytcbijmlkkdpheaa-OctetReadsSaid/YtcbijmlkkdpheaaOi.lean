/- Contracts of the closures of Reader.Bytes and Reader.Part. -/
import Derived.Test.YtcbijmlkkdpheaaOh
set_option linter.unusedVariables false
set_option linter.unusedSimpArgs false
namespace Go.Proofs.Ytcbijmlkkdpheaa
open Go.RowKit

theorem numI_range (xs : List U8) (h : xs.length ≤ 2) : 0 ≤ numI xs ∧ numI xs ≤ 65535 := by
  match xs, h with
  | [], _ => simp [numI]
  | [a], _ => simp [numI]; have := a.2; omega
  | [a, b], _ => simp [numI]; have := a.2; have := b.2; omega
def bytesR (n : Int) (xs : List U8) : Res (List U8 × List U8) := if 0 ≤ n then (if n ≤ xs.length then .ok (xs.take n.toNat, xs.drop n.toNat) else .no 110) else .no 2
def partR (xs : List U8) : Res (List U8 × List U8) := if 2 ≤ xs.length then (if 2 + numI (xs.take 2) ≤ xs.length then .ok ((xs.take (2 + numI (xs.take 2)).toNat).drop 2, xs.drop (2 + numI (xs.take 2)).toNat) else .no 110) else .no 110

theorem front_yes {Z : Nat × Nat} {g : Nat} {xs ys : List U8} {n : Int} (h1 : 0 ≤ n) (h2 : n ≤ xs.length) (hy : ys = xs.take n.toNat) (W : World) (hW : IsR Z W g xs 0) :
    Calls Try.prog 55 #[.pointer (some ⟨g, 0, none⟩), .int .i64 n] W fun e w' => W = w' ∧ ∃ A c, e = .returned (.slice A ys.length c) ∧ Rd e8 Z.1 Z.2 W (.slice A ys.length c) ys := by
  have := oc_front g xs 0 n W hW
  rw [show frontI n xs = .ok ys by rw [frontI, if_pos h1, if_pos h2, hy]] at this
  exact this
theorem front_no {Z : Nat × Nat} {g : Nat} {xs : List U8} {n x : Int} (hx : frontI n xs = .no x) (W : World) (hW : IsR Z W g xs 0) :
    Calls Try.prog 55 #[.pointer (some ⟨g, 0, none⟩), .int .i64 n] W fun e w' => W = w' ∧ e = boom x := by
  have := oc_front g xs 0 n W hW
  rw [hx] at this
  exact this

set_option maxRecDepth 100000 in
set_option maxHeartbeats 2000000 in
theorem oc_Bytes1 {Z : Nat × Nat} (g p q : Nat) (xs : List U8) (n : Int) (w : World) (hl0 : xs.length ≤ 1099511627776) (h : IsR Z w g xs 0) (hp : Box w p 43 (.pointer (some ⟨g, 0, none⟩))) (hq : Box w q 3 (.int .i64 n)) :
    Calls Try.prog 65 #[.pointer (some ⟨p, 0, none⟩), .pointer (some ⟨q, 0, none⟩)] w (RdP Z (VO e8 5) g xs (bytesR n xs) w) := by
  obtain ⟨A, c, c0, c1, hf, hR⟩ := h.cells
  obtain ⟨_, _, he, h1, h2⟩ := hR.form
  injection he with e1 e2 e3
  subst e1 e3
  clear e2
  have HR := Lib.hid hR
  have HH := Lib.hid h
  have HL0 := Lib.hid hl0
  have f0 := hf 0
  have f1 := hf 1
  have cp := hp.cell
  have cq := hq.cell
  clear h hf hR hp hq hl0
  have hl := HR.out.len
  by_cases g1 : 0 ≤ n ∧ n ≤ xs.length
  · obtain ⟨g1, g2⟩ := g1
    rw [show bytesR n xs = .ok (xs.take n.toNat, xs.drop n.toNat) by rw [bytesR, if_pos g1, if_pos g2]]
    obtain ⟨ys, HY⟩ : ∃ ys, Hid (ys = xs.take n.toNat) := ⟨_, Lib.hid rfl⟩
    have HYL : Hid (ys.length ≤ xs.length) := Lib.hid (by rw [HY.out]; simp; omega)
    have HF := Lib.hid (fun W hW => front_yes (Z := Z) (g := g) g1 g2 HY.out W hW)
    obtain ⟨A', hs, hR2⟩ := slice_l Try.underlying22 size_u8 HR.out .i64 n g1 g2
    have HR2 := Lib.hid hR2
    clear hR2
    go_enter Try.func65, Try.ntmps65
    go_wp2_with fail
    go_region_held3 (fun w' => w'.cell? ⟨q, 0, none⟩ = some (.int .i64 n) ∧ w'.cell? ⟨p, 0, none⟩ = some (.pointer (some ⟨g, 0, none⟩)) ∧ Hid (New w w'))
      (first | exact ⟨cq, cp, Lib.hid (Below.drew (new_refl w))⟩ | (go_split_ands; exact ⟨cell_later hN1 (by assumption), cell_later hN1 (by assumption), Lib.hid (New.trans (Below.drew (new_refl w)) hN1)⟩) | assumption | go_keep)
      ((first | (go_at_call 55; refine (HF.out _ (by exact HH.out)).mono ?_; rintro e w' ⟨rfl, A2, c2, rfl, hR3⟩) | (go_at_call 43; refine (oc_clone8 Z.1 Z.2 _ ys _ hR3 (by have := HL0.out; have := HYL.out; omega)).mono ?_; rintro e w1 ⟨A3, c3, rfl, hN1, hO1⟩)))
    go_split_ands
    have HN1 : Hid (New w w1) := by assumption
    have HO1 := Lib.hid hO1
    clear hR3 hN1 hO1
    go_wp2
    have c0' : w1.cell? ⟨g, 0, none⟩ = some (.slice A xs.length c) := cell_later HN1.out c0
    have f0' : w1.frozen? ⟨g, 0, none⟩ = false := (HN1.out.frozen (p := ⟨g, 0, none⟩) (World.block_lt_of_cell? w _ c0)).trans f0
    clear cp cq c0 f0
    go_still_tail 11, (by kernel_rfl)
    change wpList _ _ _ _ _ w1.drew
    go_wp2
    go_ret
    have hN : Chg (fun k => k = g) w (w1.drew.setCell ⟨g, 0, none⟩ (.slice A' (xs.length - n.toNat) (c - n.toNat))) := Chg.setCell (M := fun k => k = g) ((HN1.out.chg _).drew) (p := ⟨g, 0, none⟩) (.inl rfl) _
    have hI : IsR Z (w1.drew.setCell ⟨g, 0, none⟩ (.slice A' (xs.length - n.toNat) (c - n.toNat))) g (xs.drop n.toNat) 0 := IsR.set (w := w1.drew) (HH.out.new (Below.drew HN1.out)) (by simp) (HR2.out.new (Below.drew HN1.out))
    refine ⟨hN, _, rfl, ⟨A3, c3, by rw [← HY.out]; rfl, ?_⟩, hI⟩
    rw [← HY.out]
    have hlt := HH.out.lt
    exact (HO1.out.chg (M := fun k => k = g) (Chg.setCell (M := fun k => k = g) ((Chg.refl _ w1).drew) (p := ⟨g, 0, none⟩) (.inl rfl) _) (fun k hk e => by have := (HO1.out.lt k hk).1; simp at this; omega)).mono (by simp)
  · obtain ⟨x, hx1, hx2⟩ : ∃ x, frontI n xs = .no x ∧ bytesR n xs = .no x := by
      by_cases g2 : 0 ≤ n
      · exact ⟨110, by rw [frontI, if_pos g2, if_neg (by omega)], by rw [bytesR, if_pos g2, if_neg (by omega)]⟩
      · exact ⟨2, by rw [frontI, if_neg g2], by rw [bytesR, if_neg g2]⟩
    rw [hx2]
    have HF := Lib.hid (fun W hW => front_no (Z := Z) (g := g) hx1 W hW)
    clear hx1 hx2 g1
    go_enter Try.func65, Try.ntmps65
    go_wp2_with fail
    refine wp_region_held_drew (S := fun w' => w'.cell? ⟨q, 0, none⟩ = some (.int .i64 n) ∧ w'.cell? ⟨p, 0, none⟩ = some (.pointer (some ⟨g, 0, none⟩))) rfl ⟨cq, cp⟩ (fun hS => ?_)
    refine wpAnyH_take (i := 0) (v := .pointer (some ⟨g, 0, none⟩)) rfl (by kernel_rfl) (by kernel_rfl) (by kernel_rfl) (fun _ _ _ h => h) (.inl ⟨rfl, fun w h => by simp [go_sem, h.2]⟩) hS ?_
    refine wpAnyH_take (i := 1) (v := .pointer (some ⟨g, 0, none⟩)) rfl (by kernel_rfl) (by kernel_rfl) (by kernel_rfl) (fun _ _ _ h => h) (.inl ⟨rfl, fun w h => by simp [go_sem]⟩) hS ?_
    refine wpAnyH_take (i := 2) (v := .pointer (some ⟨g, 0, none⟩)) rfl (by kernel_rfl) (by kernel_rfl) (by kernel_rfl) (fun _ _ _ h => h) (.inl ⟨rfl, fun w h => by simp [go_sem]⟩) hS ?_
    refine wpAnyH_take (i := 3) (v := .int .i64 n) rfl (by kernel_rfl) (by kernel_rfl) (by kernel_rfl) (fun _ _ _ h => h) (.inl ⟨rfl, fun w h => by simp [go_sem, h.1]⟩) hS ?_
    refine wpAnyH_ready (rs := [4]) (by kernel_rfl) (by simp) (AllReadyH.cons rfl (fun K' hK => ?_) AllReadyH.nil)
    rw [if_pos (by rfl)]
    clear hK
    go_simp
    refine (HF.out _ (by exact HH.out)).mono ?_
    rintro e w1 ⟨rfl, rfl⟩
    exact ⟨rfl, (Chg.refl _ w).drew, rfl, HH.out⟩

set_option maxRecDepth 100000 in
set_option maxHeartbeats 2000000 in
theorem oc_Part1 {Z : Nat × Nat} (g p : Nat) (xs : List U8) (w : World) (hl0 : xs.length ≤ 1099511627776) (h : IsR Z w g xs 0) (hp : Box w p 43 (.pointer (some ⟨g, 0, none⟩))) :
    Calls Try.prog 54 #[.pointer (some ⟨p, 0, none⟩)] w (RdP Z (VO e8 5) g xs (partR xs) w) := by
  obtain ⟨A, c, c0, c1, hf, hR⟩ := h.cells
  obtain ⟨_, _, he, h1, h2⟩ := hR.form
  injection he with e1 e2 e3
  subst e1 e3
  clear e2
  have HR := Lib.hid hR
  have HH := Lib.hid h
  have HL0 := Lib.hid hl0
  have f0 := hf 0
  have f1 := hf 1
  have cp := hp.cell
  clear h hf hR hp hl0
  have hl := HR.out.len
  by_cases g1 : 2 ≤ xs.length
  · obtain ⟨zs, HZ⟩ : ∃ zs, Hid (zs = xs.take 2) := ⟨_, Lib.hid rfl⟩
    have hz := numI_range zs (by rw [HZ.out]; simp; omega)
    obtain ⟨n, HN⟩ : ∃ n, Hid (n = 2 + numI zs) := ⟨_, Lib.hid rfl⟩
    have hn : 2 ≤ n ∧ n ≤ 65537 := by have := HN.out; omega
    obtain ⟨hn1, hn2⟩ := hn
    have HF0 := Lib.hid (fun W hW => front_yes (Z := Z) (g := g) (xs := xs) (ys := zs) (n := 2) (by omega) (by omega) (by rw [HZ.out]; rfl) W hW)
    by_cases g2 : n ≤ xs.length
    · rw [show partR xs = .ok ((xs.take n.toNat).drop 2, xs.drop n.toNat) by rw [partR, if_pos g1, ← HZ.out, ← HN.out, if_pos g2]]
      obtain ⟨ys, HY⟩ : ∃ ys, Hid (ys = xs.take n.toNat) := ⟨_, Lib.hid rfl⟩
      have hyl : (2 : Int) ≤ (ys.length : Int) := by rw [HY.out]; simp; omega
      have HYL : Hid (ys.length ≤ xs.length) := Lib.hid (by rw [HY.out]; simp; omega)
      have HF := Lib.hid (fun W hW => front_yes (Z := Z) (g := g) (by omega) g2 HY.out W hW)
      obtain ⟨A', hs, hR2⟩ := slice_l Try.underlying22 size_u8 HR.out .i64 n (by omega) g2
      have HR2 := Lib.hid hR2
      have hnn : (2 : Int) + numI zs = n := HN.out.symm
      clear hR2
      go_enter Try.func54, Try.ntmps54
      go_wp2_with fail
      refine (HF0.out _ HH.out).mono ?_
      rintro e w1 ⟨rfl, A2, c2, rfl, hR3⟩
      go_wp2_with fail
      refine (oc_number _ _ _ _ _ hR3).mono ?_
      rintro e w1 ⟨rfl, rfl⟩
      clear hR3
      go_wp2_with fail
      refine (HF.out _ HH.out).mono ?_
      rintro e w1 ⟨rfl, A3, c3, rfl, hR4⟩
      obtain ⟨A4, hs4, hR5⟩ := slice_l Try.underlying22 size_u8 hR4 .i64 2 (by omega) hyl
      have e5 : (ys.drop 2).length = ys.length - 2 := by simp
      have e6 : ys.length - (2 : Int).toNat = (ys.drop 2).length := by simp
      rw [e6] at hR5 hs4
      obtain ⟨us, HU⟩ : ∃ us, Hid (us = ys.drop 2) := ⟨_, Lib.hid rfl⟩
      have e7 : ys.drop (2 : Int).toNat = us := by rw [HU.out]; rfl
      rw [e7] at hR5
      rw [← HU.out] at hR5 hs4
      have HUL : Hid (us.length ≤ xs.length) := Lib.hid (by have := HYL.out; rw [HU.out]; simp; omega)
      have HR5 := Lib.hid hR5
      clear hR4 hR5 e5 e6 e7
      go_wp2_with fail
      refine (oc_clone8 Z.1 Z.2 _ us _ HR5.out (by have := HL0.out; have := HUL.out; omega)).mono ?_
      rintro e w1 ⟨A5, c5, rfl, hN1, hO1⟩
      have HN1 := Lib.hid hN1
      have HO1 := Lib.hid hO1
      clear hN1 hO1 hs4
      go_wp2
      have cp' : w1.cell? ⟨p, 0, none⟩ = some (.pointer (some ⟨g, 0, none⟩)) := cell_later HN1.out cp
      have c0' : w1.cell? ⟨g, 0, none⟩ = some (.slice A xs.length c) := cell_later HN1.out c0
      have f0' : w1.frozen? ⟨g, 0, none⟩ = false := (HN1.out.frozen (p := ⟨g, 0, none⟩) (World.block_lt_of_cell? w _ c0)).trans f0
      clear cp c0 f0
      go_still_tail 11, (by kernel_rfl)
      change wpList _ _ _ _ _ w1.drew
      go_wp2
      go_ret
      have hN : Chg (fun k => k = g) w (w1.drew.setCell ⟨g, 0, none⟩ (.slice A' (xs.length - n.toNat) (c - n.toNat))) := Chg.setCell (M := fun k => k = g) ((HN1.out.chg _).drew) (p := ⟨g, 0, none⟩) (.inl rfl) _
      have hI : IsR Z (w1.drew.setCell ⟨g, 0, none⟩ (.slice A' (xs.length - n.toNat) (c - n.toNat))) g (xs.drop n.toNat) 0 := IsR.set (w := w1.drew) (HH.out.new (Below.drew HN1.out)) (by simp) (HR2.out.new (Below.drew HN1.out))
      have hu : us = (xs.take n.toNat).drop 2 := by rw [HU.out, HY.out]
      refine ⟨hN, _, rfl, ⟨A5, c5, by rw [← hu]; rfl, ?_⟩, hI⟩
      rw [← hu]
      have hlt := HH.out.lt
      exact (HO1.out.chg (M := fun k => k = g) (Chg.setCell (M := fun k => k = g) ((Chg.refl _ w1).drew) (p := ⟨g, 0, none⟩) (.inl rfl) _) (fun k hk e => by have := (HO1.out.lt k hk).1; omega)).mono (by simp)
    · rw [show partR xs = .no 110 by rw [partR, if_pos g1, ← HZ.out, ← HN.out, if_neg g2]]
      have HF := Lib.hid (fun W hW => front_no (Z := Z) (g := g) (xs := xs) (n := n) (x := 110) (by rw [frontI, if_pos (by omega), if_neg g2]) W hW)
      have hnn : (2 : Int) + numI zs = n := HN.out.symm
      go_enter Try.func54, Try.ntmps54
      go_wp2_with fail
      refine (HF0.out _ HH.out).mono ?_
      rintro e w1 ⟨rfl, A2, c2, rfl, hR3⟩
      go_wp2_with fail
      refine (oc_number _ _ _ _ _ hR3).mono ?_
      rintro e w1 ⟨rfl, rfl⟩
      clear hR3
      go_wp2_with fail
      refine (HF.out _ HH.out).mono ?_
      rintro e w1 ⟨rfl, rfl⟩
      exact ⟨rfl, Chg.refl _ w, rfl, HH.out⟩
  · rw [show partR xs = .no 110 by rw [partR, if_neg g1]]
    have HF := Lib.hid (fun W hW => front_no (Z := Z) (g := g) (xs := xs) (n := 2) (x := 110) (by rw [frontI, if_pos (by omega), if_neg (by omega)]) W hW)
    go_enter Try.func54, Try.ntmps54
    go_wp2_with fail
    refine (HF.out _ HH.out).mono ?_
    rintro e w1 ⟨rfl, rfl⟩
    exact ⟨rfl, Chg.refl _ w, rfl, HH.out⟩
end Go.Proofs.Ytcbijmlkkdpheaa
